/-
  The walks of this part: each theorem is the contract of one function. Condition: none but those that it names.
-/
import Derived.Test.YtkgnhpilpmbheaaVcpuHF
import Derived.Test.YtkgnhpilpmbheaaVcpuA
import Derived.Test.YtkgnhpilpmbheaaVcpuB
import Derived.Test.YtkgnhpilpmbheaaVcpuC
import Derived.Test.YtkgnhpilpmbheaaVcpuG
namespace Go.Proofs.Ytkgnhpilpmbheaa
open Go Go.Fw Go.Hv
attribute [local irreducible] awp Aops Aop ADraw ADrawAll ACalls
set_option maxRecDepth 4000
set_option linter.unusedSimpArgs false
set_option linter.unusedVariables false

theorem co_spec_l15Tick (h : Hall) (hn : SmallHall h) (hI : IsHall h) : ACalls Try.prog 123 [.agg (eHall h)] [] (fun r st => ∃ b1 b2, r = .tup [.agg [.own 5 b1 0 (tickH h).1.list.length, .own 1 b2 0 (tickH h).1.events.length], .int .i64 (tickH h).2] ∧ st = [(b1, .arr 46 5 ((tickH h).1.list.map eVcpu)), (b2, .arr 4 1 ((tickH h).1.events.map eBool))]) := by
  have hnn := hn
  obtain ⟨hn1, hn2⟩ := hnn
  have hti := tickI_lt h.list
  by_cases hR : Runs h.list
  all_goals refine a_enter Try.func123 rfl rfl (fun w0 M0 => ?_)
  · skip
    refine a_seq ?_
    refine a_region ?_
    refine aops_cons rfl (w_box_v rfl rfl rfl ?_)
    refine aops_cons rfl (w_alloc rfl z_62 fun b1 => ?_)
    refine aops_cons rfl (w_pure rfl (p_assign rfl) ?_)
    refine aops_nil ?_
    refine a_seq ?_
    refine a_region ?_
    refine aops_cons rfl (w_pure rfl (p_load_v_all ag_62 rfl (by rfl) noX) ?_)
    refine aops_cons rfl (w_call rfl rfl rfl cl_137 (co_spec_l15Own h (by assumption)) ?_)
    rintro _ _ ⟨b2, b3, rfl, rfl⟩
    refine aops_cons rfl (w_alloc rfl z_62 fun b4 => ?_)
    refine aops_cons rfl (w_store (cells' := [_, _]) rfl rfl rfl (by repeat (first | exact Pick.here _ _ _ | apply Pick.next)) cn_62 (by rfl) (by rfl) (by rfl) trivial ?_)
    refine aops_nil ?_
    refine a_seq ?_
    refine a_region ?_
    refine aops_cons rfl (w_pure rfl (p_field_v fo_62_0 rfl) ?_)
    refine aops_cons rfl (w_pure rfl (p_load_v ag_24 rfl (by rfl) noX) ?_)
    refine aops_cons rfl (w_call rfl rfl rfl cl_88 (cy_spec_l13Tick h.list (by have := hI.small; omega) hI.1.1 hR) ?_)
    rintro _ _ ⟨b5, rfl, rfl⟩
    refine aops_cons rfl (w_pure rfl (p_move rfl) ?_)
    refine aops_cons rfl (w_pure rfl (p_extract rfl rfl) ?_)
    refine aops_cons rfl (w_pure rfl (p_extract rfl rfl) ?_)
    refine aops_cons rfl (w_pure rfl (p_assign rfl) ?_)
    refine aops_cons rfl (w_pure rfl (p_assign rfl) ?_)
    refine aops_nil ?_
    refine a_seq ?_
    refine a_seq ?_
    have ht0 := tickI_runs hR
    refine a_region ?_
    refine aops_cons rfl (w_pure rfl (p_move rfl) ?_)
    refine aops_cons rfl (w_pure rfl (p_lss rfl rfl) ?_)
    refine aops_nil ?_
    first | refine a_cond_d rfl (fun h1 => ?_) (fun h2 => ?_) | refine a_cond_n rfl (fun h1 => ?_) (fun h2 => ?_) | refine a_cond_nb rfl (fun h1 => ?_) (fun h2 => ?_) | refine a_cond rfl (fun h1 => ?_) (fun h2 => ?_)
    · (try simp only [Bool.not_eq_true', Bool.not_eq_false', Bool.not_eq_true, Bool.not_eq_false, decide_eq_true_eq, decide_eq_false_iff_not, List.length_map, List.length_range] at h1)
      refine a_seq ?_
      refine a_region ?_
      refine aops_cons rfl (w_pure rfl (p_load_box_all ag_62 rfl (by repeat (first | exact Pick.here _ _ _ | apply Pick.next)) (by rfl) noX) ?_)
      refine aops_cons rfl (w_store (cells' := [_, _]) rfl rfl rfl (by repeat (first | exact Pick.here _ _ _ | apply Pick.next)) cn_62 (by rfl) (by rfl) (by rfl) trivial ?_)
      refine aops_cons rfl (w_pure rfl (p_assign rfl) ?_)
      refine aops_nil ?_
      refine a_ret ?_
      refine ret_ok (hands2 rfl (.cell ag_62 rfl (by repeat (first | exact Pick.here _ _ _ | apply Pick.next)) (by rfl)) (.tmp rfl)) (st' := [(b2, _), (b3, _)]) (.cons (by repeat (first | exact Pick.here _ _ _ | apply Pick.next)) (.cons (by repeat (first | exact Pick.here _ _ _ | apply Pick.next)) (.nil _))) ?_
      first | (exfalso; omega) | exact ⟨_, _, by rw [tickH_t hR, tick_getId hR], by rw [tickH_t hR]⟩
    · (try simp only [Bool.not_eq_true', Bool.not_eq_false', Bool.not_eq_true, Bool.not_eq_false, decide_eq_true_eq, decide_eq_false_iff_not, List.length_map, List.length_range] at h2)
      refine a_skip ?_
      refine a_seq ?_
      refine a_region ?_
      refine aops_cons rfl (w_pure rfl (p_move rfl) ?_)
      refine aops_cons rfl (w_pure rfl (p_field_box fo_62_0 rfl) ?_)
      refine aops_cons rfl (w_store (cells' := [_, _]) rfl rfl rfl (by repeat (first | exact Pick.here _ _ _ | apply Pick.next)) cn_24 (by rfl) (by rfl) (by rfl) trivial ?_)
      refine aops_nil ?_
      refine a_seq ?_
      refine a_draw [b1] (by kernel_rfl) ?_
      show ADraw _ _ _ _ _ _ 8 _ _ _ _
      refine d_load 0 rfl (by kernel_rfl) (by kernel_rfl) (by kernel_rfl) rfl (p_load_box_all ag_62 rfl (by repeat (first | exact Pick.here _ _ _ | apply Pick.next)) (by rfl) (by simp [keys])) ?_
      refine d_take 1 rfl (by kernel_rfl) (by kernel_rfl) (by kernel_rfl) rfl (p_move rfl) ?_
      refine d_take 2 rfl (by kernel_rfl) (by kernel_rfl) (by kernel_rfl) rfl (p_move rfl) ?_
      refine d_take 3 rfl (by kernel_rfl) (by kernel_rfl) (by kernel_rfl) rfl (p_index_own0 (tickI h.list).toNat rfl rfl (by omega) (by rw [tickL_len]; omega) es_24) ?_
      refine d_take 4 rfl (by kernel_rfl) (by kernel_rfl) (by kernel_rfl) rfl (p_field_e fo_46_0 rfl) ?_
      refine d_load 5 rfl (by kernel_rfl) (by kernel_rfl) (by kernel_rfl) rfl (p_load_e ag_3 rfl (by repeat (first | exact Pick.here _ _ _ | apply Pick.next)) (rowD _ _ zVcpu (by rw [tickL_len]; omega)) (by rfl) (by simp [keys])) ?_
      refine draw_all [6] (by kernel_rfl) (by simp) ?_
      refine all_cons rfl rfl ?_ ?_
      · skip
        refine w_store (cells' := [_, _]) rfl rfl rfl (by repeat (first | exact Pick.here _ _ _ | apply Pick.next)) cn_62 (by rfl) (by rfl) (by rfl) (by first | (refine .inl ?_; simp; done) | (refine .inr ?_; simp [keys]; done)) ?_
        refine d_take 7 rfl (by kernel_rfl) (by kernel_rfl) (by kernel_rfl) rfl (p_assign rfl) ?_
        refine draw_done (by kernel_rfl) ?_
        refine a_ret ?_
        refine ret_ok (hands2 rfl (.cell ag_62 rfl (by repeat (first | exact Pick.here _ _ _ | apply Pick.next)) (by rfl)) (.tmp rfl)) (st' := [(b5, _), (b3, _)]) (.cons (by repeat (first | exact Pick.here _ _ _ | apply Pick.next)) (.cons (by repeat (first | exact Pick.here _ _ _ | apply Pick.next)) (.nil _))) ?_
        first | (exfalso; omega) | exact ⟨_, _, by rw [tickH_t hR, tick_getId hR], by rw [tickH_t hR]⟩
      exact all_nil
  · skip
    refine a_seq ?_
    refine a_region ?_
    refine aops_cons rfl (w_box_v rfl rfl rfl ?_)
    refine aops_cons rfl (w_alloc rfl z_62 fun b1 => ?_)
    refine aops_cons rfl (w_pure rfl (p_assign rfl) ?_)
    refine aops_nil ?_
    refine a_seq ?_
    refine a_region ?_
    refine aops_cons rfl (w_pure rfl (p_load_v_all ag_62 rfl (by rfl) noX) ?_)
    refine aops_cons rfl (w_call rfl rfl rfl cl_137 (co_spec_l15Own h (by assumption)) ?_)
    rintro _ _ ⟨b2, b3, rfl, rfl⟩
    refine aops_cons rfl (w_alloc rfl z_62 fun b4 => ?_)
    refine aops_cons rfl (w_store (cells' := [_, _]) rfl rfl rfl (by repeat (first | exact Pick.here _ _ _ | apply Pick.next)) cn_62 (by rfl) (by rfl) (by rfl) trivial ?_)
    refine aops_nil ?_
    refine a_seq ?_
    refine a_region ?_
    refine aops_cons rfl (w_pure rfl (p_field_v fo_62_0 rfl) ?_)
    refine aops_cons rfl (w_pure rfl (p_load_v ag_24 rfl (by rfl) noX) ?_)
    refine aops_cons rfl (w_call rfl rfl rfl cl_88 (cn_spec_l13Tick h.list (by have := hI.small; omega) hI.1.1 hR) ?_)
    rintro _ _ ⟨b5, rfl, rfl⟩
    refine aops_cons rfl (w_pure rfl (p_move rfl) ?_)
    refine aops_cons rfl (w_pure rfl (p_extract rfl rfl) ?_)
    refine aops_cons rfl (w_pure rfl (p_extract rfl rfl) ?_)
    refine aops_cons rfl (w_pure rfl (p_assign rfl) ?_)
    refine aops_cons rfl (w_pure rfl (p_assign rfl) ?_)
    refine aops_nil ?_
    refine a_seq ?_
    refine a_seq ?_
    have ht0 := tickI_not hR
    refine a_region ?_
    refine aops_cons rfl (w_pure rfl (p_move rfl) ?_)
    refine aops_cons rfl (w_pure rfl (p_lss rfl rfl) ?_)
    refine aops_nil ?_
    first | refine a_cond_d rfl (fun h1 => ?_) (fun h2 => ?_) | refine a_cond_n rfl (fun h1 => ?_) (fun h2 => ?_) | refine a_cond_nb rfl (fun h1 => ?_) (fun h2 => ?_) | refine a_cond rfl (fun h1 => ?_) (fun h2 => ?_)
    · (try simp only [Bool.not_eq_true', Bool.not_eq_false', Bool.not_eq_true, Bool.not_eq_false, decide_eq_true_eq, decide_eq_false_iff_not, List.length_map, List.length_range] at h1)
      refine a_seq ?_
      refine a_region ?_
      refine aops_cons rfl (w_pure rfl (p_load_box_all ag_62 rfl (by repeat (first | exact Pick.here _ _ _ | apply Pick.next)) (by rfl) noX) ?_)
      refine aops_cons rfl (w_store (cells' := [_, _]) rfl rfl rfl (by repeat (first | exact Pick.here _ _ _ | apply Pick.next)) cn_62 (by rfl) (by rfl) (by rfl) trivial ?_)
      refine aops_cons rfl (w_pure rfl (p_assign rfl) ?_)
      refine aops_nil ?_
      refine a_ret ?_
      refine ret_ok (hands2 rfl (.cell ag_62 rfl (by repeat (first | exact Pick.here _ _ _ | apply Pick.next)) (by rfl)) (.tmp rfl)) (st' := [(b2, _), (b3, _)]) (.cons (by repeat (first | exact Pick.here _ _ _ | apply Pick.next)) (.cons (by repeat (first | exact Pick.here _ _ _ | apply Pick.next)) (.nil _))) ?_
      first | (exfalso; omega) | exact ⟨_, _, by rw [tickH_f hR], by rw [tickH_f hR]⟩
    · (try simp only [Bool.not_eq_true', Bool.not_eq_false', Bool.not_eq_true, Bool.not_eq_false, decide_eq_true_eq, decide_eq_false_iff_not, List.length_map, List.length_range] at h2)
      refine a_skip ?_
      refine a_seq ?_
      refine a_region ?_
      refine aops_cons rfl (w_pure rfl (p_move rfl) ?_)
      refine aops_cons rfl (w_pure rfl (p_field_box fo_62_0 rfl) ?_)
      refine aops_cons rfl (w_store (cells' := [_, _]) rfl rfl rfl (by repeat (first | exact Pick.here _ _ _ | apply Pick.next)) cn_24 (by rfl) (by rfl) (by rfl) trivial ?_)
      refine aops_nil ?_
      refine a_seq ?_
      refine a_draw [b1] (by kernel_rfl) ?_
      show ADraw _ _ _ _ _ _ 8 _ _ _ _
      refine d_load 0 rfl (by kernel_rfl) (by kernel_rfl) (by kernel_rfl) rfl (p_load_box_all ag_62 rfl (by repeat (first | exact Pick.here _ _ _ | apply Pick.next)) (by rfl) (by simp [keys])) ?_
      refine d_take 1 rfl (by kernel_rfl) (by kernel_rfl) (by kernel_rfl) rfl (p_move rfl) ?_
      refine d_take 2 rfl (by kernel_rfl) (by kernel_rfl) (by kernel_rfl) rfl (p_move rfl) ?_
      refine d_take 3 rfl (by kernel_rfl) (by kernel_rfl) (by kernel_rfl) rfl (p_index_own0 (tickI h.list).toNat rfl rfl (by omega) (by omega) es_24) ?_
      refine d_take 4 rfl (by kernel_rfl) (by kernel_rfl) (by kernel_rfl) rfl (p_field_e fo_46_0 rfl) ?_
      refine d_load 5 rfl (by kernel_rfl) (by kernel_rfl) (by kernel_rfl) rfl (p_load_e ag_3 rfl (by repeat (first | exact Pick.here _ _ _ | apply Pick.next)) (rowD _ _ zVcpu (by omega)) (by rfl) (by simp [keys])) ?_
      refine draw_all [6] (by kernel_rfl) (by simp) ?_
      refine all_cons rfl rfl ?_ ?_
      · skip
        refine w_store (cells' := [_, _]) rfl rfl rfl (by repeat (first | exact Pick.here _ _ _ | apply Pick.next)) cn_62 (by rfl) (by rfl) (by rfl) (by first | (refine .inl ?_; simp; done) | (refine .inr ?_; simp [keys]; done)) ?_
        refine d_take 7 rfl (by kernel_rfl) (by kernel_rfl) (by kernel_rfl) rfl (p_assign rfl) ?_
        refine draw_done (by kernel_rfl) ?_
        refine a_ret ?_
        refine ret_ok (hands2 rfl (.cell ag_62 rfl (by repeat (first | exact Pick.here _ _ _ | apply Pick.next)) (by rfl)) (.tmp rfl)) (st' := [(b5, _), (b3, _)]) (.cons (by repeat (first | exact Pick.here _ _ _ | apply Pick.next)) (.cons (by repeat (first | exact Pick.here _ _ _ | apply Pick.next)) (.nil _))) ?_
        first | (exfalso; omega) | exact ⟨_, _, by rw [tickH_f hR], by rw [tickH_f hR]⟩
      exact all_nil

theorem c_spec_l15Tick (h : Hall) (hn : SmallHall h) (hI : IsHall h) : ACalls Try.prog 123 [.agg (eHall h)] [] (Ret (.tup [.agg (eHall (tickH h).1), .int .i64 (tickH h).2])) :=
  (co_spec_l15Tick h hn hI).freeze (by rintro _ _ ⟨_, _, rfl, rfl⟩; exact (.tup (.cons (.agg (.cons (.own (by repeat (first | exact List.Mem.head _ | apply List.Mem.tail)) (List.length_map _)) (.cons (.own (by repeat (first | exact List.Mem.head _ | apply List.Mem.tail)) (List.length_map _)) .nil))) (.cons (.refl _) .nil))))

theorem cy_spec_TickHall (h : Hall) (hn : SmallHall h) (hA : IsHall h) : ACalls Try.prog 74 [.agg (eHall h)] [] (Ret (.tup [.agg (eHall (tickH h).1), .int .i64 (tickH h).2, .bool true])) := by
  have hnn := hn
  obtain ⟨hn1, hn2⟩ := hnn
  refine a_enter Try.func74 rfl rfl (fun w0 M0 => ?_)
  refine a_seq ?_
  refine a_region ?_
  refine aops_cons rfl (w_box_v rfl rfl rfl ?_)
  refine aops_cons rfl (w_alloc rfl z_62 fun b1 => ?_)
  refine aops_cons rfl (w_pure rfl (p_assign rfl) ?_)
  refine aops_cons rfl (w_pure rfl (p_assign rfl) ?_)
  refine aops_nil ?_
  refine a_seq ?_
  refine a_seq ?_
  refine a_region ?_
  refine aops_cons rfl (w_pure rfl (p_load_v_all ag_62 rfl (by rfl) noX) ?_)
  refine aops_cons rfl (w_callR rfl rfl rfl cl_114 (c_spec_l15Good _ ‹_›) ?_)
  refine aops_cons rfl (w_pure rfl (p_not rfl) ?_)
  refine aops_nil ?_
  first | refine a_cond_d rfl (fun h1 => ?_) (fun h2 => ?_) | refine a_cond_n rfl (fun h1 => ?_) (fun h2 => ?_) | refine a_cond_nb rfl (fun h1 => ?_) (fun h2 => ?_) | refine a_cond rfl (fun h1 => ?_) (fun h2 => ?_)
  · (try simp only [Bool.not_eq_true', Bool.not_eq_false', Bool.not_eq_true, Bool.not_eq_false, decide_eq_true_eq, decide_eq_false_iff_not, List.length_map, List.length_range] at h1)
    refine a_seq ?_
    refine a_region ?_
    refine aops_cons rfl (w_pure rfl (p_build (cells := [_, _]) z_62 pl_62 rfl rfl) ?_)
    refine aops_cons rfl (w_store (cells' := [_, _]) rfl rfl rfl (by repeat (first | exact Pick.here _ _ _ | apply Pick.next)) cn_62 (by rfl) (by rfl) (by rfl) trivial ?_)
    refine aops_cons rfl (w_pure rfl (p_assign rfl) ?_)
    refine aops_cons rfl (w_pure rfl (p_assign rfl) ?_)
    refine aops_nil ?_
    refine a_ret ?_
    refine ret_ok (hands3 rfl (.cell ag_62 rfl (by repeat (first | exact Pick.here _ _ _ | apply Pick.next)) (by rfl)) (.tmp rfl) (.tmp rfl)) (.nil _) ?_
    first | exact ⟨rfl, rfl⟩ | exact absurd hA (by assumption)
  · (try simp only [Bool.not_eq_true', Bool.not_eq_false', Bool.not_eq_true, Bool.not_eq_false, decide_eq_true_eq, decide_eq_false_iff_not, List.length_map, List.length_range] at h2)
    refine a_skip ?_
    refine a_seq ?_
    refine a_region ?_
    refine aops_cons rfl (w_pure rfl (p_load_v_all ag_62 rfl (by rfl) noX) ?_)
    refine aops_cons rfl (w_callR rfl rfl rfl cl_123 (c_spec_l15Tick h (by assumption) hA) ?_)
    refine aops_cons rfl (w_pure rfl (p_move rfl) ?_)
    refine aops_cons rfl (w_pure rfl (p_extract rfl rfl) ?_)
    refine aops_cons rfl (w_pure rfl (p_extract rfl rfl) ?_)
    refine aops_cons rfl (w_alloc rfl z_62 fun b2 => ?_)
    refine aops_cons rfl (w_store (cells' := [_, _]) rfl rfl rfl (by repeat (first | exact Pick.here _ _ _ | apply Pick.next)) cn_62 (by rfl) (by rfl) (by rfl) trivial ?_)
    refine aops_cons rfl (w_pure rfl (p_assign rfl) ?_)
    refine aops_nil ?_
    refine a_seq ?_
    refine a_region ?_
    refine aops_cons rfl (w_pure rfl (p_load_box_all ag_62 rfl (by repeat (first | exact Pick.here _ _ _ | apply Pick.next)) (by rfl) noX) ?_)
    refine aops_cons rfl (w_pure rfl (p_move rfl) ?_)
    refine aops_cons rfl (w_store (cells' := [_, _]) rfl rfl rfl (by repeat (first | exact Pick.here _ _ _ | apply Pick.next)) cn_62 (by rfl) (by rfl) (by rfl) trivial ?_)
    refine aops_cons rfl (w_pure rfl (p_assign rfl) ?_)
    refine aops_cons rfl (w_pure rfl (p_assign rfl) ?_)
    refine aops_nil ?_
    refine a_ret ?_
    refine ret_ok (hands3 rfl (.cell ag_62 rfl (by repeat (first | exact Pick.here _ _ _ | apply Pick.next)) (by rfl)) (.tmp rfl) (.tmp rfl)) (.nil _) ?_
    first | exact ⟨rfl, rfl⟩ | exact absurd hA (by assumption)

theorem cn_spec_TickHall (h : Hall) (hn : SmallHall h) (hA : ¬ IsHall h) : ACalls Try.prog 74 [.agg (eHall h)] [] (Ret (.tup [.agg [.nil, .nil], .int .i64 0, .bool false])) := by
  have hnn := hn
  obtain ⟨hn1, hn2⟩ := hnn
  refine a_enter Try.func74 rfl rfl (fun w0 M0 => ?_)
  refine a_seq ?_
  refine a_region ?_
  refine aops_cons rfl (w_box_v rfl rfl rfl ?_)
  refine aops_cons rfl (w_alloc rfl z_62 fun b1 => ?_)
  refine aops_cons rfl (w_pure rfl (p_assign rfl) ?_)
  refine aops_cons rfl (w_pure rfl (p_assign rfl) ?_)
  refine aops_nil ?_
  refine a_seq ?_
  refine a_seq ?_
  refine a_region ?_
  refine aops_cons rfl (w_pure rfl (p_load_v_all ag_62 rfl (by rfl) noX) ?_)
  refine aops_cons rfl (w_callR rfl rfl rfl cl_114 (c_spec_l15Good _ ‹_›) ?_)
  refine aops_cons rfl (w_pure rfl (p_not rfl) ?_)
  refine aops_nil ?_
  first | refine a_cond_d rfl (fun h1 => ?_) (fun h2 => ?_) | refine a_cond_n rfl (fun h1 => ?_) (fun h2 => ?_) | refine a_cond_nb rfl (fun h1 => ?_) (fun h2 => ?_) | refine a_cond rfl (fun h1 => ?_) (fun h2 => ?_)
  · (try simp only [Bool.not_eq_true', Bool.not_eq_false', Bool.not_eq_true, Bool.not_eq_false, decide_eq_true_eq, decide_eq_false_iff_not, List.length_map, List.length_range] at h1)
    refine a_seq ?_
    refine a_region ?_
    refine aops_cons rfl (w_pure rfl (p_build (cells := [_, _]) z_62 pl_62 rfl rfl) ?_)
    refine aops_cons rfl (w_store (cells' := [_, _]) rfl rfl rfl (by repeat (first | exact Pick.here _ _ _ | apply Pick.next)) cn_62 (by rfl) (by rfl) (by rfl) trivial ?_)
    refine aops_cons rfl (w_pure rfl (p_assign rfl) ?_)
    refine aops_cons rfl (w_pure rfl (p_assign rfl) ?_)
    refine aops_nil ?_
    refine a_ret ?_
    refine ret_ok (hands3 rfl (.cell ag_62 rfl (by repeat (first | exact Pick.here _ _ _ | apply Pick.next)) (by rfl)) (.tmp rfl) (.tmp rfl)) (.nil _) ?_
    exact ⟨rfl, rfl⟩
  · (try simp only [Bool.not_eq_true', Bool.not_eq_false', Bool.not_eq_true, Bool.not_eq_false, decide_eq_true_eq, decide_eq_false_iff_not, List.length_map, List.length_range] at h2)
    refine a_skip ?_
    refine a_seq ?_
    exact absurd (by assumption) hA

theorem cy_impl_TickHall (h : Hall) (hn : SmallHall h) (hA : IsHall h) : ACalls Try.prog 75 [.agg (eHall h)] [] (fun r st => ∃ b1 b2, r = .tup [.agg [.own 5 b1 0 (tickH h).1.list.length, .own 1 b2 0 (tickH h).1.events.length], .int .i64 (tickH h).2, .bool true] ∧ st = [(b1, .arr 46 5 ((tickH h).1.list.map eVcpu)), (b2, .arr 4 1 ((tickH h).1.events.map eBool))]) := by
  have hnn := hn
  obtain ⟨hn1, hn2⟩ := hnn
  have hI := hA
  by_cases hR : Runs h.list
  all_goals refine a_enter Try.func75 rfl rfl (fun w0 M0 => ?_)
  · skip
    refine a_seq ?_
    refine a_region ?_
    refine aops_cons rfl (w_box_v rfl rfl rfl ?_)
    refine aops_cons rfl (w_alloc rfl z_62 fun b1 => ?_)
    refine aops_cons rfl (w_pure rfl (p_assign rfl) ?_)
    refine aops_cons rfl (w_pure rfl (p_assign rfl) ?_)
    refine aops_nil ?_
    refine a_seq ?_
    refine a_seq ?_
    refine a_region ?_
    refine aops_cons rfl (w_pure rfl (p_load_v_all ag_62 rfl (by rfl) noX) ?_)
    refine aops_cons rfl (w_callR rfl rfl rfl cl_81 (c_impl_IsHall _ ‹_›) ?_)
    refine aops_cons rfl (w_pure rfl (p_not rfl) ?_)
    refine aops_nil ?_
    first | refine a_cond_d rfl (fun h1 => ?_) (fun h2 => ?_) | refine a_cond_n rfl (fun h1 => ?_) (fun h2 => ?_) | refine a_cond_nb rfl (fun h1 => ?_) (fun h2 => ?_) | refine a_cond rfl (fun h1 => ?_) (fun h2 => ?_)
    · (try simp only [Bool.not_eq_true', Bool.not_eq_false', Bool.not_eq_true, Bool.not_eq_false, decide_eq_true_eq, decide_eq_false_iff_not, List.length_map, List.length_range] at h1)
      refine a_seq ?_
      refine a_region ?_
      refine aops_cons rfl (w_pure rfl (p_build (cells := [_, _]) z_62 pl_62 rfl rfl) ?_)
      refine aops_cons rfl (w_store (cells' := [_, _]) rfl rfl rfl (by repeat (first | exact Pick.here _ _ _ | apply Pick.next)) cn_62 (by rfl) (by rfl) (by rfl) trivial ?_)
      refine aops_cons rfl (w_pure rfl (p_assign rfl) ?_)
      refine aops_cons rfl (w_pure rfl (p_assign rfl) ?_)
      refine aops_nil ?_
      refine a_ret ?_
      refine ret_ok (hands3 rfl (.cell ag_62 rfl (by repeat (first | exact Pick.here _ _ _ | apply Pick.next)) (by rfl)) (.tmp rfl) (.tmp rfl)) (.nil _) ?_
      first | exact absurd hA (by assumption) | exact ⟨_, _, by rw [tickH_t hR], by rw [tickH_t hR]⟩
    · (try simp only [Bool.not_eq_true', Bool.not_eq_false', Bool.not_eq_true, Bool.not_eq_false, decide_eq_true_eq, decide_eq_false_iff_not, List.length_map, List.length_range] at h2)
      refine a_skip ?_
      refine a_seq ?_
      refine a_region ?_
      refine aops_cons rfl (w_pure rfl (p_load_v_all ag_62 rfl (by rfl) noX) ?_)
      refine aops_cons rfl (w_call rfl rfl rfl cl_119 (co_impl_newHall h (by assumption)) ?_)
      rintro _ _ ⟨b2, b3, rfl, rfl⟩
      refine aops_cons rfl (w_alloc rfl z_62 fun b4 => ?_)
      refine aops_cons rfl (w_store (cells' := [_, _]) rfl rfl rfl (by repeat (first | exact Pick.here _ _ _ | apply Pick.next)) cn_62 (by rfl) (by rfl) (by rfl) trivial ?_)
      refine aops_cons rfl (w_pure rfl (p_assign rfl) ?_)
      refine aops_nil ?_
      refine a_seq ?_
      refine a_region ?_
      refine aops_cons rfl (w_pure rfl (p_field_v fo_62_0 rfl) ?_)
      refine aops_cons rfl (w_pure rfl (p_load_v ag_24 rfl (by rfl) noX) ?_)
      refine aops_cons rfl (w_call rfl rfl rfl cl_91 (cy_impl_tickVcpus h.list (by have := hI.small; omega) hI.1.1 hR) ?_)
      rintro _ _ ⟨b5, rfl, rfl⟩
      refine aops_cons rfl (w_pure rfl (p_move rfl) ?_)
      refine aops_cons rfl (w_pure rfl (p_extract rfl rfl) ?_)
      refine aops_cons rfl (w_pure rfl (p_extract rfl rfl) ?_)
      refine aops_cons rfl (w_pure rfl (p_field_box fo_62_0 rfl) ?_)
      refine aops_cons rfl (w_store (cells' := [_, _]) rfl rfl rfl (by repeat (first | exact Pick.here _ _ _ | apply Pick.next)) cn_24 (by rfl) (by rfl) (by rfl) trivial ?_)
      refine aops_cons rfl (w_pure rfl (p_assign rfl) ?_)
      refine aops_nil ?_
      refine a_seq ?_
      refine a_region ?_
      refine aops_cons rfl (w_pure rfl (p_load_box_all ag_62 rfl (by repeat (first | exact Pick.here _ _ _ | apply Pick.next)) (by rfl) noX) ?_)
      refine aops_cons rfl (w_pure rfl (p_move rfl) ?_)
      refine aops_cons rfl (w_store (cells' := [_, _]) rfl rfl rfl (by repeat (first | exact Pick.here _ _ _ | apply Pick.next)) cn_62 (by rfl) (by rfl) (by rfl) trivial ?_)
      refine aops_cons rfl (w_pure rfl (p_assign rfl) ?_)
      refine aops_cons rfl (w_pure rfl (p_assign rfl) ?_)
      refine aops_nil ?_
      refine a_ret ?_
      refine ret_ok (hands3 rfl (.cell ag_62 rfl (by repeat (first | exact Pick.here _ _ _ | apply Pick.next)) (by rfl)) (.tmp rfl) (.tmp rfl)) (st' := [(b5, _), (b3, _)]) (.cons (by repeat (first | exact Pick.here _ _ _ | apply Pick.next)) (.cons (by repeat (first | exact Pick.here _ _ _ | apply Pick.next)) (.nil _))) ?_
      first | exact absurd hA (by assumption) | exact ⟨_, _, by rw [tickH_t hR], by rw [tickH_t hR]⟩
  · skip
    refine a_seq ?_
    refine a_region ?_
    refine aops_cons rfl (w_box_v rfl rfl rfl ?_)
    refine aops_cons rfl (w_alloc rfl z_62 fun b1 => ?_)
    refine aops_cons rfl (w_pure rfl (p_assign rfl) ?_)
    refine aops_cons rfl (w_pure rfl (p_assign rfl) ?_)
    refine aops_nil ?_
    refine a_seq ?_
    refine a_seq ?_
    refine a_region ?_
    refine aops_cons rfl (w_pure rfl (p_load_v_all ag_62 rfl (by rfl) noX) ?_)
    refine aops_cons rfl (w_callR rfl rfl rfl cl_81 (c_impl_IsHall _ ‹_›) ?_)
    refine aops_cons rfl (w_pure rfl (p_not rfl) ?_)
    refine aops_nil ?_
    first | refine a_cond_d rfl (fun h1 => ?_) (fun h2 => ?_) | refine a_cond_n rfl (fun h1 => ?_) (fun h2 => ?_) | refine a_cond_nb rfl (fun h1 => ?_) (fun h2 => ?_) | refine a_cond rfl (fun h1 => ?_) (fun h2 => ?_)
    · (try simp only [Bool.not_eq_true', Bool.not_eq_false', Bool.not_eq_true, Bool.not_eq_false, decide_eq_true_eq, decide_eq_false_iff_not, List.length_map, List.length_range] at h1)
      refine a_seq ?_
      refine a_region ?_
      refine aops_cons rfl (w_pure rfl (p_build (cells := [_, _]) z_62 pl_62 rfl rfl) ?_)
      refine aops_cons rfl (w_store (cells' := [_, _]) rfl rfl rfl (by repeat (first | exact Pick.here _ _ _ | apply Pick.next)) cn_62 (by rfl) (by rfl) (by rfl) trivial ?_)
      refine aops_cons rfl (w_pure rfl (p_assign rfl) ?_)
      refine aops_cons rfl (w_pure rfl (p_assign rfl) ?_)
      refine aops_nil ?_
      refine a_ret ?_
      refine ret_ok (hands3 rfl (.cell ag_62 rfl (by repeat (first | exact Pick.here _ _ _ | apply Pick.next)) (by rfl)) (.tmp rfl) (.tmp rfl)) (.nil _) ?_
      first | exact absurd hA (by assumption) | exact ⟨_, _, by rw [tickH_f hR], by rw [tickH_f hR]⟩
    · (try simp only [Bool.not_eq_true', Bool.not_eq_false', Bool.not_eq_true, Bool.not_eq_false, decide_eq_true_eq, decide_eq_false_iff_not, List.length_map, List.length_range] at h2)
      refine a_skip ?_
      refine a_seq ?_
      refine a_region ?_
      refine aops_cons rfl (w_pure rfl (p_load_v_all ag_62 rfl (by rfl) noX) ?_)
      refine aops_cons rfl (w_call rfl rfl rfl cl_119 (co_impl_newHall h (by assumption)) ?_)
      rintro _ _ ⟨b2, b3, rfl, rfl⟩
      refine aops_cons rfl (w_alloc rfl z_62 fun b4 => ?_)
      refine aops_cons rfl (w_store (cells' := [_, _]) rfl rfl rfl (by repeat (first | exact Pick.here _ _ _ | apply Pick.next)) cn_62 (by rfl) (by rfl) (by rfl) trivial ?_)
      refine aops_cons rfl (w_pure rfl (p_assign rfl) ?_)
      refine aops_nil ?_
      refine a_seq ?_
      refine a_region ?_
      refine aops_cons rfl (w_pure rfl (p_field_v fo_62_0 rfl) ?_)
      refine aops_cons rfl (w_pure rfl (p_load_v ag_24 rfl (by rfl) noX) ?_)
      refine aops_cons rfl (w_call rfl rfl rfl cl_91 (cn_impl_tickVcpus h.list (by have := hI.small; omega) hI.1.1 hR) ?_)
      rintro _ _ ⟨b5, rfl, rfl⟩
      refine aops_cons rfl (w_pure rfl (p_move rfl) ?_)
      refine aops_cons rfl (w_pure rfl (p_extract rfl rfl) ?_)
      refine aops_cons rfl (w_pure rfl (p_extract rfl rfl) ?_)
      refine aops_cons rfl (w_pure rfl (p_field_box fo_62_0 rfl) ?_)
      refine aops_cons rfl (w_store (cells' := [_, _]) rfl rfl rfl (by repeat (first | exact Pick.here _ _ _ | apply Pick.next)) cn_24 (by rfl) (by rfl) (by rfl) trivial ?_)
      refine aops_cons rfl (w_pure rfl (p_assign rfl) ?_)
      refine aops_nil ?_
      refine a_seq ?_
      refine a_region ?_
      refine aops_cons rfl (w_pure rfl (p_load_box_all ag_62 rfl (by repeat (first | exact Pick.here _ _ _ | apply Pick.next)) (by rfl) noX) ?_)
      refine aops_cons rfl (w_pure rfl (p_move rfl) ?_)
      refine aops_cons rfl (w_store (cells' := [_, _]) rfl rfl rfl (by repeat (first | exact Pick.here _ _ _ | apply Pick.next)) cn_62 (by rfl) (by rfl) (by rfl) trivial ?_)
      refine aops_cons rfl (w_pure rfl (p_assign rfl) ?_)
      refine aops_cons rfl (w_pure rfl (p_assign rfl) ?_)
      refine aops_nil ?_
      refine a_ret ?_
      refine ret_ok (hands3 rfl (.cell ag_62 rfl (by repeat (first | exact Pick.here _ _ _ | apply Pick.next)) (by rfl)) (.tmp rfl) (.tmp rfl)) (st' := [(b5, _), (b3, _)]) (.cons (by repeat (first | exact Pick.here _ _ _ | apply Pick.next)) (.cons (by repeat (first | exact Pick.here _ _ _ | apply Pick.next)) (.nil _))) ?_
      first | exact absurd hA (by assumption) | exact ⟨_, _, by rw [tickH_f hR], by rw [tickH_f hR]⟩

theorem cf_impl_TickHall (h : Hall) (hn : SmallHall h) (hA : IsHall h) : ACalls Try.prog 75 [.agg (eHall h)] [] (Ret (.tup [.agg (eHall (tickH h).1), .int .i64 (tickH h).2, .bool true])) :=
  (cy_impl_TickHall h hn hA).freeze (by rintro _ _ ⟨_, _, rfl, rfl⟩; exact (.tup (.cons (.agg (.cons (.own (by repeat (first | exact List.Mem.head _ | apply List.Mem.tail)) (List.length_map _)) (.cons (.own (by repeat (first | exact List.Mem.head _ | apply List.Mem.tail)) (List.length_map _)) .nil))) (.cons (.refl _) (.cons (.refl _) .nil)))))

theorem cn_impl_TickHall (h : Hall) (hn : SmallHall h) (hA : ¬ IsHall h) : ACalls Try.prog 75 [.agg (eHall h)] [] (Ret (.tup [.agg [.nil, .nil], .int .i64 0, .bool false])) := by
  have hnn := hn
  obtain ⟨hn1, hn2⟩ := hnn
  refine a_enter Try.func75 rfl rfl (fun w0 M0 => ?_)
  refine a_seq ?_
  refine a_region ?_
  refine aops_cons rfl (w_box_v rfl rfl rfl ?_)
  refine aops_cons rfl (w_alloc rfl z_62 fun b1 => ?_)
  refine aops_cons rfl (w_pure rfl (p_assign rfl) ?_)
  refine aops_cons rfl (w_pure rfl (p_assign rfl) ?_)
  refine aops_nil ?_
  refine a_seq ?_
  refine a_seq ?_
  refine a_region ?_
  refine aops_cons rfl (w_pure rfl (p_load_v_all ag_62 rfl (by rfl) noX) ?_)
  refine aops_cons rfl (w_callR rfl rfl rfl cl_81 (c_impl_IsHall _ ‹_›) ?_)
  refine aops_cons rfl (w_pure rfl (p_not rfl) ?_)
  refine aops_nil ?_
  first | refine a_cond_d rfl (fun h1 => ?_) (fun h2 => ?_) | refine a_cond_n rfl (fun h1 => ?_) (fun h2 => ?_) | refine a_cond_nb rfl (fun h1 => ?_) (fun h2 => ?_) | refine a_cond rfl (fun h1 => ?_) (fun h2 => ?_)
  · (try simp only [Bool.not_eq_true', Bool.not_eq_false', Bool.not_eq_true, Bool.not_eq_false, decide_eq_true_eq, decide_eq_false_iff_not, List.length_map, List.length_range] at h1)
    refine a_seq ?_
    refine a_region ?_
    refine aops_cons rfl (w_pure rfl (p_build (cells := [_, _]) z_62 pl_62 rfl rfl) ?_)
    refine aops_cons rfl (w_store (cells' := [_, _]) rfl rfl rfl (by repeat (first | exact Pick.here _ _ _ | apply Pick.next)) cn_62 (by rfl) (by rfl) (by rfl) trivial ?_)
    refine aops_cons rfl (w_pure rfl (p_assign rfl) ?_)
    refine aops_cons rfl (w_pure rfl (p_assign rfl) ?_)
    refine aops_nil ?_
    refine a_ret ?_
    refine ret_ok (hands3 rfl (.cell ag_62 rfl (by repeat (first | exact Pick.here _ _ _ | apply Pick.next)) (by rfl)) (.tmp rfl) (.tmp rfl)) (.nil _) ?_
    exact ⟨rfl, rfl⟩
  · (try simp only [Bool.not_eq_true', Bool.not_eq_false', Bool.not_eq_true, Bool.not_eq_false, decide_eq_true_eq, decide_eq_false_iff_not, List.length_map, List.length_range] at h2)
    refine a_skip ?_
    refine a_seq ?_
    exact absurd (by assumption) hA

set_option maxHeartbeats 2000000 in
theorem c_laws_FnExactTickHall (h : Hall) (_hc0 : okHall h) : ACalls Try.prog 15 [.agg (eHall h)] [] (Ret (.bool true)) := by
  have hm0 : h.list.length ≤ 9223372036854775807 ∧ h.events.length ≤ 9223372036854775807 := ⟨_hc0.1.2, _hc0.2.1.2⟩
  have hq0 : szHall h 1048576 ≤ 1048576 := szHall_ub (Int.le_refl _)
  by_cases hA : IsHall h
  all_goals refine a_enter Try.func15 rfl rfl (fun w0 M0 => ?_)
  · skip
    refine a_seq ?_
    refine a_region ?_
    refine aops_cons rfl (w_box_v rfl rfl rfl ?_)
    refine aops_cons rfl (w_pure rfl (p_assign rfl) ?_)
    refine aops_nil ?_
    refine a_seq ?_
    refine a_region ?_
    refine aops_cons rfl (w_pure rfl (p_assign rfl) ?_)
    refine aops_nil ?_
    refine a_seq ?_
    refine a_region ?_
    refine aops_cons rfl (w_pure rfl (p_load_v_all ag_56 rfl (by rfl) noX) ?_)
    refine aops_cons rfl (w_pure rfl (p_move rfl) ?_)
    refine aops_cons rfl (w_callR rfl rfl rfl cl_53 (c_laws_szHall _ (by assumption) _ (by omega) (by omega)) ?_)
    refine aops_cons rfl (w_pure rfl (p_assign rfl) ?_)
    refine aops_nil ?_
    refine a_seq ?_
    refine a_seq ?_
    refine a_region ?_
    refine aops_cons rfl (w_pure rfl (p_move rfl) ?_)
    refine aops_cons rfl (w_pure rfl (p_lss rfl rfl) ?_)
    refine aops_nil ?_
    first | refine a_cond_d rfl (fun h1 => ?_) (fun h2 => ?_) | refine a_cond_n rfl (fun h1 => ?_) (fun h2 => ?_) | refine a_cond_nb rfl (fun h1 => ?_) (fun h2 => ?_) | refine a_cond rfl (fun h1 => ?_) (fun h2 => ?_)
    · (try simp only [Bool.not_eq_true', Bool.not_eq_false', Bool.not_eq_true, Bool.not_eq_false, decide_eq_true_eq, decide_eq_false_iff_not, List.length_map, List.length_range] at h1)
      refine a_seq ?_
      refine a_region ?_
      refine aops_cons rfl (w_pure rfl (p_assign rfl) ?_)
      refine aops_nil ?_
      refine a_ret ?_
      refine ret_ok (hands1 rfl (.tmp rfl)) (.nil _) ?_
      first | exact ⟨rfl, rfl⟩ | (exfalso; omega)
    · (try simp only [Bool.not_eq_true', Bool.not_eq_false', Bool.not_eq_true, Bool.not_eq_false, decide_eq_true_eq, decide_eq_false_iff_not, List.length_map, List.length_range] at h2)
      refine a_skip ?_
      refine a_seq ?_
      have hl0 : SmallHall h := szHall_le (left := 1048576) (by omega) (by omega) ‹_›; have hz0_ := hl0; simp only [SmallHall] at hz0_; obtain ⟨hz0_0, hz0_1⟩ := hz0_; have hr0 : SmallHall (tickH h).1 := (small_of hA (tickH_len h)); have hy0_ := hr0; simp only [SmallHall] at hy0_; obtain ⟨hy0_0, hy0_1⟩ := hy0_
      refine a_region ?_
      refine aops_cons rfl (w_pure rfl (p_load_v_all ag_56 rfl (by rfl) noX) ?_)
      refine aops_cons rfl (w_callR rfl rfl rfl cl_56 (c_laws_toHall h hl0) ?_)
      refine aops_cons rfl (w_callR rfl rfl rfl cl_74 (cy_spec_TickHall h hl0 hA) ?_)
      refine aops_cons rfl (w_pure rfl (p_move rfl) ?_)
      refine aops_cons rfl (w_pure rfl (p_extract rfl rfl) ?_)
      refine aops_cons rfl (w_pure rfl (p_extract rfl rfl) ?_)
      refine aops_cons rfl (w_pure rfl (p_extract rfl rfl) ?_)
      refine aops_cons rfl (w_alloc rfl z_62 fun b1 => ?_)
      refine aops_cons rfl (w_store (cells' := [_, _]) rfl rfl rfl (by repeat (first | exact Pick.here _ _ _ | apply Pick.next)) cn_62 (by rfl) (by rfl) (by rfl) trivial ?_)
      refine aops_cons rfl (w_pure rfl (p_assign rfl) ?_)
      refine aops_cons rfl (w_pure rfl (p_assign rfl) ?_)
      refine aops_nil ?_
      refine a_seq ?_
      refine a_region ?_
      refine aops_cons rfl (w_pure rfl (p_load_v_all ag_56 rfl (by rfl) noX) ?_)
      refine aops_cons rfl (w_call rfl rfl rfl cl_56 (co_laws_toHall h hl0) ?_)
      rintro _ _ ⟨b2, b3, rfl, rfl⟩
      refine aops_cons rfl (w_alloc rfl z_62 fun b4 => ?_)
      refine aops_cons rfl (w_store (cells' := [_, _]) rfl rfl rfl (by repeat (first | exact Pick.here _ _ _ | apply Pick.next)) cn_62 (by rfl) (by rfl) (by rfl) trivial ?_)
      refine aops_nil ?_
      refine a_seq ?_
      refine a_region ?_
      refine aops_cons rfl (w_pure rfl (p_load_box_all ag_62 rfl (by repeat (first | exact Pick.here _ _ _ | apply Pick.next)) (by rfl) noX) ?_)
      refine aops_cons rfl (w_callL rfl rfl rfl cl_75 (.cons (.agg (.cons (.own (by repeat (first | exact List.Mem.head _ | apply List.Mem.tail)) (by first | (simp; done) | (simp; assumption) | (simp; omega) | (simp [mkL]; done))) (.cons (.own (by repeat (first | exact List.Mem.head _ | apply List.Mem.tail)) (by first | (simp; done) | (simp; assumption) | (simp; omega) | (simp [mkL]; done))) .nil))) .nil) (cy_impl_TickHall h hl0 hA) ?_)
      rintro _ _ ⟨b5, b6, rfl, rfl⟩
      refine ⟨(closed_tup (all_cons' (closed_agg (all_cons' (closed_own _ _ _ _) (all_cons' (closed_own _ _ _ _) all_nil'))) (all_cons' (closed_int _ _) (all_cons' (closed_bool _) all_nil')))), (closedS_cons (closedAll _ _ _ _ cl_eVcpu) (closedS_cons (closedAll _ _ _ _ cl_eBool) closedS_nil)), ?_⟩
      refine aops_cons rfl (w_pure rfl (p_move rfl) ?_)
      refine aops_cons rfl (w_pure rfl (p_extract rfl rfl) ?_)
      refine aops_cons rfl (w_pure rfl (p_extract rfl rfl) ?_)
      refine aops_cons rfl (w_pure rfl (p_extract rfl rfl) ?_)
      refine aops_cons rfl (w_alloc rfl z_62 fun b7 => ?_)
      refine aops_cons rfl (w_store (cells' := [_, _]) rfl rfl rfl (by repeat (first | exact Pick.here _ _ _ | apply Pick.next)) cn_62 (by rfl) (by rfl) (by rfl) trivial ?_)
      refine aops_cons rfl (w_pure rfl (p_assign rfl) ?_)
      refine aops_cons rfl (w_pure rfl (p_assign rfl) ?_)
      refine aops_nil ?_
      refine a_seq ?_
      refine a_seq ?_
      refine a_region ?_
      refine aops_cons rfl (w_pure rfl (p_load_box_all ag_62 rfl (by repeat (first | exact Pick.here _ _ _ | apply Pick.next)) (by rfl) noX) ?_)
      refine aops_cons rfl (w_pure rfl (p_load_box_all ag_62 rfl (by repeat (first | exact Pick.here _ _ _ | apply Pick.next)) (by rfl) noX) ?_)
      refine aops_cons rfl (w_callLR rfl rfl rfl cl_59 (.cons (.agg (.cons (.own (by repeat (first | exact List.Mem.head _ | apply List.Mem.tail)) (by first | (simp; done) | (simp; assumption) | (simp; omega) | (simp [mkL]; done))) (.cons (.own (by repeat (first | exact List.Mem.head _ | apply List.Mem.tail)) (by first | (simp; done) | (simp; assumption) | (simp; omega) | (simp [mkL]; done))) .nil))) (.cons (.refl _) .nil)) (c_laws_eqHall (tickH h).1 (small_of hA (tickH_len h))) (closed_bool _) ?_)
      refine aops_cons rfl (w_pure rfl (p_not rfl) ?_)
      refine aops_cons rfl (w_pure rfl (p_move rfl) ?_)
      refine aops_guard_t rfl rfl rfl (w_pure rfl (p_move rfl) ?_)
      refine aops_guard_t rfl rfl rfl (w_pure rfl (p_move rfl) ?_)
      refine aops_guard_t rfl rfl rfl (w_pure rfl (p_neq_same rfl rfl) ?_)
      refine aops_cons rfl (w_pure rfl (p_pick_f rfl rfl) ?_)
      refine aops_cons rfl (w_pure rfl (p_move rfl) ?_)
      refine aops_guard_t rfl rfl rfl (w_pure rfl (p_move rfl) ?_)
      refine aops_guard_t rfl rfl rfl (w_pure rfl (p_move rfl) ?_)
      refine aops_guard_t rfl rfl rfl (w_pure rfl (p_neq_bsame um_4 rfl rfl) ?_)
      refine aops_cons rfl (w_pure rfl (p_pick_f rfl rfl) ?_)
      refine aops_nil ?_
      refine a_cond_f rfl ?_
      refine a_skip ?_
      refine a_seq ?_
      refine a_seq ?_
      refine a_draw [] (by kernel_rfl) ?_
      show ADraw _ _ _ _ _ _ 5 _ _ _ _
      refine d_load 0 rfl (by kernel_rfl) (by kernel_rfl) (by kernel_rfl) rfl (p_load_box_all ag_62 rfl (by repeat (first | exact Pick.here _ _ _ | apply Pick.next)) (by rfl) noX) ?_
      refine d_load 1 rfl (by kernel_rfl) (by kernel_rfl) (by kernel_rfl) rfl (p_load_v_all ag_56 rfl (by rfl) noX) ?_
      refine draw_all [2] (by kernel_rfl) (by simp) ?_
      refine all_cons rfl rfl ?_ ?_
      · skip
        refine w_callR rfl rfl rfl cl_56 (c_laws_toHall h hl0) ?_
        refine draw_all [3] (by kernel_rfl) (by simp) ?_
        refine all_cons rfl rfl ?_ ?_
        · skip
          refine w_callLR rfl rfl rfl cl_59 (.cons (.agg (.cons (.own (by repeat (first | exact List.Mem.head _ | apply List.Mem.tail)) (by first | (simp; done) | (simp; assumption) | (simp; omega) | (simp [mkL]; done))) (.cons (.own (by repeat (first | exact List.Mem.head _ | apply List.Mem.tail)) (by first | (simp; done) | (simp; assumption) | (simp; omega) | (simp [mkL]; done))) .nil))) (.cons (.refl _) .nil)) (c_laws_eqHall h hl0) (closed_bool _) ?_
          refine d_take 4 rfl (by kernel_rfl) (by kernel_rfl) (by kernel_rfl) rfl (p_not rfl) ?_
          refine draw_done (by kernel_rfl) ?_
          refine a_cond_f rfl ?_
          refine a_skip ?_
          refine a_seq ?_
          refine a_region ?_
          refine aops_cons rfl (w_pure rfl (p_assign rfl) ?_)
          refine aops_nil ?_
          refine a_seq ?_
          refine a_region ?_
          refine aops_cons rfl (w_pure rfl (p_load_box_all ag_62 rfl (by repeat (first | exact Pick.here _ _ _ | apply Pick.next)) (by rfl) noX) ?_)
          refine aops_cons rfl (w_pure rfl (p_move rfl) ?_)
          refine aops_cons rfl (w_callM rfl rfl rfl cl_63 (.cons (by repeat (first | exact Pick.here _ _ _ | apply Pick.next)) (.cons (by repeat (first | exact Pick.here _ _ _ | apply Pick.next)) (.nil _))) (.cons (.refl _) (.cons (.refl _) .nil)) (c_laws_markHall _ _ h hl0 _ (by first | omega | (simp; done) | (simp; omega)) (by first | omega | (simp; done) | (simp; omega))) trivial ?_)
          rintro _ _ ⟨rfl, rfl⟩
          refine ⟨(closed_int _ _), (closedS_cons (closedAll _ _ _ _ cl_eVcpu) (closedS_cons (closedAll _ _ _ _ cl_eBool) closedS_nil)), ?_⟩
          refine aops_cons rfl (w_pure rfl (p_assign rfl) ?_)
          refine aops_nil ?_
          refine a_seq ?_
          refine a_seq ?_
          refine a_region ?_
          refine aops_cons rfl (w_pure rfl (p_move rfl) ?_)
          refine aops_cons rfl (w_pure rfl (p_lss rfl rfl) ?_)
          refine aops_cons rfl (w_pure rfl (p_move rfl) ?_)
          first | refine aops_split_d 61 rfl (fun h3 => ?_) (fun h4 => ?_) | refine aops_split 61 rfl (fun h3 => ?_) (fun h4 => ?_)
          · (try simp only [Bool.not_eq_true', Bool.not_eq_false', Bool.not_eq_true, Bool.not_eq_false, decide_eq_true_eq, decide_eq_false_iff_not, List.length_map, List.length_range] at h3)
            refine g_pass' rfl rfl rfl rfl rfl ?_
            refine g_pass' rfl rfl rfl rfl rfl ?_
            refine g_pass' rfl rfl rfl rfl rfl ?_
            refine g_pass' rfl rfl rfl rfl rfl ?_
            refine aops_cons rfl (w_pure rfl (p_pick_t rfl rfl) ?_)
            refine aops_cons rfl (w_pure rfl (p_move rfl) ?_)
            refine g_pass' rfl rfl rfl rfl rfl ?_
            refine g_pass' rfl rfl rfl rfl rfl ?_
            refine g_pass' rfl rfl rfl rfl rfl ?_
            refine aops_cons rfl (w_pure rfl (p_pick_t rfl rfl) ?_)
            refine aops_cons rfl (w_pure rfl (p_move rfl) ?_)
            refine g_pass' rfl rfl rfl rfl rfl ?_
            refine g_pass' rfl rfl rfl rfl rfl ?_
            refine g_pass' rfl rfl rfl rfl rfl ?_
            refine aops_cons rfl (w_pure rfl (p_pick_t rfl rfl) ?_)
            refine aops_nil ?_
            refine a_cond_t rfl ?_
            refine a_seq ?_
            refine a_region ?_
            refine aops_cons rfl (w_pure rfl (p_assign rfl) ?_)
            refine aops_nil ?_
            refine a_ret ?_
            refine ret_ok (hands1 rfl (.tmp rfl)) (.nil _) ?_
            first | exact ⟨rfl, rfl⟩ | (exfalso; omega)
          · (try simp only [Bool.not_eq_true', Bool.not_eq_false', Bool.not_eq_true, Bool.not_eq_false, decide_eq_true_eq, decide_eq_false_iff_not, List.length_map, List.length_range] at h4)
            refine aops_guard_t rfl rfl rfl (w_pure rfl (p_load_box_all ag_62 rfl (by repeat (first | exact Pick.here _ _ _ | apply Pick.next)) (by rfl) noX) ?_)
            refine aops_guard_t rfl rfl rfl (w_pure rfl (p_load_box_all ag_62 rfl (by repeat (first | exact Pick.here _ _ _ | apply Pick.next)) (by rfl) noX) ?_)
            refine aops_guard_t rfl rfl rfl (w_callLR rfl rfl rfl cl_59 (.cons (.agg (.cons (.own (by repeat (first | exact List.Mem.head _ | apply List.Mem.tail)) (by first | (simp; done) | (simp; assumption) | (simp; omega) | (simp [mkL]; done))) (.cons (.own (by repeat (first | exact List.Mem.head _ | apply List.Mem.tail)) (by first | (simp; done) | (simp; assumption) | (simp; omega) | (simp [mkL]; done))) .nil))) (.cons (.refl _) .nil)) (c_laws_eqHall (tickH h).1 (small_of hA (tickH_len h))) (closed_bool _) ?_)
            refine aops_guard_t rfl rfl rfl (w_pure rfl (p_not rfl) ?_)
            refine aops_cons rfl (w_pure rfl (p_pick_f rfl rfl) ?_)
            refine aops_cons rfl (w_pure rfl (p_move rfl) ?_)
            refine aops_guard_t rfl rfl rfl (w_pure rfl (p_move rfl) ?_)
            refine aops_guard_t rfl rfl rfl (w_pure rfl (p_move rfl) ?_)
            refine aops_guard_t rfl rfl rfl (w_pure rfl (p_neq_same rfl rfl) ?_)
            refine aops_cons rfl (w_pure rfl (p_pick_f rfl rfl) ?_)
            refine aops_cons rfl (w_pure rfl (p_move rfl) ?_)
            refine aops_guard_t rfl rfl rfl (w_pure rfl (p_move rfl) ?_)
            refine aops_guard_t rfl rfl rfl (w_pure rfl (p_move rfl) ?_)
            refine aops_guard_t rfl rfl rfl (w_pure rfl (p_neq_bsame um_4 rfl rfl) ?_)
            refine aops_cons rfl (w_pure rfl (p_pick_f rfl rfl) ?_)
            refine aops_nil ?_
            refine a_cond_f rfl ?_
            refine a_skip ?_
            refine a_seq ?_
            refine a_region ?_
            refine aops_cons rfl (w_pure rfl (p_assign rfl) ?_)
            refine aops_nil ?_
            refine a_seq ?_
            refine a_region ?_
            refine aops_cons rfl (w_pure rfl (p_load_box_all ag_62 rfl (by repeat (first | exact Pick.here _ _ _ | apply Pick.next)) (by rfl) noX) ?_)
            refine aops_cons rfl (w_pure rfl (p_move rfl) ?_)
            refine aops_cons rfl (w_callM rfl rfl rfl cl_63 (.cons (by repeat (first | exact Pick.here _ _ _ | apply Pick.next)) (.cons (by repeat (first | exact Pick.here _ _ _ | apply Pick.next)) (.nil _))) (.cons (.refl _) (.cons (.refl _) .nil)) (c_laws_markHall _ _ (tickH h).1 (small_of hA (tickH_len h)) _ (by first | omega | (simp; done) | (simp; omega)) (by first | omega | (simp; done) | (simp; omega))) trivial ?_)
            rintro _ _ ⟨rfl, rfl⟩
            refine ⟨(closed_int _ _), (closedS_cons (closedAll _ _ _ _ cl_eVcpu) (closedS_cons (closedAll _ _ _ _ cl_eBool) closedS_nil)), ?_⟩
            refine aops_cons rfl (w_pure rfl (p_assign rfl) ?_)
            refine aops_nil ?_
            refine a_seq ?_
            refine a_region ?_
            refine aops_cons rfl (w_pure rfl (p_assign rfl) ?_)
            refine aops_nil ?_
            refine a_seq ?_
            refine a_region ?_
            refine aops_cons rfl (w_pure rfl (p_load_box_all ag_62 rfl (by repeat (first | exact Pick.here _ _ _ | apply Pick.next)) (by rfl) noX) ?_)
            refine aops_cons rfl (w_pure rfl (p_move rfl) ?_)
            refine aops_cons rfl (w_callLR rfl rfl rfl cl_65 (.cons (.agg (.cons (.own (by repeat (first | exact List.Mem.head _ | apply List.Mem.tail)) (by first | (simp; done) | (simp; assumption) | (simp; omega) | (simp [mkL]; done))) (.cons (.own (by repeat (first | exact List.Mem.head _ | apply List.Mem.tail)) (by first | (simp; done) | (simp; assumption) | (simp; omega) | (simp [mkL]; done))) .nil))) (.cons (.refl _) .nil)) (c_laws_heldHall (tickH h).1 (small_of hA (tickH_len h)) _ (by first | omega | (simp; done) | (simp; omega)) (by first | omega | (simp; done) | (simp; omega))) (closed_int _ _) ?_)
            refine aops_cons rfl (w_pure rfl (p_assign rfl) ?_)
            refine aops_nil ?_
            refine a_seq ?_
            refine a_seq ?_
            refine a_region ?_
            refine aops_cons rfl (w_pure rfl (p_move rfl) ?_)
            refine aops_cons rfl (w_pure rfl (p_lss rfl rfl) ?_)
            refine aops_nil ?_
            first | refine a_cond_d rfl (fun h5 => ?_) (fun h6 => ?_) | refine a_cond_n rfl (fun h5 => ?_) (fun h6 => ?_) | refine a_cond_nb rfl (fun h5 => ?_) (fun h6 => ?_) | refine a_cond rfl (fun h5 => ?_) (fun h6 => ?_)
            · (try simp only [Bool.not_eq_true', Bool.not_eq_false', Bool.not_eq_true, Bool.not_eq_false, decide_eq_true_eq, decide_eq_false_iff_not, List.length_map, List.length_range] at h5)
              refine a_seq ?_
              refine a_region ?_
              refine aops_cons rfl (w_pure rfl (p_assign rfl) ?_)
              refine aops_nil ?_
              refine a_ret ?_
              refine ret_ok (hands1 rfl (.tmp rfl)) (.nil _) ?_
              first | exact ⟨rfl, rfl⟩ | (exfalso; omega)
            · (try simp only [Bool.not_eq_true', Bool.not_eq_false', Bool.not_eq_true, Bool.not_eq_false, decide_eq_true_eq, decide_eq_false_iff_not, List.length_map, List.length_range] at h6)
              refine a_skip ?_
              refine a_seq ?_
              refine a_seq ?_
              refine a_region ?_
              refine aops_cons rfl (w_pure rfl (p_move rfl) ?_)
              refine aops_cons rfl (w_pure rfl (p_move rfl) ?_)
              refine aops_cons rfl (w_pure rfl (p_neq_same rfl rfl) ?_)
              refine aops_nil ?_
              refine a_cond_f rfl ?_
              refine a_skip ?_
              refine a_seq ?_
              refine a_region ?_
              refine aops_cons rfl (w_pure rfl (p_load_v_all ag_56 rfl (by rfl) noX) ?_)
              refine aops_cons rfl (w_callR rfl rfl rfl cl_56 (c_laws_toHall h hl0) ?_)
              refine aops_cons rfl (w_callR rfl rfl rfl cl_75 (cf_impl_TickHall h hl0 hA) ?_)
              refine aops_cons rfl (w_pure rfl (p_move rfl) ?_)
              refine aops_cons rfl (w_pure rfl (p_extract rfl rfl) ?_)
              refine aops_cons rfl (w_pure rfl (p_extract rfl rfl) ?_)
              refine aops_cons rfl (w_pure rfl (p_extract rfl rfl) ?_)
              refine aops_cons rfl (w_alloc rfl z_62 fun b8 => ?_)
              refine aops_cons rfl (w_store (cells' := [_, _]) rfl rfl rfl (by repeat (first | exact Pick.here _ _ _ | apply Pick.next)) cn_62 (by rfl) (by rfl) (by rfl) trivial ?_)
              refine aops_cons rfl (w_pure rfl (p_assign rfl) ?_)
              refine aops_cons rfl (w_pure rfl (p_assign rfl) ?_)
              refine aops_nil ?_
              refine a_seq ?_
              refine a_seq ?_
              refine a_region ?_
              refine aops_cons rfl (w_pure rfl (p_load_box_all ag_62 rfl (by repeat (first | exact Pick.here _ _ _ | apply Pick.next)) (by rfl) noX) ?_)
              refine aops_cons rfl (w_pure rfl (p_load_box_all ag_62 rfl (by repeat (first | exact Pick.here _ _ _ | apply Pick.next)) (by rfl) noX) ?_)
              refine aops_cons rfl (w_callLR rfl rfl rfl cl_59 (.cons (.refl _) (.cons (.refl _) .nil)) (c_laws_eqHall (tickH h).1 (small_of hA (tickH_len h))) (closed_bool _) ?_)
              refine aops_cons rfl (w_pure rfl (p_not rfl) ?_)
              refine aops_cons rfl (w_pure rfl (p_move rfl) ?_)
              refine aops_guard_t rfl rfl rfl (w_pure rfl (p_move rfl) ?_)
              refine aops_guard_t rfl rfl rfl (w_pure rfl (p_move rfl) ?_)
              refine aops_guard_t rfl rfl rfl (w_pure rfl (p_neq_same rfl rfl) ?_)
              refine aops_cons rfl (w_pure rfl (p_pick_f rfl rfl) ?_)
              refine aops_cons rfl (w_pure rfl (p_move rfl) ?_)
              refine aops_guard_t rfl rfl rfl (w_pure rfl (p_move rfl) ?_)
              refine aops_guard_t rfl rfl rfl (w_pure rfl (p_move rfl) ?_)
              refine aops_guard_t rfl rfl rfl (w_pure rfl (p_neq_bsame um_4 rfl rfl) ?_)
              refine aops_cons rfl (w_pure rfl (p_pick_f rfl rfl) ?_)
              refine aops_nil ?_
              refine a_cond_f rfl ?_
              refine a_skip ?_
              refine a_seq ?_
              refine a_region ?_
              refine aops_cons rfl (w_pure rfl (p_assign rfl) ?_)
              refine aops_nil ?_
              refine a_seq ?_
              refine a_region ?_
              refine aops_cons rfl (w_pure rfl (p_load_box_all ag_62 rfl (by repeat (first | exact Pick.here _ _ _ | apply Pick.next)) (by rfl) noX) ?_)
              refine aops_cons rfl (w_pure rfl (p_move rfl) ?_)
              refine aops_cons rfl (w_callLR rfl rfl rfl cl_65 (.cons (.agg (.cons (.own (by repeat (first | exact List.Mem.head _ | apply List.Mem.tail)) (by first | (simp; done) | (simp; assumption) | (simp; omega) | (simp [mkL]; done))) (.cons (.own (by repeat (first | exact List.Mem.head _ | apply List.Mem.tail)) (by first | (simp; done) | (simp; assumption) | (simp; omega) | (simp [mkL]; done))) .nil))) (.cons (.refl _) .nil)) (c_laws_heldHall (tickH h).1 (small_of hA (tickH_len h)) _ (by first | omega | (simp; done) | (simp; omega)) (by first | omega | (simp; done) | (simp; omega))) (closed_int _ _) ?_)
              refine aops_cons rfl (w_pure rfl (p_assign rfl) ?_)
              refine aops_nil ?_
              refine a_seq ?_
              refine a_seq ?_
              refine a_region ?_
              refine aops_cons rfl (w_pure rfl (p_move rfl) ?_)
              refine aops_cons rfl (w_pure rfl (p_lss rfl rfl) ?_)
              refine aops_nil ?_
              first | refine a_cond_d rfl (fun h7 => ?_) (fun h8 => ?_) | refine a_cond_n rfl (fun h7 => ?_) (fun h8 => ?_) | refine a_cond_nb rfl (fun h7 => ?_) (fun h8 => ?_) | refine a_cond rfl (fun h7 => ?_) (fun h8 => ?_)
              · (try simp only [Bool.not_eq_true', Bool.not_eq_false', Bool.not_eq_true, Bool.not_eq_false, decide_eq_true_eq, decide_eq_false_iff_not, List.length_map, List.length_range] at h7)
                refine a_seq ?_
                refine a_region ?_
                refine aops_cons rfl (w_pure rfl (p_assign rfl) ?_)
                refine aops_nil ?_
                refine a_ret ?_
                refine ret_ok (hands1 rfl (.tmp rfl)) (.nil _) ?_
                first | exact ⟨rfl, rfl⟩ | (exfalso; omega)
              · (try simp only [Bool.not_eq_true', Bool.not_eq_false', Bool.not_eq_true, Bool.not_eq_false, decide_eq_true_eq, decide_eq_false_iff_not, List.length_map, List.length_range] at h8)
                refine a_skip ?_
                refine a_seq ?_
                refine a_seq ?_
                refine a_region ?_
                refine aops_cons rfl (w_pure rfl (p_move rfl) ?_)
                refine aops_cons rfl (w_pure rfl (p_move rfl) ?_)
                refine aops_cons rfl (w_pure rfl (p_neq_same rfl rfl) ?_)
                refine aops_nil ?_
                refine a_cond_f rfl ?_
                refine a_skip ?_
                refine a_seq ?_
                refine a_region ?_
                refine aops_cons rfl (w_pure rfl (p_assign rfl) ?_)
                refine aops_nil ?_
                refine a_ret ?_
                refine ret_ok (hands1 rfl (.tmp rfl)) (.nil _) ?_
                first | exact ⟨rfl, rfl⟩ | (exfalso; omega)
        exact all_nil
      exact all_nil
  · skip
    refine a_seq ?_
    refine a_region ?_
    refine aops_cons rfl (w_box_v rfl rfl rfl ?_)
    refine aops_cons rfl (w_pure rfl (p_assign rfl) ?_)
    refine aops_nil ?_
    refine a_seq ?_
    refine a_region ?_
    refine aops_cons rfl (w_pure rfl (p_assign rfl) ?_)
    refine aops_nil ?_
    refine a_seq ?_
    refine a_region ?_
    refine aops_cons rfl (w_pure rfl (p_load_v_all ag_56 rfl (by rfl) noX) ?_)
    refine aops_cons rfl (w_pure rfl (p_move rfl) ?_)
    refine aops_cons rfl (w_callR rfl rfl rfl cl_53 (c_laws_szHall _ (by assumption) _ (by omega) (by omega)) ?_)
    refine aops_cons rfl (w_pure rfl (p_assign rfl) ?_)
    refine aops_nil ?_
    refine a_seq ?_
    refine a_seq ?_
    refine a_region ?_
    refine aops_cons rfl (w_pure rfl (p_move rfl) ?_)
    refine aops_cons rfl (w_pure rfl (p_lss rfl rfl) ?_)
    refine aops_nil ?_
    first | refine a_cond_d rfl (fun h1 => ?_) (fun h2 => ?_) | refine a_cond_n rfl (fun h1 => ?_) (fun h2 => ?_) | refine a_cond_nb rfl (fun h1 => ?_) (fun h2 => ?_) | refine a_cond rfl (fun h1 => ?_) (fun h2 => ?_)
    · (try simp only [Bool.not_eq_true', Bool.not_eq_false', Bool.not_eq_true, Bool.not_eq_false, decide_eq_true_eq, decide_eq_false_iff_not, List.length_map, List.length_range] at h1)
      refine a_seq ?_
      refine a_region ?_
      refine aops_cons rfl (w_pure rfl (p_assign rfl) ?_)
      refine aops_nil ?_
      refine a_ret ?_
      refine ret_ok (hands1 rfl (.tmp rfl)) (.nil _) ?_
      first | exact ⟨rfl, rfl⟩ | (exfalso; omega)
    · (try simp only [Bool.not_eq_true', Bool.not_eq_false', Bool.not_eq_true, Bool.not_eq_false, decide_eq_true_eq, decide_eq_false_iff_not, List.length_map, List.length_range] at h2)
      refine a_skip ?_
      refine a_seq ?_
      have hl0 : SmallHall h := szHall_le (left := 1048576) (by omega) (by omega) ‹_›; have hz0_ := hl0; simp only [SmallHall] at hz0_; obtain ⟨hz0_0, hz0_1⟩ := hz0_
      refine a_region ?_
      refine aops_cons rfl (w_pure rfl (p_load_v_all ag_56 rfl (by rfl) noX) ?_)
      refine aops_cons rfl (w_callR rfl rfl rfl cl_56 (c_laws_toHall h hl0) ?_)
      refine aops_cons rfl (w_callR rfl rfl rfl cl_74 (cn_spec_TickHall h hl0 hA) ?_)
      refine aops_cons rfl (w_pure rfl (p_move rfl) ?_)
      refine aops_cons rfl (w_pure rfl (p_extract rfl rfl) ?_)
      refine aops_cons rfl (w_pure rfl (p_extract rfl rfl) ?_)
      refine aops_cons rfl (w_pure rfl (p_extract rfl rfl) ?_)
      refine aops_cons rfl (w_alloc rfl z_62 fun b1 => ?_)
      refine aops_cons rfl (w_store (cells' := [_, _]) rfl rfl rfl (by repeat (first | exact Pick.here _ _ _ | apply Pick.next)) cn_62 (by rfl) (by rfl) (by rfl) trivial ?_)
      refine aops_cons rfl (w_pure rfl (p_assign rfl) ?_)
      refine aops_cons rfl (w_pure rfl (p_assign rfl) ?_)
      refine aops_nil ?_
      refine a_seq ?_
      refine a_region ?_
      refine aops_cons rfl (w_pure rfl (p_load_v_all ag_56 rfl (by rfl) noX) ?_)
      refine aops_cons rfl (w_call rfl rfl rfl cl_56 (co_laws_toHall h hl0) ?_)
      rintro _ _ ⟨b2, b3, rfl, rfl⟩
      refine aops_cons rfl (w_alloc rfl z_62 fun b4 => ?_)
      refine aops_cons rfl (w_store (cells' := [_, _]) rfl rfl rfl (by repeat (first | exact Pick.here _ _ _ | apply Pick.next)) cn_62 (by rfl) (by rfl) (by rfl) trivial ?_)
      refine aops_nil ?_
      refine a_seq ?_
      refine a_region ?_
      refine aops_cons rfl (w_pure rfl (p_load_box_all ag_62 rfl (by repeat (first | exact Pick.here _ _ _ | apply Pick.next)) (by rfl) noX) ?_)
      refine aops_cons rfl (w_callLR rfl rfl rfl cl_75 (.cons (.agg (.cons (.own (by repeat (first | exact List.Mem.head _ | apply List.Mem.tail)) (by first | (simp; done) | (simp; assumption) | (simp; omega) | (simp [mkL]; done))) (.cons (.own (by repeat (first | exact List.Mem.head _ | apply List.Mem.tail)) (by first | (simp; done) | (simp; assumption) | (simp; omega) | (simp [mkL]; done))) .nil))) .nil) (cn_impl_TickHall h hl0 hA) (closed_tup (all_cons' (closed_agg (all_cons' closed_nil (all_cons' closed_nil all_nil'))) (all_cons' (closed_int _ _) (all_cons' (closed_bool _) all_nil')))) ?_)
      refine aops_cons rfl (w_pure rfl (p_move rfl) ?_)
      refine aops_cons rfl (w_pure rfl (p_extract rfl rfl) ?_)
      refine aops_cons rfl (w_pure rfl (p_extract rfl rfl) ?_)
      refine aops_cons rfl (w_pure rfl (p_extract rfl rfl) ?_)
      refine aops_cons rfl (w_alloc rfl z_62 fun b5 => ?_)
      refine aops_cons rfl (w_store (cells' := [_, _]) rfl rfl rfl (by repeat (first | exact Pick.here _ _ _ | apply Pick.next)) cn_62 (by rfl) (by rfl) (by rfl) trivial ?_)
      refine aops_cons rfl (w_pure rfl (p_assign rfl) ?_)
      refine aops_cons rfl (w_pure rfl (p_assign rfl) ?_)
      refine aops_nil ?_
      refine a_seq ?_
      refine a_seq ?_
      refine a_region ?_
      refine aops_cons rfl (w_pure rfl (p_load_box_all ag_62 rfl (by repeat (first | exact Pick.here _ _ _ | apply Pick.next)) (by rfl) noX) ?_)
      refine aops_cons rfl (w_pure rfl (p_load_box_all ag_62 rfl (by repeat (first | exact Pick.here _ _ _ | apply Pick.next)) (by rfl) noX) ?_)
      refine aops_cons rfl (w_callLR rfl rfl rfl cl_59 (.cons (.agg (.cons .nil (.cons .nil .nil))) (.cons (.agg (.cons .nil (.cons .nil .nil))) .nil)) (c_laws_eqHall (⟨[], []⟩ : Hall) (by first | decide | (simp; done) | exact ⟨by decide, by decide⟩)) (closed_bool _) ?_)
      refine aops_cons rfl (w_pure rfl (p_not rfl) ?_)
      refine aops_cons rfl (w_pure rfl (p_move rfl) ?_)
      refine aops_guard_t rfl rfl rfl (w_pure rfl (p_move rfl) ?_)
      refine aops_guard_t rfl rfl rfl (w_pure rfl (p_move rfl) ?_)
      refine aops_guard_t rfl rfl rfl (w_pure rfl (p_neq_same rfl rfl) ?_)
      refine aops_cons rfl (w_pure rfl (p_pick_f rfl rfl) ?_)
      refine aops_cons rfl (w_pure rfl (p_move rfl) ?_)
      refine aops_guard_t rfl rfl rfl (w_pure rfl (p_move rfl) ?_)
      refine aops_guard_t rfl rfl rfl (w_pure rfl (p_move rfl) ?_)
      refine aops_guard_t rfl rfl rfl (w_pure rfl (p_neq_bsame um_4 rfl rfl) ?_)
      refine aops_cons rfl (w_pure rfl (p_pick_f rfl rfl) ?_)
      refine aops_nil ?_
      refine a_cond_f rfl ?_
      refine a_skip ?_
      refine a_seq ?_
      refine a_seq ?_
      refine a_draw [] (by kernel_rfl) ?_
      show ADraw _ _ _ _ _ _ 5 _ _ _ _
      refine d_load 0 rfl (by kernel_rfl) (by kernel_rfl) (by kernel_rfl) rfl (p_load_box_all ag_62 rfl (by repeat (first | exact Pick.here _ _ _ | apply Pick.next)) (by rfl) noX) ?_
      refine d_load 1 rfl (by kernel_rfl) (by kernel_rfl) (by kernel_rfl) rfl (p_load_v_all ag_56 rfl (by rfl) noX) ?_
      refine draw_all [2] (by kernel_rfl) (by simp) ?_
      refine all_cons rfl rfl ?_ ?_
      · skip
        refine w_callR rfl rfl rfl cl_56 (c_laws_toHall h hl0) ?_
        refine draw_all [3] (by kernel_rfl) (by simp) ?_
        refine all_cons rfl rfl ?_ ?_
        · skip
          refine w_callLR rfl rfl rfl cl_59 (.cons (.agg (.cons (.own (by repeat (first | exact List.Mem.head _ | apply List.Mem.tail)) (by first | (simp; done) | (simp; assumption) | (simp; omega) | (simp [mkL]; done))) (.cons (.own (by repeat (first | exact List.Mem.head _ | apply List.Mem.tail)) (by first | (simp; done) | (simp; assumption) | (simp; omega) | (simp [mkL]; done))) .nil))) (.cons (.refl _) .nil)) (c_laws_eqHall h hl0) (closed_bool _) ?_
          refine d_take 4 rfl (by kernel_rfl) (by kernel_rfl) (by kernel_rfl) rfl (p_not rfl) ?_
          refine draw_done (by kernel_rfl) ?_
          refine a_cond_f rfl ?_
          refine a_skip ?_
          refine a_seq ?_
          refine a_region ?_
          refine aops_cons rfl (w_pure rfl (p_assign rfl) ?_)
          refine aops_nil ?_
          refine a_seq ?_
          refine a_region ?_
          refine aops_cons rfl (w_pure rfl (p_load_box_all ag_62 rfl (by repeat (first | exact Pick.here _ _ _ | apply Pick.next)) (by rfl) noX) ?_)
          refine aops_cons rfl (w_pure rfl (p_move rfl) ?_)
          refine aops_cons rfl (w_callM rfl rfl rfl cl_63 (.cons (by repeat (first | exact Pick.here _ _ _ | apply Pick.next)) (.cons (by repeat (first | exact Pick.here _ _ _ | apply Pick.next)) (.nil _))) (.cons (.refl _) (.cons (.refl _) .nil)) (c_laws_markHall _ _ h hl0 _ (by first | omega | (simp; done) | (simp; omega)) (by first | omega | (simp; done) | (simp; omega))) trivial ?_)
          rintro _ _ ⟨rfl, rfl⟩
          refine ⟨(closed_int _ _), (closedS_cons (closedAll _ _ _ _ cl_eVcpu) (closedS_cons (closedAll _ _ _ _ cl_eBool) closedS_nil)), ?_⟩
          refine aops_cons rfl (w_pure rfl (p_assign rfl) ?_)
          refine aops_nil ?_
          refine a_seq ?_
          refine a_seq ?_
          refine a_region ?_
          refine aops_cons rfl (w_pure rfl (p_move rfl) ?_)
          refine aops_cons rfl (w_pure rfl (p_lss rfl rfl) ?_)
          refine aops_cons rfl (w_pure rfl (p_move rfl) ?_)
          first | refine aops_split_d 61 rfl (fun h3 => ?_) (fun h4 => ?_) | refine aops_split 61 rfl (fun h3 => ?_) (fun h4 => ?_)
          · (try simp only [Bool.not_eq_true', Bool.not_eq_false', Bool.not_eq_true, Bool.not_eq_false, decide_eq_true_eq, decide_eq_false_iff_not, List.length_map, List.length_range] at h3)
            refine g_pass' rfl rfl rfl rfl rfl ?_
            refine g_pass' rfl rfl rfl rfl rfl ?_
            refine g_pass' rfl rfl rfl rfl rfl ?_
            refine g_pass' rfl rfl rfl rfl rfl ?_
            refine aops_cons rfl (w_pure rfl (p_pick_t rfl rfl) ?_)
            refine aops_cons rfl (w_pure rfl (p_move rfl) ?_)
            refine g_pass' rfl rfl rfl rfl rfl ?_
            refine g_pass' rfl rfl rfl rfl rfl ?_
            refine g_pass' rfl rfl rfl rfl rfl ?_
            refine aops_cons rfl (w_pure rfl (p_pick_t rfl rfl) ?_)
            refine aops_cons rfl (w_pure rfl (p_move rfl) ?_)
            refine g_pass' rfl rfl rfl rfl rfl ?_
            refine g_pass' rfl rfl rfl rfl rfl ?_
            refine g_pass' rfl rfl rfl rfl rfl ?_
            refine aops_cons rfl (w_pure rfl (p_pick_t rfl rfl) ?_)
            refine aops_nil ?_
            refine a_cond_t rfl ?_
            refine a_seq ?_
            refine a_region ?_
            refine aops_cons rfl (w_pure rfl (p_assign rfl) ?_)
            refine aops_nil ?_
            refine a_ret ?_
            refine ret_ok (hands1 rfl (.tmp rfl)) (.nil _) ?_
            first | exact ⟨rfl, rfl⟩ | (exfalso; omega)
          · (try simp only [Bool.not_eq_true', Bool.not_eq_false', Bool.not_eq_true, Bool.not_eq_false, decide_eq_true_eq, decide_eq_false_iff_not, List.length_map, List.length_range] at h4)
            refine aops_guard_t rfl rfl rfl (w_pure rfl (p_load_box_all ag_62 rfl (by repeat (first | exact Pick.here _ _ _ | apply Pick.next)) (by rfl) noX) ?_)
            refine aops_guard_t rfl rfl rfl (w_pure rfl (p_load_box_all ag_62 rfl (by repeat (first | exact Pick.here _ _ _ | apply Pick.next)) (by rfl) noX) ?_)
            refine aops_guard_t rfl rfl rfl (w_callLR rfl rfl rfl cl_59 (.cons (.agg (.cons .nil (.cons .nil .nil))) (.cons (.agg (.cons .nil (.cons .nil .nil))) .nil)) (c_laws_eqHall (⟨[], []⟩ : Hall) (by first | decide | (simp; done) | exact ⟨by decide, by decide⟩)) (closed_bool _) ?_)
            refine aops_guard_t rfl rfl rfl (w_pure rfl (p_not rfl) ?_)
            refine aops_cons rfl (w_pure rfl (p_pick_f rfl rfl) ?_)
            refine aops_cons rfl (w_pure rfl (p_move rfl) ?_)
            refine aops_guard_t rfl rfl rfl (w_pure rfl (p_move rfl) ?_)
            refine aops_guard_t rfl rfl rfl (w_pure rfl (p_move rfl) ?_)
            refine aops_guard_t rfl rfl rfl (w_pure rfl (p_neq_same rfl rfl) ?_)
            refine aops_cons rfl (w_pure rfl (p_pick_f rfl rfl) ?_)
            refine aops_cons rfl (w_pure rfl (p_move rfl) ?_)
            refine aops_guard_t rfl rfl rfl (w_pure rfl (p_move rfl) ?_)
            refine aops_guard_t rfl rfl rfl (w_pure rfl (p_move rfl) ?_)
            refine aops_guard_t rfl rfl rfl (w_pure rfl (p_neq_bsame um_4 rfl rfl) ?_)
            refine aops_cons rfl (w_pure rfl (p_pick_f rfl rfl) ?_)
            refine aops_nil ?_
            refine a_cond_f rfl ?_
            refine a_skip ?_
            refine a_seq ?_
            refine a_region ?_
            refine aops_cons rfl (w_pure rfl (p_assign rfl) ?_)
            refine aops_nil ?_
            refine a_seq ?_
            refine a_region ?_
            refine aops_cons rfl (w_pure rfl (p_load_box_all ag_62 rfl (by repeat (first | exact Pick.here _ _ _ | apply Pick.next)) (by rfl) noX) ?_)
            refine aops_cons rfl (w_pure rfl (p_move rfl) ?_)
            refine aops_cons rfl (w_callR rfl rfl rfl cl_63 (cn_laws_markHall ..) ?_)
            refine aops_cons rfl (w_pure rfl (p_assign rfl) ?_)
            refine aops_nil ?_
            refine a_seq ?_
            refine a_region ?_
            refine aops_cons rfl (w_pure rfl (p_assign rfl) ?_)
            refine aops_nil ?_
            refine a_seq ?_
            refine a_region ?_
            refine aops_cons rfl (w_pure rfl (p_load_box_all ag_62 rfl (by repeat (first | exact Pick.here _ _ _ | apply Pick.next)) (by rfl) noX) ?_)
            refine aops_cons rfl (w_pure rfl (p_move rfl) ?_)
            refine aops_cons rfl (w_callLR rfl rfl rfl cl_65 (.cons (.agg (.cons .nil (.cons .nil .nil))) (.cons (.refl _) .nil)) (c_laws_heldHall (⟨[], []⟩ : Hall) (by first | decide | (simp; done) | exact ⟨by decide, by decide⟩) _ (by first | omega | (simp; done) | (simp; omega)) (by first | omega | (simp; done) | (simp; omega))) (closed_int _ _) ?_)
            refine aops_cons rfl (w_pure rfl (p_assign rfl) ?_)
            refine aops_nil ?_
            refine a_seq ?_
            refine a_seq ?_
            refine a_region ?_
            refine aops_cons rfl (w_pure rfl (p_move rfl) ?_)
            refine aops_cons rfl (w_pure rfl (p_lss rfl rfl) ?_)
            refine aops_nil ?_
            first | refine a_cond_d rfl (fun h5 => ?_) (fun h6 => ?_) | refine a_cond_n rfl (fun h5 => ?_) (fun h6 => ?_) | refine a_cond_nb rfl (fun h5 => ?_) (fun h6 => ?_) | refine a_cond rfl (fun h5 => ?_) (fun h6 => ?_)
            · (try simp only [Bool.not_eq_true', Bool.not_eq_false', Bool.not_eq_true, Bool.not_eq_false, decide_eq_true_eq, decide_eq_false_iff_not, List.length_map, List.length_range] at h5)
              refine a_seq ?_
              refine a_region ?_
              refine aops_cons rfl (w_pure rfl (p_assign rfl) ?_)
              refine aops_nil ?_
              refine a_ret ?_
              refine ret_ok (hands1 rfl (.tmp rfl)) (.nil _) ?_
              first | exact ⟨rfl, rfl⟩ | (exfalso; omega)
            · (try simp only [Bool.not_eq_true', Bool.not_eq_false', Bool.not_eq_true, Bool.not_eq_false, decide_eq_true_eq, decide_eq_false_iff_not, List.length_map, List.length_range] at h6)
              refine a_skip ?_
              refine a_seq ?_
              refine a_seq ?_
              refine a_region ?_
              refine aops_cons rfl (w_pure rfl (p_move rfl) ?_)
              refine aops_cons rfl (w_pure rfl (p_move rfl) ?_)
              refine aops_cons rfl (w_pure rfl (p_neq_same rfl rfl) ?_)
              refine aops_nil ?_
              refine a_cond_f rfl ?_
              refine a_skip ?_
              refine a_seq ?_
              refine a_region ?_
              refine aops_cons rfl (w_pure rfl (p_load_v_all ag_56 rfl (by rfl) noX) ?_)
              refine aops_cons rfl (w_callR rfl rfl rfl cl_56 (c_laws_toHall h hl0) ?_)
              refine aops_cons rfl (w_callR rfl rfl rfl cl_75 (cn_impl_TickHall h hl0 hA) ?_)
              refine aops_cons rfl (w_pure rfl (p_move rfl) ?_)
              refine aops_cons rfl (w_pure rfl (p_extract rfl rfl) ?_)
              refine aops_cons rfl (w_pure rfl (p_extract rfl rfl) ?_)
              refine aops_cons rfl (w_pure rfl (p_extract rfl rfl) ?_)
              refine aops_cons rfl (w_alloc rfl z_62 fun b6 => ?_)
              refine aops_cons rfl (w_store (cells' := [_, _]) rfl rfl rfl (by repeat (first | exact Pick.here _ _ _ | apply Pick.next)) cn_62 (by rfl) (by rfl) (by rfl) trivial ?_)
              refine aops_cons rfl (w_pure rfl (p_assign rfl) ?_)
              refine aops_cons rfl (w_pure rfl (p_assign rfl) ?_)
              refine aops_nil ?_
              refine a_seq ?_
              refine a_seq ?_
              refine a_region ?_
              refine aops_cons rfl (w_pure rfl (p_load_box_all ag_62 rfl (by repeat (first | exact Pick.here _ _ _ | apply Pick.next)) (by rfl) noX) ?_)
              refine aops_cons rfl (w_pure rfl (p_load_box_all ag_62 rfl (by repeat (first | exact Pick.here _ _ _ | apply Pick.next)) (by rfl) noX) ?_)
              refine aops_cons rfl (w_callLR rfl rfl rfl cl_59 (.cons (.agg (.cons .nil (.cons .nil .nil))) (.cons (.agg (.cons .nil (.cons .nil .nil))) .nil)) (c_laws_eqHall (⟨[], []⟩ : Hall) (by first | decide | (simp; done) | exact ⟨by decide, by decide⟩)) (closed_bool _) ?_)
              refine aops_cons rfl (w_pure rfl (p_not rfl) ?_)
              refine aops_cons rfl (w_pure rfl (p_move rfl) ?_)
              refine aops_guard_t rfl rfl rfl (w_pure rfl (p_move rfl) ?_)
              refine aops_guard_t rfl rfl rfl (w_pure rfl (p_move rfl) ?_)
              refine aops_guard_t rfl rfl rfl (w_pure rfl (p_neq_same rfl rfl) ?_)
              refine aops_cons rfl (w_pure rfl (p_pick_f rfl rfl) ?_)
              refine aops_cons rfl (w_pure rfl (p_move rfl) ?_)
              refine aops_guard_t rfl rfl rfl (w_pure rfl (p_move rfl) ?_)
              refine aops_guard_t rfl rfl rfl (w_pure rfl (p_move rfl) ?_)
              refine aops_guard_t rfl rfl rfl (w_pure rfl (p_neq_bsame um_4 rfl rfl) ?_)
              refine aops_cons rfl (w_pure rfl (p_pick_f rfl rfl) ?_)
              refine aops_nil ?_
              refine a_cond_f rfl ?_
              refine a_skip ?_
              refine a_seq ?_
              refine a_region ?_
              refine aops_cons rfl (w_pure rfl (p_assign rfl) ?_)
              refine aops_nil ?_
              refine a_seq ?_
              refine a_region ?_
              refine aops_cons rfl (w_pure rfl (p_load_box_all ag_62 rfl (by repeat (first | exact Pick.here _ _ _ | apply Pick.next)) (by rfl) noX) ?_)
              refine aops_cons rfl (w_pure rfl (p_move rfl) ?_)
              refine aops_cons rfl (w_callLR rfl rfl rfl cl_65 (.cons (.agg (.cons .nil (.cons .nil .nil))) (.cons (.refl _) .nil)) (c_laws_heldHall (⟨[], []⟩ : Hall) (by first | decide | (simp; done) | exact ⟨by decide, by decide⟩) _ (by first | omega | (simp; done) | (simp; omega)) (by first | omega | (simp; done) | (simp; omega))) (closed_int _ _) ?_)
              refine aops_cons rfl (w_pure rfl (p_assign rfl) ?_)
              refine aops_nil ?_
              refine a_seq ?_
              refine a_seq ?_
              refine a_region ?_
              refine aops_cons rfl (w_pure rfl (p_move rfl) ?_)
              refine aops_cons rfl (w_pure rfl (p_lss rfl rfl) ?_)
              refine aops_nil ?_
              first | refine a_cond_d rfl (fun h7 => ?_) (fun h8 => ?_) | refine a_cond_n rfl (fun h7 => ?_) (fun h8 => ?_) | refine a_cond_nb rfl (fun h7 => ?_) (fun h8 => ?_) | refine a_cond rfl (fun h7 => ?_) (fun h8 => ?_)
              · (try simp only [Bool.not_eq_true', Bool.not_eq_false', Bool.not_eq_true, Bool.not_eq_false, decide_eq_true_eq, decide_eq_false_iff_not, List.length_map, List.length_range] at h7)
                refine a_seq ?_
                refine a_region ?_
                refine aops_cons rfl (w_pure rfl (p_assign rfl) ?_)
                refine aops_nil ?_
                refine a_ret ?_
                refine ret_ok (hands1 rfl (.tmp rfl)) (.nil _) ?_
                first | exact ⟨rfl, rfl⟩ | (exfalso; omega)
              · (try simp only [Bool.not_eq_true', Bool.not_eq_false', Bool.not_eq_true, Bool.not_eq_false, decide_eq_true_eq, decide_eq_false_iff_not, List.length_map, List.length_range] at h8)
                refine a_skip ?_
                refine a_seq ?_
                refine a_seq ?_
                refine a_region ?_
                refine aops_cons rfl (w_pure rfl (p_move rfl) ?_)
                refine aops_cons rfl (w_pure rfl (p_move rfl) ?_)
                refine aops_cons rfl (w_pure rfl (p_neq_same rfl rfl) ?_)
                refine aops_nil ?_
                refine a_cond_f rfl ?_
                refine a_skip ?_
                refine a_seq ?_
                refine a_region ?_
                refine aops_cons rfl (w_pure rfl (p_assign rfl) ?_)
                refine aops_nil ?_
                refine a_ret ?_
                refine ret_ok (hands1 rfl (.tmp rfl)) (.nil _) ?_
                first | exact ⟨rfl, rfl⟩ | (exfalso; omega)
        exact all_nil
      exact all_nil

theorem c_impl_BlockedIds_1 (h : Hall) (j : Nat) (hj : j < h.list.length) (he : h.events.length = h.list.length) : ACalls Try.prog 116 [.int .i64 (j : Int), .vptr (eHall h)] [] (Ret (.bool (blk h j))) := by
  refine a_enter Try.func116 rfl rfl (fun w0 M0 => ?_)
  refine a_seq ?_
  refine a_region ?_
  refine aops_cons rfl (w_pure rfl (p_assign rfl) ?_)
  refine aops_nil ?_
  refine a_seq ?_
  refine a_region ?_
  refine aops_cons rfl (w_pure rfl (p_field_v fo_62_0 rfl) ?_)
  refine aops_cons rfl (w_pure rfl (p_load_v ag_24 rfl (by rfl) noX) ?_)
  refine aops_cons rfl (w_pure rfl (p_move rfl) ?_)
  refine aops_cons rfl (w_pure rfl (p_index_sl j rfl rfl rfl (rowD _ _ zVcpu (by omega)) es_24) ?_)
  refine aops_cons rfl (w_pure rfl (p_field_v fo_46_3 rfl) ?_)
  refine aops_cons rfl (w_pure rfl (p_load_v ag_4 rfl (by rfl) noX) ?_)
  refine aops_cons rfl (w_pure rfl (p_assign rfl) ?_)
  refine aops_nil ?_
  refine a_ret ?_
  refine ret_ok (hands1 rfl (.tmp rfl)) (.nil _) ?_
  exact ⟨rfl, rfl⟩

theorem co_idsWhere_BlockedIds (h : Hall) (hn : SmallHall h) (he : h.events.length = h.list.length) : ACalls Try.prog 115 [.agg (eHall h), .fn 116 [.vptr (eHall h)]] [] (RetOwn 3 1 ((blkIds h).map eInt)) := by
  have hnn := hn
  obtain ⟨hn1, hn2⟩ := hnn
  refine a_enter Try.func115 rfl rfl (fun w0 M0 => ?_)
  refine a_seq ?_
  refine a_region ?_
  refine aops_cons rfl (w_box_v rfl rfl rfl ?_)
  refine aops_cons rfl (w_pure rfl (p_assign rfl) ?_)
  refine aops_nil ?_
  refine a_seq ?_
  refine a_region ?_
  refine aops_cons rfl (w_litM eInt [] rfl el_34 rfl rfl rfl rfl rfl fun b1 => ?_)
  refine aops_cons rfl (w_pure rfl (p_assign rfl) ?_)
  refine aops_nil ?_
  refine a_seq ?_
  refine a_seq ?_
  refine a_region ?_
  refine aops_cons rfl (w_pure rfl (p_field_v fo_62_0 rfl) ?_)
  refine aops_cons rfl (w_pure rfl (p_load_v ag_24 rfl (by rfl) noX) ?_)
  refine aops_cons rfl (w_pure rfl (p_len sl_24 rfl rfl) ?_)
  refine aops_cons rfl (w_pure rfl (p_move rfl) ?_)
  refine aops_nil ?_
  refine a_block ?_
  refine a_loop (ι := Nat × Nat × List Int) (fun ⟨i, b, l⟩ => i ≤ h.list.length ∧ l = (idsOf h.list (blk h) i)) (fun ⟨i, b, l⟩ => [(12, .int .i64 (i : Int)), (5, .own 1 b 0 l.length)]) (fun ⟨i, b, l⟩ => [(b, .arr 3 1 (l.map eInt))]) (fun ⟨i, b, l⟩ => h.list.length - i) (0, b1, []) ⟨Nat.zero_le _, rfl⟩ (by repeat (first | exact Knows.nil | refine Knows.cons (by rfl) ?_)) (by repeat (first | exact Picks.nil _ | exact Pick.here _ _ _ | apply Pick.next | apply Picks.cons)) ?_
  rintro ⟨i, b, l⟩ ⟨hi, hI⟩
  have hln := idsOf_len h.list (blk h) i; rw [← hI] at hln
  refine a_seq ?_
  refine a_region ?_
  refine aops_cons rfl (w_pure rfl (p_lss rfl rfl) ?_)
  refine aops_nil ?_
  refine a_seq ?_
  first | refine a_cond_d rfl (fun h1 => ?_) (fun h2 => ?_) | refine a_cond_n rfl (fun h1 => ?_) (fun h2 => ?_) | refine a_cond_nb rfl (fun h1 => ?_) (fun h2 => ?_) | refine a_cond rfl (fun h1 => ?_) (fun h2 => ?_)
  · (try simp only [Bool.not_eq_true', Bool.not_eq_false', Bool.not_eq_true, Bool.not_eq_false, decide_eq_true_eq, decide_eq_false_iff_not, List.length_map, List.length_range] at h1)
    refine a_skip ?_
    refine a_seq ?_
    refine a_block ?_
    refine a_seq ?_
    refine a_region ?_
    refine aops_cons rfl (w_pure rfl (p_move rfl) ?_)
    refine aops_cons rfl (w_pure rfl (p_index_sl _ rfl rfl rfl (rowD _ _ zVcpu (by omega)) es_24) ?_)
    refine aops_cons rfl (w_pure rfl (p_load_v_all ag_46 rfl (by rfl) noX) ?_)
    refine aops_cons rfl (w_alloc rfl z_46 fun b2 => ?_)
    refine aops_cons rfl (w_pure rfl (p_assign rfl) ?_)
    refine aops_cons rfl (w_store (cells' := [_, _, _, _, _]) rfl rfl rfl (by repeat (first | exact Pick.here _ _ _ | apply Pick.next)) cn_46 (by rfl) (by rfl) (by rfl) trivial ?_)
    refine aops_nil ?_
    refine a_seq ?_
    refine a_region ?_
    refine aops_cons rfl (w_pure rfl (p_move rfl) ?_)
    refine aops_cons rfl (w_pure rfl (p_move rfl) ?_)
    refine aops_cons rfl (w_callR rfl rfl rfl cl_116 (c_impl_BlockedIds_1 h i (by omega) he) ?_)
    refine aops_nil ?_
    first | refine a_cond_d rfl (fun h3 => ?_) (fun h4 => ?_) | refine a_cond_n rfl (fun h3 => ?_) (fun h4 => ?_) | refine a_cond_nb rfl (fun h3 => ?_) (fun h4 => ?_) | refine a_cond rfl (fun h3 => ?_) (fun h4 => ?_)
    · (try simp only [Bool.not_eq_true', Bool.not_eq_false', Bool.not_eq_true, Bool.not_eq_false, decide_eq_true_eq, decide_eq_false_iff_not, List.length_map, List.length_range] at h3)
      refine a_region ?_
      refine aops_cons rfl (w_pure rfl (p_move rfl) ?_)
      refine aops_cons rfl (w_pure rfl (p_field_box fo_46_0 rfl) ?_)
      refine aops_cons rfl (w_pure rfl (p_load_box ag_3 rfl (by repeat (first | exact Pick.here _ _ _ | apply Pick.next)) (by rfl) noX) ?_)
      refine aops_cons rfl (w_lit_vM eInt [(h.list.getD i zVcpu).id] rfl el_34 rfl rfl rfl rfl rfl ?_)
      refine aops_cons rfl (w_appendM eInt rfl el_34 rfl rfl (by repeat (first | exact Pick.here _ _ _ | apply Pick.next)) rfl (.sl _) (fun _ => rfl) (fun _ => rfl) (by simp; omega) (by simp; omega) trivial fun b3 => ?_)
      refine aops_cons rfl (w_pure rfl (p_assign rfl) ?_)
      refine aops_nil ?_
      refine a_region ?_
      refine aops_cons rfl (w_pure rfl (p_add' rfl rfl ⟨by omega, by omega⟩) ?_)
      refine aops_cons rfl (w_pure rfl (p_move rfl) ?_)
      refine aops_nil ?_
      refine ⟨(i + 1, _, _), _, ?_, ?_, (by repeat (first | exact Knows.nil | refine Knows.cons (by rfl) ?_)), (by repeat (first | exact Back.refl _ _ | refine Back.cons (by rfl) ?_)), (by repeat (first | exact Picks.nil _ | exact Pick.here _ _ _ | apply Pick.next | apply Picks.cons))⟩
      · refine ⟨by omega, ?_⟩; rw [idsOf, ← hI]; first | exact (if_pos (by assumption)).symm | exact (if_neg (by rw [show (blk h) i = false from by assumption]; decide)).symm
      · (try dsimp only); omega
    · (try simp only [Bool.not_eq_true', Bool.not_eq_false', Bool.not_eq_true, Bool.not_eq_false, decide_eq_true_eq, decide_eq_false_iff_not, List.length_map, List.length_range] at h4)
      refine a_skip ?_
      refine a_region ?_
      refine aops_cons rfl (w_pure rfl (p_add' rfl rfl ⟨by omega, by omega⟩) ?_)
      refine aops_cons rfl (w_pure rfl (p_move rfl) ?_)
      refine aops_nil ?_
      refine ⟨(i + 1, _, _), _, ?_, ?_, (by repeat (first | exact Knows.nil | refine Knows.cons (by rfl) ?_)), (by repeat (first | exact Back.refl _ _ | refine Back.cons (by rfl) ?_)), (by repeat (first | exact Picks.nil _ | exact Pick.here _ _ _ | apply Pick.next | apply Picks.cons))⟩
      · refine ⟨by omega, ?_⟩; rw [idsOf, ← hI]; first | exact (if_pos (by assumption)).symm | exact (if_neg (by rw [show (blk h) i = false from by assumption]; decide)).symm
      · (try dsimp only); omega
  · (try simp only [Bool.not_eq_true', Bool.not_eq_false', Bool.not_eq_true, Bool.not_eq_false, decide_eq_true_eq, decide_eq_false_iff_not, List.length_map, List.length_range] at h2)
    refine a_exit ?_
    refine a_seq ?_
    refine a_region ?_
    refine aops_cons rfl (w_pure rfl (p_move rfl) ?_)
    refine aops_cons rfl (w_pure rfl (p_assign rfl) ?_)
    refine aops_nil ?_
    refine a_ret ?_
    refine ret_ok (hands1 rfl (.tmp rfl)) (.cons (.here _ _ _) (.nil _)) ?_
    have hx : i = h.list.length := (by omega); subst hx; subst hI; exact ⟨b, by rw [List.length_map]; rfl, rfl⟩

theorem co_spec_BlockedIds (h : Hall) (hn : SmallHall h) (hA : IsHall h) : ACalls Try.prog 66 [.agg (eHall h)] [] (fun r st => ∃ b1, r = .tup [.own 1 b1 0 (blkIds h).length, .bool true] ∧ st = [(b1, .arr 3 1 ((blkIds h).map eInt))]) := by
  have hnn := hn
  obtain ⟨hn1, hn2⟩ := hnn
  refine a_enter Try.func66 rfl rfl (fun w0 M0 => ?_)
  refine a_seq ?_
  refine a_region ?_
  refine aops_cons rfl (w_box_v rfl rfl rfl ?_)
  refine aops_cons rfl (w_pure rfl (p_assign rfl) ?_)
  refine aops_cons rfl (w_pure rfl (p_assign rfl) ?_)
  refine aops_nil ?_
  refine a_seq ?_
  refine a_region ?_
  refine aops_cons rfl (w_litM eInt [] rfl el_34 rfl rfl rfl rfl rfl fun b1 => ?_)
  refine aops_cons rfl (w_pure rfl (p_assign rfl) ?_)
  refine aops_nil ?_
  refine a_seq ?_
  refine a_seq ?_
  refine a_region ?_
  refine aops_cons rfl (w_pure rfl (p_load_v_all ag_62 rfl (by rfl) noX) ?_)
  refine aops_cons rfl (w_callR rfl rfl rfl cl_114 (c_spec_l15Good _ ‹_›) ?_)
  refine aops_cons rfl (w_pure rfl (p_not rfl) ?_)
  refine aops_nil ?_
  first | refine a_cond_d rfl (fun h1 => ?_) (fun h2 => ?_) | refine a_cond_n rfl (fun h1 => ?_) (fun h2 => ?_) | refine a_cond_nb rfl (fun h1 => ?_) (fun h2 => ?_) | refine a_cond rfl (fun h1 => ?_) (fun h2 => ?_)
  · (try simp only [Bool.not_eq_true', Bool.not_eq_false', Bool.not_eq_true, Bool.not_eq_false, decide_eq_true_eq, decide_eq_false_iff_not, List.length_map, List.length_range] at h1)
    refine a_seq ?_
    refine a_region ?_
    refine aops_cons rfl (w_pure rfl (p_move rfl) ?_)
    refine aops_cons rfl (w_pure rfl (p_assign rfl) ?_)
    refine aops_cons rfl (w_pure rfl (p_assign rfl) ?_)
    refine aops_nil ?_
    refine a_ret ?_
    refine ret_ok (hands2 rfl (.tmp rfl) (.tmp rfl)) (st' := [(b1, _)]) (.cons (by repeat (first | exact Pick.here _ _ _ | apply Pick.next)) (.nil _)) ?_
    first | exact absurd hA (by assumption) | (have hx : i = h.list.length := (by omega); subst hx; subst hI; exact ⟨b, rfl, rfl⟩)
  · (try simp only [Bool.not_eq_true', Bool.not_eq_false', Bool.not_eq_true, Bool.not_eq_false, decide_eq_true_eq, decide_eq_false_iff_not, List.length_map, List.length_range] at h2)
    refine a_skip ?_
    refine a_seq ?_
    refine a_seq ?_
    have hsm := hA.small
    refine a_region ?_
    refine aops_cons rfl (w_pure rfl (p_assign rfl) ?_)
    refine aops_nil ?_
    refine a_block ?_
    refine a_loop (ι := Nat × Nat × List Int) (fun ⟨i, b, l⟩ => i ≤ h.list.length ∧ l = (idsOf h.list (blk h) i)) (fun ⟨i, b, l⟩ => [(5, .int .i64 (i : Int)), (4, .own 1 b 0 l.length)]) (fun ⟨i, b, l⟩ => [(b, .arr 3 1 (l.map eInt))]) (fun ⟨i, b, l⟩ => h.list.length - i) (0, b1, []) ⟨Nat.zero_le _, rfl⟩ (by repeat (first | exact Knows.nil | refine Knows.cons (by rfl) ?_)) (by repeat (first | exact Picks.nil _ | exact Pick.here _ _ _ | apply Pick.next | apply Picks.cons)) ?_
    rintro ⟨i, b, l⟩ ⟨hi, hI⟩
    have hln := idsOf_len h.list (blk h) i; rw [← hI] at hln
    refine a_seq ?_
    refine a_seq ?_
    skip
    refine a_region ?_
    refine aops_cons rfl (w_pure rfl (p_move rfl) ?_)
    refine aops_cons rfl (w_pure rfl (p_field_v fo_62_0 rfl) ?_)
    refine aops_cons rfl (w_pure rfl (p_load_v ag_24 rfl (by rfl) noX) ?_)
    refine aops_cons rfl (w_pure rfl (p_len sl_24 rfl rfl) ?_)
    refine aops_cons rfl (w_pure rfl (p_lss rfl rfl) ?_)
    refine aops_nil ?_
    first | refine a_cond_d rfl (fun h3 => ?_) (fun h4 => ?_) | refine a_cond_n rfl (fun h3 => ?_) (fun h4 => ?_) | refine a_cond_nb rfl (fun h3 => ?_) (fun h4 => ?_) | refine a_cond rfl (fun h3 => ?_) (fun h4 => ?_)
    · (try simp only [Bool.not_eq_true', Bool.not_eq_false', Bool.not_eq_true, Bool.not_eq_false, decide_eq_true_eq, decide_eq_false_iff_not, List.length_map, List.length_range] at h3)
      refine a_skip ?_
      refine a_seq ?_
      refine a_block ?_
      refine a_seq ?_
      refine a_region ?_
      refine aops_cons rfl (w_pure rfl (p_field_v fo_62_0 rfl) ?_)
      refine aops_cons rfl (w_pure rfl (p_load_v ag_24 rfl (by rfl) noX) ?_)
      refine aops_cons rfl (w_pure rfl (p_move rfl) ?_)
      refine aops_cons rfl (w_pure rfl (p_index_sl _ rfl rfl rfl (rowD _ _ zVcpu (by omega)) es_24) ?_)
      refine aops_cons rfl (w_pure rfl (p_field_v fo_46_3 rfl) ?_)
      refine aops_cons rfl (w_pure rfl (p_load_v ag_4 rfl (by rfl) noX) ?_)
      refine aops_nil ?_
      first | refine a_cond_d rfl (fun h5 => ?_) (fun h6 => ?_) | refine a_cond_n rfl (fun h5 => ?_) (fun h6 => ?_) | refine a_cond_nb rfl (fun h5 => ?_) (fun h6 => ?_) | refine a_cond rfl (fun h5 => ?_) (fun h6 => ?_)
      · (try simp only [Bool.not_eq_true', Bool.not_eq_false', Bool.not_eq_true, Bool.not_eq_false, decide_eq_true_eq, decide_eq_false_iff_not, List.length_map, List.length_range] at h5)
        refine a_region ?_
        refine aops_cons rfl (w_pure rfl (p_move rfl) ?_)
        refine aops_cons rfl (w_pure rfl (p_field_v fo_62_0 rfl) ?_)
        refine aops_cons rfl (w_pure rfl (p_load_v ag_24 rfl (by rfl) noX) ?_)
        refine aops_cons rfl (w_pure rfl (p_move rfl) ?_)
        refine aops_cons rfl (w_pure rfl (p_index_sl _ rfl rfl rfl (rowD _ _ zVcpu (by omega)) es_24) ?_)
        refine aops_cons rfl (w_pure rfl (p_field_v fo_46_0 rfl) ?_)
        refine aops_cons rfl (w_pure rfl (p_load_v ag_3 rfl (by rfl) noX) ?_)
        refine aops_cons rfl (w_lit_vM eInt [(h.list.getD i zVcpu).id] rfl el_34 rfl rfl rfl rfl rfl ?_)
        refine aops_cons rfl (w_appendM eInt rfl el_34 rfl rfl (by repeat (first | exact Pick.here _ _ _ | apply Pick.next)) rfl (.sl _) (fun _ => rfl) (fun _ => rfl) (by simp; omega) (by simp; omega) trivial fun b2 => ?_)
        refine aops_cons rfl (w_pure rfl (p_assign rfl) ?_)
        refine aops_nil ?_
        refine a_region ?_
        refine aops_cons rfl (w_pure rfl (p_move rfl) ?_)
        refine aops_cons rfl (w_pure rfl (p_add' rfl rfl ⟨by omega, by omega⟩) ?_)
        refine aops_cons rfl (w_pure rfl (p_assign rfl) ?_)
        refine aops_nil ?_
        refine ⟨(i + 1, _, _), _, ?_, ?_, (by repeat (first | exact Knows.nil | refine Knows.cons (by rfl) ?_)), (by repeat (first | exact Back.refl _ _ | refine Back.cons (by rfl) ?_)), (by repeat (first | exact Picks.nil _ | exact Pick.here _ _ _ | apply Pick.next | apply Picks.cons))⟩
        · refine ⟨by omega, ?_⟩; rw [idsOf, ← hI]; first | exact (if_pos (by assumption)).symm | exact (if_neg (by rw [show (blk h) i = false from by assumption]; decide)).symm
        · (try dsimp only); omega
      · (try simp only [Bool.not_eq_true', Bool.not_eq_false', Bool.not_eq_true, Bool.not_eq_false, decide_eq_true_eq, decide_eq_false_iff_not, List.length_map, List.length_range] at h6)
        refine a_skip ?_
        refine a_region ?_
        refine aops_cons rfl (w_pure rfl (p_move rfl) ?_)
        refine aops_cons rfl (w_pure rfl (p_add' rfl rfl ⟨by omega, by omega⟩) ?_)
        refine aops_cons rfl (w_pure rfl (p_assign rfl) ?_)
        refine aops_nil ?_
        refine ⟨(i + 1, _, _), _, ?_, ?_, (by repeat (first | exact Knows.nil | refine Knows.cons (by rfl) ?_)), (by repeat (first | exact Back.refl _ _ | refine Back.cons (by rfl) ?_)), (by repeat (first | exact Picks.nil _ | exact Pick.here _ _ _ | apply Pick.next | apply Picks.cons))⟩
        · refine ⟨by omega, ?_⟩; rw [idsOf, ← hI]; first | exact (if_pos (by assumption)).symm | exact (if_neg (by rw [show (blk h) i = false from by assumption]; decide)).symm
        · (try dsimp only); omega
    · (try simp only [Bool.not_eq_true', Bool.not_eq_false', Bool.not_eq_true, Bool.not_eq_false, decide_eq_true_eq, decide_eq_false_iff_not, List.length_map, List.length_range] at h4)
      refine a_exit ?_
      refine a_seq ?_
      refine a_region ?_
      refine aops_cons rfl (w_pure rfl (p_move rfl) ?_)
      refine aops_cons rfl (w_pure rfl (p_assign rfl) ?_)
      refine aops_cons rfl (w_pure rfl (p_assign rfl) ?_)
      refine aops_nil ?_
      refine a_ret ?_
      refine ret_ok (hands2 rfl (.tmp rfl) (.tmp rfl)) (st' := [(b, _)]) (.cons (by repeat (first | exact Pick.here _ _ _ | apply Pick.next)) (.nil _)) ?_
      first | exact absurd hA (by assumption) | (have hx : i = h.list.length := (by omega); subst hx; subst hI; exact ⟨b, rfl, rfl⟩)

theorem cy_spec_BlockedIds (h : Hall) (hn : SmallHall h) (hA : IsHall h) : ACalls Try.prog 66 [.agg (eHall h)] [] (Ret (.tup [.sl ((blkIds h).map eInt), .bool true])) :=
  (co_spec_BlockedIds h hn hA).freeze (by rintro _ _ ⟨_, rfl, rfl⟩; exact (.tup (.cons (.own (by repeat (first | exact List.Mem.head _ | apply List.Mem.tail)) (List.length_map _)) (.cons (.refl _) .nil))))

theorem con_spec_BlockedIds (h : Hall) (hn : SmallHall h) (hA : ¬ IsHall h) : ACalls Try.prog 66 [.agg (eHall h)] [] (fun r st => ∃ b1, r = .tup [.own 1 b1 0 ([] : List Int).length, .bool false] ∧ st = [(b1, .arr 3 1 (([] : List Int).map eInt))]) := by
  have hnn := hn
  obtain ⟨hn1, hn2⟩ := hnn
  refine a_enter Try.func66 rfl rfl (fun w0 M0 => ?_)
  refine a_seq ?_
  refine a_region ?_
  refine aops_cons rfl (w_box_v rfl rfl rfl ?_)
  refine aops_cons rfl (w_pure rfl (p_assign rfl) ?_)
  refine aops_cons rfl (w_pure rfl (p_assign rfl) ?_)
  refine aops_nil ?_
  refine a_seq ?_
  refine a_region ?_
  refine aops_cons rfl (w_litM eInt [] rfl el_34 rfl rfl rfl rfl rfl fun b1 => ?_)
  refine aops_cons rfl (w_pure rfl (p_assign rfl) ?_)
  refine aops_nil ?_
  refine a_seq ?_
  refine a_seq ?_
  refine a_region ?_
  refine aops_cons rfl (w_pure rfl (p_load_v_all ag_62 rfl (by rfl) noX) ?_)
  refine aops_cons rfl (w_callR rfl rfl rfl cl_114 (c_spec_l15Good _ ‹_›) ?_)
  refine aops_cons rfl (w_pure rfl (p_not rfl) ?_)
  refine aops_nil ?_
  first | refine a_cond_d rfl (fun h1 => ?_) (fun h2 => ?_) | refine a_cond_n rfl (fun h1 => ?_) (fun h2 => ?_) | refine a_cond_nb rfl (fun h1 => ?_) (fun h2 => ?_) | refine a_cond rfl (fun h1 => ?_) (fun h2 => ?_)
  · (try simp only [Bool.not_eq_true', Bool.not_eq_false', Bool.not_eq_true, Bool.not_eq_false, decide_eq_true_eq, decide_eq_false_iff_not, List.length_map, List.length_range] at h1)
    refine a_seq ?_
    refine a_region ?_
    refine aops_cons rfl (w_pure rfl (p_move rfl) ?_)
    refine aops_cons rfl (w_pure rfl (p_assign rfl) ?_)
    refine aops_cons rfl (w_pure rfl (p_assign rfl) ?_)
    refine aops_nil ?_
    refine a_ret ?_
    refine ret_ok (hands2 rfl (.tmp rfl) (.tmp rfl)) (st' := [(b1, _)]) (.cons (by repeat (first | exact Pick.here _ _ _ | apply Pick.next)) (.nil _)) ?_
    exact ⟨_, rfl, rfl⟩
  · (try simp only [Bool.not_eq_true', Bool.not_eq_false', Bool.not_eq_true, Bool.not_eq_false, decide_eq_true_eq, decide_eq_false_iff_not, List.length_map, List.length_range] at h2)
    refine a_skip ?_
    refine a_seq ?_
    refine a_seq ?_
    exact absurd (by assumption) hA

theorem cn_spec_BlockedIds (h : Hall) (hn : SmallHall h) (hA : ¬ IsHall h) : ACalls Try.prog 66 [.agg (eHall h)] [] (Ret (.tup [.sl (([] : List Int).map eInt), .bool false])) :=
  (con_spec_BlockedIds h hn hA).freeze (by rintro _ _ ⟨_, rfl, rfl⟩; exact (.tup (.cons (.own (by repeat (first | exact List.Mem.head _ | apply List.Mem.tail)) (List.length_map _)) (.cons (.refl _) .nil))))

theorem cy_impl_BlockedIds (h : Hall) (hn : SmallHall h) (hA : IsHall h) : ACalls Try.prog 67 [.agg (eHall h)] [] (fun r st => ∃ b1, r = .tup [.own 1 b1 0 (blkIds h).length, .bool true] ∧ st = [(b1, .arr 3 1 ((blkIds h).map eInt))]) := by
  have hnn := hn
  obtain ⟨hn1, hn2⟩ := hnn
  refine a_enter Try.func67 rfl rfl (fun w0 M0 => ?_)
  refine a_seq ?_
  refine a_region ?_
  refine aops_cons rfl (w_box_v rfl rfl rfl ?_)
  refine aops_cons rfl (w_pure rfl (p_assign rfl) ?_)
  refine aops_cons rfl (w_pure rfl (p_assign rfl) ?_)
  refine aops_nil ?_
  refine a_seq ?_
  refine a_seq ?_
  refine a_region ?_
  refine aops_cons rfl (w_pure rfl (p_load_v_all ag_62 rfl (by rfl) noX) ?_)
  refine aops_cons rfl (w_callR rfl rfl rfl cl_81 (c_impl_IsHall _ ‹_›) ?_)
  refine aops_cons rfl (w_pure rfl (p_not rfl) ?_)
  refine aops_nil ?_
  first | refine a_cond_d rfl (fun h1 => ?_) (fun h2 => ?_) | refine a_cond_n rfl (fun h1 => ?_) (fun h2 => ?_) | refine a_cond_nb rfl (fun h1 => ?_) (fun h2 => ?_) | refine a_cond rfl (fun h1 => ?_) (fun h2 => ?_)
  · (try simp only [Bool.not_eq_true', Bool.not_eq_false', Bool.not_eq_true, Bool.not_eq_false, decide_eq_true_eq, decide_eq_false_iff_not, List.length_map, List.length_range] at h1)
    refine a_seq ?_
    refine a_region ?_
    refine aops_cons rfl (w_pure rfl (p_assign rfl) ?_)
    refine aops_cons rfl (w_pure rfl (p_assign rfl) ?_)
    refine aops_nil ?_
    refine a_ret ?_
    refine ret_ok (hands2 rfl (.tmp rfl) (.tmp rfl)) (.nil _) ?_
    first | exact absurd hA (by assumption) | exact ⟨_, rfl, rfl⟩
  · (try simp only [Bool.not_eq_true', Bool.not_eq_false', Bool.not_eq_true, Bool.not_eq_false, decide_eq_true_eq, decide_eq_false_iff_not, List.length_map, List.length_range] at h2)
    refine a_skip ?_
    refine a_seq ?_
    refine a_region ?_
    refine aops_cons rfl (w_pure rfl (p_load_v_all ag_62 rfl (by rfl) noX) ?_)
    refine aops_cons rfl (w_pure rfl (p_func rfl) ?_)
    refine aops_cons rfl (w_call rfl rfl rfl cl_115 ((co_idsWhere_BlockedIds h (by assumption) hA.1.2).mono fun _ _ h => h.len) ?_)
    rintro _ _ ⟨b1, rfl, rfl⟩
    refine aops_cons rfl (w_pure rfl (p_assign rfl) ?_)
    refine aops_cons rfl (w_pure rfl (p_assign rfl) ?_)
    refine aops_nil ?_
    refine a_ret ?_
    refine ret_ok (hands2 rfl (.tmp rfl) (.tmp rfl)) (st' := [(b1, _)]) (.cons (by repeat (first | exact Pick.here _ _ _ | apply Pick.next)) (.nil _)) ?_
    first | exact absurd hA (by assumption) | exact ⟨_, rfl, rfl⟩

theorem cf_impl_BlockedIds (h : Hall) (hn : SmallHall h) (hA : IsHall h) : ACalls Try.prog 67 [.agg (eHall h)] [] (Ret (.tup [.sl ((blkIds h).map eInt), .bool true])) :=
  (cy_impl_BlockedIds h hn hA).freeze (by rintro _ _ ⟨_, rfl, rfl⟩; exact (.tup (.cons (.own (by repeat (first | exact List.Mem.head _ | apply List.Mem.tail)) (List.length_map _)) (.cons (.refl _) .nil))))

theorem cn_impl_BlockedIds (h : Hall) (hn : SmallHall h) (hA : ¬ IsHall h) : ACalls Try.prog 67 [.agg (eHall h)] [] (Ret (.tup [.nil, .bool false])) := by
  have hnn := hn
  obtain ⟨hn1, hn2⟩ := hnn
  refine a_enter Try.func67 rfl rfl (fun w0 M0 => ?_)
  refine a_seq ?_
  refine a_region ?_
  refine aops_cons rfl (w_box_v rfl rfl rfl ?_)
  refine aops_cons rfl (w_pure rfl (p_assign rfl) ?_)
  refine aops_cons rfl (w_pure rfl (p_assign rfl) ?_)
  refine aops_nil ?_
  refine a_seq ?_
  refine a_seq ?_
  refine a_region ?_
  refine aops_cons rfl (w_pure rfl (p_load_v_all ag_62 rfl (by rfl) noX) ?_)
  refine aops_cons rfl (w_callR rfl rfl rfl cl_81 (c_impl_IsHall _ ‹_›) ?_)
  refine aops_cons rfl (w_pure rfl (p_not rfl) ?_)
  refine aops_nil ?_
  first | refine a_cond_d rfl (fun h1 => ?_) (fun h2 => ?_) | refine a_cond_n rfl (fun h1 => ?_) (fun h2 => ?_) | refine a_cond_nb rfl (fun h1 => ?_) (fun h2 => ?_) | refine a_cond rfl (fun h1 => ?_) (fun h2 => ?_)
  · (try simp only [Bool.not_eq_true', Bool.not_eq_false', Bool.not_eq_true, Bool.not_eq_false, decide_eq_true_eq, decide_eq_false_iff_not, List.length_map, List.length_range] at h1)
    refine a_seq ?_
    refine a_region ?_
    refine aops_cons rfl (w_pure rfl (p_assign rfl) ?_)
    refine aops_cons rfl (w_pure rfl (p_assign rfl) ?_)
    refine aops_nil ?_
    refine a_ret ?_
    refine ret_ok (hands2 rfl (.tmp rfl) (.tmp rfl)) (.nil _) ?_
    exact ⟨rfl, rfl⟩
  · (try simp only [Bool.not_eq_true', Bool.not_eq_false', Bool.not_eq_true, Bool.not_eq_false, decide_eq_true_eq, decide_eq_false_iff_not, List.length_map, List.length_range] at h2)
    refine a_skip ?_
    refine a_seq ?_
    exact absurd (by assumption) hA

set_option maxHeartbeats 2000000 in
theorem c_laws_FnExactBlockedIds (h : Hall) (_hc0 : okHall h) : ACalls Try.prog 11 [.agg (eHall h)] [] (Ret (.bool true)) := by
  have hm0 : h.list.length ≤ 9223372036854775807 ∧ h.events.length ≤ 9223372036854775807 := ⟨_hc0.1.2, _hc0.2.1.2⟩
  have hq0 : szHall h 1048576 ≤ 1048576 := szHall_ub (Int.le_refl _)
  by_cases hA : IsHall h
  all_goals refine a_enter Try.func11 rfl rfl (fun w0 M0 => ?_)
  · skip
    refine a_seq ?_
    refine a_region ?_
    refine aops_cons rfl (w_box_v rfl rfl rfl ?_)
    refine aops_cons rfl (w_pure rfl (p_assign rfl) ?_)
    refine aops_nil ?_
    refine a_seq ?_
    refine a_region ?_
    refine aops_cons rfl (w_pure rfl (p_assign rfl) ?_)
    refine aops_nil ?_
    refine a_seq ?_
    refine a_region ?_
    refine aops_cons rfl (w_pure rfl (p_load_v_all ag_56 rfl (by rfl) noX) ?_)
    refine aops_cons rfl (w_pure rfl (p_move rfl) ?_)
    refine aops_cons rfl (w_callR rfl rfl rfl cl_53 (c_laws_szHall _ (by assumption) _ (by omega) (by omega)) ?_)
    refine aops_cons rfl (w_pure rfl (p_assign rfl) ?_)
    refine aops_nil ?_
    refine a_seq ?_
    refine a_seq ?_
    refine a_region ?_
    refine aops_cons rfl (w_pure rfl (p_move rfl) ?_)
    refine aops_cons rfl (w_pure rfl (p_lss rfl rfl) ?_)
    refine aops_nil ?_
    first | refine a_cond_d rfl (fun h1 => ?_) (fun h2 => ?_) | refine a_cond_n rfl (fun h1 => ?_) (fun h2 => ?_) | refine a_cond_nb rfl (fun h1 => ?_) (fun h2 => ?_) | refine a_cond rfl (fun h1 => ?_) (fun h2 => ?_)
    · (try simp only [Bool.not_eq_true', Bool.not_eq_false', Bool.not_eq_true, Bool.not_eq_false, decide_eq_true_eq, decide_eq_false_iff_not, List.length_map, List.length_range] at h1)
      refine a_seq ?_
      refine a_region ?_
      refine aops_cons rfl (w_pure rfl (p_assign rfl) ?_)
      refine aops_nil ?_
      refine a_ret ?_
      refine ret_ok (hands1 rfl (.tmp rfl)) (.nil _) ?_
      first | exact ⟨rfl, rfl⟩ | (exfalso; omega)
    · (try simp only [Bool.not_eq_true', Bool.not_eq_false', Bool.not_eq_true, Bool.not_eq_false, decide_eq_true_eq, decide_eq_false_iff_not, List.length_map, List.length_range] at h2)
      refine a_skip ?_
      refine a_seq ?_
      have hl0 : SmallHall h := szHall_le (left := 1048576) (by omega) (by omega) ‹_›; have hz0_ := hl0; simp only [SmallHall] at hz0_; obtain ⟨hz0_0, hz0_1⟩ := hz0_; have hr0 : (blkIds h).length ≤ 1048576 := (Nat.le_trans (idsOf_len h.list (blk h) h.list.length) hz0_0)
      refine a_region ?_
      refine aops_cons rfl (w_pure rfl (p_load_v_all ag_56 rfl (by rfl) noX) ?_)
      refine aops_cons rfl (w_callR rfl rfl rfl cl_56 (c_laws_toHall h hl0) ?_)
      refine aops_cons rfl (w_callR rfl rfl rfl cl_66 (cy_spec_BlockedIds h hl0 hA) ?_)
      refine aops_cons rfl (w_pure rfl (p_move rfl) ?_)
      refine aops_cons rfl (w_pure rfl (p_extract rfl rfl) ?_)
      refine aops_cons rfl (w_pure rfl (p_extract rfl rfl) ?_)
      refine aops_cons rfl (w_pure rfl (p_assign rfl) ?_)
      refine aops_cons rfl (w_pure rfl (p_assign rfl) ?_)
      refine aops_nil ?_
      refine a_seq ?_
      refine a_region ?_
      refine aops_cons rfl (w_pure rfl (p_load_v_all ag_56 rfl (by rfl) noX) ?_)
      refine aops_cons rfl (w_call rfl rfl rfl cl_56 (co_laws_toHall h hl0) ?_)
      rintro _ _ ⟨b1, b2, rfl, rfl⟩
      refine aops_cons rfl (w_alloc rfl z_62 fun b3 => ?_)
      refine aops_cons rfl (w_store (cells' := [_, _]) rfl rfl rfl (by repeat (first | exact Pick.here _ _ _ | apply Pick.next)) cn_62 (by rfl) (by rfl) (by rfl) trivial ?_)
      refine aops_nil ?_
      refine a_seq ?_
      refine a_region ?_
      refine aops_cons rfl (w_pure rfl (p_load_box_all ag_62 rfl (by repeat (first | exact Pick.here _ _ _ | apply Pick.next)) (by rfl) noX) ?_)
      refine aops_cons rfl (w_callL rfl rfl rfl cl_67 (.cons (.agg (.cons (.own (by repeat (first | exact List.Mem.head _ | apply List.Mem.tail)) (by first | (simp; done) | (simp; assumption) | (simp; omega) | (simp [mkL]; done))) (.cons (.own (by repeat (first | exact List.Mem.head _ | apply List.Mem.tail)) (by first | (simp; done) | (simp; assumption) | (simp; omega) | (simp [mkL]; done))) .nil))) .nil) (cy_impl_BlockedIds h hl0 hA) ?_)
      rintro _ _ ⟨b4, rfl, rfl⟩
      refine ⟨(closed_tup (all_cons' (closed_own _ _ _ _) (all_cons' (closed_bool _) all_nil'))), (closedS_cons (closedAll _ _ _ _ cl_eInt) closedS_nil), ?_⟩
      refine aops_cons rfl (w_pure rfl (p_move rfl) ?_)
      refine aops_cons rfl (w_pure rfl (p_extract rfl rfl) ?_)
      refine aops_cons rfl (w_pure rfl (p_extract rfl rfl) ?_)
      refine aops_cons rfl (w_pure rfl (p_assign rfl) ?_)
      refine aops_cons rfl (w_pure rfl (p_assign rfl) ?_)
      refine aops_nil ?_
      refine a_seq ?_
      refine a_seq ?_
      refine a_region ?_
      refine aops_cons rfl (w_pure rfl (p_move rfl) ?_)
      refine aops_cons rfl (w_pure rfl (p_move rfl) ?_)
      refine aops_cons rfl (w_callLR rfl rfl rfl cl_29 (.cons (.own (by repeat (first | exact List.Mem.head _ | apply List.Mem.tail)) (by first | (simp; done) | (simp; assumption) | (simp; omega) | (simp [mkL]; done))) (.cons (.refl _) .nil)) (c_laws_eqIntS (blkIds h) (Nat.le_trans (idsOf_len h.list (blk h) h.list.length) hz0_0)) (closed_bool _) ?_)
      refine aops_cons rfl (w_pure rfl (p_not rfl) ?_)
      refine aops_cons rfl (w_pure rfl (p_move rfl) ?_)
      refine aops_guard_t rfl rfl rfl (w_pure rfl (p_move rfl) ?_)
      refine aops_guard_t rfl rfl rfl (w_pure rfl (p_move rfl) ?_)
      refine aops_guard_t rfl rfl rfl (w_pure rfl (p_neq_bsame um_4 rfl rfl) ?_)
      refine aops_cons rfl (w_pure rfl (p_pick_f rfl rfl) ?_)
      refine aops_nil ?_
      refine a_cond_f rfl ?_
      refine a_skip ?_
      refine a_seq ?_
      refine a_seq ?_
      refine a_draw [] (by kernel_rfl) ?_
      show ADraw _ _ _ _ _ _ 5 _ _ _ _
      refine d_load 0 rfl (by kernel_rfl) (by kernel_rfl) (by kernel_rfl) rfl (p_load_box_all ag_62 rfl (by repeat (first | exact Pick.here _ _ _ | apply Pick.next)) (by rfl) noX) ?_
      refine d_load 1 rfl (by kernel_rfl) (by kernel_rfl) (by kernel_rfl) rfl (p_load_v_all ag_56 rfl (by rfl) noX) ?_
      refine draw_all [2] (by kernel_rfl) (by simp) ?_
      refine all_cons rfl rfl ?_ ?_
      · skip
        refine w_callR rfl rfl rfl cl_56 (c_laws_toHall h hl0) ?_
        refine draw_all [3] (by kernel_rfl) (by simp) ?_
        refine all_cons rfl rfl ?_ ?_
        · skip
          refine w_callLR rfl rfl rfl cl_59 (.cons (.agg (.cons (.own (by repeat (first | exact List.Mem.head _ | apply List.Mem.tail)) (by first | (simp; done) | (simp; assumption) | (simp; omega) | (simp [mkL]; done))) (.cons (.own (by repeat (first | exact List.Mem.head _ | apply List.Mem.tail)) (by first | (simp; done) | (simp; assumption) | (simp; omega) | (simp [mkL]; done))) .nil))) (.cons (.refl _) .nil)) (c_laws_eqHall h hl0) (closed_bool _) ?_
          refine d_take 4 rfl (by kernel_rfl) (by kernel_rfl) (by kernel_rfl) rfl (p_not rfl) ?_
          refine draw_done (by kernel_rfl) ?_
          refine a_cond_f rfl ?_
          refine a_skip ?_
          refine a_seq ?_
          refine a_region ?_
          refine aops_cons rfl (w_pure rfl (p_assign rfl) ?_)
          refine aops_nil ?_
          refine a_seq ?_
          refine a_region ?_
          refine aops_cons rfl (w_pure rfl (p_load_box_all ag_62 rfl (by repeat (first | exact Pick.here _ _ _ | apply Pick.next)) (by rfl) noX) ?_)
          refine aops_cons rfl (w_pure rfl (p_move rfl) ?_)
          refine aops_cons rfl (w_callM rfl rfl rfl cl_63 (.cons (by repeat (first | exact Pick.here _ _ _ | apply Pick.next)) (.cons (by repeat (first | exact Pick.here _ _ _ | apply Pick.next)) (.nil _))) (.cons (.refl _) (.cons (.refl _) .nil)) (c_laws_markHall _ _ h hl0 _ (by first | omega | (simp; done) | (simp; omega)) (by first | omega | (simp; done) | (simp; omega))) trivial ?_)
          rintro _ _ ⟨rfl, rfl⟩
          refine ⟨(closed_int _ _), (closedS_cons (closedAll _ _ _ _ cl_eVcpu) (closedS_cons (closedAll _ _ _ _ cl_eBool) closedS_nil)), ?_⟩
          refine aops_cons rfl (w_pure rfl (p_assign rfl) ?_)
          refine aops_nil ?_
          refine a_seq ?_
          refine a_seq ?_
          refine a_region ?_
          refine aops_cons rfl (w_pure rfl (p_move rfl) ?_)
          refine aops_cons rfl (w_pure rfl (p_lss rfl rfl) ?_)
          refine aops_cons rfl (w_pure rfl (p_move rfl) ?_)
          first | refine aops_split_d 51 rfl (fun h3 => ?_) (fun h4 => ?_) | refine aops_split 51 rfl (fun h3 => ?_) (fun h4 => ?_)
          · (try simp only [Bool.not_eq_true', Bool.not_eq_false', Bool.not_eq_true, Bool.not_eq_false, decide_eq_true_eq, decide_eq_false_iff_not, List.length_map, List.length_range] at h3)
            refine g_pass' rfl rfl rfl rfl rfl ?_
            refine g_pass' rfl rfl rfl rfl rfl ?_
            refine g_pass' rfl rfl rfl rfl rfl ?_
            refine g_pass' rfl rfl rfl rfl rfl ?_
            refine aops_cons rfl (w_pure rfl (p_pick_t rfl rfl) ?_)
            refine aops_cons rfl (w_pure rfl (p_move rfl) ?_)
            refine g_pass' rfl rfl rfl rfl rfl ?_
            refine g_pass' rfl rfl rfl rfl rfl ?_
            refine g_pass' rfl rfl rfl rfl rfl ?_
            refine aops_cons rfl (w_pure rfl (p_pick_t rfl rfl) ?_)
            refine aops_nil ?_
            refine a_cond_t rfl ?_
            refine a_seq ?_
            refine a_region ?_
            refine aops_cons rfl (w_pure rfl (p_assign rfl) ?_)
            refine aops_nil ?_
            refine a_ret ?_
            refine ret_ok (hands1 rfl (.tmp rfl)) (.nil _) ?_
            first | exact ⟨rfl, rfl⟩ | (exfalso; omega)
          · (try simp only [Bool.not_eq_true', Bool.not_eq_false', Bool.not_eq_true, Bool.not_eq_false, decide_eq_true_eq, decide_eq_false_iff_not, List.length_map, List.length_range] at h4)
            refine aops_guard_t rfl rfl rfl (w_pure rfl (p_move rfl) ?_)
            refine aops_guard_t rfl rfl rfl (w_pure rfl (p_move rfl) ?_)
            refine aops_guard_t rfl rfl rfl (w_callLR rfl rfl rfl cl_29 (.cons (.own (by repeat (first | exact List.Mem.head _ | apply List.Mem.tail)) (by first | (simp; done) | (simp; assumption) | (simp; omega) | (simp [mkL]; done))) (.cons (.refl _) .nil)) (c_laws_eqIntS (blkIds h) (Nat.le_trans (idsOf_len h.list (blk h) h.list.length) hz0_0)) (closed_bool _) ?_)
            refine aops_guard_t rfl rfl rfl (w_pure rfl (p_not rfl) ?_)
            refine aops_cons rfl (w_pure rfl (p_pick_f rfl rfl) ?_)
            refine aops_cons rfl (w_pure rfl (p_move rfl) ?_)
            refine aops_guard_t rfl rfl rfl (w_pure rfl (p_move rfl) ?_)
            refine aops_guard_t rfl rfl rfl (w_pure rfl (p_move rfl) ?_)
            refine aops_guard_t rfl rfl rfl (w_pure rfl (p_neq_bsame um_4 rfl rfl) ?_)
            refine aops_cons rfl (w_pure rfl (p_pick_f rfl rfl) ?_)
            refine aops_nil ?_
            refine a_cond_f rfl ?_
            refine a_skip ?_
            refine a_seq ?_
            refine a_region ?_
            refine aops_cons rfl (w_pure rfl (p_assign rfl) ?_)
            refine aops_nil ?_
            refine a_seq ?_
            refine a_region ?_
            refine aops_cons rfl (w_pure rfl (p_move rfl) ?_)
            refine aops_cons rfl (w_pure rfl (p_move rfl) ?_)
            refine aops_cons rfl (w_callM rfl rfl rfl cl_30 (.cons (by repeat (first | exact Pick.here _ _ _ | apply Pick.next)) (.nil _)) (.cons (.refl _) (.cons (.refl _) .nil)) (c_laws_markIntS _ (blkIds h) (Nat.le_trans (idsOf_len h.list (blk h) h.list.length) hz0_0) _ (by first | omega | (simp; done) | (simp; omega)) (by first | omega | (simp; done) | (simp; omega))) trivial ?_)
            rintro _ _ ⟨rfl, rfl⟩
            refine ⟨(closed_int _ _), (closedS_cons (closedAll _ _ _ _ cl_eInt) closedS_nil), ?_⟩
            refine aops_cons rfl (w_pure rfl (p_assign rfl) ?_)
            refine aops_nil ?_
            refine a_seq ?_
            refine a_region ?_
            refine aops_cons rfl (w_pure rfl (p_assign rfl) ?_)
            refine aops_nil ?_
            refine a_seq ?_
            refine a_region ?_
            refine aops_cons rfl (w_pure rfl (p_move rfl) ?_)
            refine aops_cons rfl (w_pure rfl (p_move rfl) ?_)
            refine aops_cons rfl (w_callLR rfl rfl rfl cl_31 (.cons (.own (by repeat (first | exact List.Mem.head _ | apply List.Mem.tail)) (by first | (simp; done) | (simp; assumption) | (simp; omega) | (simp [mkL]; done))) (.cons (.refl _) .nil)) (c_laws_heldIntS (blkIds h).length (Nat.le_trans (idsOf_len h.list (blk h) h.list.length) hz0_0) _ (by first | omega | (simp; done) | (simp; omega)) (by first | omega | (simp; done) | (simp; omega))) (closed_int _ _) ?_)
            refine aops_cons rfl (w_pure rfl (p_assign rfl) ?_)
            refine aops_nil ?_
            refine a_seq ?_
            refine a_seq ?_
            refine a_region ?_
            refine aops_cons rfl (w_pure rfl (p_move rfl) ?_)
            refine aops_cons rfl (w_pure rfl (p_lss rfl rfl) ?_)
            refine aops_nil ?_
            first | refine a_cond_d rfl (fun h5 => ?_) (fun h6 => ?_) | refine a_cond_n rfl (fun h5 => ?_) (fun h6 => ?_) | refine a_cond_nb rfl (fun h5 => ?_) (fun h6 => ?_) | refine a_cond rfl (fun h5 => ?_) (fun h6 => ?_)
            · (try simp only [Bool.not_eq_true', Bool.not_eq_false', Bool.not_eq_true, Bool.not_eq_false, decide_eq_true_eq, decide_eq_false_iff_not, List.length_map, List.length_range] at h5)
              refine a_seq ?_
              refine a_region ?_
              refine aops_cons rfl (w_pure rfl (p_assign rfl) ?_)
              refine aops_nil ?_
              refine a_ret ?_
              refine ret_ok (hands1 rfl (.tmp rfl)) (.nil _) ?_
              first | exact ⟨rfl, rfl⟩ | (exfalso; omega)
            · (try simp only [Bool.not_eq_true', Bool.not_eq_false', Bool.not_eq_true, Bool.not_eq_false, decide_eq_true_eq, decide_eq_false_iff_not, List.length_map, List.length_range] at h6)
              refine a_skip ?_
              refine a_seq ?_
              refine a_seq ?_
              refine a_region ?_
              refine aops_cons rfl (w_pure rfl (p_move rfl) ?_)
              refine aops_cons rfl (w_pure rfl (p_move rfl) ?_)
              refine aops_cons rfl (w_pure rfl (p_neq_same rfl rfl) ?_)
              refine aops_nil ?_
              refine a_cond_f rfl ?_
              refine a_skip ?_
              refine a_seq ?_
              refine a_region ?_
              refine aops_cons rfl (w_pure rfl (p_load_v_all ag_56 rfl (by rfl) noX) ?_)
              refine aops_cons rfl (w_callR rfl rfl rfl cl_56 (c_laws_toHall h hl0) ?_)
              refine aops_cons rfl (w_callR rfl rfl rfl cl_67 (cf_impl_BlockedIds h hl0 hA) ?_)
              refine aops_cons rfl (w_pure rfl (p_move rfl) ?_)
              refine aops_cons rfl (w_pure rfl (p_extract rfl rfl) ?_)
              refine aops_cons rfl (w_pure rfl (p_extract rfl rfl) ?_)
              refine aops_cons rfl (w_pure rfl (p_assign rfl) ?_)
              refine aops_cons rfl (w_pure rfl (p_assign rfl) ?_)
              refine aops_nil ?_
              refine a_seq ?_
              refine a_seq ?_
              refine a_region ?_
              refine aops_cons rfl (w_pure rfl (p_move rfl) ?_)
              refine aops_cons rfl (w_pure rfl (p_move rfl) ?_)
              refine aops_cons rfl (w_callLR rfl rfl rfl cl_29 (.cons (.refl _) (.cons (.refl _) .nil)) (c_laws_eqIntS (blkIds h) (Nat.le_trans (idsOf_len h.list (blk h) h.list.length) hz0_0)) (closed_bool _) ?_)
              refine aops_cons rfl (w_pure rfl (p_not rfl) ?_)
              refine aops_cons rfl (w_pure rfl (p_move rfl) ?_)
              refine aops_guard_t rfl rfl rfl (w_pure rfl (p_move rfl) ?_)
              refine aops_guard_t rfl rfl rfl (w_pure rfl (p_move rfl) ?_)
              refine aops_guard_t rfl rfl rfl (w_pure rfl (p_neq_bsame um_4 rfl rfl) ?_)
              refine aops_cons rfl (w_pure rfl (p_pick_f rfl rfl) ?_)
              refine aops_nil ?_
              refine a_cond_f rfl ?_
              refine a_skip ?_
              refine a_seq ?_
              refine a_region ?_
              refine aops_cons rfl (w_pure rfl (p_assign rfl) ?_)
              refine aops_nil ?_
              refine a_seq ?_
              refine a_region ?_
              refine aops_cons rfl (w_pure rfl (p_move rfl) ?_)
              refine aops_cons rfl (w_pure rfl (p_move rfl) ?_)
              refine aops_cons rfl (w_callLR rfl rfl rfl cl_31 (.cons (.own (by repeat (first | exact List.Mem.head _ | apply List.Mem.tail)) (by first | (simp; done) | (simp; assumption) | (simp; omega) | (simp [mkL]; done))) (.cons (.refl _) .nil)) (c_laws_heldIntS (blkIds h).length (Nat.le_trans (idsOf_len h.list (blk h) h.list.length) hz0_0) _ (by first | omega | (simp; done) | (simp; omega)) (by first | omega | (simp; done) | (simp; omega))) (closed_int _ _) ?_)
              refine aops_cons rfl (w_pure rfl (p_assign rfl) ?_)
              refine aops_nil ?_
              refine a_seq ?_
              refine a_seq ?_
              refine a_region ?_
              refine aops_cons rfl (w_pure rfl (p_move rfl) ?_)
              refine aops_cons rfl (w_pure rfl (p_lss rfl rfl) ?_)
              refine aops_nil ?_
              first | refine a_cond_d rfl (fun h7 => ?_) (fun h8 => ?_) | refine a_cond_n rfl (fun h7 => ?_) (fun h8 => ?_) | refine a_cond_nb rfl (fun h7 => ?_) (fun h8 => ?_) | refine a_cond rfl (fun h7 => ?_) (fun h8 => ?_)
              · (try simp only [Bool.not_eq_true', Bool.not_eq_false', Bool.not_eq_true, Bool.not_eq_false, decide_eq_true_eq, decide_eq_false_iff_not, List.length_map, List.length_range] at h7)
                refine a_seq ?_
                refine a_region ?_
                refine aops_cons rfl (w_pure rfl (p_assign rfl) ?_)
                refine aops_nil ?_
                refine a_ret ?_
                refine ret_ok (hands1 rfl (.tmp rfl)) (.nil _) ?_
                first | exact ⟨rfl, rfl⟩ | (exfalso; omega)
              · (try simp only [Bool.not_eq_true', Bool.not_eq_false', Bool.not_eq_true, Bool.not_eq_false, decide_eq_true_eq, decide_eq_false_iff_not, List.length_map, List.length_range] at h8)
                refine a_skip ?_
                refine a_seq ?_
                refine a_seq ?_
                refine a_region ?_
                refine aops_cons rfl (w_pure rfl (p_move rfl) ?_)
                refine aops_cons rfl (w_pure rfl (p_move rfl) ?_)
                refine aops_cons rfl (w_pure rfl (p_neq_same rfl rfl) ?_)
                refine aops_nil ?_
                refine a_cond_f rfl ?_
                refine a_skip ?_
                refine a_seq ?_
                refine a_region ?_
                refine aops_cons rfl (w_pure rfl (p_assign rfl) ?_)
                refine aops_nil ?_
                refine a_ret ?_
                refine ret_ok (hands1 rfl (.tmp rfl)) (.nil _) ?_
                first | exact ⟨rfl, rfl⟩ | (exfalso; omega)
        exact all_nil
      exact all_nil
  · skip
    refine a_seq ?_
    refine a_region ?_
    refine aops_cons rfl (w_box_v rfl rfl rfl ?_)
    refine aops_cons rfl (w_pure rfl (p_assign rfl) ?_)
    refine aops_nil ?_
    refine a_seq ?_
    refine a_region ?_
    refine aops_cons rfl (w_pure rfl (p_assign rfl) ?_)
    refine aops_nil ?_
    refine a_seq ?_
    refine a_region ?_
    refine aops_cons rfl (w_pure rfl (p_load_v_all ag_56 rfl (by rfl) noX) ?_)
    refine aops_cons rfl (w_pure rfl (p_move rfl) ?_)
    refine aops_cons rfl (w_callR rfl rfl rfl cl_53 (c_laws_szHall _ (by assumption) _ (by omega) (by omega)) ?_)
    refine aops_cons rfl (w_pure rfl (p_assign rfl) ?_)
    refine aops_nil ?_
    refine a_seq ?_
    refine a_seq ?_
    refine a_region ?_
    refine aops_cons rfl (w_pure rfl (p_move rfl) ?_)
    refine aops_cons rfl (w_pure rfl (p_lss rfl rfl) ?_)
    refine aops_nil ?_
    first | refine a_cond_d rfl (fun h1 => ?_) (fun h2 => ?_) | refine a_cond_n rfl (fun h1 => ?_) (fun h2 => ?_) | refine a_cond_nb rfl (fun h1 => ?_) (fun h2 => ?_) | refine a_cond rfl (fun h1 => ?_) (fun h2 => ?_)
    · (try simp only [Bool.not_eq_true', Bool.not_eq_false', Bool.not_eq_true, Bool.not_eq_false, decide_eq_true_eq, decide_eq_false_iff_not, List.length_map, List.length_range] at h1)
      refine a_seq ?_
      refine a_region ?_
      refine aops_cons rfl (w_pure rfl (p_assign rfl) ?_)
      refine aops_nil ?_
      refine a_ret ?_
      refine ret_ok (hands1 rfl (.tmp rfl)) (.nil _) ?_
      first | exact ⟨rfl, rfl⟩ | (exfalso; omega)
    · (try simp only [Bool.not_eq_true', Bool.not_eq_false', Bool.not_eq_true, Bool.not_eq_false, decide_eq_true_eq, decide_eq_false_iff_not, List.length_map, List.length_range] at h2)
      refine a_skip ?_
      refine a_seq ?_
      have hl0 : SmallHall h := szHall_le (left := 1048576) (by omega) (by omega) ‹_›; have hz0_ := hl0; simp only [SmallHall] at hz0_; obtain ⟨hz0_0, hz0_1⟩ := hz0_
      refine a_region ?_
      refine aops_cons rfl (w_pure rfl (p_load_v_all ag_56 rfl (by rfl) noX) ?_)
      refine aops_cons rfl (w_callR rfl rfl rfl cl_56 (c_laws_toHall h hl0) ?_)
      refine aops_cons rfl (w_callR rfl rfl rfl cl_66 (cn_spec_BlockedIds h hl0 hA) ?_)
      refine aops_cons rfl (w_pure rfl (p_move rfl) ?_)
      refine aops_cons rfl (w_pure rfl (p_extract rfl rfl) ?_)
      refine aops_cons rfl (w_pure rfl (p_extract rfl rfl) ?_)
      refine aops_cons rfl (w_pure rfl (p_assign rfl) ?_)
      refine aops_cons rfl (w_pure rfl (p_assign rfl) ?_)
      refine aops_nil ?_
      refine a_seq ?_
      refine a_region ?_
      refine aops_cons rfl (w_pure rfl (p_load_v_all ag_56 rfl (by rfl) noX) ?_)
      refine aops_cons rfl (w_call rfl rfl rfl cl_56 (co_laws_toHall h hl0) ?_)
      rintro _ _ ⟨b1, b2, rfl, rfl⟩
      refine aops_cons rfl (w_alloc rfl z_62 fun b3 => ?_)
      refine aops_cons rfl (w_store (cells' := [_, _]) rfl rfl rfl (by repeat (first | exact Pick.here _ _ _ | apply Pick.next)) cn_62 (by rfl) (by rfl) (by rfl) trivial ?_)
      refine aops_nil ?_
      refine a_seq ?_
      refine a_region ?_
      refine aops_cons rfl (w_pure rfl (p_load_box_all ag_62 rfl (by repeat (first | exact Pick.here _ _ _ | apply Pick.next)) (by rfl) noX) ?_)
      refine aops_cons rfl (w_callLR rfl rfl rfl cl_67 (.cons (.agg (.cons (.own (by repeat (first | exact List.Mem.head _ | apply List.Mem.tail)) (by first | (simp; done) | (simp; assumption) | (simp; omega) | (simp [mkL]; done))) (.cons (.own (by repeat (first | exact List.Mem.head _ | apply List.Mem.tail)) (by first | (simp; done) | (simp; assumption) | (simp; omega) | (simp [mkL]; done))) .nil))) .nil) (cn_impl_BlockedIds h hl0 hA) (closed_tup (all_cons' closed_nil (all_cons' (closed_bool _) all_nil'))) ?_)
      refine aops_cons rfl (w_pure rfl (p_move rfl) ?_)
      refine aops_cons rfl (w_pure rfl (p_extract rfl rfl) ?_)
      refine aops_cons rfl (w_pure rfl (p_extract rfl rfl) ?_)
      refine aops_cons rfl (w_pure rfl (p_assign rfl) ?_)
      refine aops_cons rfl (w_pure rfl (p_assign rfl) ?_)
      refine aops_nil ?_
      refine a_seq ?_
      refine a_seq ?_
      refine a_region ?_
      refine aops_cons rfl (w_pure rfl (p_move rfl) ?_)
      refine aops_cons rfl (w_pure rfl (p_move rfl) ?_)
      refine aops_cons rfl (w_callLR rfl rfl rfl cl_29 (.cons .nil (.cons (.refl _) .nil)) (c_laws_eqIntS ([] : List Int) (by first | decide | (simp; done) | exact ⟨by decide, by decide⟩)) (closed_bool _) ?_)
      refine aops_cons rfl (w_pure rfl (p_not rfl) ?_)
      refine aops_cons rfl (w_pure rfl (p_move rfl) ?_)
      refine aops_guard_t rfl rfl rfl (w_pure rfl (p_move rfl) ?_)
      refine aops_guard_t rfl rfl rfl (w_pure rfl (p_move rfl) ?_)
      refine aops_guard_t rfl rfl rfl (w_pure rfl (p_neq_bsame um_4 rfl rfl) ?_)
      refine aops_cons rfl (w_pure rfl (p_pick_f rfl rfl) ?_)
      refine aops_nil ?_
      refine a_cond_f rfl ?_
      refine a_skip ?_
      refine a_seq ?_
      refine a_seq ?_
      refine a_draw [] (by kernel_rfl) ?_
      show ADraw _ _ _ _ _ _ 5 _ _ _ _
      refine d_load 0 rfl (by kernel_rfl) (by kernel_rfl) (by kernel_rfl) rfl (p_load_box_all ag_62 rfl (by repeat (first | exact Pick.here _ _ _ | apply Pick.next)) (by rfl) noX) ?_
      refine d_load 1 rfl (by kernel_rfl) (by kernel_rfl) (by kernel_rfl) rfl (p_load_v_all ag_56 rfl (by rfl) noX) ?_
      refine draw_all [2] (by kernel_rfl) (by simp) ?_
      refine all_cons rfl rfl ?_ ?_
      · skip
        refine w_callR rfl rfl rfl cl_56 (c_laws_toHall h hl0) ?_
        refine draw_all [3] (by kernel_rfl) (by simp) ?_
        refine all_cons rfl rfl ?_ ?_
        · skip
          refine w_callLR rfl rfl rfl cl_59 (.cons (.agg (.cons (.own (by repeat (first | exact List.Mem.head _ | apply List.Mem.tail)) (by first | (simp; done) | (simp; assumption) | (simp; omega) | (simp [mkL]; done))) (.cons (.own (by repeat (first | exact List.Mem.head _ | apply List.Mem.tail)) (by first | (simp; done) | (simp; assumption) | (simp; omega) | (simp [mkL]; done))) .nil))) (.cons (.refl _) .nil)) (c_laws_eqHall h hl0) (closed_bool _) ?_
          refine d_take 4 rfl (by kernel_rfl) (by kernel_rfl) (by kernel_rfl) rfl (p_not rfl) ?_
          refine draw_done (by kernel_rfl) ?_
          refine a_cond_f rfl ?_
          refine a_skip ?_
          refine a_seq ?_
          refine a_region ?_
          refine aops_cons rfl (w_pure rfl (p_assign rfl) ?_)
          refine aops_nil ?_
          refine a_seq ?_
          refine a_region ?_
          refine aops_cons rfl (w_pure rfl (p_load_box_all ag_62 rfl (by repeat (first | exact Pick.here _ _ _ | apply Pick.next)) (by rfl) noX) ?_)
          refine aops_cons rfl (w_pure rfl (p_move rfl) ?_)
          refine aops_cons rfl (w_callM rfl rfl rfl cl_63 (.cons (by repeat (first | exact Pick.here _ _ _ | apply Pick.next)) (.cons (by repeat (first | exact Pick.here _ _ _ | apply Pick.next)) (.nil _))) (.cons (.refl _) (.cons (.refl _) .nil)) (c_laws_markHall _ _ h hl0 _ (by first | omega | (simp; done) | (simp; omega)) (by first | omega | (simp; done) | (simp; omega))) trivial ?_)
          rintro _ _ ⟨rfl, rfl⟩
          refine ⟨(closed_int _ _), (closedS_cons (closedAll _ _ _ _ cl_eVcpu) (closedS_cons (closedAll _ _ _ _ cl_eBool) closedS_nil)), ?_⟩
          refine aops_cons rfl (w_pure rfl (p_assign rfl) ?_)
          refine aops_nil ?_
          refine a_seq ?_
          refine a_seq ?_
          refine a_region ?_
          refine aops_cons rfl (w_pure rfl (p_move rfl) ?_)
          refine aops_cons rfl (w_pure rfl (p_lss rfl rfl) ?_)
          refine aops_cons rfl (w_pure rfl (p_move rfl) ?_)
          first | refine aops_split_d 51 rfl (fun h3 => ?_) (fun h4 => ?_) | refine aops_split 51 rfl (fun h3 => ?_) (fun h4 => ?_)
          · (try simp only [Bool.not_eq_true', Bool.not_eq_false', Bool.not_eq_true, Bool.not_eq_false, decide_eq_true_eq, decide_eq_false_iff_not, List.length_map, List.length_range] at h3)
            refine g_pass' rfl rfl rfl rfl rfl ?_
            refine g_pass' rfl rfl rfl rfl rfl ?_
            refine g_pass' rfl rfl rfl rfl rfl ?_
            refine g_pass' rfl rfl rfl rfl rfl ?_
            refine aops_cons rfl (w_pure rfl (p_pick_t rfl rfl) ?_)
            refine aops_cons rfl (w_pure rfl (p_move rfl) ?_)
            refine g_pass' rfl rfl rfl rfl rfl ?_
            refine g_pass' rfl rfl rfl rfl rfl ?_
            refine g_pass' rfl rfl rfl rfl rfl ?_
            refine aops_cons rfl (w_pure rfl (p_pick_t rfl rfl) ?_)
            refine aops_nil ?_
            refine a_cond_t rfl ?_
            refine a_seq ?_
            refine a_region ?_
            refine aops_cons rfl (w_pure rfl (p_assign rfl) ?_)
            refine aops_nil ?_
            refine a_ret ?_
            refine ret_ok (hands1 rfl (.tmp rfl)) (.nil _) ?_
            first | exact ⟨rfl, rfl⟩ | (exfalso; omega)
          · (try simp only [Bool.not_eq_true', Bool.not_eq_false', Bool.not_eq_true, Bool.not_eq_false, decide_eq_true_eq, decide_eq_false_iff_not, List.length_map, List.length_range] at h4)
            refine aops_guard_t rfl rfl rfl (w_pure rfl (p_move rfl) ?_)
            refine aops_guard_t rfl rfl rfl (w_pure rfl (p_move rfl) ?_)
            refine aops_guard_t rfl rfl rfl (w_callLR rfl rfl rfl cl_29 (.cons .nil (.cons (.refl _) .nil)) (c_laws_eqIntS ([] : List Int) (by first | decide | (simp; done) | exact ⟨by decide, by decide⟩)) (closed_bool _) ?_)
            refine aops_guard_t rfl rfl rfl (w_pure rfl (p_not rfl) ?_)
            refine aops_cons rfl (w_pure rfl (p_pick_f rfl rfl) ?_)
            refine aops_cons rfl (w_pure rfl (p_move rfl) ?_)
            refine aops_guard_t rfl rfl rfl (w_pure rfl (p_move rfl) ?_)
            refine aops_guard_t rfl rfl rfl (w_pure rfl (p_move rfl) ?_)
            refine aops_guard_t rfl rfl rfl (w_pure rfl (p_neq_bsame um_4 rfl rfl) ?_)
            refine aops_cons rfl (w_pure rfl (p_pick_f rfl rfl) ?_)
            refine aops_nil ?_
            refine a_cond_f rfl ?_
            refine a_skip ?_
            refine a_seq ?_
            refine a_region ?_
            refine aops_cons rfl (w_pure rfl (p_assign rfl) ?_)
            refine aops_nil ?_
            refine a_seq ?_
            refine a_region ?_
            refine aops_cons rfl (w_pure rfl (p_move rfl) ?_)
            refine aops_cons rfl (w_pure rfl (p_move rfl) ?_)
            refine aops_cons rfl (w_callR rfl rfl rfl cl_30 (cn_laws_markIntS ..) ?_)
            refine aops_cons rfl (w_pure rfl (p_assign rfl) ?_)
            refine aops_nil ?_
            refine a_seq ?_
            refine a_region ?_
            refine aops_cons rfl (w_pure rfl (p_assign rfl) ?_)
            refine aops_nil ?_
            refine a_seq ?_
            refine a_region ?_
            refine aops_cons rfl (w_pure rfl (p_move rfl) ?_)
            refine aops_cons rfl (w_pure rfl (p_move rfl) ?_)
            refine aops_cons rfl (w_callLR rfl rfl rfl cl_31 (.cons .nil (.cons (.refl _) .nil)) (c_laws_heldIntS 0 (by decide) _ (by first | omega | (simp; done) | (simp; omega)) (by first | omega | (simp; done) | (simp; omega))) (closed_int _ _) ?_)
            refine aops_cons rfl (w_pure rfl (p_assign rfl) ?_)
            refine aops_nil ?_
            refine a_seq ?_
            refine a_seq ?_
            refine a_region ?_
            refine aops_cons rfl (w_pure rfl (p_move rfl) ?_)
            refine aops_cons rfl (w_pure rfl (p_lss rfl rfl) ?_)
            refine aops_nil ?_
            first | refine a_cond_d rfl (fun h5 => ?_) (fun h6 => ?_) | refine a_cond_n rfl (fun h5 => ?_) (fun h6 => ?_) | refine a_cond_nb rfl (fun h5 => ?_) (fun h6 => ?_) | refine a_cond rfl (fun h5 => ?_) (fun h6 => ?_)
            · (try simp only [Bool.not_eq_true', Bool.not_eq_false', Bool.not_eq_true, Bool.not_eq_false, decide_eq_true_eq, decide_eq_false_iff_not, List.length_map, List.length_range] at h5)
              refine a_seq ?_
              refine a_region ?_
              refine aops_cons rfl (w_pure rfl (p_assign rfl) ?_)
              refine aops_nil ?_
              refine a_ret ?_
              refine ret_ok (hands1 rfl (.tmp rfl)) (.nil _) ?_
              first | exact ⟨rfl, rfl⟩ | (exfalso; omega)
            · (try simp only [Bool.not_eq_true', Bool.not_eq_false', Bool.not_eq_true, Bool.not_eq_false, decide_eq_true_eq, decide_eq_false_iff_not, List.length_map, List.length_range] at h6)
              refine a_skip ?_
              refine a_seq ?_
              refine a_seq ?_
              refine a_region ?_
              refine aops_cons rfl (w_pure rfl (p_move rfl) ?_)
              refine aops_cons rfl (w_pure rfl (p_move rfl) ?_)
              refine aops_cons rfl (w_pure rfl (p_neq_same rfl rfl) ?_)
              refine aops_nil ?_
              refine a_cond_f rfl ?_
              refine a_skip ?_
              refine a_seq ?_
              refine a_region ?_
              refine aops_cons rfl (w_pure rfl (p_load_v_all ag_56 rfl (by rfl) noX) ?_)
              refine aops_cons rfl (w_callR rfl rfl rfl cl_56 (c_laws_toHall h hl0) ?_)
              refine aops_cons rfl (w_callR rfl rfl rfl cl_67 (cn_impl_BlockedIds h hl0 hA) ?_)
              refine aops_cons rfl (w_pure rfl (p_move rfl) ?_)
              refine aops_cons rfl (w_pure rfl (p_extract rfl rfl) ?_)
              refine aops_cons rfl (w_pure rfl (p_extract rfl rfl) ?_)
              refine aops_cons rfl (w_pure rfl (p_assign rfl) ?_)
              refine aops_cons rfl (w_pure rfl (p_assign rfl) ?_)
              refine aops_nil ?_
              refine a_seq ?_
              refine a_seq ?_
              refine a_region ?_
              refine aops_cons rfl (w_pure rfl (p_move rfl) ?_)
              refine aops_cons rfl (w_pure rfl (p_move rfl) ?_)
              refine aops_cons rfl (w_callLR rfl rfl rfl cl_29 (.cons .nil (.cons (.refl _) .nil)) (c_laws_eqIntS ([] : List Int) (by first | decide | (simp; done) | exact ⟨by decide, by decide⟩)) (closed_bool _) ?_)
              refine aops_cons rfl (w_pure rfl (p_not rfl) ?_)
              refine aops_cons rfl (w_pure rfl (p_move rfl) ?_)
              refine aops_guard_t rfl rfl rfl (w_pure rfl (p_move rfl) ?_)
              refine aops_guard_t rfl rfl rfl (w_pure rfl (p_move rfl) ?_)
              refine aops_guard_t rfl rfl rfl (w_pure rfl (p_neq_bsame um_4 rfl rfl) ?_)
              refine aops_cons rfl (w_pure rfl (p_pick_f rfl rfl) ?_)
              refine aops_nil ?_
              refine a_cond_f rfl ?_
              refine a_skip ?_
              refine a_seq ?_
              refine a_region ?_
              refine aops_cons rfl (w_pure rfl (p_assign rfl) ?_)
              refine aops_nil ?_
              refine a_seq ?_
              refine a_region ?_
              refine aops_cons rfl (w_pure rfl (p_move rfl) ?_)
              refine aops_cons rfl (w_pure rfl (p_move rfl) ?_)
              refine aops_cons rfl (w_callLR rfl rfl rfl cl_31 (.cons .nil (.cons (.refl _) .nil)) (c_laws_heldIntS 0 (by decide) _ (by first | omega | (simp; done) | (simp; omega)) (by first | omega | (simp; done) | (simp; omega))) (closed_int _ _) ?_)
              refine aops_cons rfl (w_pure rfl (p_assign rfl) ?_)
              refine aops_nil ?_
              refine a_seq ?_
              refine a_seq ?_
              refine a_region ?_
              refine aops_cons rfl (w_pure rfl (p_move rfl) ?_)
              refine aops_cons rfl (w_pure rfl (p_lss rfl rfl) ?_)
              refine aops_nil ?_
              first | refine a_cond_d rfl (fun h7 => ?_) (fun h8 => ?_) | refine a_cond_n rfl (fun h7 => ?_) (fun h8 => ?_) | refine a_cond_nb rfl (fun h7 => ?_) (fun h8 => ?_) | refine a_cond rfl (fun h7 => ?_) (fun h8 => ?_)
              · (try simp only [Bool.not_eq_true', Bool.not_eq_false', Bool.not_eq_true, Bool.not_eq_false, decide_eq_true_eq, decide_eq_false_iff_not, List.length_map, List.length_range] at h7)
                refine a_seq ?_
                refine a_region ?_
                refine aops_cons rfl (w_pure rfl (p_assign rfl) ?_)
                refine aops_nil ?_
                refine a_ret ?_
                refine ret_ok (hands1 rfl (.tmp rfl)) (.nil _) ?_
                first | exact ⟨rfl, rfl⟩ | (exfalso; omega)
              · (try simp only [Bool.not_eq_true', Bool.not_eq_false', Bool.not_eq_true, Bool.not_eq_false, decide_eq_true_eq, decide_eq_false_iff_not, List.length_map, List.length_range] at h8)
                refine a_skip ?_
                refine a_seq ?_
                refine a_seq ?_
                refine a_region ?_
                refine aops_cons rfl (w_pure rfl (p_move rfl) ?_)
                refine aops_cons rfl (w_pure rfl (p_move rfl) ?_)
                refine aops_cons rfl (w_pure rfl (p_neq_same rfl rfl) ?_)
                refine aops_nil ?_
                refine a_cond_f rfl ?_
                refine a_skip ?_
                refine a_seq ?_
                refine a_region ?_
                refine aops_cons rfl (w_pure rfl (p_assign rfl) ?_)
                refine aops_nil ?_
                refine a_ret ?_
                refine ret_ok (hands1 rfl (.tmp rfl)) (.nil _) ?_
                first | exact ⟨rfl, rfl⟩ | (exfalso; omega)
        exact all_nil
      exact all_nil

theorem c_impl_EventIds_1 (h : Hall) (j : Nat) (hj : j < h.list.length) (he : h.events.length = h.list.length) : ACalls Try.prog 117 [.int .i64 (j : Int), .vptr (eHall h)] [] (Ret (.bool (evt h j))) := by
  refine a_enter Try.func117 rfl rfl (fun w0 M0 => ?_)
  refine a_seq ?_
  refine a_region ?_
  refine aops_cons rfl (w_pure rfl (p_assign rfl) ?_)
  refine aops_nil ?_
  refine a_seq ?_
  refine a_region ?_
  refine aops_cons rfl (w_pure rfl (p_field_v fo_62_1 rfl) ?_)
  refine aops_cons rfl (w_pure rfl (p_load_v ag_54 rfl (by rfl) noX) ?_)
  refine aops_cons rfl (w_pure rfl (p_move rfl) ?_)
  refine aops_cons rfl (w_pure rfl (p_index_sl j rfl rfl rfl (rowD _ _ false (by omega)) es_54) ?_)
  refine aops_cons rfl (w_pure rfl (p_load_v ag_4 rfl (by rfl) noX) ?_)
  refine aops_cons rfl (w_pure rfl (p_assign rfl) ?_)
  refine aops_nil ?_
  refine a_ret ?_
  refine ret_ok (hands1 rfl (.tmp rfl)) (.nil _) ?_
  exact ⟨rfl, rfl⟩

theorem co_idsWhere_EventIds (h : Hall) (hn : SmallHall h) (he : h.events.length = h.list.length) : ACalls Try.prog 115 [.agg (eHall h), .fn 117 [.vptr (eHall h)]] [] (RetOwn 3 1 ((evtIds h).map eInt)) := by
  have hnn := hn
  obtain ⟨hn1, hn2⟩ := hnn
  refine a_enter Try.func115 rfl rfl (fun w0 M0 => ?_)
  refine a_seq ?_
  refine a_region ?_
  refine aops_cons rfl (w_box_v rfl rfl rfl ?_)
  refine aops_cons rfl (w_pure rfl (p_assign rfl) ?_)
  refine aops_nil ?_
  refine a_seq ?_
  refine a_region ?_
  refine aops_cons rfl (w_litM eInt [] rfl el_34 rfl rfl rfl rfl rfl fun b1 => ?_)
  refine aops_cons rfl (w_pure rfl (p_assign rfl) ?_)
  refine aops_nil ?_
  refine a_seq ?_
  refine a_seq ?_
  refine a_region ?_
  refine aops_cons rfl (w_pure rfl (p_field_v fo_62_0 rfl) ?_)
  refine aops_cons rfl (w_pure rfl (p_load_v ag_24 rfl (by rfl) noX) ?_)
  refine aops_cons rfl (w_pure rfl (p_len sl_24 rfl rfl) ?_)
  refine aops_cons rfl (w_pure rfl (p_move rfl) ?_)
  refine aops_nil ?_
  refine a_block ?_
  refine a_loop (ι := Nat × Nat × List Int) (fun ⟨i, b, l⟩ => i ≤ h.list.length ∧ l = (idsOf h.list (evt h) i)) (fun ⟨i, b, l⟩ => [(12, .int .i64 (i : Int)), (5, .own 1 b 0 l.length)]) (fun ⟨i, b, l⟩ => [(b, .arr 3 1 (l.map eInt))]) (fun ⟨i, b, l⟩ => h.list.length - i) (0, b1, []) ⟨Nat.zero_le _, rfl⟩ (by repeat (first | exact Knows.nil | refine Knows.cons (by rfl) ?_)) (by repeat (first | exact Picks.nil _ | exact Pick.here _ _ _ | apply Pick.next | apply Picks.cons)) ?_
  rintro ⟨i, b, l⟩ ⟨hi, hI⟩
  have hln := idsOf_len h.list (evt h) i; rw [← hI] at hln
  refine a_seq ?_
  refine a_region ?_
  refine aops_cons rfl (w_pure rfl (p_lss rfl rfl) ?_)
  refine aops_nil ?_
  refine a_seq ?_
  first | refine a_cond_d rfl (fun h1 => ?_) (fun h2 => ?_) | refine a_cond_n rfl (fun h1 => ?_) (fun h2 => ?_) | refine a_cond_nb rfl (fun h1 => ?_) (fun h2 => ?_) | refine a_cond rfl (fun h1 => ?_) (fun h2 => ?_)
  · (try simp only [Bool.not_eq_true', Bool.not_eq_false', Bool.not_eq_true, Bool.not_eq_false, decide_eq_true_eq, decide_eq_false_iff_not, List.length_map, List.length_range] at h1)
    refine a_skip ?_
    refine a_seq ?_
    refine a_block ?_
    refine a_seq ?_
    refine a_region ?_
    refine aops_cons rfl (w_pure rfl (p_move rfl) ?_)
    refine aops_cons rfl (w_pure rfl (p_index_sl _ rfl rfl rfl (rowD _ _ zVcpu (by omega)) es_24) ?_)
    refine aops_cons rfl (w_pure rfl (p_load_v_all ag_46 rfl (by rfl) noX) ?_)
    refine aops_cons rfl (w_alloc rfl z_46 fun b2 => ?_)
    refine aops_cons rfl (w_pure rfl (p_assign rfl) ?_)
    refine aops_cons rfl (w_store (cells' := [_, _, _, _, _]) rfl rfl rfl (by repeat (first | exact Pick.here _ _ _ | apply Pick.next)) cn_46 (by rfl) (by rfl) (by rfl) trivial ?_)
    refine aops_nil ?_
    refine a_seq ?_
    refine a_region ?_
    refine aops_cons rfl (w_pure rfl (p_move rfl) ?_)
    refine aops_cons rfl (w_pure rfl (p_move rfl) ?_)
    refine aops_cons rfl (w_callR rfl rfl rfl cl_117 (c_impl_EventIds_1 h i (by omega) he) ?_)
    refine aops_nil ?_
    first | refine a_cond_d rfl (fun h3 => ?_) (fun h4 => ?_) | refine a_cond_n rfl (fun h3 => ?_) (fun h4 => ?_) | refine a_cond_nb rfl (fun h3 => ?_) (fun h4 => ?_) | refine a_cond rfl (fun h3 => ?_) (fun h4 => ?_)
    · (try simp only [Bool.not_eq_true', Bool.not_eq_false', Bool.not_eq_true, Bool.not_eq_false, decide_eq_true_eq, decide_eq_false_iff_not, List.length_map, List.length_range] at h3)
      refine a_region ?_
      refine aops_cons rfl (w_pure rfl (p_move rfl) ?_)
      refine aops_cons rfl (w_pure rfl (p_field_box fo_46_0 rfl) ?_)
      refine aops_cons rfl (w_pure rfl (p_load_box ag_3 rfl (by repeat (first | exact Pick.here _ _ _ | apply Pick.next)) (by rfl) noX) ?_)
      refine aops_cons rfl (w_lit_vM eInt [(h.list.getD i zVcpu).id] rfl el_34 rfl rfl rfl rfl rfl ?_)
      refine aops_cons rfl (w_appendM eInt rfl el_34 rfl rfl (by repeat (first | exact Pick.here _ _ _ | apply Pick.next)) rfl (.sl _) (fun _ => rfl) (fun _ => rfl) (by simp; omega) (by simp; omega) trivial fun b3 => ?_)
      refine aops_cons rfl (w_pure rfl (p_assign rfl) ?_)
      refine aops_nil ?_
      refine a_region ?_
      refine aops_cons rfl (w_pure rfl (p_add' rfl rfl ⟨by omega, by omega⟩) ?_)
      refine aops_cons rfl (w_pure rfl (p_move rfl) ?_)
      refine aops_nil ?_
      refine ⟨(i + 1, _, _), _, ?_, ?_, (by repeat (first | exact Knows.nil | refine Knows.cons (by rfl) ?_)), (by repeat (first | exact Back.refl _ _ | refine Back.cons (by rfl) ?_)), (by repeat (first | exact Picks.nil _ | exact Pick.here _ _ _ | apply Pick.next | apply Picks.cons))⟩
      · refine ⟨by omega, ?_⟩; rw [idsOf, ← hI]; first | exact (if_pos (by assumption)).symm | exact (if_neg (by rw [show (evt h) i = false from by assumption]; decide)).symm
      · (try dsimp only); omega
    · (try simp only [Bool.not_eq_true', Bool.not_eq_false', Bool.not_eq_true, Bool.not_eq_false, decide_eq_true_eq, decide_eq_false_iff_not, List.length_map, List.length_range] at h4)
      refine a_skip ?_
      refine a_region ?_
      refine aops_cons rfl (w_pure rfl (p_add' rfl rfl ⟨by omega, by omega⟩) ?_)
      refine aops_cons rfl (w_pure rfl (p_move rfl) ?_)
      refine aops_nil ?_
      refine ⟨(i + 1, _, _), _, ?_, ?_, (by repeat (first | exact Knows.nil | refine Knows.cons (by rfl) ?_)), (by repeat (first | exact Back.refl _ _ | refine Back.cons (by rfl) ?_)), (by repeat (first | exact Picks.nil _ | exact Pick.here _ _ _ | apply Pick.next | apply Picks.cons))⟩
      · refine ⟨by omega, ?_⟩; rw [idsOf, ← hI]; first | exact (if_pos (by assumption)).symm | exact (if_neg (by rw [show (evt h) i = false from by assumption]; decide)).symm
      · (try dsimp only); omega
  · (try simp only [Bool.not_eq_true', Bool.not_eq_false', Bool.not_eq_true, Bool.not_eq_false, decide_eq_true_eq, decide_eq_false_iff_not, List.length_map, List.length_range] at h2)
    refine a_exit ?_
    refine a_seq ?_
    refine a_region ?_
    refine aops_cons rfl (w_pure rfl (p_move rfl) ?_)
    refine aops_cons rfl (w_pure rfl (p_assign rfl) ?_)
    refine aops_nil ?_
    refine a_ret ?_
    refine ret_ok (hands1 rfl (.tmp rfl)) (.cons (.here _ _ _) (.nil _)) ?_
    have hx : i = h.list.length := (by omega); subst hx; subst hI; exact ⟨b, by rw [List.length_map]; rfl, rfl⟩

theorem co_spec_EventIds (h : Hall) (hn : SmallHall h) (hA : IsHall h) : ACalls Try.prog 68 [.agg (eHall h)] [] (fun r st => ∃ b1, r = .tup [.own 1 b1 0 (evtIds h).length, .bool true] ∧ st = [(b1, .arr 3 1 ((evtIds h).map eInt))]) := by
  have hnn := hn
  obtain ⟨hn1, hn2⟩ := hnn
  refine a_enter Try.func68 rfl rfl (fun w0 M0 => ?_)
  refine a_seq ?_
  refine a_region ?_
  refine aops_cons rfl (w_box_v rfl rfl rfl ?_)
  refine aops_cons rfl (w_pure rfl (p_assign rfl) ?_)
  refine aops_cons rfl (w_pure rfl (p_assign rfl) ?_)
  refine aops_nil ?_
  refine a_seq ?_
  refine a_region ?_
  refine aops_cons rfl (w_litM eInt [] rfl el_34 rfl rfl rfl rfl rfl fun b1 => ?_)
  refine aops_cons rfl (w_pure rfl (p_assign rfl) ?_)
  refine aops_nil ?_
  refine a_seq ?_
  refine a_seq ?_
  refine a_region ?_
  refine aops_cons rfl (w_pure rfl (p_load_v_all ag_62 rfl (by rfl) noX) ?_)
  refine aops_cons rfl (w_callR rfl rfl rfl cl_114 (c_spec_l15Good _ ‹_›) ?_)
  refine aops_cons rfl (w_pure rfl (p_not rfl) ?_)
  refine aops_nil ?_
  first | refine a_cond_d rfl (fun h1 => ?_) (fun h2 => ?_) | refine a_cond_n rfl (fun h1 => ?_) (fun h2 => ?_) | refine a_cond_nb rfl (fun h1 => ?_) (fun h2 => ?_) | refine a_cond rfl (fun h1 => ?_) (fun h2 => ?_)
  · (try simp only [Bool.not_eq_true', Bool.not_eq_false', Bool.not_eq_true, Bool.not_eq_false, decide_eq_true_eq, decide_eq_false_iff_not, List.length_map, List.length_range] at h1)
    refine a_seq ?_
    refine a_region ?_
    refine aops_cons rfl (w_pure rfl (p_move rfl) ?_)
    refine aops_cons rfl (w_pure rfl (p_assign rfl) ?_)
    refine aops_cons rfl (w_pure rfl (p_assign rfl) ?_)
    refine aops_nil ?_
    refine a_ret ?_
    refine ret_ok (hands2 rfl (.tmp rfl) (.tmp rfl)) (st' := [(b1, _)]) (.cons (by repeat (first | exact Pick.here _ _ _ | apply Pick.next)) (.nil _)) ?_
    first | exact absurd hA (by assumption) | (have hx : i = h.list.length := (by omega); subst hx; subst hI; exact ⟨b, rfl, rfl⟩)
  · (try simp only [Bool.not_eq_true', Bool.not_eq_false', Bool.not_eq_true, Bool.not_eq_false, decide_eq_true_eq, decide_eq_false_iff_not, List.length_map, List.length_range] at h2)
    refine a_skip ?_
    refine a_seq ?_
    refine a_seq ?_
    have hsm := hA.small
    refine a_region ?_
    refine aops_cons rfl (w_pure rfl (p_assign rfl) ?_)
    refine aops_nil ?_
    refine a_block ?_
    refine a_loop (ι := Nat × Nat × List Int) (fun ⟨i, b, l⟩ => i ≤ h.list.length ∧ l = (idsOf h.list (evt h) i)) (fun ⟨i, b, l⟩ => [(5, .int .i64 (i : Int)), (4, .own 1 b 0 l.length)]) (fun ⟨i, b, l⟩ => [(b, .arr 3 1 (l.map eInt))]) (fun ⟨i, b, l⟩ => h.list.length - i) (0, b1, []) ⟨Nat.zero_le _, rfl⟩ (by repeat (first | exact Knows.nil | refine Knows.cons (by rfl) ?_)) (by repeat (first | exact Picks.nil _ | exact Pick.here _ _ _ | apply Pick.next | apply Picks.cons)) ?_
    rintro ⟨i, b, l⟩ ⟨hi, hI⟩
    have hln := idsOf_len h.list (evt h) i; rw [← hI] at hln
    refine a_seq ?_
    refine a_seq ?_
    skip
    refine a_region ?_
    refine aops_cons rfl (w_pure rfl (p_move rfl) ?_)
    refine aops_cons rfl (w_pure rfl (p_field_v fo_62_0 rfl) ?_)
    refine aops_cons rfl (w_pure rfl (p_load_v ag_24 rfl (by rfl) noX) ?_)
    refine aops_cons rfl (w_pure rfl (p_len sl_24 rfl rfl) ?_)
    refine aops_cons rfl (w_pure rfl (p_lss rfl rfl) ?_)
    refine aops_nil ?_
    first | refine a_cond_d rfl (fun h3 => ?_) (fun h4 => ?_) | refine a_cond_n rfl (fun h3 => ?_) (fun h4 => ?_) | refine a_cond_nb rfl (fun h3 => ?_) (fun h4 => ?_) | refine a_cond rfl (fun h3 => ?_) (fun h4 => ?_)
    · (try simp only [Bool.not_eq_true', Bool.not_eq_false', Bool.not_eq_true, Bool.not_eq_false, decide_eq_true_eq, decide_eq_false_iff_not, List.length_map, List.length_range] at h3)
      refine a_skip ?_
      refine a_seq ?_
      refine a_block ?_
      refine a_seq ?_
      refine a_region ?_
      refine aops_cons rfl (w_pure rfl (p_field_v fo_62_1 rfl) ?_)
      refine aops_cons rfl (w_pure rfl (p_load_v ag_54 rfl (by rfl) noX) ?_)
      refine aops_cons rfl (w_pure rfl (p_move rfl) ?_)
      refine aops_cons rfl (w_pure rfl (p_index_sl _ rfl rfl rfl (rowD _ _ false (by omega)) es_54) ?_)
      refine aops_cons rfl (w_pure rfl (p_load_v ag_4 rfl (by rfl) noX) ?_)
      refine aops_nil ?_
      first | refine a_cond_d rfl (fun h5 => ?_) (fun h6 => ?_) | refine a_cond_n rfl (fun h5 => ?_) (fun h6 => ?_) | refine a_cond_nb rfl (fun h5 => ?_) (fun h6 => ?_) | refine a_cond rfl (fun h5 => ?_) (fun h6 => ?_)
      · (try simp only [Bool.not_eq_true', Bool.not_eq_false', Bool.not_eq_true, Bool.not_eq_false, decide_eq_true_eq, decide_eq_false_iff_not, List.length_map, List.length_range] at h5)
        refine a_region ?_
        refine aops_cons rfl (w_pure rfl (p_move rfl) ?_)
        refine aops_cons rfl (w_pure rfl (p_field_v fo_62_0 rfl) ?_)
        refine aops_cons rfl (w_pure rfl (p_load_v ag_24 rfl (by rfl) noX) ?_)
        refine aops_cons rfl (w_pure rfl (p_move rfl) ?_)
        refine aops_cons rfl (w_pure rfl (p_index_sl _ rfl rfl rfl (rowD _ _ zVcpu (by omega)) es_24) ?_)
        refine aops_cons rfl (w_pure rfl (p_field_v fo_46_0 rfl) ?_)
        refine aops_cons rfl (w_pure rfl (p_load_v ag_3 rfl (by rfl) noX) ?_)
        refine aops_cons rfl (w_lit_vM eInt [(h.list.getD i zVcpu).id] rfl el_34 rfl rfl rfl rfl rfl ?_)
        refine aops_cons rfl (w_appendM eInt rfl el_34 rfl rfl (by repeat (first | exact Pick.here _ _ _ | apply Pick.next)) rfl (.sl _) (fun _ => rfl) (fun _ => rfl) (by simp; omega) (by simp; omega) trivial fun b2 => ?_)
        refine aops_cons rfl (w_pure rfl (p_assign rfl) ?_)
        refine aops_nil ?_
        refine a_region ?_
        refine aops_cons rfl (w_pure rfl (p_move rfl) ?_)
        refine aops_cons rfl (w_pure rfl (p_add' rfl rfl ⟨by omega, by omega⟩) ?_)
        refine aops_cons rfl (w_pure rfl (p_assign rfl) ?_)
        refine aops_nil ?_
        refine ⟨(i + 1, _, _), _, ?_, ?_, (by repeat (first | exact Knows.nil | refine Knows.cons (by rfl) ?_)), (by repeat (first | exact Back.refl _ _ | refine Back.cons (by rfl) ?_)), (by repeat (first | exact Picks.nil _ | exact Pick.here _ _ _ | apply Pick.next | apply Picks.cons))⟩
        · refine ⟨by omega, ?_⟩; rw [idsOf, ← hI]; first | exact (if_pos (by assumption)).symm | exact (if_neg (by rw [show (evt h) i = false from by assumption]; decide)).symm
        · (try dsimp only); omega
      · (try simp only [Bool.not_eq_true', Bool.not_eq_false', Bool.not_eq_true, Bool.not_eq_false, decide_eq_true_eq, decide_eq_false_iff_not, List.length_map, List.length_range] at h6)
        refine a_skip ?_
        refine a_region ?_
        refine aops_cons rfl (w_pure rfl (p_move rfl) ?_)
        refine aops_cons rfl (w_pure rfl (p_add' rfl rfl ⟨by omega, by omega⟩) ?_)
        refine aops_cons rfl (w_pure rfl (p_assign rfl) ?_)
        refine aops_nil ?_
        refine ⟨(i + 1, _, _), _, ?_, ?_, (by repeat (first | exact Knows.nil | refine Knows.cons (by rfl) ?_)), (by repeat (first | exact Back.refl _ _ | refine Back.cons (by rfl) ?_)), (by repeat (first | exact Picks.nil _ | exact Pick.here _ _ _ | apply Pick.next | apply Picks.cons))⟩
        · refine ⟨by omega, ?_⟩; rw [idsOf, ← hI]; first | exact (if_pos (by assumption)).symm | exact (if_neg (by rw [show (evt h) i = false from by assumption]; decide)).symm
        · (try dsimp only); omega
    · (try simp only [Bool.not_eq_true', Bool.not_eq_false', Bool.not_eq_true, Bool.not_eq_false, decide_eq_true_eq, decide_eq_false_iff_not, List.length_map, List.length_range] at h4)
      refine a_exit ?_
      refine a_seq ?_
      refine a_region ?_
      refine aops_cons rfl (w_pure rfl (p_move rfl) ?_)
      refine aops_cons rfl (w_pure rfl (p_assign rfl) ?_)
      refine aops_cons rfl (w_pure rfl (p_assign rfl) ?_)
      refine aops_nil ?_
      refine a_ret ?_
      refine ret_ok (hands2 rfl (.tmp rfl) (.tmp rfl)) (st' := [(b, _)]) (.cons (by repeat (first | exact Pick.here _ _ _ | apply Pick.next)) (.nil _)) ?_
      first | exact absurd hA (by assumption) | (have hx : i = h.list.length := (by omega); subst hx; subst hI; exact ⟨b, rfl, rfl⟩)

theorem cy_spec_EventIds (h : Hall) (hn : SmallHall h) (hA : IsHall h) : ACalls Try.prog 68 [.agg (eHall h)] [] (Ret (.tup [.sl ((evtIds h).map eInt), .bool true])) :=
  (co_spec_EventIds h hn hA).freeze (by rintro _ _ ⟨_, rfl, rfl⟩; exact (.tup (.cons (.own (by repeat (first | exact List.Mem.head _ | apply List.Mem.tail)) (List.length_map _)) (.cons (.refl _) .nil))))

theorem con_spec_EventIds (h : Hall) (hn : SmallHall h) (hA : ¬ IsHall h) : ACalls Try.prog 68 [.agg (eHall h)] [] (fun r st => ∃ b1, r = .tup [.own 1 b1 0 ([] : List Int).length, .bool false] ∧ st = [(b1, .arr 3 1 (([] : List Int).map eInt))]) := by
  have hnn := hn
  obtain ⟨hn1, hn2⟩ := hnn
  refine a_enter Try.func68 rfl rfl (fun w0 M0 => ?_)
  refine a_seq ?_
  refine a_region ?_
  refine aops_cons rfl (w_box_v rfl rfl rfl ?_)
  refine aops_cons rfl (w_pure rfl (p_assign rfl) ?_)
  refine aops_cons rfl (w_pure rfl (p_assign rfl) ?_)
  refine aops_nil ?_
  refine a_seq ?_
  refine a_region ?_
  refine aops_cons rfl (w_litM eInt [] rfl el_34 rfl rfl rfl rfl rfl fun b1 => ?_)
  refine aops_cons rfl (w_pure rfl (p_assign rfl) ?_)
  refine aops_nil ?_
  refine a_seq ?_
  refine a_seq ?_
  refine a_region ?_
  refine aops_cons rfl (w_pure rfl (p_load_v_all ag_62 rfl (by rfl) noX) ?_)
  refine aops_cons rfl (w_callR rfl rfl rfl cl_114 (c_spec_l15Good _ ‹_›) ?_)
  refine aops_cons rfl (w_pure rfl (p_not rfl) ?_)
  refine aops_nil ?_
  first | refine a_cond_d rfl (fun h1 => ?_) (fun h2 => ?_) | refine a_cond_n rfl (fun h1 => ?_) (fun h2 => ?_) | refine a_cond_nb rfl (fun h1 => ?_) (fun h2 => ?_) | refine a_cond rfl (fun h1 => ?_) (fun h2 => ?_)
  · (try simp only [Bool.not_eq_true', Bool.not_eq_false', Bool.not_eq_true, Bool.not_eq_false, decide_eq_true_eq, decide_eq_false_iff_not, List.length_map, List.length_range] at h1)
    refine a_seq ?_
    refine a_region ?_
    refine aops_cons rfl (w_pure rfl (p_move rfl) ?_)
    refine aops_cons rfl (w_pure rfl (p_assign rfl) ?_)
    refine aops_cons rfl (w_pure rfl (p_assign rfl) ?_)
    refine aops_nil ?_
    refine a_ret ?_
    refine ret_ok (hands2 rfl (.tmp rfl) (.tmp rfl)) (st' := [(b1, _)]) (.cons (by repeat (first | exact Pick.here _ _ _ | apply Pick.next)) (.nil _)) ?_
    exact ⟨_, rfl, rfl⟩
  · (try simp only [Bool.not_eq_true', Bool.not_eq_false', Bool.not_eq_true, Bool.not_eq_false, decide_eq_true_eq, decide_eq_false_iff_not, List.length_map, List.length_range] at h2)
    refine a_skip ?_
    refine a_seq ?_
    refine a_seq ?_
    exact absurd (by assumption) hA

theorem cn_spec_EventIds (h : Hall) (hn : SmallHall h) (hA : ¬ IsHall h) : ACalls Try.prog 68 [.agg (eHall h)] [] (Ret (.tup [.sl (([] : List Int).map eInt), .bool false])) :=
  (con_spec_EventIds h hn hA).freeze (by rintro _ _ ⟨_, rfl, rfl⟩; exact (.tup (.cons (.own (by repeat (first | exact List.Mem.head _ | apply List.Mem.tail)) (List.length_map _)) (.cons (.refl _) .nil))))

theorem cy_impl_EventIds (h : Hall) (hn : SmallHall h) (hA : IsHall h) : ACalls Try.prog 69 [.agg (eHall h)] [] (fun r st => ∃ b1, r = .tup [.own 1 b1 0 (evtIds h).length, .bool true] ∧ st = [(b1, .arr 3 1 ((evtIds h).map eInt))]) := by
  have hnn := hn
  obtain ⟨hn1, hn2⟩ := hnn
  refine a_enter Try.func69 rfl rfl (fun w0 M0 => ?_)
  refine a_seq ?_
  refine a_region ?_
  refine aops_cons rfl (w_box_v rfl rfl rfl ?_)
  refine aops_cons rfl (w_pure rfl (p_assign rfl) ?_)
  refine aops_cons rfl (w_pure rfl (p_assign rfl) ?_)
  refine aops_nil ?_
  refine a_seq ?_
  refine a_seq ?_
  refine a_region ?_
  refine aops_cons rfl (w_pure rfl (p_load_v_all ag_62 rfl (by rfl) noX) ?_)
  refine aops_cons rfl (w_callR rfl rfl rfl cl_81 (c_impl_IsHall _ ‹_›) ?_)
  refine aops_cons rfl (w_pure rfl (p_not rfl) ?_)
  refine aops_nil ?_
  first | refine a_cond_d rfl (fun h1 => ?_) (fun h2 => ?_) | refine a_cond_n rfl (fun h1 => ?_) (fun h2 => ?_) | refine a_cond_nb rfl (fun h1 => ?_) (fun h2 => ?_) | refine a_cond rfl (fun h1 => ?_) (fun h2 => ?_)
  · (try simp only [Bool.not_eq_true', Bool.not_eq_false', Bool.not_eq_true, Bool.not_eq_false, decide_eq_true_eq, decide_eq_false_iff_not, List.length_map, List.length_range] at h1)
    refine a_seq ?_
    refine a_region ?_
    refine aops_cons rfl (w_pure rfl (p_assign rfl) ?_)
    refine aops_cons rfl (w_pure rfl (p_assign rfl) ?_)
    refine aops_nil ?_
    refine a_ret ?_
    refine ret_ok (hands2 rfl (.tmp rfl) (.tmp rfl)) (.nil _) ?_
    first | exact absurd hA (by assumption) | exact ⟨_, rfl, rfl⟩
  · (try simp only [Bool.not_eq_true', Bool.not_eq_false', Bool.not_eq_true, Bool.not_eq_false, decide_eq_true_eq, decide_eq_false_iff_not, List.length_map, List.length_range] at h2)
    refine a_skip ?_
    refine a_seq ?_
    refine a_region ?_
    refine aops_cons rfl (w_pure rfl (p_load_v_all ag_62 rfl (by rfl) noX) ?_)
    refine aops_cons rfl (w_pure rfl (p_func rfl) ?_)
    refine aops_cons rfl (w_call rfl rfl rfl cl_115 ((co_idsWhere_EventIds h (by assumption) hA.1.2).mono fun _ _ h => h.len) ?_)
    rintro _ _ ⟨b1, rfl, rfl⟩
    refine aops_cons rfl (w_pure rfl (p_assign rfl) ?_)
    refine aops_cons rfl (w_pure rfl (p_assign rfl) ?_)
    refine aops_nil ?_
    refine a_ret ?_
    refine ret_ok (hands2 rfl (.tmp rfl) (.tmp rfl)) (st' := [(b1, _)]) (.cons (by repeat (first | exact Pick.here _ _ _ | apply Pick.next)) (.nil _)) ?_
    first | exact absurd hA (by assumption) | exact ⟨_, rfl, rfl⟩

theorem cf_impl_EventIds (h : Hall) (hn : SmallHall h) (hA : IsHall h) : ACalls Try.prog 69 [.agg (eHall h)] [] (Ret (.tup [.sl ((evtIds h).map eInt), .bool true])) :=
  (cy_impl_EventIds h hn hA).freeze (by rintro _ _ ⟨_, rfl, rfl⟩; exact (.tup (.cons (.own (by repeat (first | exact List.Mem.head _ | apply List.Mem.tail)) (List.length_map _)) (.cons (.refl _) .nil))))

theorem cn_impl_EventIds (h : Hall) (hn : SmallHall h) (hA : ¬ IsHall h) : ACalls Try.prog 69 [.agg (eHall h)] [] (Ret (.tup [.nil, .bool false])) := by
  have hnn := hn
  obtain ⟨hn1, hn2⟩ := hnn
  refine a_enter Try.func69 rfl rfl (fun w0 M0 => ?_)
  refine a_seq ?_
  refine a_region ?_
  refine aops_cons rfl (w_box_v rfl rfl rfl ?_)
  refine aops_cons rfl (w_pure rfl (p_assign rfl) ?_)
  refine aops_cons rfl (w_pure rfl (p_assign rfl) ?_)
  refine aops_nil ?_
  refine a_seq ?_
  refine a_seq ?_
  refine a_region ?_
  refine aops_cons rfl (w_pure rfl (p_load_v_all ag_62 rfl (by rfl) noX) ?_)
  refine aops_cons rfl (w_callR rfl rfl rfl cl_81 (c_impl_IsHall _ ‹_›) ?_)
  refine aops_cons rfl (w_pure rfl (p_not rfl) ?_)
  refine aops_nil ?_
  first | refine a_cond_d rfl (fun h1 => ?_) (fun h2 => ?_) | refine a_cond_n rfl (fun h1 => ?_) (fun h2 => ?_) | refine a_cond_nb rfl (fun h1 => ?_) (fun h2 => ?_) | refine a_cond rfl (fun h1 => ?_) (fun h2 => ?_)
  · (try simp only [Bool.not_eq_true', Bool.not_eq_false', Bool.not_eq_true, Bool.not_eq_false, decide_eq_true_eq, decide_eq_false_iff_not, List.length_map, List.length_range] at h1)
    refine a_seq ?_
    refine a_region ?_
    refine aops_cons rfl (w_pure rfl (p_assign rfl) ?_)
    refine aops_cons rfl (w_pure rfl (p_assign rfl) ?_)
    refine aops_nil ?_
    refine a_ret ?_
    refine ret_ok (hands2 rfl (.tmp rfl) (.tmp rfl)) (.nil _) ?_
    exact ⟨rfl, rfl⟩
  · (try simp only [Bool.not_eq_true', Bool.not_eq_false', Bool.not_eq_true, Bool.not_eq_false, decide_eq_true_eq, decide_eq_false_iff_not, List.length_map, List.length_range] at h2)
    refine a_skip ?_
    refine a_seq ?_
    exact absurd (by assumption) hA

set_option maxHeartbeats 2000000 in
theorem c_laws_FnExactEventIds (h : Hall) (_hc0 : okHall h) : ACalls Try.prog 12 [.agg (eHall h)] [] (Ret (.bool true)) := by
  have hm0 : h.list.length ≤ 9223372036854775807 ∧ h.events.length ≤ 9223372036854775807 := ⟨_hc0.1.2, _hc0.2.1.2⟩
  have hq0 : szHall h 1048576 ≤ 1048576 := szHall_ub (Int.le_refl _)
  by_cases hA : IsHall h
  all_goals refine a_enter Try.func12 rfl rfl (fun w0 M0 => ?_)
  · skip
    refine a_seq ?_
    refine a_region ?_
    refine aops_cons rfl (w_box_v rfl rfl rfl ?_)
    refine aops_cons rfl (w_pure rfl (p_assign rfl) ?_)
    refine aops_nil ?_
    refine a_seq ?_
    refine a_region ?_
    refine aops_cons rfl (w_pure rfl (p_assign rfl) ?_)
    refine aops_nil ?_
    refine a_seq ?_
    refine a_region ?_
    refine aops_cons rfl (w_pure rfl (p_load_v_all ag_56 rfl (by rfl) noX) ?_)
    refine aops_cons rfl (w_pure rfl (p_move rfl) ?_)
    refine aops_cons rfl (w_callR rfl rfl rfl cl_53 (c_laws_szHall _ (by assumption) _ (by omega) (by omega)) ?_)
    refine aops_cons rfl (w_pure rfl (p_assign rfl) ?_)
    refine aops_nil ?_
    refine a_seq ?_
    refine a_seq ?_
    refine a_region ?_
    refine aops_cons rfl (w_pure rfl (p_move rfl) ?_)
    refine aops_cons rfl (w_pure rfl (p_lss rfl rfl) ?_)
    refine aops_nil ?_
    first | refine a_cond_d rfl (fun h1 => ?_) (fun h2 => ?_) | refine a_cond_n rfl (fun h1 => ?_) (fun h2 => ?_) | refine a_cond_nb rfl (fun h1 => ?_) (fun h2 => ?_) | refine a_cond rfl (fun h1 => ?_) (fun h2 => ?_)
    · (try simp only [Bool.not_eq_true', Bool.not_eq_false', Bool.not_eq_true, Bool.not_eq_false, decide_eq_true_eq, decide_eq_false_iff_not, List.length_map, List.length_range] at h1)
      refine a_seq ?_
      refine a_region ?_
      refine aops_cons rfl (w_pure rfl (p_assign rfl) ?_)
      refine aops_nil ?_
      refine a_ret ?_
      refine ret_ok (hands1 rfl (.tmp rfl)) (.nil _) ?_
      first | exact ⟨rfl, rfl⟩ | (exfalso; omega)
    · (try simp only [Bool.not_eq_true', Bool.not_eq_false', Bool.not_eq_true, Bool.not_eq_false, decide_eq_true_eq, decide_eq_false_iff_not, List.length_map, List.length_range] at h2)
      refine a_skip ?_
      refine a_seq ?_
      have hl0 : SmallHall h := szHall_le (left := 1048576) (by omega) (by omega) ‹_›; have hz0_ := hl0; simp only [SmallHall] at hz0_; obtain ⟨hz0_0, hz0_1⟩ := hz0_; have hr0 : (evtIds h).length ≤ 1048576 := (Nat.le_trans (idsOf_len h.list (evt h) h.list.length) hz0_0)
      refine a_region ?_
      refine aops_cons rfl (w_pure rfl (p_load_v_all ag_56 rfl (by rfl) noX) ?_)
      refine aops_cons rfl (w_callR rfl rfl rfl cl_56 (c_laws_toHall h hl0) ?_)
      refine aops_cons rfl (w_callR rfl rfl rfl cl_68 (cy_spec_EventIds h hl0 hA) ?_)
      refine aops_cons rfl (w_pure rfl (p_move rfl) ?_)
      refine aops_cons rfl (w_pure rfl (p_extract rfl rfl) ?_)
      refine aops_cons rfl (w_pure rfl (p_extract rfl rfl) ?_)
      refine aops_cons rfl (w_pure rfl (p_assign rfl) ?_)
      refine aops_cons rfl (w_pure rfl (p_assign rfl) ?_)
      refine aops_nil ?_
      refine a_seq ?_
      refine a_region ?_
      refine aops_cons rfl (w_pure rfl (p_load_v_all ag_56 rfl (by rfl) noX) ?_)
      refine aops_cons rfl (w_call rfl rfl rfl cl_56 (co_laws_toHall h hl0) ?_)
      rintro _ _ ⟨b1, b2, rfl, rfl⟩
      refine aops_cons rfl (w_alloc rfl z_62 fun b3 => ?_)
      refine aops_cons rfl (w_store (cells' := [_, _]) rfl rfl rfl (by repeat (first | exact Pick.here _ _ _ | apply Pick.next)) cn_62 (by rfl) (by rfl) (by rfl) trivial ?_)
      refine aops_nil ?_
      refine a_seq ?_
      refine a_region ?_
      refine aops_cons rfl (w_pure rfl (p_load_box_all ag_62 rfl (by repeat (first | exact Pick.here _ _ _ | apply Pick.next)) (by rfl) noX) ?_)
      refine aops_cons rfl (w_callL rfl rfl rfl cl_69 (.cons (.agg (.cons (.own (by repeat (first | exact List.Mem.head _ | apply List.Mem.tail)) (by first | (simp; done) | (simp; assumption) | (simp; omega) | (simp [mkL]; done))) (.cons (.own (by repeat (first | exact List.Mem.head _ | apply List.Mem.tail)) (by first | (simp; done) | (simp; assumption) | (simp; omega) | (simp [mkL]; done))) .nil))) .nil) (cy_impl_EventIds h hl0 hA) ?_)
      rintro _ _ ⟨b4, rfl, rfl⟩
      refine ⟨(closed_tup (all_cons' (closed_own _ _ _ _) (all_cons' (closed_bool _) all_nil'))), (closedS_cons (closedAll _ _ _ _ cl_eInt) closedS_nil), ?_⟩
      refine aops_cons rfl (w_pure rfl (p_move rfl) ?_)
      refine aops_cons rfl (w_pure rfl (p_extract rfl rfl) ?_)
      refine aops_cons rfl (w_pure rfl (p_extract rfl rfl) ?_)
      refine aops_cons rfl (w_pure rfl (p_assign rfl) ?_)
      refine aops_cons rfl (w_pure rfl (p_assign rfl) ?_)
      refine aops_nil ?_
      refine a_seq ?_
      refine a_seq ?_
      refine a_region ?_
      refine aops_cons rfl (w_pure rfl (p_move rfl) ?_)
      refine aops_cons rfl (w_pure rfl (p_move rfl) ?_)
      refine aops_cons rfl (w_callLR rfl rfl rfl cl_29 (.cons (.own (by repeat (first | exact List.Mem.head _ | apply List.Mem.tail)) (by first | (simp; done) | (simp; assumption) | (simp; omega) | (simp [mkL]; done))) (.cons (.refl _) .nil)) (c_laws_eqIntS (evtIds h) (Nat.le_trans (idsOf_len h.list (evt h) h.list.length) hz0_0)) (closed_bool _) ?_)
      refine aops_cons rfl (w_pure rfl (p_not rfl) ?_)
      refine aops_cons rfl (w_pure rfl (p_move rfl) ?_)
      refine aops_guard_t rfl rfl rfl (w_pure rfl (p_move rfl) ?_)
      refine aops_guard_t rfl rfl rfl (w_pure rfl (p_move rfl) ?_)
      refine aops_guard_t rfl rfl rfl (w_pure rfl (p_neq_bsame um_4 rfl rfl) ?_)
      refine aops_cons rfl (w_pure rfl (p_pick_f rfl rfl) ?_)
      refine aops_nil ?_
      refine a_cond_f rfl ?_
      refine a_skip ?_
      refine a_seq ?_
      refine a_seq ?_
      refine a_draw [] (by kernel_rfl) ?_
      show ADraw _ _ _ _ _ _ 5 _ _ _ _
      refine d_load 0 rfl (by kernel_rfl) (by kernel_rfl) (by kernel_rfl) rfl (p_load_box_all ag_62 rfl (by repeat (first | exact Pick.here _ _ _ | apply Pick.next)) (by rfl) noX) ?_
      refine d_load 1 rfl (by kernel_rfl) (by kernel_rfl) (by kernel_rfl) rfl (p_load_v_all ag_56 rfl (by rfl) noX) ?_
      refine draw_all [2] (by kernel_rfl) (by simp) ?_
      refine all_cons rfl rfl ?_ ?_
      · skip
        refine w_callR rfl rfl rfl cl_56 (c_laws_toHall h hl0) ?_
        refine draw_all [3] (by kernel_rfl) (by simp) ?_
        refine all_cons rfl rfl ?_ ?_
        · skip
          refine w_callLR rfl rfl rfl cl_59 (.cons (.agg (.cons (.own (by repeat (first | exact List.Mem.head _ | apply List.Mem.tail)) (by first | (simp; done) | (simp; assumption) | (simp; omega) | (simp [mkL]; done))) (.cons (.own (by repeat (first | exact List.Mem.head _ | apply List.Mem.tail)) (by first | (simp; done) | (simp; assumption) | (simp; omega) | (simp [mkL]; done))) .nil))) (.cons (.refl _) .nil)) (c_laws_eqHall h hl0) (closed_bool _) ?_
          refine d_take 4 rfl (by kernel_rfl) (by kernel_rfl) (by kernel_rfl) rfl (p_not rfl) ?_
          refine draw_done (by kernel_rfl) ?_
          refine a_cond_f rfl ?_
          refine a_skip ?_
          refine a_seq ?_
          refine a_region ?_
          refine aops_cons rfl (w_pure rfl (p_assign rfl) ?_)
          refine aops_nil ?_
          refine a_seq ?_
          refine a_region ?_
          refine aops_cons rfl (w_pure rfl (p_load_box_all ag_62 rfl (by repeat (first | exact Pick.here _ _ _ | apply Pick.next)) (by rfl) noX) ?_)
          refine aops_cons rfl (w_pure rfl (p_move rfl) ?_)
          refine aops_cons rfl (w_callM rfl rfl rfl cl_63 (.cons (by repeat (first | exact Pick.here _ _ _ | apply Pick.next)) (.cons (by repeat (first | exact Pick.here _ _ _ | apply Pick.next)) (.nil _))) (.cons (.refl _) (.cons (.refl _) .nil)) (c_laws_markHall _ _ h hl0 _ (by first | omega | (simp; done) | (simp; omega)) (by first | omega | (simp; done) | (simp; omega))) trivial ?_)
          rintro _ _ ⟨rfl, rfl⟩
          refine ⟨(closed_int _ _), (closedS_cons (closedAll _ _ _ _ cl_eVcpu) (closedS_cons (closedAll _ _ _ _ cl_eBool) closedS_nil)), ?_⟩
          refine aops_cons rfl (w_pure rfl (p_assign rfl) ?_)
          refine aops_nil ?_
          refine a_seq ?_
          refine a_seq ?_
          refine a_region ?_
          refine aops_cons rfl (w_pure rfl (p_move rfl) ?_)
          refine aops_cons rfl (w_pure rfl (p_lss rfl rfl) ?_)
          refine aops_cons rfl (w_pure rfl (p_move rfl) ?_)
          first | refine aops_split_d 51 rfl (fun h3 => ?_) (fun h4 => ?_) | refine aops_split 51 rfl (fun h3 => ?_) (fun h4 => ?_)
          · (try simp only [Bool.not_eq_true', Bool.not_eq_false', Bool.not_eq_true, Bool.not_eq_false, decide_eq_true_eq, decide_eq_false_iff_not, List.length_map, List.length_range] at h3)
            refine g_pass' rfl rfl rfl rfl rfl ?_
            refine g_pass' rfl rfl rfl rfl rfl ?_
            refine g_pass' rfl rfl rfl rfl rfl ?_
            refine g_pass' rfl rfl rfl rfl rfl ?_
            refine aops_cons rfl (w_pure rfl (p_pick_t rfl rfl) ?_)
            refine aops_cons rfl (w_pure rfl (p_move rfl) ?_)
            refine g_pass' rfl rfl rfl rfl rfl ?_
            refine g_pass' rfl rfl rfl rfl rfl ?_
            refine g_pass' rfl rfl rfl rfl rfl ?_
            refine aops_cons rfl (w_pure rfl (p_pick_t rfl rfl) ?_)
            refine aops_nil ?_
            refine a_cond_t rfl ?_
            refine a_seq ?_
            refine a_region ?_
            refine aops_cons rfl (w_pure rfl (p_assign rfl) ?_)
            refine aops_nil ?_
            refine a_ret ?_
            refine ret_ok (hands1 rfl (.tmp rfl)) (.nil _) ?_
            first | exact ⟨rfl, rfl⟩ | (exfalso; omega)
          · (try simp only [Bool.not_eq_true', Bool.not_eq_false', Bool.not_eq_true, Bool.not_eq_false, decide_eq_true_eq, decide_eq_false_iff_not, List.length_map, List.length_range] at h4)
            refine aops_guard_t rfl rfl rfl (w_pure rfl (p_move rfl) ?_)
            refine aops_guard_t rfl rfl rfl (w_pure rfl (p_move rfl) ?_)
            refine aops_guard_t rfl rfl rfl (w_callLR rfl rfl rfl cl_29 (.cons (.own (by repeat (first | exact List.Mem.head _ | apply List.Mem.tail)) (by first | (simp; done) | (simp; assumption) | (simp; omega) | (simp [mkL]; done))) (.cons (.refl _) .nil)) (c_laws_eqIntS (evtIds h) (Nat.le_trans (idsOf_len h.list (evt h) h.list.length) hz0_0)) (closed_bool _) ?_)
            refine aops_guard_t rfl rfl rfl (w_pure rfl (p_not rfl) ?_)
            refine aops_cons rfl (w_pure rfl (p_pick_f rfl rfl) ?_)
            refine aops_cons rfl (w_pure rfl (p_move rfl) ?_)
            refine aops_guard_t rfl rfl rfl (w_pure rfl (p_move rfl) ?_)
            refine aops_guard_t rfl rfl rfl (w_pure rfl (p_move rfl) ?_)
            refine aops_guard_t rfl rfl rfl (w_pure rfl (p_neq_bsame um_4 rfl rfl) ?_)
            refine aops_cons rfl (w_pure rfl (p_pick_f rfl rfl) ?_)
            refine aops_nil ?_
            refine a_cond_f rfl ?_
            refine a_skip ?_
            refine a_seq ?_
            refine a_region ?_
            refine aops_cons rfl (w_pure rfl (p_assign rfl) ?_)
            refine aops_nil ?_
            refine a_seq ?_
            refine a_region ?_
            refine aops_cons rfl (w_pure rfl (p_move rfl) ?_)
            refine aops_cons rfl (w_pure rfl (p_move rfl) ?_)
            refine aops_cons rfl (w_callM rfl rfl rfl cl_30 (.cons (by repeat (first | exact Pick.here _ _ _ | apply Pick.next)) (.nil _)) (.cons (.refl _) (.cons (.refl _) .nil)) (c_laws_markIntS _ (evtIds h) (Nat.le_trans (idsOf_len h.list (evt h) h.list.length) hz0_0) _ (by first | omega | (simp; done) | (simp; omega)) (by first | omega | (simp; done) | (simp; omega))) trivial ?_)
            rintro _ _ ⟨rfl, rfl⟩
            refine ⟨(closed_int _ _), (closedS_cons (closedAll _ _ _ _ cl_eInt) closedS_nil), ?_⟩
            refine aops_cons rfl (w_pure rfl (p_assign rfl) ?_)
            refine aops_nil ?_
            refine a_seq ?_
            refine a_region ?_
            refine aops_cons rfl (w_pure rfl (p_assign rfl) ?_)
            refine aops_nil ?_
            refine a_seq ?_
            refine a_region ?_
            refine aops_cons rfl (w_pure rfl (p_move rfl) ?_)
            refine aops_cons rfl (w_pure rfl (p_move rfl) ?_)
            refine aops_cons rfl (w_callLR rfl rfl rfl cl_31 (.cons (.own (by repeat (first | exact List.Mem.head _ | apply List.Mem.tail)) (by first | (simp; done) | (simp; assumption) | (simp; omega) | (simp [mkL]; done))) (.cons (.refl _) .nil)) (c_laws_heldIntS (evtIds h).length (Nat.le_trans (idsOf_len h.list (evt h) h.list.length) hz0_0) _ (by first | omega | (simp; done) | (simp; omega)) (by first | omega | (simp; done) | (simp; omega))) (closed_int _ _) ?_)
            refine aops_cons rfl (w_pure rfl (p_assign rfl) ?_)
            refine aops_nil ?_
            refine a_seq ?_
            refine a_seq ?_
            refine a_region ?_
            refine aops_cons rfl (w_pure rfl (p_move rfl) ?_)
            refine aops_cons rfl (w_pure rfl (p_lss rfl rfl) ?_)
            refine aops_nil ?_
            first | refine a_cond_d rfl (fun h5 => ?_) (fun h6 => ?_) | refine a_cond_n rfl (fun h5 => ?_) (fun h6 => ?_) | refine a_cond_nb rfl (fun h5 => ?_) (fun h6 => ?_) | refine a_cond rfl (fun h5 => ?_) (fun h6 => ?_)
            · (try simp only [Bool.not_eq_true', Bool.not_eq_false', Bool.not_eq_true, Bool.not_eq_false, decide_eq_true_eq, decide_eq_false_iff_not, List.length_map, List.length_range] at h5)
              refine a_seq ?_
              refine a_region ?_
              refine aops_cons rfl (w_pure rfl (p_assign rfl) ?_)
              refine aops_nil ?_
              refine a_ret ?_
              refine ret_ok (hands1 rfl (.tmp rfl)) (.nil _) ?_
              first | exact ⟨rfl, rfl⟩ | (exfalso; omega)
            · (try simp only [Bool.not_eq_true', Bool.not_eq_false', Bool.not_eq_true, Bool.not_eq_false, decide_eq_true_eq, decide_eq_false_iff_not, List.length_map, List.length_range] at h6)
              refine a_skip ?_
              refine a_seq ?_
              refine a_seq ?_
              refine a_region ?_
              refine aops_cons rfl (w_pure rfl (p_move rfl) ?_)
              refine aops_cons rfl (w_pure rfl (p_move rfl) ?_)
              refine aops_cons rfl (w_pure rfl (p_neq_same rfl rfl) ?_)
              refine aops_nil ?_
              refine a_cond_f rfl ?_
              refine a_skip ?_
              refine a_seq ?_
              refine a_region ?_
              refine aops_cons rfl (w_pure rfl (p_load_v_all ag_56 rfl (by rfl) noX) ?_)
              refine aops_cons rfl (w_callR rfl rfl rfl cl_56 (c_laws_toHall h hl0) ?_)
              refine aops_cons rfl (w_callR rfl rfl rfl cl_69 (cf_impl_EventIds h hl0 hA) ?_)
              refine aops_cons rfl (w_pure rfl (p_move rfl) ?_)
              refine aops_cons rfl (w_pure rfl (p_extract rfl rfl) ?_)
              refine aops_cons rfl (w_pure rfl (p_extract rfl rfl) ?_)
              refine aops_cons rfl (w_pure rfl (p_assign rfl) ?_)
              refine aops_cons rfl (w_pure rfl (p_assign rfl) ?_)
              refine aops_nil ?_
              refine a_seq ?_
              refine a_seq ?_
              refine a_region ?_
              refine aops_cons rfl (w_pure rfl (p_move rfl) ?_)
              refine aops_cons rfl (w_pure rfl (p_move rfl) ?_)
              refine aops_cons rfl (w_callLR rfl rfl rfl cl_29 (.cons (.refl _) (.cons (.refl _) .nil)) (c_laws_eqIntS (evtIds h) (Nat.le_trans (idsOf_len h.list (evt h) h.list.length) hz0_0)) (closed_bool _) ?_)
              refine aops_cons rfl (w_pure rfl (p_not rfl) ?_)
              refine aops_cons rfl (w_pure rfl (p_move rfl) ?_)
              refine aops_guard_t rfl rfl rfl (w_pure rfl (p_move rfl) ?_)
              refine aops_guard_t rfl rfl rfl (w_pure rfl (p_move rfl) ?_)
              refine aops_guard_t rfl rfl rfl (w_pure rfl (p_neq_bsame um_4 rfl rfl) ?_)
              refine aops_cons rfl (w_pure rfl (p_pick_f rfl rfl) ?_)
              refine aops_nil ?_
              refine a_cond_f rfl ?_
              refine a_skip ?_
              refine a_seq ?_
              refine a_region ?_
              refine aops_cons rfl (w_pure rfl (p_assign rfl) ?_)
              refine aops_nil ?_
              refine a_seq ?_
              refine a_region ?_
              refine aops_cons rfl (w_pure rfl (p_move rfl) ?_)
              refine aops_cons rfl (w_pure rfl (p_move rfl) ?_)
              refine aops_cons rfl (w_callLR rfl rfl rfl cl_31 (.cons (.own (by repeat (first | exact List.Mem.head _ | apply List.Mem.tail)) (by first | (simp; done) | (simp; assumption) | (simp; omega) | (simp [mkL]; done))) (.cons (.refl _) .nil)) (c_laws_heldIntS (evtIds h).length (Nat.le_trans (idsOf_len h.list (evt h) h.list.length) hz0_0) _ (by first | omega | (simp; done) | (simp; omega)) (by first | omega | (simp; done) | (simp; omega))) (closed_int _ _) ?_)
              refine aops_cons rfl (w_pure rfl (p_assign rfl) ?_)
              refine aops_nil ?_
              refine a_seq ?_
              refine a_seq ?_
              refine a_region ?_
              refine aops_cons rfl (w_pure rfl (p_move rfl) ?_)
              refine aops_cons rfl (w_pure rfl (p_lss rfl rfl) ?_)
              refine aops_nil ?_
              first | refine a_cond_d rfl (fun h7 => ?_) (fun h8 => ?_) | refine a_cond_n rfl (fun h7 => ?_) (fun h8 => ?_) | refine a_cond_nb rfl (fun h7 => ?_) (fun h8 => ?_) | refine a_cond rfl (fun h7 => ?_) (fun h8 => ?_)
              · (try simp only [Bool.not_eq_true', Bool.not_eq_false', Bool.not_eq_true, Bool.not_eq_false, decide_eq_true_eq, decide_eq_false_iff_not, List.length_map, List.length_range] at h7)
                refine a_seq ?_
                refine a_region ?_
                refine aops_cons rfl (w_pure rfl (p_assign rfl) ?_)
                refine aops_nil ?_
                refine a_ret ?_
                refine ret_ok (hands1 rfl (.tmp rfl)) (.nil _) ?_
                first | exact ⟨rfl, rfl⟩ | (exfalso; omega)
              · (try simp only [Bool.not_eq_true', Bool.not_eq_false', Bool.not_eq_true, Bool.not_eq_false, decide_eq_true_eq, decide_eq_false_iff_not, List.length_map, List.length_range] at h8)
                refine a_skip ?_
                refine a_seq ?_
                refine a_seq ?_
                refine a_region ?_
                refine aops_cons rfl (w_pure rfl (p_move rfl) ?_)
                refine aops_cons rfl (w_pure rfl (p_move rfl) ?_)
                refine aops_cons rfl (w_pure rfl (p_neq_same rfl rfl) ?_)
                refine aops_nil ?_
                refine a_cond_f rfl ?_
                refine a_skip ?_
                refine a_seq ?_
                refine a_region ?_
                refine aops_cons rfl (w_pure rfl (p_assign rfl) ?_)
                refine aops_nil ?_
                refine a_ret ?_
                refine ret_ok (hands1 rfl (.tmp rfl)) (.nil _) ?_
                first | exact ⟨rfl, rfl⟩ | (exfalso; omega)
        exact all_nil
      exact all_nil
  · skip
    refine a_seq ?_
    refine a_region ?_
    refine aops_cons rfl (w_box_v rfl rfl rfl ?_)
    refine aops_cons rfl (w_pure rfl (p_assign rfl) ?_)
    refine aops_nil ?_
    refine a_seq ?_
    refine a_region ?_
    refine aops_cons rfl (w_pure rfl (p_assign rfl) ?_)
    refine aops_nil ?_
    refine a_seq ?_
    refine a_region ?_
    refine aops_cons rfl (w_pure rfl (p_load_v_all ag_56 rfl (by rfl) noX) ?_)
    refine aops_cons rfl (w_pure rfl (p_move rfl) ?_)
    refine aops_cons rfl (w_callR rfl rfl rfl cl_53 (c_laws_szHall _ (by assumption) _ (by omega) (by omega)) ?_)
    refine aops_cons rfl (w_pure rfl (p_assign rfl) ?_)
    refine aops_nil ?_
    refine a_seq ?_
    refine a_seq ?_
    refine a_region ?_
    refine aops_cons rfl (w_pure rfl (p_move rfl) ?_)
    refine aops_cons rfl (w_pure rfl (p_lss rfl rfl) ?_)
    refine aops_nil ?_
    first | refine a_cond_d rfl (fun h1 => ?_) (fun h2 => ?_) | refine a_cond_n rfl (fun h1 => ?_) (fun h2 => ?_) | refine a_cond_nb rfl (fun h1 => ?_) (fun h2 => ?_) | refine a_cond rfl (fun h1 => ?_) (fun h2 => ?_)
    · (try simp only [Bool.not_eq_true', Bool.not_eq_false', Bool.not_eq_true, Bool.not_eq_false, decide_eq_true_eq, decide_eq_false_iff_not, List.length_map, List.length_range] at h1)
      refine a_seq ?_
      refine a_region ?_
      refine aops_cons rfl (w_pure rfl (p_assign rfl) ?_)
      refine aops_nil ?_
      refine a_ret ?_
      refine ret_ok (hands1 rfl (.tmp rfl)) (.nil _) ?_
      first | exact ⟨rfl, rfl⟩ | (exfalso; omega)
    · (try simp only [Bool.not_eq_true', Bool.not_eq_false', Bool.not_eq_true, Bool.not_eq_false, decide_eq_true_eq, decide_eq_false_iff_not, List.length_map, List.length_range] at h2)
      refine a_skip ?_
      refine a_seq ?_
      have hl0 : SmallHall h := szHall_le (left := 1048576) (by omega) (by omega) ‹_›; have hz0_ := hl0; simp only [SmallHall] at hz0_; obtain ⟨hz0_0, hz0_1⟩ := hz0_
      refine a_region ?_
      refine aops_cons rfl (w_pure rfl (p_load_v_all ag_56 rfl (by rfl) noX) ?_)
      refine aops_cons rfl (w_callR rfl rfl rfl cl_56 (c_laws_toHall h hl0) ?_)
      refine aops_cons rfl (w_callR rfl rfl rfl cl_68 (cn_spec_EventIds h hl0 hA) ?_)
      refine aops_cons rfl (w_pure rfl (p_move rfl) ?_)
      refine aops_cons rfl (w_pure rfl (p_extract rfl rfl) ?_)
      refine aops_cons rfl (w_pure rfl (p_extract rfl rfl) ?_)
      refine aops_cons rfl (w_pure rfl (p_assign rfl) ?_)
      refine aops_cons rfl (w_pure rfl (p_assign rfl) ?_)
      refine aops_nil ?_
      refine a_seq ?_
      refine a_region ?_
      refine aops_cons rfl (w_pure rfl (p_load_v_all ag_56 rfl (by rfl) noX) ?_)
      refine aops_cons rfl (w_call rfl rfl rfl cl_56 (co_laws_toHall h hl0) ?_)
      rintro _ _ ⟨b1, b2, rfl, rfl⟩
      refine aops_cons rfl (w_alloc rfl z_62 fun b3 => ?_)
      refine aops_cons rfl (w_store (cells' := [_, _]) rfl rfl rfl (by repeat (first | exact Pick.here _ _ _ | apply Pick.next)) cn_62 (by rfl) (by rfl) (by rfl) trivial ?_)
      refine aops_nil ?_
      refine a_seq ?_
      refine a_region ?_
      refine aops_cons rfl (w_pure rfl (p_load_box_all ag_62 rfl (by repeat (first | exact Pick.here _ _ _ | apply Pick.next)) (by rfl) noX) ?_)
      refine aops_cons rfl (w_callLR rfl rfl rfl cl_69 (.cons (.agg (.cons (.own (by repeat (first | exact List.Mem.head _ | apply List.Mem.tail)) (by first | (simp; done) | (simp; assumption) | (simp; omega) | (simp [mkL]; done))) (.cons (.own (by repeat (first | exact List.Mem.head _ | apply List.Mem.tail)) (by first | (simp; done) | (simp; assumption) | (simp; omega) | (simp [mkL]; done))) .nil))) .nil) (cn_impl_EventIds h hl0 hA) (closed_tup (all_cons' closed_nil (all_cons' (closed_bool _) all_nil'))) ?_)
      refine aops_cons rfl (w_pure rfl (p_move rfl) ?_)
      refine aops_cons rfl (w_pure rfl (p_extract rfl rfl) ?_)
      refine aops_cons rfl (w_pure rfl (p_extract rfl rfl) ?_)
      refine aops_cons rfl (w_pure rfl (p_assign rfl) ?_)
      refine aops_cons rfl (w_pure rfl (p_assign rfl) ?_)
      refine aops_nil ?_
      refine a_seq ?_
      refine a_seq ?_
      refine a_region ?_
      refine aops_cons rfl (w_pure rfl (p_move rfl) ?_)
      refine aops_cons rfl (w_pure rfl (p_move rfl) ?_)
      refine aops_cons rfl (w_callLR rfl rfl rfl cl_29 (.cons .nil (.cons (.refl _) .nil)) (c_laws_eqIntS ([] : List Int) (by first | decide | (simp; done) | exact ⟨by decide, by decide⟩)) (closed_bool _) ?_)
      refine aops_cons rfl (w_pure rfl (p_not rfl) ?_)
      refine aops_cons rfl (w_pure rfl (p_move rfl) ?_)
      refine aops_guard_t rfl rfl rfl (w_pure rfl (p_move rfl) ?_)
      refine aops_guard_t rfl rfl rfl (w_pure rfl (p_move rfl) ?_)
      refine aops_guard_t rfl rfl rfl (w_pure rfl (p_neq_bsame um_4 rfl rfl) ?_)
      refine aops_cons rfl (w_pure rfl (p_pick_f rfl rfl) ?_)
      refine aops_nil ?_
      refine a_cond_f rfl ?_
      refine a_skip ?_
      refine a_seq ?_
      refine a_seq ?_
      refine a_draw [] (by kernel_rfl) ?_
      show ADraw _ _ _ _ _ _ 5 _ _ _ _
      refine d_load 0 rfl (by kernel_rfl) (by kernel_rfl) (by kernel_rfl) rfl (p_load_box_all ag_62 rfl (by repeat (first | exact Pick.here _ _ _ | apply Pick.next)) (by rfl) noX) ?_
      refine d_load 1 rfl (by kernel_rfl) (by kernel_rfl) (by kernel_rfl) rfl (p_load_v_all ag_56 rfl (by rfl) noX) ?_
      refine draw_all [2] (by kernel_rfl) (by simp) ?_
      refine all_cons rfl rfl ?_ ?_
      · skip
        refine w_callR rfl rfl rfl cl_56 (c_laws_toHall h hl0) ?_
        refine draw_all [3] (by kernel_rfl) (by simp) ?_
        refine all_cons rfl rfl ?_ ?_
        · skip
          refine w_callLR rfl rfl rfl cl_59 (.cons (.agg (.cons (.own (by repeat (first | exact List.Mem.head _ | apply List.Mem.tail)) (by first | (simp; done) | (simp; assumption) | (simp; omega) | (simp [mkL]; done))) (.cons (.own (by repeat (first | exact List.Mem.head _ | apply List.Mem.tail)) (by first | (simp; done) | (simp; assumption) | (simp; omega) | (simp [mkL]; done))) .nil))) (.cons (.refl _) .nil)) (c_laws_eqHall h hl0) (closed_bool _) ?_
          refine d_take 4 rfl (by kernel_rfl) (by kernel_rfl) (by kernel_rfl) rfl (p_not rfl) ?_
          refine draw_done (by kernel_rfl) ?_
          refine a_cond_f rfl ?_
          refine a_skip ?_
          refine a_seq ?_
          refine a_region ?_
          refine aops_cons rfl (w_pure rfl (p_assign rfl) ?_)
          refine aops_nil ?_
          refine a_seq ?_
          refine a_region ?_
          refine aops_cons rfl (w_pure rfl (p_load_box_all ag_62 rfl (by repeat (first | exact Pick.here _ _ _ | apply Pick.next)) (by rfl) noX) ?_)
          refine aops_cons rfl (w_pure rfl (p_move rfl) ?_)
          refine aops_cons rfl (w_callM rfl rfl rfl cl_63 (.cons (by repeat (first | exact Pick.here _ _ _ | apply Pick.next)) (.cons (by repeat (first | exact Pick.here _ _ _ | apply Pick.next)) (.nil _))) (.cons (.refl _) (.cons (.refl _) .nil)) (c_laws_markHall _ _ h hl0 _ (by first | omega | (simp; done) | (simp; omega)) (by first | omega | (simp; done) | (simp; omega))) trivial ?_)
          rintro _ _ ⟨rfl, rfl⟩
          refine ⟨(closed_int _ _), (closedS_cons (closedAll _ _ _ _ cl_eVcpu) (closedS_cons (closedAll _ _ _ _ cl_eBool) closedS_nil)), ?_⟩
          refine aops_cons rfl (w_pure rfl (p_assign rfl) ?_)
          refine aops_nil ?_
          refine a_seq ?_
          refine a_seq ?_
          refine a_region ?_
          refine aops_cons rfl (w_pure rfl (p_move rfl) ?_)
          refine aops_cons rfl (w_pure rfl (p_lss rfl rfl) ?_)
          refine aops_cons rfl (w_pure rfl (p_move rfl) ?_)
          first | refine aops_split_d 51 rfl (fun h3 => ?_) (fun h4 => ?_) | refine aops_split 51 rfl (fun h3 => ?_) (fun h4 => ?_)
          · (try simp only [Bool.not_eq_true', Bool.not_eq_false', Bool.not_eq_true, Bool.not_eq_false, decide_eq_true_eq, decide_eq_false_iff_not, List.length_map, List.length_range] at h3)
            refine g_pass' rfl rfl rfl rfl rfl ?_
            refine g_pass' rfl rfl rfl rfl rfl ?_
            refine g_pass' rfl rfl rfl rfl rfl ?_
            refine g_pass' rfl rfl rfl rfl rfl ?_
            refine aops_cons rfl (w_pure rfl (p_pick_t rfl rfl) ?_)
            refine aops_cons rfl (w_pure rfl (p_move rfl) ?_)
            refine g_pass' rfl rfl rfl rfl rfl ?_
            refine g_pass' rfl rfl rfl rfl rfl ?_
            refine g_pass' rfl rfl rfl rfl rfl ?_
            refine aops_cons rfl (w_pure rfl (p_pick_t rfl rfl) ?_)
            refine aops_nil ?_
            refine a_cond_t rfl ?_
            refine a_seq ?_
            refine a_region ?_
            refine aops_cons rfl (w_pure rfl (p_assign rfl) ?_)
            refine aops_nil ?_
            refine a_ret ?_
            refine ret_ok (hands1 rfl (.tmp rfl)) (.nil _) ?_
            first | exact ⟨rfl, rfl⟩ | (exfalso; omega)
          · (try simp only [Bool.not_eq_true', Bool.not_eq_false', Bool.not_eq_true, Bool.not_eq_false, decide_eq_true_eq, decide_eq_false_iff_not, List.length_map, List.length_range] at h4)
            refine aops_guard_t rfl rfl rfl (w_pure rfl (p_move rfl) ?_)
            refine aops_guard_t rfl rfl rfl (w_pure rfl (p_move rfl) ?_)
            refine aops_guard_t rfl rfl rfl (w_callLR rfl rfl rfl cl_29 (.cons .nil (.cons (.refl _) .nil)) (c_laws_eqIntS ([] : List Int) (by first | decide | (simp; done) | exact ⟨by decide, by decide⟩)) (closed_bool _) ?_)
            refine aops_guard_t rfl rfl rfl (w_pure rfl (p_not rfl) ?_)
            refine aops_cons rfl (w_pure rfl (p_pick_f rfl rfl) ?_)
            refine aops_cons rfl (w_pure rfl (p_move rfl) ?_)
            refine aops_guard_t rfl rfl rfl (w_pure rfl (p_move rfl) ?_)
            refine aops_guard_t rfl rfl rfl (w_pure rfl (p_move rfl) ?_)
            refine aops_guard_t rfl rfl rfl (w_pure rfl (p_neq_bsame um_4 rfl rfl) ?_)
            refine aops_cons rfl (w_pure rfl (p_pick_f rfl rfl) ?_)
            refine aops_nil ?_
            refine a_cond_f rfl ?_
            refine a_skip ?_
            refine a_seq ?_
            refine a_region ?_
            refine aops_cons rfl (w_pure rfl (p_assign rfl) ?_)
            refine aops_nil ?_
            refine a_seq ?_
            refine a_region ?_
            refine aops_cons rfl (w_pure rfl (p_move rfl) ?_)
            refine aops_cons rfl (w_pure rfl (p_move rfl) ?_)
            refine aops_cons rfl (w_callR rfl rfl rfl cl_30 (cn_laws_markIntS ..) ?_)
            refine aops_cons rfl (w_pure rfl (p_assign rfl) ?_)
            refine aops_nil ?_
            refine a_seq ?_
            refine a_region ?_
            refine aops_cons rfl (w_pure rfl (p_assign rfl) ?_)
            refine aops_nil ?_
            refine a_seq ?_
            refine a_region ?_
            refine aops_cons rfl (w_pure rfl (p_move rfl) ?_)
            refine aops_cons rfl (w_pure rfl (p_move rfl) ?_)
            refine aops_cons rfl (w_callLR rfl rfl rfl cl_31 (.cons .nil (.cons (.refl _) .nil)) (c_laws_heldIntS 0 (by decide) _ (by first | omega | (simp; done) | (simp; omega)) (by first | omega | (simp; done) | (simp; omega))) (closed_int _ _) ?_)
            refine aops_cons rfl (w_pure rfl (p_assign rfl) ?_)
            refine aops_nil ?_
            refine a_seq ?_
            refine a_seq ?_
            refine a_region ?_
            refine aops_cons rfl (w_pure rfl (p_move rfl) ?_)
            refine aops_cons rfl (w_pure rfl (p_lss rfl rfl) ?_)
            refine aops_nil ?_
            first | refine a_cond_d rfl (fun h5 => ?_) (fun h6 => ?_) | refine a_cond_n rfl (fun h5 => ?_) (fun h6 => ?_) | refine a_cond_nb rfl (fun h5 => ?_) (fun h6 => ?_) | refine a_cond rfl (fun h5 => ?_) (fun h6 => ?_)
            · (try simp only [Bool.not_eq_true', Bool.not_eq_false', Bool.not_eq_true, Bool.not_eq_false, decide_eq_true_eq, decide_eq_false_iff_not, List.length_map, List.length_range] at h5)
              refine a_seq ?_
              refine a_region ?_
              refine aops_cons rfl (w_pure rfl (p_assign rfl) ?_)
              refine aops_nil ?_
              refine a_ret ?_
              refine ret_ok (hands1 rfl (.tmp rfl)) (.nil _) ?_
              first | exact ⟨rfl, rfl⟩ | (exfalso; omega)
            · (try simp only [Bool.not_eq_true', Bool.not_eq_false', Bool.not_eq_true, Bool.not_eq_false, decide_eq_true_eq, decide_eq_false_iff_not, List.length_map, List.length_range] at h6)
              refine a_skip ?_
              refine a_seq ?_
              refine a_seq ?_
              refine a_region ?_
              refine aops_cons rfl (w_pure rfl (p_move rfl) ?_)
              refine aops_cons rfl (w_pure rfl (p_move rfl) ?_)
              refine aops_cons rfl (w_pure rfl (p_neq_same rfl rfl) ?_)
              refine aops_nil ?_
              refine a_cond_f rfl ?_
              refine a_skip ?_
              refine a_seq ?_
              refine a_region ?_
              refine aops_cons rfl (w_pure rfl (p_load_v_all ag_56 rfl (by rfl) noX) ?_)
              refine aops_cons rfl (w_callR rfl rfl rfl cl_56 (c_laws_toHall h hl0) ?_)
              refine aops_cons rfl (w_callR rfl rfl rfl cl_69 (cn_impl_EventIds h hl0 hA) ?_)
              refine aops_cons rfl (w_pure rfl (p_move rfl) ?_)
              refine aops_cons rfl (w_pure rfl (p_extract rfl rfl) ?_)
              refine aops_cons rfl (w_pure rfl (p_extract rfl rfl) ?_)
              refine aops_cons rfl (w_pure rfl (p_assign rfl) ?_)
              refine aops_cons rfl (w_pure rfl (p_assign rfl) ?_)
              refine aops_nil ?_
              refine a_seq ?_
              refine a_seq ?_
              refine a_region ?_
              refine aops_cons rfl (w_pure rfl (p_move rfl) ?_)
              refine aops_cons rfl (w_pure rfl (p_move rfl) ?_)
              refine aops_cons rfl (w_callLR rfl rfl rfl cl_29 (.cons .nil (.cons (.refl _) .nil)) (c_laws_eqIntS ([] : List Int) (by first | decide | (simp; done) | exact ⟨by decide, by decide⟩)) (closed_bool _) ?_)
              refine aops_cons rfl (w_pure rfl (p_not rfl) ?_)
              refine aops_cons rfl (w_pure rfl (p_move rfl) ?_)
              refine aops_guard_t rfl rfl rfl (w_pure rfl (p_move rfl) ?_)
              refine aops_guard_t rfl rfl rfl (w_pure rfl (p_move rfl) ?_)
              refine aops_guard_t rfl rfl rfl (w_pure rfl (p_neq_bsame um_4 rfl rfl) ?_)
              refine aops_cons rfl (w_pure rfl (p_pick_f rfl rfl) ?_)
              refine aops_nil ?_
              refine a_cond_f rfl ?_
              refine a_skip ?_
              refine a_seq ?_
              refine a_region ?_
              refine aops_cons rfl (w_pure rfl (p_assign rfl) ?_)
              refine aops_nil ?_
              refine a_seq ?_
              refine a_region ?_
              refine aops_cons rfl (w_pure rfl (p_move rfl) ?_)
              refine aops_cons rfl (w_pure rfl (p_move rfl) ?_)
              refine aops_cons rfl (w_callLR rfl rfl rfl cl_31 (.cons .nil (.cons (.refl _) .nil)) (c_laws_heldIntS 0 (by decide) _ (by first | omega | (simp; done) | (simp; omega)) (by first | omega | (simp; done) | (simp; omega))) (closed_int _ _) ?_)
              refine aops_cons rfl (w_pure rfl (p_assign rfl) ?_)
              refine aops_nil ?_
              refine a_seq ?_
              refine a_seq ?_
              refine a_region ?_
              refine aops_cons rfl (w_pure rfl (p_move rfl) ?_)
              refine aops_cons rfl (w_pure rfl (p_lss rfl rfl) ?_)
              refine aops_nil ?_
              first | refine a_cond_d rfl (fun h7 => ?_) (fun h8 => ?_) | refine a_cond_n rfl (fun h7 => ?_) (fun h8 => ?_) | refine a_cond_nb rfl (fun h7 => ?_) (fun h8 => ?_) | refine a_cond rfl (fun h7 => ?_) (fun h8 => ?_)
              · (try simp only [Bool.not_eq_true', Bool.not_eq_false', Bool.not_eq_true, Bool.not_eq_false, decide_eq_true_eq, decide_eq_false_iff_not, List.length_map, List.length_range] at h7)
                refine a_seq ?_
                refine a_region ?_
                refine aops_cons rfl (w_pure rfl (p_assign rfl) ?_)
                refine aops_nil ?_
                refine a_ret ?_
                refine ret_ok (hands1 rfl (.tmp rfl)) (.nil _) ?_
                first | exact ⟨rfl, rfl⟩ | (exfalso; omega)
              · (try simp only [Bool.not_eq_true', Bool.not_eq_false', Bool.not_eq_true, Bool.not_eq_false, decide_eq_true_eq, decide_eq_false_iff_not, List.length_map, List.length_range] at h8)
                refine a_skip ?_
                refine a_seq ?_
                refine a_seq ?_
                refine a_region ?_
                refine aops_cons rfl (w_pure rfl (p_move rfl) ?_)
                refine aops_cons rfl (w_pure rfl (p_move rfl) ?_)
                refine aops_cons rfl (w_pure rfl (p_neq_same rfl rfl) ?_)
                refine aops_nil ?_
                refine a_cond_f rfl ?_
                refine a_skip ?_
                refine a_seq ?_
                refine a_region ?_
                refine aops_cons rfl (w_pure rfl (p_assign rfl) ?_)
                refine aops_nil ?_
                refine a_ret ?_
                refine ret_ok (hands1 rfl (.tmp rfl)) (.nil _) ?_
                first | exact ⟨rfl, rfl⟩ | (exfalso; omega)
        exact all_nil
      exact all_nil

end Go.Proofs.Ytkgnhpilpmbheaa
