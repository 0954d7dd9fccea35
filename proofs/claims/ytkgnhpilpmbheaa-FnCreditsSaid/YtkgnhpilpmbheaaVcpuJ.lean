/-
  The walks of this part: each theorem is the contract of one function. Condition: none but those that it names.
-/
import Derived.Test.YtkgnhpilpmbheaaVcpuJd
import Derived.Test.YtkgnhpilpmbheaaVcpuJF
import Derived.Test.YtkgnhpilpmbheaaVcpuA
import Derived.Test.YtkgnhpilpmbheaaVcpuB
import Derived.Test.YtkgnhpilpmbheaaVcpuC
import Derived.Test.YtkgnhpilpmbheaaVcpuD
namespace Go.Proofs.Ytkgnhpilpmbheaa
open Go Go.Fw Go.Hv
attribute [local irreducible] awp Aops Aop ADraw ADrawAll ACalls
set_option maxRecDepth 4000
set_option linter.unusedSimpArgs false
set_option linter.unusedVariables false

theorem c_spec_l1Cur_next (q : Nat) (bs : List Int) (hb : Bytes bs) (a s : Int) (h0 : 0 ≤ a) (h1 : a ≤ 999999999000)  : ACalls Try.prog 145 [.ptr q 0] [(q, curE bs a s)] (fun r st => ∃ m a' s', r = .int .i64 m ∧ (0 ≤ m ∧ m ≤ 255) ∧ a ≤ a' ∧ a' ≤ a + 1 ∧ st = [(q, curE bs a' s')]) := by
  refine a_enter Try.func145 rfl rfl (fun w0 M0 => ?_)
  refine a_seq ?_
  refine a_region ?_
  refine aops_cons rfl (w_pure rfl (p_assign rfl) ?_)
  refine aops_nil ?_
  refine a_seq ?_
  refine a_region ?_
  refine aops_cons rfl (w_pure rfl (p_assign rfl) ?_)
  refine aops_nil ?_
  refine a_seq ?_
  refine a_seq ?_
  refine a_draw [] (by kernel_rfl) ?_
  show ADraw _ _ _ _ _ _ 10 _ _ _ _
  refine d_take 0 rfl (by kernel_rfl) (by kernel_rfl) (by kernel_rfl) rfl (p_move rfl) ?_
  refine d_take 1 rfl (by kernel_rfl) (by kernel_rfl) (by kernel_rfl) rfl (p_nil rfl) ?_
  refine d_take 2 rfl (by kernel_rfl) (by kernel_rfl) (by kernel_rfl) rfl (p_field_box fo_106_1 rfl) ?_
  refine d_load 3 rfl (by kernel_rfl) (by kernel_rfl) (by kernel_rfl) rfl (p_load_box ag_3 rfl (by repeat (first | exact Pick.here _ _ _ | apply Pick.next)) (by rfl) noX) ?_
  refine d_take 4 rfl (by kernel_rfl) (by kernel_rfl) (by kernel_rfl) rfl (p_move rfl) ?_
  refine d_take 5 rfl (by kernel_rfl) (by kernel_rfl) (by kernel_rfl) rfl (p_nil rfl) ?_
  refine d_take 6 rfl (by kernel_rfl) (by kernel_rfl) (by kernel_rfl) rfl (p_field_box fo_106_0 rfl) ?_
  refine d_load 7 rfl (by kernel_rfl) (by kernel_rfl) (by kernel_rfl) rfl (p_load_box ag_41 rfl (by repeat (first | exact Pick.here _ _ _ | apply Pick.next)) (by rfl) noX) ?_
  refine d_take 8 rfl (by kernel_rfl) (by kernel_rfl) (by kernel_rfl) rfl (p_len sl_41 rfl rfl) ?_
  refine d_take 9 rfl (by kernel_rfl) (by kernel_rfl) (by kernel_rfl) rfl (p_lss rfl rfl) ?_
  refine draw_done (by kernel_rfl) ?_
  first | refine a_cond_d rfl (fun h1 => ?_) (fun h2 => ?_) | refine a_cond_n rfl (fun h1 => ?_) (fun h2 => ?_) | refine a_cond_nb rfl (fun h1 => ?_) (fun h2 => ?_) | refine a_cond rfl (fun h1 => ?_) (fun h2 => ?_)
  · (try simp only [Bool.not_eq_true', Bool.not_eq_false', Bool.not_eq_true, Bool.not_eq_false, decide_eq_true_eq, decide_eq_false_iff_not, List.length_map, List.length_range] at h1)
    refine a_draw [] (by kernel_rfl) ?_
    show ADraw _ _ _ _ _ _ 12 _ _ _ _
    refine d_take 0 rfl (by kernel_rfl) (by kernel_rfl) (by kernel_rfl) rfl (p_move rfl) ?_
    refine d_take 1 rfl (by kernel_rfl) (by kernel_rfl) (by kernel_rfl) rfl (p_nil rfl) ?_
    refine d_take 2 rfl (by kernel_rfl) (by kernel_rfl) (by kernel_rfl) rfl (p_field_box fo_106_0 rfl) ?_
    refine d_load 3 rfl (by kernel_rfl) (by kernel_rfl) (by kernel_rfl) rfl (p_load_box ag_41 rfl (by repeat (first | exact Pick.here _ _ _ | apply Pick.next)) (by rfl) noX) ?_
    refine d_take 4 rfl (by kernel_rfl) (by kernel_rfl) (by kernel_rfl) rfl (p_move rfl) ?_
    refine d_take 5 rfl (by kernel_rfl) (by kernel_rfl) (by kernel_rfl) rfl (p_nil rfl) ?_
    refine d_take 6 rfl (by kernel_rfl) (by kernel_rfl) (by kernel_rfl) rfl (p_field_box fo_106_1 rfl) ?_
    refine d_load 7 rfl (by kernel_rfl) (by kernel_rfl) (by kernel_rfl) rfl (p_load_box ag_3 rfl (by repeat (first | exact Pick.here _ _ _ | apply Pick.next)) (by rfl) noX) ?_
    refine d_take 8 rfl (by kernel_rfl) (by kernel_rfl) (by kernel_rfl) rfl (p_index_sl a.toNat rfl rfl (by omega) (rowD _ _ (0 : Int) (by omega)) es_41) ?_
    refine d_load 9 rfl (by kernel_rfl) (by kernel_rfl) (by kernel_rfl) rfl (p_load_v ag_5 rfl (by rfl) noX) ?_
    refine d_take 10 rfl (by kernel_rfl) (by kernel_rfl) (by kernel_rfl) rfl (p_convert ui_5 um_3 rfl) ?_
    refine d_take 11 rfl (by kernel_rfl) (by kernel_rfl) (by kernel_rfl) rfl (p_assign rfl) ?_
    refine draw_done (by kernel_rfl) ?_
    refine a_seq ?_
    refine a_region ?_
    refine aops_cons rfl (w_pure rfl (p_move rfl) ?_)
    refine aops_cons rfl (w_pure rfl (p_nil rfl) ?_)
    refine aops_cons rfl (w_pure rfl (p_field_box fo_106_1 rfl) ?_)
    refine aops_cons rfl (w_pure rfl (p_load_box ag_3 rfl (by repeat (first | exact Pick.here _ _ _ | apply Pick.next)) (by rfl) noX) ?_)
    refine aops_cons rfl (w_pure rfl (p_add' rfl rfl ⟨by omega, by omega⟩) ?_)
    refine aops_cons rfl (w_pure rfl (p_nil rfl) ?_)
    refine aops_cons rfl (w_pure rfl (p_field_box fo_106_1 rfl) ?_)
    refine aops_cons rfl (w_store (cells' := [_, _, _]) rfl rfl rfl (by repeat (first | exact Pick.here _ _ _ | apply Pick.next)) cn_3 (by rfl) (by rfl) (by rfl) trivial ?_)
    refine aops_nil ?_
    refine a_seq ?_
    refine a_region ?_
    refine aops_cons rfl (w_pure rfl (p_move rfl) ?_)
    refine aops_cons rfl (w_pure rfl (p_move rfl) ?_)
    refine aops_cons rfl (w_pure rfl (p_nil rfl) ?_)
    refine aops_cons rfl (w_pure rfl (p_field_box fo_106_2 rfl) ?_)
    refine aops_cons rfl (w_pure rfl (p_load_box ag_104 rfl (by repeat (first | exact Pick.here _ _ _ | apply Pick.next)) (by rfl) noX) ?_)
    refine aops_cons rfl (w_pure rfl (p_mul rfl rfl) ?_)
    refine aops_cons rfl (w_pure rfl (p_move rfl) ?_)
    refine aops_cons rfl (w_pure rfl (p_convert ui_3 um_104 rfl) ?_)
    refine aops_cons rfl (w_pure rfl (p_add rfl rfl) ?_)
    refine aops_cons rfl (w_pure rfl (p_add rfl rfl) ?_)
    refine aops_cons rfl (w_pure rfl (p_nil rfl) ?_)
    refine aops_cons rfl (w_pure rfl (p_field_box fo_106_2 rfl) ?_)
    refine aops_cons rfl (w_store (cells' := [_, _, _]) rfl rfl rfl (by repeat (first | exact Pick.here _ _ _ | apply Pick.next)) cn_104 (by rfl) (by rfl) (by rfl) trivial ?_)
    refine aops_nil ?_
    refine a_seq ?_
    refine a_seq ?_
    refine a_draw [] (by kernel_rfl) ?_
    show ADraw _ _ _ _ _ _ 10 _ _ _ _
    refine d_take 0 rfl (by kernel_rfl) (by kernel_rfl) (by kernel_rfl) rfl (p_move rfl) ?_
    refine d_take 1 rfl (by kernel_rfl) (by kernel_rfl) (by kernel_rfl) rfl (p_nil rfl) ?_
    refine d_take 2 rfl (by kernel_rfl) (by kernel_rfl) (by kernel_rfl) rfl (p_field_box fo_106_1 rfl) ?_
    refine d_load 3 rfl (by kernel_rfl) (by kernel_rfl) (by kernel_rfl) rfl (p_load_box ag_3 rfl (by repeat (first | exact Pick.here _ _ _ | apply Pick.next)) (by rfl) noX) ?_
    refine d_take 4 rfl (by kernel_rfl) (by kernel_rfl) (by kernel_rfl) rfl (p_move rfl) ?_
    refine d_take 5 rfl (by kernel_rfl) (by kernel_rfl) (by kernel_rfl) rfl (p_nil rfl) ?_
    refine d_take 6 rfl (by kernel_rfl) (by kernel_rfl) (by kernel_rfl) rfl (p_field_box fo_106_0 rfl) ?_
    refine d_load 7 rfl (by kernel_rfl) (by kernel_rfl) (by kernel_rfl) rfl (p_load_box ag_41 rfl (by repeat (first | exact Pick.here _ _ _ | apply Pick.next)) (by rfl) noX) ?_
    refine d_take 8 rfl (by kernel_rfl) (by kernel_rfl) (by kernel_rfl) rfl (p_len sl_41 rfl rfl) ?_
    refine d_take 9 rfl (by kernel_rfl) (by kernel_rfl) (by kernel_rfl) rfl (p_leq rfl rfl) ?_
    refine draw_done (by kernel_rfl) ?_
    first | refine a_cond_d rfl (fun h3 => ?_) (fun h4 => ?_) | refine a_cond_n rfl (fun h3 => ?_) (fun h4 => ?_) | refine a_cond_nb rfl (fun h3 => ?_) (fun h4 => ?_) | refine a_cond rfl (fun h3 => ?_) (fun h4 => ?_)
    · (try simp only [Bool.not_eq_true', Bool.not_eq_false', Bool.not_eq_true, Bool.not_eq_false, decide_eq_true_eq, decide_eq_false_iff_not, List.length_map, List.length_range] at h3)
      refine a_seq ?_
      refine a_region ?_
      refine aops_cons rfl (w_pure rfl (p_move rfl) ?_)
      refine aops_cons rfl (w_pure rfl (p_assign rfl) ?_)
      refine aops_nil ?_
      refine a_ret ?_
      refine ret_ok (hands1 rfl (.tmp rfl)) (st' := [(q, _)]) (.cons (by repeat (first | exact Pick.here _ _ _ | apply Pick.next)) (.nil _)) ?_
      first | exact ⟨_, _, _, rfl, (by first | exact wrap_rng (hb.at (by omega)) | exact and_rng _ | exact ⟨by decide, by decide⟩), by omega, by omega, rfl⟩
    · (try simp only [Bool.not_eq_true', Bool.not_eq_false', Bool.not_eq_true, Bool.not_eq_false, decide_eq_true_eq, decide_eq_false_iff_not, List.length_map, List.length_range] at h4)
      refine a_skip ?_
      refine a_seq ?_
      refine a_region ?_
      refine aops_cons rfl (w_pure rfl (p_move rfl) ?_)
      refine aops_cons rfl (w_pure rfl (p_nil rfl) ?_)
      refine aops_cons rfl (w_pure rfl (p_field_box fo_106_2 rfl) ?_)
      refine aops_cons rfl (w_pure rfl (p_load_box ag_104 rfl (by repeat (first | exact Pick.here _ _ _ | apply Pick.next)) (by rfl) noX) ?_)
      refine aops_cons rfl (w_pure rfl (p_shr rfl rfl (by omega)) ?_)
      refine aops_cons rfl (w_pure rfl (p_bits .and (by decide) rfl rfl) ?_)
      refine aops_cons rfl (w_pure rfl (p_convert ui_104 um_3 rfl) ?_)
      refine aops_cons rfl (w_pure rfl (p_assign rfl) ?_)
      refine aops_nil ?_
      refine a_ret ?_
      refine ret_ok (hands1 rfl (.tmp rfl)) (st' := [(q, _)]) (.cons (by repeat (first | exact Pick.here _ _ _ | apply Pick.next)) (.nil _)) ?_
      first | exact ⟨_, _, _, rfl, (by first | exact wrap_rng (hb.at (by omega)) | exact and_rng _ | exact ⟨by decide, by decide⟩), by omega, by omega, rfl⟩
  · (try simp only [Bool.not_eq_true', Bool.not_eq_false', Bool.not_eq_true, Bool.not_eq_false, decide_eq_true_eq, decide_eq_false_iff_not, List.length_map, List.length_range] at h2)
    refine a_skip ?_
    refine a_seq ?_
    refine a_region ?_
    refine aops_cons rfl (w_pure rfl (p_move rfl) ?_)
    refine aops_cons rfl (w_pure rfl (p_nil rfl) ?_)
    refine aops_cons rfl (w_pure rfl (p_field_box fo_106_1 rfl) ?_)
    refine aops_cons rfl (w_pure rfl (p_load_box ag_3 rfl (by repeat (first | exact Pick.here _ _ _ | apply Pick.next)) (by rfl) noX) ?_)
    refine aops_cons rfl (w_pure rfl (p_add' rfl rfl ⟨by omega, by omega⟩) ?_)
    refine aops_cons rfl (w_pure rfl (p_nil rfl) ?_)
    refine aops_cons rfl (w_pure rfl (p_field_box fo_106_1 rfl) ?_)
    refine aops_cons rfl (w_store (cells' := [_, _, _]) rfl rfl rfl (by repeat (first | exact Pick.here _ _ _ | apply Pick.next)) cn_3 (by rfl) (by rfl) (by rfl) trivial ?_)
    refine aops_nil ?_
    refine a_seq ?_
    refine a_region ?_
    refine aops_cons rfl (w_pure rfl (p_move rfl) ?_)
    refine aops_cons rfl (w_pure rfl (p_move rfl) ?_)
    refine aops_cons rfl (w_pure rfl (p_nil rfl) ?_)
    refine aops_cons rfl (w_pure rfl (p_field_box fo_106_2 rfl) ?_)
    refine aops_cons rfl (w_pure rfl (p_load_box ag_104 rfl (by repeat (first | exact Pick.here _ _ _ | apply Pick.next)) (by rfl) noX) ?_)
    refine aops_cons rfl (w_pure rfl (p_mul rfl rfl) ?_)
    refine aops_cons rfl (w_pure rfl (p_move rfl) ?_)
    refine aops_cons rfl (w_pure rfl (p_convert ui_3 um_104 rfl) ?_)
    refine aops_cons rfl (w_pure rfl (p_add rfl rfl) ?_)
    refine aops_cons rfl (w_pure rfl (p_add rfl rfl) ?_)
    refine aops_cons rfl (w_pure rfl (p_nil rfl) ?_)
    refine aops_cons rfl (w_pure rfl (p_field_box fo_106_2 rfl) ?_)
    refine aops_cons rfl (w_store (cells' := [_, _, _]) rfl rfl rfl (by repeat (first | exact Pick.here _ _ _ | apply Pick.next)) cn_104 (by rfl) (by rfl) (by rfl) trivial ?_)
    refine aops_nil ?_
    refine a_seq ?_
    refine a_seq ?_
    refine a_draw [] (by kernel_rfl) ?_
    show ADraw _ _ _ _ _ _ 10 _ _ _ _
    refine d_take 0 rfl (by kernel_rfl) (by kernel_rfl) (by kernel_rfl) rfl (p_move rfl) ?_
    refine d_take 1 rfl (by kernel_rfl) (by kernel_rfl) (by kernel_rfl) rfl (p_nil rfl) ?_
    refine d_take 2 rfl (by kernel_rfl) (by kernel_rfl) (by kernel_rfl) rfl (p_field_box fo_106_1 rfl) ?_
    refine d_load 3 rfl (by kernel_rfl) (by kernel_rfl) (by kernel_rfl) rfl (p_load_box ag_3 rfl (by repeat (first | exact Pick.here _ _ _ | apply Pick.next)) (by rfl) noX) ?_
    refine d_take 4 rfl (by kernel_rfl) (by kernel_rfl) (by kernel_rfl) rfl (p_move rfl) ?_
    refine d_take 5 rfl (by kernel_rfl) (by kernel_rfl) (by kernel_rfl) rfl (p_nil rfl) ?_
    refine d_take 6 rfl (by kernel_rfl) (by kernel_rfl) (by kernel_rfl) rfl (p_field_box fo_106_0 rfl) ?_
    refine d_load 7 rfl (by kernel_rfl) (by kernel_rfl) (by kernel_rfl) rfl (p_load_box ag_41 rfl (by repeat (first | exact Pick.here _ _ _ | apply Pick.next)) (by rfl) noX) ?_
    refine d_take 8 rfl (by kernel_rfl) (by kernel_rfl) (by kernel_rfl) rfl (p_len sl_41 rfl rfl) ?_
    refine d_take 9 rfl (by kernel_rfl) (by kernel_rfl) (by kernel_rfl) rfl (p_leq rfl rfl) ?_
    refine draw_done (by kernel_rfl) ?_
    first | refine a_cond_d rfl (fun h5 => ?_) (fun h6 => ?_) | refine a_cond_n rfl (fun h5 => ?_) (fun h6 => ?_) | refine a_cond_nb rfl (fun h5 => ?_) (fun h6 => ?_) | refine a_cond rfl (fun h5 => ?_) (fun h6 => ?_)
    · (try simp only [Bool.not_eq_true', Bool.not_eq_false', Bool.not_eq_true, Bool.not_eq_false, decide_eq_true_eq, decide_eq_false_iff_not, List.length_map, List.length_range] at h5)
      refine a_seq ?_
      refine a_region ?_
      refine aops_cons rfl (w_pure rfl (p_move rfl) ?_)
      refine aops_cons rfl (w_pure rfl (p_assign rfl) ?_)
      refine aops_nil ?_
      refine a_ret ?_
      refine ret_ok (hands1 rfl (.tmp rfl)) (st' := [(q, _)]) (.cons (by repeat (first | exact Pick.here _ _ _ | apply Pick.next)) (.nil _)) ?_
      first | exact ⟨_, _, _, rfl, (by first | exact wrap_rng (hb.at (by omega)) | exact and_rng _ | exact ⟨by decide, by decide⟩), by omega, by omega, rfl⟩
    · (try simp only [Bool.not_eq_true', Bool.not_eq_false', Bool.not_eq_true, Bool.not_eq_false, decide_eq_true_eq, decide_eq_false_iff_not, List.length_map, List.length_range] at h6)
      refine a_skip ?_
      refine a_seq ?_
      refine a_region ?_
      refine aops_cons rfl (w_pure rfl (p_move rfl) ?_)
      refine aops_cons rfl (w_pure rfl (p_nil rfl) ?_)
      refine aops_cons rfl (w_pure rfl (p_field_box fo_106_2 rfl) ?_)
      refine aops_cons rfl (w_pure rfl (p_load_box ag_104 rfl (by repeat (first | exact Pick.here _ _ _ | apply Pick.next)) (by rfl) noX) ?_)
      refine aops_cons rfl (w_pure rfl (p_shr rfl rfl (by omega)) ?_)
      refine aops_cons rfl (w_pure rfl (p_bits .and (by decide) rfl rfl) ?_)
      refine aops_cons rfl (w_pure rfl (p_convert ui_104 um_3 rfl) ?_)
      refine aops_cons rfl (w_pure rfl (p_assign rfl) ?_)
      refine aops_nil ?_
      refine a_ret ?_
      refine ret_ok (hands1 rfl (.tmp rfl)) (st' := [(q, _)]) (.cons (by repeat (first | exact Pick.here _ _ _ | apply Pick.next)) (.nil _)) ?_
      first | exact ⟨_, _, _, rfl, (by first | exact wrap_rng (hb.at (by omega)) | exact and_rng _ | exact ⟨by decide, by decide⟩), by omega, by omega, rfl⟩

theorem c_spec_l1Cur_pick (q : Nat) (bs : List Int) (hb : Bytes bs) (a s : Int) (h0 : 0 ≤ a) (h1 : a ≤ 999999998000) (n : Int) (hn : n ≤ 1000000) : ACalls Try.prog 133 [.ptr q 0, .int .i64 n] [(q, curE bs a s)] (fun r st => ∃ m a' s', r = .int .i64 m ∧ (0 ≤ m ∧ (m < n ∨ m = 0)) ∧ a ≤ a' ∧ a' ≤ a + 2 ∧ st = [(q, curE bs a' s')]) := by
  refine a_enter Try.func133 rfl rfl (fun w0 M0 => ?_)
  refine a_seq ?_
  refine a_region ?_
  refine aops_cons rfl (w_pure rfl (p_assign rfl) ?_)
  refine aops_nil ?_
  refine a_seq ?_
  refine a_seq ?_
  refine a_region ?_
  refine aops_cons rfl (w_pure rfl (p_move rfl) ?_)
  refine aops_cons rfl (w_pure rfl (p_leq rfl rfl) ?_)
  refine aops_nil ?_
  first | refine a_cond_d rfl (fun h1 => ?_) (fun h2 => ?_) | refine a_cond_n rfl (fun h1 => ?_) (fun h2 => ?_) | refine a_cond_nb rfl (fun h1 => ?_) (fun h2 => ?_) | refine a_cond rfl (fun h1 => ?_) (fun h2 => ?_)
  · (try simp only [Bool.not_eq_true', Bool.not_eq_false', Bool.not_eq_true, Bool.not_eq_false, decide_eq_true_eq, decide_eq_false_iff_not, List.length_map, List.length_range] at h1)
    refine a_seq ?_
    refine a_region ?_
    refine aops_cons rfl (w_pure rfl (p_assign rfl) ?_)
    refine aops_nil ?_
    refine a_ret ?_
    refine ret_ok (hands1 rfl (.tmp rfl)) (st' := [(q, _)]) (.cons (by repeat (first | exact Pick.here _ _ _ | apply Pick.next)) (.nil _)) ?_
    first | exact ⟨_, _, _, rfl, ⟨by decide, .inr rfl⟩, by omega, by omega, rfl⟩ | exact ⟨_, _, _, rfl, ⟨Int.emod_nonneg _ (by omega), .inl (Int.emod_lt_of_pos _ (by omega))⟩, by omega, by omega, rfl⟩
  · (try simp only [Bool.not_eq_true', Bool.not_eq_false', Bool.not_eq_true, Bool.not_eq_false, decide_eq_true_eq, decide_eq_false_iff_not, List.length_map, List.length_range] at h2)
    refine a_skip ?_
    refine a_seq ?_
    refine a_region ?_
    refine aops_cons rfl (w_pure rfl (p_move rfl) ?_)
    refine aops_cons rfl (w_callM0 rfl rfl rfl cl_145 (.cons (by repeat (first | exact Pick.here _ _ _ | apply Pick.next)) (.nil _)) (c_spec_l1Cur_next _ _ hb _ _ (by omega) (by omega) ) trivial ?_)
    rintro _ _ ⟨m1, a1, s1, rfl, hm1, ha1, hc1, rfl⟩
    (try simp only [List.length_map] at hm1)
    refine aops_cons rfl (w_pure rfl (p_assign rfl) ?_)
    refine aops_nil ?_
    refine a_seq ?_
    refine a_seq ?_
    refine a_region ?_
    refine aops_cons rfl (w_pure rfl (p_move rfl) ?_)
    refine aops_cons rfl (w_pure rfl (p_gtr rfl rfl) ?_)
    refine aops_nil ?_
    first | refine a_cond_d rfl (fun h3 => ?_) (fun h4 => ?_) | refine a_cond_n rfl (fun h3 => ?_) (fun h4 => ?_) | refine a_cond_nb rfl (fun h3 => ?_) (fun h4 => ?_) | refine a_cond rfl (fun h3 => ?_) (fun h4 => ?_)
    · (try simp only [Bool.not_eq_true', Bool.not_eq_false', Bool.not_eq_true, Bool.not_eq_false, decide_eq_true_eq, decide_eq_false_iff_not, List.length_map, List.length_range] at h3)
      refine a_region ?_
      refine aops_cons rfl (w_pure rfl (p_move rfl) ?_)
      refine aops_cons rfl (w_pure rfl (p_mul' rfl rfl ⟨by omega, by omega⟩) ?_)
      refine aops_cons rfl (w_pure rfl (p_move rfl) ?_)
      refine aops_cons rfl (w_callM0 rfl rfl rfl cl_145 (.cons (by repeat (first | exact Pick.here _ _ _ | apply Pick.next)) (.nil _)) (c_spec_l1Cur_next _ _ hb _ _ (by omega) (by omega) ) trivial ?_)
      rintro _ _ ⟨m2, a2, s2, rfl, hm2, ha2, hc2, rfl⟩
      (try simp only [List.length_map] at hm2)
      refine aops_cons rfl (w_pure rfl (p_add' rfl rfl ⟨by omega, by omega⟩) ?_)
      refine aops_cons rfl (w_pure rfl (p_assign rfl) ?_)
      refine aops_nil ?_
      refine a_seq ?_
      refine a_region ?_
      refine aops_cons rfl (w_pure rfl (p_move rfl) ?_)
      refine aops_cons rfl (w_pure rfl (p_move rfl) ?_)
      refine aops_cons rfl (w_pure rfl (p_rem' rfl rfl (by omega) (by omega)) ?_)
      refine aops_cons rfl (w_pure rfl (p_assign rfl) ?_)
      refine aops_nil ?_
      refine a_ret ?_
      refine ret_ok (hands1 rfl (.tmp rfl)) (st' := [(q, _)]) (.cons (by repeat (first | exact Pick.here _ _ _ | apply Pick.next)) (.nil _)) ?_
      first | exact ⟨_, _, _, rfl, ⟨by decide, .inr rfl⟩, by omega, by omega, rfl⟩ | exact ⟨_, _, _, rfl, ⟨Int.emod_nonneg _ (by omega), .inl (Int.emod_lt_of_pos _ (by omega))⟩, by omega, by omega, rfl⟩
    · (try simp only [Bool.not_eq_true', Bool.not_eq_false', Bool.not_eq_true, Bool.not_eq_false, decide_eq_true_eq, decide_eq_false_iff_not, List.length_map, List.length_range] at h4)
      refine a_skip ?_
      refine a_seq ?_
      refine a_region ?_
      refine aops_cons rfl (w_pure rfl (p_move rfl) ?_)
      refine aops_cons rfl (w_pure rfl (p_move rfl) ?_)
      refine aops_cons rfl (w_pure rfl (p_rem' rfl rfl (by omega) (by omega)) ?_)
      refine aops_cons rfl (w_pure rfl (p_assign rfl) ?_)
      refine aops_nil ?_
      refine a_ret ?_
      refine ret_ok (hands1 rfl (.tmp rfl)) (st' := [(q, _)]) (.cons (by repeat (first | exact Pick.here _ _ _ | apply Pick.next)) (.nil _)) ?_
      first | exact ⟨_, _, _, rfl, ⟨by decide, .inr rfl⟩, by omega, by omega, rfl⟩ | exact ⟨_, _, _, rfl, ⟨Int.emod_nonneg _ (by omega), .inl (Int.emod_lt_of_pos _ (by omega))⟩, by omega, by omega, rfl⟩

theorem c_spec_l1Cur_one (q : Nat) (bs : List Int) (hb : Bytes bs) (a s : Int) (h0 : 0 ≤ a) (h1 : a ≤ 999999998000) (n : Int) (hn : n ≤ 1000000) : ACalls Try.prog 135 [.ptr q 0, .int .i64 n] [(q, curE bs a s)] (fun r st => ∃ b a' s', r = .bool b ∧ a ≤ a' ∧ a' ≤ a + 2 ∧ st = [(q, curE bs a' s')]) := by
  refine a_enter Try.func135 rfl rfl (fun w0 M0 => ?_)
  refine a_seq ?_
  refine a_region ?_
  refine aops_cons rfl (w_pure rfl (p_assign rfl) ?_)
  refine aops_nil ?_
  refine a_seq ?_
  refine a_region ?_
  refine aops_cons rfl (w_pure rfl (p_move rfl) ?_)
  refine aops_cons rfl (w_pure rfl (p_move rfl) ?_)
  refine aops_cons rfl (w_callM0 rfl rfl rfl cl_133 (.cons (by repeat (first | exact Pick.here _ _ _ | apply Pick.next)) (.nil _)) (c_spec_l1Cur_pick _ _ hb _ _ (by omega) (by omega) _ (by first | omega | (simp; done) | (simp; omega))) trivial ?_)
  rintro _ _ ⟨m1, a1, s1, rfl, hm1, ha1, hc1, rfl⟩
  (try simp only [List.length_map] at hm1)
  refine aops_cons rfl (w_pure rfl (p_eql rfl rfl) ?_)
  refine aops_cons rfl (w_pure rfl (p_assign rfl) ?_)
  refine aops_nil ?_
  refine a_ret ?_
  refine ret_ok (hands1 rfl (.tmp rfl)) (st' := [(q, _)]) (.cons (by repeat (first | exact Pick.here _ _ _ | apply Pick.next)) (.nil _)) ?_
  exact ⟨_, _, _, rfl, by omega, by omega, rfl⟩

theorem c_spec_l1Cur_among (q : Nat) (bs : List Int) (hb : Bytes bs) (a s : Int) (h0 : 0 ≤ a) (h1 : a ≤ 999999998000) (xs : List Int) (hx : 0 < xs.length ∧ xs.length ≤ 1000) (lo hi : Int) (hr : ∀ x ∈ xs, lo ≤ x ∧ x ≤ hi) : ACalls Try.prog 134 [.ptr q 0, .sl (xs.map eInt)] [(q, curE bs a s)] (fun r st => ∃ m a' s', r = .int .i64 m ∧ (lo ≤ m ∧ m ≤ hi) ∧ a ≤ a' ∧ a' ≤ a + 2 ∧ st = [(q, curE bs a' s')]) := by
  refine a_enter Try.func134 rfl rfl (fun w0 M0 => ?_)
  refine a_seq ?_
  refine a_region ?_
  refine aops_cons rfl (w_pure rfl (p_assign rfl) ?_)
  refine aops_nil ?_
  refine a_seq ?_
  refine a_region ?_
  refine aops_cons rfl (w_pure rfl (p_move rfl) ?_)
  refine aops_cons rfl (w_pure rfl (p_move rfl) ?_)
  refine aops_cons rfl (w_pure rfl (p_move rfl) ?_)
  refine aops_cons rfl (w_pure rfl (p_len sl_34 rfl rfl) ?_)
  refine aops_cons rfl (w_callM0 rfl rfl rfl cl_133 (.cons (by repeat (first | exact Pick.here _ _ _ | apply Pick.next)) (.nil _)) (c_spec_l1Cur_pick _ _ hb _ _ (by omega) (by omega) _ (by first | omega | (simp; done) | (simp; omega))) trivial ?_)
  rintro _ _ ⟨m1, a1, s1, rfl, hm1, ha1, hc1, rfl⟩
  (try simp only [List.length_map] at hm1)
  refine aops_cons rfl (w_pure rfl (p_index_sl (m1.toNat) rfl rfl (by omega) (rowD _ _ (0 : Int) (by omega)) es_34) ?_)
  refine aops_cons rfl (w_pure rfl (p_load_v ag_3 rfl (by rfl) noX) ?_)
  refine aops_cons rfl (w_pure rfl (p_assign rfl) ?_)
  refine aops_nil ?_
  refine a_ret ?_
  refine ret_ok (hands1 rfl (.tmp rfl)) (st' := [(q, _)]) (.cons (by repeat (first | exact Pick.here _ _ _ | apply Pick.next)) (.nil _)) ?_
  exact ⟨_, _, _, rfl, getD_mem (p := fun x => lo ≤ x ∧ x ≤ hi) hr (by omega), by omega, by omega, rfl⟩

theorem c_spec_l1Cur_vcpus (q : Nat) (bs : List Int) (hb : Bytes bs) (a s : Int) (h0 : 0 ≤ a) (h1 : a ≤ 999999860000)  : ACalls Try.prog 99 [.ptr q 0] [(q, curE bs a s)] (fun r st => ∃ (b : Nat) (xs : List Vcpu) (a' : Int) (s' : Int), r = .own 5 b 0 xs.length ∧ xs.length ≤ 6 ∧ a ≤ a' ∧ a' ≤ a + 140 ∧ st = [(q, curE bs a' s'), (b, .arr 46 5 (xs.map eVcpu))]) := by
  refine a_enter Try.func99 rfl rfl (fun w0 M0 => ?_)
  refine a_seq ?_
  refine a_region ?_
  refine aops_cons rfl (w_pure rfl (p_assign rfl) ?_)
  refine aops_nil ?_
  refine a_seq ?_
  refine a_region ?_
  refine aops_cons rfl (w_litM eVcpu [] rfl el_24 rfl rfl rfl rfl rfl fun b1 => ?_)
  refine aops_cons rfl (w_pure rfl (p_assign rfl) ?_)
  refine aops_nil ?_
  refine a_seq ?_
  refine a_region ?_
  refine aops_cons rfl (w_pure rfl (p_assign rfl) ?_)
  refine aops_nil ?_
  refine a_seq ?_
  refine a_seq ?_
  refine a_region ?_
  refine aops_cons rfl (w_pure rfl (p_move rfl) ?_)
  refine aops_cons rfl (w_callM0 rfl rfl rfl cl_133 (.cons (by repeat (first | exact Pick.here _ _ _ | apply Pick.next)) (.nil _)) (c_spec_l1Cur_pick _ _ hb _ _ (by omega) (by omega) _ (by first | omega | (simp; done) | (simp; omega))) trivial ?_)
  rintro _ _ ⟨m1, a1, s1, rfl, hm1, ha1, hc1, rfl⟩
  (try simp only [List.length_map] at hm1)
  refine aops_cons rfl (w_pure rfl (p_add' rfl rfl ⟨by omega, by omega⟩) ?_)
  refine aops_cons rfl (w_pure rfl (p_assign rfl) ?_)
  refine aops_nil ?_
  refine a_block ?_
  refine a_loop (ι := Int × Int × Nat × List Vcpu × Int × Int) (fun ⟨n, d, b, xs, ka, ks⟩ => n + xs.length = 1 + m1 ∧ 0 ≤ n ∧ (0 ≤ d ∧ d ≤ 4 * xs.length) ∧ a ≤ ka ∧ ka ≤ a + 2 + 20 * xs.length) (fun ⟨n, d, b, xs, ka, ks⟩ => [(3, .own 5 b 0 xs.length), (4, .int .i64 d), (5, .int .i64 n)]) (fun ⟨n, d, b, xs, ka, ks⟩ => [(q, curE bs ka ks), (b, .arr 46 5 (xs.map eVcpu))]) (fun ⟨n, d, b, xs, ka, ks⟩ => n.toNat) (1 + m1, 0, b1, [], a1, s1) ⟨by simp, by omega, by simp, by omega, by simp; omega⟩ (by repeat (first | exact Knows.nil | refine Knows.cons (by rfl) ?_)) (by repeat (first | exact Picks.nil _ | exact Pick.here _ _ _ | apply Pick.next | apply Picks.cons)) ?_
  rintro ⟨n, d, b, xs, ka, ks⟩ ⟨hk1, hk2, hk5, hk3, hk4⟩
  skip
  refine a_seq ?_
  refine a_seq ?_
  refine a_region ?_
  refine aops_cons rfl (w_pure rfl (p_move rfl) ?_)
  refine aops_cons rfl (w_pure rfl (p_gtr rfl rfl) ?_)
  refine aops_nil ?_
  first | refine a_cond_d rfl (fun h1 => ?_) (fun h2 => ?_) | refine a_cond_n rfl (fun h1 => ?_) (fun h2 => ?_) | refine a_cond_nb rfl (fun h1 => ?_) (fun h2 => ?_) | refine a_cond rfl (fun h1 => ?_) (fun h2 => ?_)
  · (try simp only [Bool.not_eq_true', Bool.not_eq_false', Bool.not_eq_true, Bool.not_eq_false, decide_eq_true_eq, decide_eq_false_iff_not, List.length_map, List.length_range] at h1)
    refine a_skip ?_
    refine a_seq ?_
    refine a_block ?_
    refine a_seq ?_
    refine a_region ?_
    refine aops_cons rfl (w_pure rfl (p_move rfl) ?_)
    refine aops_cons rfl (w_pure rfl (p_add' rfl rfl ⟨by omega, by omega⟩) ?_)
    refine aops_cons rfl (w_pure rfl (p_move rfl) ?_)
    refine aops_cons rfl (w_callM0 rfl rfl rfl cl_133 (.cons (by repeat (first | exact Pick.here _ _ _ | apply Pick.next)) (.nil _)) (c_spec_l1Cur_pick _ _ hb _ _ (by omega) (by omega) _ (by first | omega | (simp; done) | (simp; omega))) trivial ?_)
    rintro _ _ ⟨m2, a2, s2, rfl, hm2, ha2, hc2, rfl⟩
    (try simp only [List.length_map] at hm2)
    refine aops_cons rfl (w_pure rfl (p_add' rfl rfl ⟨by omega, by omega⟩) ?_)
    refine aops_cons rfl (w_pure rfl (p_assign rfl) ?_)
    refine aops_nil ?_
    refine a_seq ?_
    refine a_region ?_
    refine aops_cons rfl (w_pure rfl (p_move rfl) ?_)
    refine aops_cons rfl (w_pure rfl (p_move rfl) ?_)
    refine aops_cons rfl (w_lit_vM eInt [_, _, _, _, _, _] rfl el_34 rfl rfl rfl rfl rfl ?_)
    refine aops_cons rfl (w_callM0 rfl rfl rfl cl_134 (.cons (by repeat (first | exact Pick.here _ _ _ | apply Pick.next)) (.nil _)) (c_spec_l1Cur_among _ _ hb _ _ (by omega) (by omega) _ (by first | (simp; done) | (simp; omega)) (1) 10 (by first | (intro x hx; simp only [List.mem_cons, List.not_mem_nil, or_false] at hx; omega) | (intro x hx; have hx := List.mem_of_mem_take hx; simp only [List.mem_cons, List.not_mem_nil, or_false] at hx; omega))) trivial ?_)
    rintro _ _ ⟨m3, a3, s3, rfl, hm3, ha3, hc3, rfl⟩
    (try simp only [List.length_map] at hm3)
    refine aops_cons rfl (w_pure rfl (p_move rfl) ?_)
    refine aops_cons rfl (w_lit_vM eInt [_, _, _, _, _, _, _, _] rfl el_34 rfl rfl rfl rfl rfl ?_)
    refine aops_cons rfl (w_callM0 rfl rfl rfl cl_134 (.cons (by repeat (first | exact Pick.here _ _ _ | apply Pick.next)) (.nil _)) (c_spec_l1Cur_among _ _ hb _ _ (by omega) (by omega) _ (by first | (simp; done) | (simp; omega)) (-95) 200 (by first | (intro x hx; simp only [List.mem_cons, List.not_mem_nil, or_false] at hx; omega) | (intro x hx; have hx := List.mem_of_mem_take hx; simp only [List.mem_cons, List.not_mem_nil, or_false] at hx; omega))) trivial ?_)
    rintro _ _ ⟨m4, a4, s4, rfl, hm4, ha4, hc4, rfl⟩
    (try simp only [List.length_map] at hm4)
    refine aops_cons rfl (w_pure rfl (p_build (cells := [_, _, _, _, _]) z_46 pl_46 rfl rfl) ?_)
    refine aops_cons rfl (w_alloc rfl z_46 fun b2 => ?_)
    refine aops_cons rfl (w_store (cells' := [_, _, _, _, _]) rfl rfl rfl (by repeat (first | exact Pick.here _ _ _ | apply Pick.next)) cn_46 (by rfl) (by rfl) (by rfl) trivial ?_)
    refine aops_nil ?_
    refine a_seq ?_
    refine a_seq ?_
    refine a_region ?_
    refine aops_cons rfl (w_pure rfl (p_move rfl) ?_)
    refine aops_cons rfl (w_callM0 rfl rfl rfl cl_135 (.cons (by repeat (first | exact Pick.here _ _ _ | apply Pick.next)) (.nil _)) (c_spec_l1Cur_one _ _ hb _ _ (by omega) (by omega) _ (by omega)) trivial ?_)
    rintro _ _ ⟨b5, a5, s5, rfl, ha5, hc5, rfl⟩
    skip
    refine aops_nil ?_
    first | refine a_cond_d rfl (fun h3 => ?_) (fun h4 => ?_) | refine a_cond_n rfl (fun h3 => ?_) (fun h4 => ?_) | refine a_cond_nb rfl (fun h3 => ?_) (fun h4 => ?_) | refine a_cond rfl (fun h3 => ?_) (fun h4 => ?_)
    · (try simp only [Bool.not_eq_true', Bool.not_eq_false', Bool.not_eq_true, Bool.not_eq_false, decide_eq_true_eq, decide_eq_false_iff_not, List.length_map, List.length_range] at h3)
      refine a_region ?_
      refine aops_cons rfl (w_pure rfl (p_field_box fo_46_3 rfl) ?_)
      refine aops_cons rfl (w_store (cells' := [_, _, _, _, _]) rfl rfl rfl (by repeat (first | exact Pick.here _ _ _ | apply Pick.next)) cn_4 (by rfl) (by rfl) (by rfl) trivial ?_)
      refine aops_nil ?_
      refine a_region ?_
      refine aops_cons rfl (w_pure rfl (p_move rfl) ?_)
      refine aops_cons rfl (w_pure rfl (p_load_box_all ag_46 rfl (by repeat (first | exact Pick.here _ _ _ | apply Pick.next)) (by rfl) noX) ?_)
      refine aops_cons rfl (w_lit_vM eVcpu [⟨_, _, _, _, _⟩] rfl el_24 rfl rfl rfl rfl rfl ?_)
      refine aops_cons rfl (w_appendM eVcpu rfl el_24 rfl rfl (by repeat (first | exact Pick.here _ _ _ | apply Pick.next)) rfl (.sl _) (fun _ => rfl) (fun _ => rfl) (by simp; omega) (by simp; omega) trivial fun b3 => ?_)
      refine aops_cons rfl (w_pure rfl (p_assign rfl) ?_)
      refine aops_nil ?_
      refine a_region ?_
      refine aops_cons rfl (w_pure rfl (p_move rfl) ?_)
      refine aops_cons rfl (w_pure rfl (p_sub' rfl rfl ⟨by omega, by omega⟩) ?_)
      refine aops_cons rfl (w_pure rfl (p_assign rfl) ?_)
      refine aops_nil ?_
      refine ⟨(_, _, _, _, _, _), _, ?_, ?_, (by repeat (first | exact Knows.nil | refine Knows.cons (by rfl) ?_)), (by repeat (first | exact Back.refl _ _ | refine Back.cons (by rfl) ?_)), (by repeat (first | exact Picks.nil _ | exact Pick.here _ _ _ | apply Pick.next | apply Picks.cons))⟩
      · refine ⟨by simp; omega, by omega, by simp; omega, by omega, by simp; omega⟩
      · (try dsimp only); omega
    · (try simp only [Bool.not_eq_true', Bool.not_eq_false', Bool.not_eq_true, Bool.not_eq_false, decide_eq_true_eq, decide_eq_false_iff_not, List.length_map, List.length_range] at h4)
      refine a_region ?_
      refine aops_cons rfl (w_pure rfl (p_move rfl) ?_)
      refine aops_cons rfl (w_callM0 rfl rfl rfl cl_135 (.cons (by repeat (first | exact Pick.here _ _ _ | apply Pick.next)) (.nil _)) (c_spec_l1Cur_one _ _ hb _ _ (by omega) (by omega) _ (by omega)) trivial ?_)
      rintro _ _ ⟨b6, a6, s6, rfl, ha6, hc6, rfl⟩
      skip
      refine aops_cons rfl (w_pure rfl (p_field_box fo_46_4 rfl) ?_)
      refine aops_cons rfl (w_store (cells' := [_, _, _, _, _]) rfl rfl rfl (by repeat (first | exact Pick.here _ _ _ | apply Pick.next)) cn_4 (by rfl) (by rfl) (by rfl) trivial ?_)
      refine aops_nil ?_
      refine a_region ?_
      refine aops_cons rfl (w_pure rfl (p_move rfl) ?_)
      refine aops_cons rfl (w_pure rfl (p_load_box_all ag_46 rfl (by repeat (first | exact Pick.here _ _ _ | apply Pick.next)) (by rfl) noX) ?_)
      refine aops_cons rfl (w_lit_vM eVcpu [⟨_, _, _, _, _⟩] rfl el_24 rfl rfl rfl rfl rfl ?_)
      refine aops_cons rfl (w_appendM eVcpu rfl el_24 rfl rfl (by repeat (first | exact Pick.here _ _ _ | apply Pick.next)) rfl (.sl _) (fun _ => rfl) (fun _ => rfl) (by simp; omega) (by simp; omega) trivial fun b4 => ?_)
      refine aops_cons rfl (w_pure rfl (p_assign rfl) ?_)
      refine aops_nil ?_
      refine a_region ?_
      refine aops_cons rfl (w_pure rfl (p_move rfl) ?_)
      refine aops_cons rfl (w_pure rfl (p_sub' rfl rfl ⟨by omega, by omega⟩) ?_)
      refine aops_cons rfl (w_pure rfl (p_assign rfl) ?_)
      refine aops_nil ?_
      refine ⟨(_, _, _, _, _, _), _, ?_, ?_, (by repeat (first | exact Knows.nil | refine Knows.cons (by rfl) ?_)), (by repeat (first | exact Back.refl _ _ | refine Back.cons (by rfl) ?_)), (by repeat (first | exact Picks.nil _ | exact Pick.here _ _ _ | apply Pick.next | apply Picks.cons))⟩
      · refine ⟨by simp; omega, by omega, by simp; omega, by omega, by simp; omega⟩
      · (try dsimp only); omega
  · (try simp only [Bool.not_eq_true', Bool.not_eq_false', Bool.not_eq_true, Bool.not_eq_false, decide_eq_true_eq, decide_eq_false_iff_not, List.length_map, List.length_range] at h2)
    refine a_exit ?_
    refine a_seq ?_
    refine a_seq ?_
    refine a_region ?_
    refine aops_cons rfl (w_pure rfl (p_move rfl) ?_)
    refine aops_cons rfl (w_callM0 rfl rfl rfl cl_133 (.cons (by repeat (first | exact Pick.here _ _ _ | apply Pick.next)) (.nil _)) (c_spec_l1Cur_pick _ _ hb _ _ (by omega) (by omega) _ (by first | omega | (simp; done) | (simp; omega))) trivial ?_)
    rintro _ _ ⟨m2, a2, s2, rfl, hm2, ha2, hc2, rfl⟩
    (try simp only [List.length_map] at hm2)
    refine aops_nil ?_
    refine a_block ?_
    refine a_seq ?_
    refine a_region ?_
    refine aops_cons rfl (w_pure rfl (p_eql rfl rfl) ?_)
    refine aops_cons rfl (w_pure rfl (p_assign rfl) ?_)
    refine aops_nil ?_
    first | refine a_cond_d rfl (fun h5 => ?_) (fun h6 => ?_) | refine a_cond_n rfl (fun h5 => ?_) (fun h6 => ?_) | refine a_cond_nb rfl (fun h5 => ?_) (fun h6 => ?_) | refine a_cond rfl (fun h5 => ?_) (fun h6 => ?_)
    · (try simp only [Bool.not_eq_true', Bool.not_eq_false', Bool.not_eq_true, Bool.not_eq_false, decide_eq_true_eq, decide_eq_false_iff_not, List.length_map, List.length_range] at h5)
      refine a_region ?_
      refine aops_cons rfl (w_pure rfl (p_move rfl) ?_)
      refine aops_cons rfl (w_pure rfl (p_move rfl) ?_)
      refine aops_cons rfl (w_lit_vM eInt [_, _, _] rfl el_34 rfl rfl rfl rfl rfl ?_)
      refine aops_cons rfl (w_callM0 rfl rfl rfl cl_134 (.cons (by repeat (first | exact Pick.here _ _ _ | apply Pick.next)) (.nil _)) (c_spec_l1Cur_among _ _ hb _ _ (by omega) (by omega) _ (by first | (simp; done) | (simp; omega)) (0) 100 (by first | (intro x hx; simp only [List.mem_cons, List.not_mem_nil, or_false] at hx; omega) | (intro x hx; have hx := List.mem_of_mem_take hx; simp only [List.mem_cons, List.not_mem_nil, or_false] at hx; omega))) trivial ?_)
      rintro _ _ ⟨m3, a3, s3, rfl, hm3, ha3, hc3, rfl⟩
      (try simp only [List.length_map] at hm3)
      refine aops_cons rfl (w_pure rfl (p_move rfl) ?_)
      refine aops_cons rfl (w_lit_vM eInt [_, _, _] rfl el_34 rfl rfl rfl rfl rfl ?_)
      refine aops_cons rfl (w_callM0 rfl rfl rfl cl_134 (.cons (by repeat (first | exact Pick.here _ _ _ | apply Pick.next)) (.nil _)) (c_spec_l1Cur_among _ _ hb _ _ (by omega) (by omega) _ (by first | (simp; done) | (simp; omega)) (0) 11 (by first | (intro x hx; simp only [List.mem_cons, List.not_mem_nil, or_false] at hx; omega) | (intro x hx; have hx := List.mem_of_mem_take hx; simp only [List.mem_cons, List.not_mem_nil, or_false] at hx; omega))) trivial ?_)
      rintro _ _ ⟨m4, a4, s4, rfl, hm4, ha4, hc4, rfl⟩
      (try simp only [List.length_map] at hm4)
      refine aops_cons rfl (w_pure rfl (p_move rfl) ?_)
      refine aops_cons rfl (w_lit_vM eInt [_, _, _] rfl el_34 rfl rfl rfl rfl rfl ?_)
      refine aops_cons rfl (w_callM0 rfl rfl rfl cl_134 (.cons (by repeat (first | exact Pick.here _ _ _ | apply Pick.next)) (.nil _)) (c_spec_l1Cur_among _ _ hb _ _ (by omega) (by omega) _ (by first | (simp; done) | (simp; omega)) (-101) 201 (by first | (intro x hx; simp only [List.mem_cons, List.not_mem_nil, or_false] at hx; omega) | (intro x hx; have hx := List.mem_of_mem_take hx; simp only [List.mem_cons, List.not_mem_nil, or_false] at hx; omega))) trivial ?_)
      rintro _ _ ⟨m5, a5, s5, rfl, hm5, ha5, hc5, rfl⟩
      (try simp only [List.length_map] at hm5)
      refine aops_cons rfl (w_pure rfl (p_build (cells := [_, _, _, _, _]) z_46 pl_46 rfl rfl) ?_)
      refine aops_cons rfl (w_pure rfl (p_index_own0 0 rfl rfl rfl (by omega) es_24) ?_)
      refine aops_cons rfl (w_store_eM eVcpu ⟨_, _, _, _, _⟩ rfl rfl rfl (by repeat (first | exact Pick.here _ _ _ | apply Pick.next)) (by omega) cn_46 (by rfl) (by rfl) (by rfl) trivial ?_)
      refine aops_nil ?_
      refine a_seq ?_
      refine a_region ?_
      refine aops_cons rfl (w_pure rfl (p_move rfl) ?_)
      refine aops_cons rfl (w_pure rfl (p_assign rfl) ?_)
      refine aops_nil ?_
      refine a_ret ?_
      refine ret_ok (hands1 rfl (.tmp rfl)) (st' := [(q, _), (b, _)]) (.cons (by repeat (first | exact Pick.here _ _ _ | apply Pick.next)) (.cons (by repeat (first | exact Pick.here _ _ _ | apply Pick.next)) (.nil _))) ?_
      first | exact ⟨_, [], _, _, rfl, (by simp), by omega, by omega, rfl⟩ | exact ⟨_, _, _, _, rfl, (by first | omega | (simp; omega)), by omega, by omega, rfl⟩ | exact ⟨_, xs.set 0 ⟨_, _, _, _, _⟩, _, _, by rw [List.length_set], (by rw [List.length_set]; omega), by omega, by omega, rfl⟩
    · (try simp only [Bool.not_eq_true', Bool.not_eq_false', Bool.not_eq_true, Bool.not_eq_false, decide_eq_true_eq, decide_eq_false_iff_not, List.length_map, List.length_range] at h6)
      refine a_seq ?_
      refine a_region ?_
      refine aops_cons rfl (w_pure rfl (p_eql rfl rfl) ?_)
      refine aops_cons rfl (w_pure rfl (p_assign rfl) ?_)
      refine aops_nil ?_
      first | refine a_cond_d rfl (fun h7 => ?_) (fun h8 => ?_) | refine a_cond_n rfl (fun h7 => ?_) (fun h8 => ?_) | refine a_cond_nb rfl (fun h7 => ?_) (fun h8 => ?_) | refine a_cond rfl (fun h7 => ?_) (fun h8 => ?_)
      · (try simp only [Bool.not_eq_true', Bool.not_eq_false', Bool.not_eq_true, Bool.not_eq_false, decide_eq_true_eq, decide_eq_false_iff_not, List.length_map, List.length_range] at h7)
        refine a_region ?_
        refine aops_cons rfl (w_pure rfl (p_move rfl) ?_)
        refine aops_cons rfl (w_pure rfl (p_move rfl) ?_)
        refine aops_cons rfl (w_callM0 rfl rfl rfl cl_135 (.cons (by repeat (first | exact Pick.here _ _ _ | apply Pick.next)) (.nil _)) (c_spec_l1Cur_one _ _ hb _ _ (by omega) (by omega) _ (by omega)) trivial ?_)
        rintro _ _ ⟨b3, a3, s3, rfl, ha3, hc3, rfl⟩
        skip
        refine aops_cons rfl (w_pure rfl (p_build (cells := [_, _, _, _, _]) z_46 pl_46 rfl rfl) ?_)
        refine aops_cons rfl (w_lit_vM eVcpu [⟨_, _, _, _, _⟩] rfl el_24 rfl rfl rfl rfl rfl ?_)
        refine aops_cons rfl (w_appendM eVcpu rfl el_24 rfl rfl (by repeat (first | exact Pick.here _ _ _ | apply Pick.next)) rfl (.sl _) (fun _ => rfl) (fun _ => rfl) (by simp; omega) (by simp; omega) trivial fun b5 => ?_)
        refine aops_cons rfl (w_pure rfl (p_assign rfl) ?_)
        refine aops_nil ?_
        refine a_seq ?_
        refine a_region ?_
        refine aops_cons rfl (w_pure rfl (p_move rfl) ?_)
        refine aops_cons rfl (w_pure rfl (p_assign rfl) ?_)
        refine aops_nil ?_
        refine a_ret ?_
        refine ret_ok (hands1 rfl (.tmp rfl)) (st' := [(q, _), (b5, _)]) (.cons (by repeat (first | exact Pick.here _ _ _ | apply Pick.next)) (.cons (by repeat (first | exact Pick.here _ _ _ | apply Pick.next)) (.nil _))) ?_
        first | exact ⟨_, [], _, _, rfl, (by simp), by omega, by omega, rfl⟩ | exact ⟨_, _, _, _, rfl, (by first | omega | (simp; omega)), by omega, by omega, rfl⟩ | exact ⟨_, xs.set 0 ⟨_, _, _, _, _⟩, _, _, by rw [List.length_set], (by rw [List.length_set]; omega), by omega, by omega, rfl⟩
      · (try simp only [Bool.not_eq_true', Bool.not_eq_false', Bool.not_eq_true, Bool.not_eq_false, decide_eq_true_eq, decide_eq_false_iff_not, List.length_map, List.length_range] at h8)
        refine a_seq ?_
        refine a_region ?_
        refine aops_cons rfl (w_pure rfl (p_eql rfl rfl) ?_)
        refine aops_cons rfl (w_pure rfl (p_assign rfl) ?_)
        refine aops_nil ?_
        first | refine a_cond_d rfl (fun h9 => ?_) (fun h10 => ?_) | refine a_cond_n rfl (fun h9 => ?_) (fun h10 => ?_) | refine a_cond_nb rfl (fun h9 => ?_) (fun h10 => ?_) | refine a_cond rfl (fun h9 => ?_) (fun h10 => ?_)
        · (try simp only [Bool.not_eq_true', Bool.not_eq_false', Bool.not_eq_true, Bool.not_eq_false, decide_eq_true_eq, decide_eq_false_iff_not, List.length_map, List.length_range] at h9)
          refine a_region ?_
          refine aops_cons rfl (w_litM eVcpu [] rfl el_24 rfl rfl rfl rfl rfl fun b6 => ?_)
          refine aops_cons rfl (w_pure rfl (p_assign rfl) ?_)
          refine aops_nil ?_
          refine a_seq ?_
          refine a_region ?_
          refine aops_cons rfl (w_pure rfl (p_move rfl) ?_)
          refine aops_cons rfl (w_pure rfl (p_assign rfl) ?_)
          refine aops_nil ?_
          refine a_ret ?_
          refine ret_ok (hands1 rfl (.tmp rfl)) (st' := [(q, _), (b6, _)]) (.cons (by repeat (first | exact Pick.here _ _ _ | apply Pick.next)) (.cons (by repeat (first | exact Pick.here _ _ _ | apply Pick.next)) (.nil _))) ?_
          first | exact ⟨_, [], _, _, rfl, (by simp), by omega, by omega, rfl⟩ | exact ⟨_, _, _, _, rfl, (by first | omega | (simp; omega)), by omega, by omega, rfl⟩ | exact ⟨_, xs.set 0 ⟨_, _, _, _, _⟩, _, _, by rw [List.length_set], (by rw [List.length_set]; omega), by omega, by omega, rfl⟩
        · (try simp only [Bool.not_eq_true', Bool.not_eq_false', Bool.not_eq_true, Bool.not_eq_false, decide_eq_true_eq, decide_eq_false_iff_not, List.length_map, List.length_range] at h10)
          refine a_skip ?_
          refine a_seq ?_
          refine a_region ?_
          refine aops_cons rfl (w_pure rfl (p_move rfl) ?_)
          refine aops_cons rfl (w_pure rfl (p_assign rfl) ?_)
          refine aops_nil ?_
          refine a_ret ?_
          refine ret_ok (hands1 rfl (.tmp rfl)) (st' := [(q, _), (b, _)]) (.cons (by repeat (first | exact Pick.here _ _ _ | apply Pick.next)) (.cons (by repeat (first | exact Pick.here _ _ _ | apply Pick.next)) (.nil _))) ?_
          first | exact ⟨_, [], _, _, rfl, (by simp), by omega, by omega, rfl⟩ | exact ⟨_, _, _, _, rfl, (by first | omega | (simp; omega)), by omega, by omega, rfl⟩ | exact ⟨_, xs.set 0 ⟨_, _, _, _, _⟩, _, _, by rw [List.length_set], (by rw [List.length_set]; omega), by omega, by omega, rfl⟩

theorem c_spec_l1Cur_ticks (q : Nat) (bs : List Int) (hb : Bytes bs) (a s : Int) (h0 : 0 ≤ a) (h1 : a ≤ 999999996000)  : ACalls Try.prog 100 [.ptr q 0] [(q, curE bs a s)] (fun r st => ∃ m a' s', r = .int .i64 m ∧ (-1 ≤ m ∧ m ≤ 201) ∧ a ≤ a' ∧ a' ≤ a + 4 ∧ st = [(q, curE bs a' s')]) := by
  refine a_enter Try.func100 rfl rfl (fun w0 M0 => ?_)
  refine a_seq ?_
  refine a_region ?_
  refine aops_cons rfl (w_pure rfl (p_assign rfl) ?_)
  refine aops_nil ?_
  refine a_seq ?_
  refine a_region ?_
  refine aops_cons rfl (w_pure rfl (p_move rfl) ?_)
  refine aops_cons rfl (w_lit_vM eInt [_, _, _, _, _, _, _, _, _, _, _, _] rfl el_34 rfl rfl rfl rfl rfl ?_)
  refine aops_cons rfl (w_callM0 rfl rfl rfl cl_134 (.cons (by repeat (first | exact Pick.here _ _ _ | apply Pick.next)) (.nil _)) (c_spec_l1Cur_among _ _ hb _ _ (by omega) (by omega) _ (by first | (simp; done) | (simp; omega)) (-1) 201 (by first | (intro x hx; simp only [List.mem_cons, List.not_mem_nil, or_false] at hx; omega) | (intro x hx; have hx := List.mem_of_mem_take hx; simp only [List.mem_cons, List.not_mem_nil, or_false] at hx; omega))) trivial ?_)
  rintro _ _ ⟨m1, a1, s1, rfl, hm1, ha1, hc1, rfl⟩
  (try simp only [List.length_map] at hm1)
  refine aops_cons rfl (w_pure rfl (p_assign rfl) ?_)
  refine aops_nil ?_
  refine a_ret ?_
  refine ret_ok (hands1 rfl (.tmp rfl)) (st' := [(q, _)]) (.cons (by repeat (first | exact Pick.here _ _ _ | apply Pick.next)) (.nil _)) ?_
  exact ⟨_, _, _, rfl, by omega, by omega, by omega, rfl⟩

theorem co_spec_DrawAreVcpus (bs : List Int) (hb : Bytes bs) : ACalls Try.prog 97 [.sl (bs.map eByte)] [] (fun r st => ∃ (b : Nat) (xs : List Vcpu), r = .own 5 b 0 xs.length ∧ xs.length ≤ 6 ∧ st = [(b, .arr 46 5 (xs.map eVcpu))]) := by
  refine a_enter Try.func97 rfl rfl (fun w0 M0 => ?_)
  refine a_seq ?_
  refine a_region ?_
  refine aops_cons rfl (w_pure rfl (p_assign rfl) ?_)
  refine aops_nil ?_
  refine a_seq ?_
  refine a_region ?_
  refine aops_cons rfl (w_pure rfl (p_move rfl) ?_)
  refine aops_cons rfl (w_pure rfl (p_build (cells := [_, _, _]) z_106 pl_106 rfl rfl) ?_)
  refine aops_cons rfl (w_box rfl rfl rfl fun b1 => ?_)
  refine aops_cons rfl (w_pure rfl (p_assign rfl) ?_)
  refine aops_nil ?_
  refine a_seq ?_
  refine a_region ?_
  refine aops_cons rfl (w_pure rfl (p_move rfl) ?_)
  refine aops_cons rfl (w_callM0 rfl rfl rfl cl_99 (.cons (by repeat (first | exact Pick.here _ _ _ | apply Pick.next)) (.nil _)) (c_spec_l1Cur_vcpus _ _ hb _ _ (by omega) (by omega) ) trivial ?_)
  rintro _ _ ⟨b2, xs1, a1, s1, rfl, hx1, ha1, hc1, rfl⟩
  skip
  refine aops_cons rfl (w_pure rfl (p_assign rfl) ?_)
  refine aops_nil ?_
  refine a_ret ?_
  refine ret_ok (hands1 rfl (.tmp rfl)) (st' := [(b2, _)]) (.cons (by repeat (first | exact Pick.here _ _ _ | apply Pick.next)) (.nil _)) ?_
  exact ⟨_, _, rfl, hx1, rfl⟩

theorem c_spec_DrawAreVcpus (bs : List Int) (hb : Bytes bs) : ACalls Try.prog 97 [.sl (bs.map eByte)] [] (fun r st => (∃ (xs : List Vcpu), r = .sl (xs.map eVcpu) ∧ xs.length ≤ 6) ∧ st = []) :=
  freezeE (co_spec_DrawAreVcpus bs hb) (by rintro _ _ ⟨b, xs, rfl, hx, rfl⟩; exact ⟨_, (.own (by repeat (first | exact List.Mem.head _ | apply List.Mem.tail)) (List.length_map _)), xs, rfl, hx⟩)

theorem c_spec_DrawTickVcpus (bs : List Int) (hb : Bytes bs) : ACalls Try.prog 35 [.sl (bs.map eByte)] [] (fun r st => (∃ (xs : List Vcpu), r = .sl (xs.map eVcpu) ∧ xs.length ≤ 6) ∧ st = []) := by
  refine a_enter Try.func35 rfl rfl (fun w0 M0 => ?_)
  refine a_seq ?_
  refine a_region ?_
  refine aops_cons rfl (w_pure rfl (p_assign rfl) ?_)
  refine aops_nil ?_
  refine a_seq ?_
  refine a_region ?_
  refine aops_cons rfl (w_pure rfl (p_move rfl) ?_)
  refine aops_cons rfl (w_call rfl rfl rfl cl_97 (c_spec_DrawAreVcpus bs hb) ?_)
  rintro _ _ ⟨⟨xs1, rfl, hx1⟩, rfl⟩
  skip
  refine aops_cons rfl (w_pure rfl (p_assign rfl) ?_)
  refine aops_nil ?_
  refine a_ret ?_
  refine ret_ok (hands1 rfl (.tmp rfl)) (.nil _) ?_
  exact ⟨⟨_, rfl, hx1⟩, rfl⟩

theorem c_spec_DrawPickVcpu (bs : List Int) (hb : Bytes bs) : ACalls Try.prog 43 [.sl (bs.map eByte)] [] (fun r st => (∃ (xs : List Vcpu), r = .sl (xs.map eVcpu) ∧ xs.length ≤ 6) ∧ st = []) := by
  refine a_enter Try.func43 rfl rfl (fun w0 M0 => ?_)
  refine a_seq ?_
  refine a_region ?_
  refine aops_cons rfl (w_pure rfl (p_assign rfl) ?_)
  refine aops_nil ?_
  refine a_seq ?_
  refine a_region ?_
  refine aops_cons rfl (w_pure rfl (p_move rfl) ?_)
  refine aops_cons rfl (w_call rfl rfl rfl cl_97 (c_spec_DrawAreVcpus bs hb) ?_)
  rintro _ _ ⟨⟨xs1, rfl, hx1⟩, rfl⟩
  skip
  refine aops_cons rfl (w_pure rfl (p_assign rfl) ?_)
  refine aops_nil ?_
  refine a_ret ?_
  refine ret_ok (hands1 rfl (.tmp rfl)) (.nil _) ?_
  exact ⟨⟨_, rfl, hx1⟩, rfl⟩

theorem c_spec_DrawRefillVcpus (bs : List Int) (hb : Bytes bs) : ACalls Try.prog 45 [.sl (bs.map eByte)] [] (fun r st => (∃ (xs : List Vcpu), r = .sl (xs.map eVcpu) ∧ xs.length ≤ 6) ∧ st = []) := by
  refine a_enter Try.func45 rfl rfl (fun w0 M0 => ?_)
  refine a_seq ?_
  refine a_region ?_
  refine aops_cons rfl (w_pure rfl (p_assign rfl) ?_)
  refine aops_nil ?_
  refine a_seq ?_
  refine a_region ?_
  refine aops_cons rfl (w_pure rfl (p_move rfl) ?_)
  refine aops_cons rfl (w_call rfl rfl rfl cl_97 (c_spec_DrawAreVcpus bs hb) ?_)
  rintro _ _ ⟨⟨xs1, rfl, hx1⟩, rfl⟩
  skip
  refine aops_cons rfl (w_pure rfl (p_assign rfl) ?_)
  refine aops_nil ?_
  refine a_ret ?_
  refine ret_ok (hands1 rfl (.tmp rfl)) (.nil _) ?_
  exact ⟨⟨_, rfl, hx1⟩, rfl⟩

theorem co_spec_DrawRunTicks (bs : List Int) (hb : Bytes bs) : ACalls Try.prog 41 [.sl (bs.map eByte)] [] (fun r st => ∃ (b : Nat) (xs : List Vcpu) (m : Int), r = .tup [.own 5 b 0 xs.length, .int .i64 m] ∧ xs.length ≤ 6 ∧ (-1 ≤ m ∧ m ≤ 201) ∧ st = [(b, .arr 46 5 (xs.map eVcpu))]) := by
  refine a_enter Try.func41 rfl rfl (fun w0 M0 => ?_)
  refine a_seq ?_
  refine a_region ?_
  refine aops_cons rfl (w_pure rfl (p_assign rfl) ?_)
  refine aops_cons rfl (w_pure rfl (p_assign rfl) ?_)
  refine aops_nil ?_
  refine a_seq ?_
  refine a_region ?_
  refine aops_cons rfl (w_pure rfl (p_move rfl) ?_)
  refine aops_cons rfl (w_pure rfl (p_build (cells := [_, _, _]) z_106 pl_106 rfl rfl) ?_)
  refine aops_cons rfl (w_box rfl rfl rfl fun b1 => ?_)
  refine aops_cons rfl (w_pure rfl (p_assign rfl) ?_)
  refine aops_nil ?_
  refine a_seq ?_
  refine a_region ?_
  refine aops_cons rfl (w_pure rfl (p_move rfl) ?_)
  refine aops_cons rfl (w_callM0 rfl rfl rfl cl_99 (.cons (by repeat (first | exact Pick.here _ _ _ | apply Pick.next)) (.nil _)) (c_spec_l1Cur_vcpus _ _ hb _ _ (by omega) (by omega) ) trivial ?_)
  rintro _ _ ⟨b2, xs1, a1, s1, rfl, hx1, ha1, hc1, rfl⟩
  skip
  refine aops_cons rfl (w_pure rfl (p_move rfl) ?_)
  refine aops_cons rfl (w_callM0 rfl rfl rfl cl_100 (.cons (by repeat (first | exact Pick.here _ _ _ | apply Pick.next)) (.nil _)) (c_spec_l1Cur_ticks _ _ hb _ _ (by omega) (by omega) ) trivial ?_)
  rintro _ _ ⟨m2, a2, s2, rfl, hm2, ha2, hc2, rfl⟩
  (try simp only [List.length_map] at hm2)
  refine aops_cons rfl (w_pure rfl (p_assign rfl) ?_)
  refine aops_cons rfl (w_pure rfl (p_assign rfl) ?_)
  refine aops_nil ?_
  refine a_ret ?_
  refine ret_ok (hands2 rfl (.tmp rfl) (.tmp rfl)) (st' := [(b2, _)]) (.cons (by repeat (first | exact Pick.here _ _ _ | apply Pick.next)) (.nil _)) ?_
  exact ⟨_, _, _, rfl, hx1, hm2, rfl⟩

theorem c_spec_DrawRunTicks (bs : List Int) (hb : Bytes bs) : ACalls Try.prog 41 [.sl (bs.map eByte)] [] (fun r st => (∃ (xs : List Vcpu) (m : Int), r = .tup [.sl (xs.map eVcpu), .int .i64 m] ∧ xs.length ≤ 6 ∧ (-1 ≤ m ∧ m ≤ 201)) ∧ st = []) :=
  freezeE (co_spec_DrawRunTicks bs hb) (by rintro _ _ ⟨b, xs, m, rfl, hx, hm, rfl⟩; exact ⟨_, (.tup (.cons (.own (by repeat (first | exact List.Mem.head _ | apply List.Mem.tail)) (List.length_map _)) (.cons (.refl _) .nil))), xs, m, rfl, hx, hm⟩)

theorem cv_spec_TickVcpus (xs : List Vcpu) (hn : xs.length ≤ 1048576) : ACalls Try.prog 19 [.sl (xs.map eVcpu)] [] (Ret (.tup [.sl ((pickV (GoodTick xs) (tickL xs)).map eVcpu), .int .i64 (pickI (GoodTick xs) (tickId xs)), .bool (decide (GoodTick xs))])) := by
  by_cases hA : GoodTick xs
  · rw [pickV_y hA, pickI_y hA, decide_eq_true hA]
    exact cy_spec_TickVcpus xs hn hA
  · rw [pickV_n hA, pickI_n hA, decide_eq_false hA]
    exact (cn_spec_TickVcpus xs hn hA).freeze (by rintro _ _ ⟨rfl, rfl⟩; first | exact (.tup (.cons .nil (.cons (.refl _) (.cons (.refl _) .nil)))) | exact (.tup (.cons (.refl _) (.cons (.refl _) (.cons (.refl _) .nil)))))

theorem cv_impl_TickVcpus (xs : List Vcpu) (hn : xs.length ≤ 1048576) : ACalls Try.prog 21 [.sl (xs.map eVcpu)] [] (Ret (.tup [.sl ((pickV (GoodTick xs) (tickL xs)).map eVcpu), .int .i64 (pickI (GoodTick xs) (tickId xs)), .bool (decide (GoodTick xs))])) := by
  by_cases hA : GoodTick xs
  · rw [pickV_y hA, pickI_y hA, decide_eq_true hA]
    exact cf_impl_TickVcpus xs hn hA
  · rw [pickV_n hA, pickI_n hA, decide_eq_false hA]
    exact (cn_impl_TickVcpus xs hn hA).freeze (by rintro _ _ ⟨rfl, rfl⟩; first | exact (.tup (.cons .nil (.cons (.refl _) (.cons (.refl _) .nil)))) | exact (.tup (.cons (.refl _) (.cons (.refl _) (.cons (.refl _) .nil)))))

theorem cv_spec_RunTicks (xs : List Vcpu) (hn : xs.length ≤ 1048576) (n : Int) : ACalls Try.prog 32 [.sl (xs.map eVcpu), .int .i64 n] [] (Ret (.tup [.sl ((pickV (GoodRun xs n) (tickN xs (tkN n))).map eVcpu), .sl ((pickL (GoodRun xs n) (idsTo xs (tkN n))).map eInt), .bool (decide (GoodRun xs n))])) := by
  by_cases hA : GoodRun xs n
  · rw [pickV_y hA, pickL_y hA, decide_eq_true hA]
    exact cy_spec_RunTicks xs hn n hA
  · rw [pickV_n hA, pickL_n hA, decide_eq_false hA]
    exact (cn_spec_RunTicks xs hn n hA).freeze (by rintro _ _ ⟨rfl, rfl⟩; first | exact (.tup (.cons .nil (.cons .nil (.cons (.refl _) .nil)))) | exact (.tup (.cons (.refl _) (.cons (.refl _) (.cons (.refl _) .nil)))))

theorem cv_impl_RunTicks (xs : List Vcpu) (hn : xs.length ≤ 1048576) (n : Int) : ACalls Try.prog 33 [.sl (xs.map eVcpu), .int .i64 n] [] (Ret (.tup [.sl ((pickV (GoodRun xs n) (tickN xs (tkN n))).map eVcpu), .sl ((pickL (GoodRun xs n) (idsTo xs (tkN n))).map eInt), .bool (decide (GoodRun xs n))])) := by
  by_cases hA : GoodRun xs n
  · rw [pickV_y hA, pickL_y hA, decide_eq_true hA]
    exact cf_impl_RunTicks xs hn n hA
  · rw [pickV_n hA, pickL_n hA, decide_eq_false hA]
    exact (cn_impl_RunTicks xs hn n hA).freeze (by rintro _ _ ⟨rfl, rfl⟩; first | exact (.tup (.cons .nil (.cons .nil (.cons (.refl _) .nil)))) | exact (.tup (.cons (.refl _) (.cons (.refl _) (.cons (.refl _) .nil)))))

theorem cv_impl_RefillVcpus (xs : List Vcpu) (hn : xs.length ≤ 1048576) : ACalls Try.prog 39 [.sl (xs.map eVcpu)] [] (Ret (.tup [.sl ((refillVcpus xs).1.map eVcpu), .bool (refillVcpus xs).2])) := by
  by_cases hA : AreVcpus xs
  · rw [refillVcpus, if_pos hA]
    exact (cy_impl_RefillVcpus xs hn hA).freeze (by rintro _ _ ⟨b, rfl, rfl⟩; exact (.tup (.cons (.own (by repeat (first | exact List.Mem.head _ | apply List.Mem.tail)) (List.length_map _)) (.cons (.refl _) .nil))))
  · rw [refillVcpus, if_neg hA]
    exact (cn_impl_RefillVcpus xs hn hA).freeze (by rintro _ _ ⟨rfl, rfl⟩; exact (.tup (.cons .nil (.cons (.refl _) .nil))))

theorem ct_impl_RefillVcpus (xs : List Vcpu) (hn : xs.length ≤ 1048576) (hA : AreVcpus xs) : ACalls Try.prog 39 [.sl (xs.map eVcpu)] [] (Ret (.tup [.sl ((refillL xs).map eVcpu), .bool true])) := by
  have := cv_impl_RefillVcpus xs hn
  rwa [refillVcpus, if_pos hA] at this

theorem ct_impl_AreVcpus (xs : List Vcpu) (hn : xs.length ≤ 1048576) (hA : AreVcpus xs) : ACalls Try.prog 37 [.sl (xs.map eVcpu)] [] (Ret (.bool true)) := by
  have := c_impl_AreVcpus xs hn
  rwa [decide_eq_true hA] at this

theorem eqs_46 : eqShape Try.prog 46 = some [true, true, true, false, false] := by kernel_rfl

theorem c_laws_vInts (xs : List Int) (hn : xs.length ≤ 1048576) : ACalls Try.prog 42 [.sl (xs.map eInt), .sl (xs.map eInt)] [] (Ret (.bool true)) := by
  refine a_enter Try.func42 rfl rfl (fun w0 M0 => ?_)
  refine a_seq ?_
  refine a_region ?_
  refine aops_cons rfl (w_pure rfl (p_assign rfl) ?_)
  refine aops_nil ?_
  refine a_seq ?_
  refine a_seq ?_
  refine a_region ?_
  refine aops_cons rfl (w_pure rfl (p_move rfl) ?_)
  refine aops_cons rfl (w_pure rfl (p_len sl_34 rfl rfl) ?_)
  refine aops_cons rfl (w_pure rfl (p_move rfl) ?_)
  refine aops_cons rfl (w_pure rfl (p_len sl_34 rfl rfl) ?_)
  refine aops_cons rfl (w_pure rfl (p_neq_same rfl rfl) ?_)
  refine aops_nil ?_
  refine a_cond_f rfl ?_
  refine a_skip ?_
  refine a_seq ?_
  refine a_seq ?_
  refine a_region ?_
  refine aops_cons rfl (w_pure rfl (p_assign rfl) ?_)
  refine aops_nil ?_
  refine a_block ?_
  refine a_loop (ι := Nat) (fun i => i ≤ xs.length) (fun i => [(5, .int .i64 (i : Int))]) (fun i => []) (fun i => xs.length - i) 0 (Nat.zero_le _) (by repeat (first | exact Knows.nil | refine Knows.cons (by rfl) ?_)) (by repeat (first | exact Picks.nil _ | exact Pick.here _ _ _ | apply Pick.next | apply Picks.cons)) ?_
  rintro i hi
  skip
  refine a_seq ?_
  refine a_seq ?_
  refine a_region ?_
  refine aops_cons rfl (w_pure rfl (p_move rfl) ?_)
  refine aops_cons rfl (w_pure rfl (p_move rfl) ?_)
  refine aops_cons rfl (w_pure rfl (p_len sl_34 rfl rfl) ?_)
  refine aops_cons rfl (w_pure rfl (p_lss rfl rfl) ?_)
  refine aops_nil ?_
  first | refine a_cond_d rfl (fun h1 => ?_) (fun h2 => ?_) | refine a_cond_n rfl (fun h1 => ?_) (fun h2 => ?_) | refine a_cond_nb rfl (fun h1 => ?_) (fun h2 => ?_) | refine a_cond rfl (fun h1 => ?_) (fun h2 => ?_)
  · (try simp only [Bool.not_eq_true', Bool.not_eq_false', Bool.not_eq_true, Bool.not_eq_false, decide_eq_true_eq, decide_eq_false_iff_not, List.length_map, List.length_range] at h1)
    refine a_skip ?_
    refine a_seq ?_
    refine a_block ?_
    refine a_seq ?_
    refine a_draw [] (by kernel_rfl) ?_
    show ADraw _ _ _ _ _ _ 9 _ _ _ _
    refine d_take 0 rfl (by kernel_rfl) (by kernel_rfl) (by kernel_rfl) rfl (p_move rfl) ?_
    refine d_take 1 rfl (by kernel_rfl) (by kernel_rfl) (by kernel_rfl) rfl (p_move rfl) ?_
    refine d_take 2 rfl (by kernel_rfl) (by kernel_rfl) (by kernel_rfl) rfl (p_index_sl _ rfl rfl rfl (rowD _ _ (0 : Int) (by omega)) es_34) ?_
    refine d_load 3 rfl (by kernel_rfl) (by kernel_rfl) (by kernel_rfl) rfl (p_load_v ag_3 rfl (by rfl) noX) ?_
    refine d_take 4 rfl (by kernel_rfl) (by kernel_rfl) (by kernel_rfl) rfl (p_move rfl) ?_
    refine d_take 5 rfl (by kernel_rfl) (by kernel_rfl) (by kernel_rfl) rfl (p_move rfl) ?_
    refine d_take 6 rfl (by kernel_rfl) (by kernel_rfl) (by kernel_rfl) rfl (p_index_sl _ rfl rfl rfl (rowD _ _ (0 : Int) (by omega)) es_34) ?_
    refine d_load 7 rfl (by kernel_rfl) (by kernel_rfl) (by kernel_rfl) rfl (p_load_v ag_3 rfl (by rfl) noX) ?_
    refine d_take 8 rfl (by kernel_rfl) (by kernel_rfl) (by kernel_rfl) rfl (p_neq_same rfl rfl) ?_
    refine draw_done (by kernel_rfl) ?_
    refine a_cond_f rfl ?_
    refine a_skip ?_
    refine a_region ?_
    refine aops_cons rfl (w_pure rfl (p_move rfl) ?_)
    refine aops_cons rfl (w_pure rfl (p_add' rfl rfl ⟨by omega, by omega⟩) ?_)
    refine aops_cons rfl (w_pure rfl (p_assign rfl) ?_)
    refine aops_nil ?_
    refine ⟨(i + 1), _, ?_, ?_, (by repeat (first | exact Knows.nil | refine Knows.cons (by rfl) ?_)), (by repeat (first | exact Back.refl _ _ | refine Back.cons (by rfl) ?_)), (by repeat (first | exact Picks.nil _ | exact Pick.here _ _ _ | apply Pick.next | apply Picks.cons))⟩
    · omega
    · (try dsimp only); omega
  · (try simp only [Bool.not_eq_true', Bool.not_eq_false', Bool.not_eq_true, Bool.not_eq_false, decide_eq_true_eq, decide_eq_false_iff_not, List.length_map, List.length_range] at h2)
    refine a_exit ?_
    refine a_seq ?_
    refine a_region ?_
    refine aops_cons rfl (w_pure rfl (p_assign rfl) ?_)
    refine aops_nil ?_
    refine a_ret ?_
    refine ret_ok (hands1 rfl (.tmp rfl)) (.nil _) ?_
    first | exact ⟨rfl, rfl⟩ | (exfalso; omega)

theorem c_laws_vVcpus (xs : List Vcpu) (hn : xs.length ≤ 1048576) : ACalls Try.prog 36 [.sl (xs.map eVcpu), .sl (xs.map eVcpu)] [] (Ret (.bool true)) := by
  refine a_enter Try.func36 rfl rfl (fun w0 M0 => ?_)
  refine a_seq ?_
  refine a_region ?_
  refine aops_cons rfl (w_pure rfl (p_assign rfl) ?_)
  refine aops_nil ?_
  refine a_seq ?_
  refine a_seq ?_
  refine a_region ?_
  refine aops_cons rfl (w_pure rfl (p_move rfl) ?_)
  refine aops_cons rfl (w_pure rfl (p_len sl_24 rfl rfl) ?_)
  refine aops_cons rfl (w_pure rfl (p_move rfl) ?_)
  refine aops_cons rfl (w_pure rfl (p_len sl_24 rfl rfl) ?_)
  refine aops_cons rfl (w_pure rfl (p_neq_same rfl rfl) ?_)
  refine aops_nil ?_
  refine a_cond_f rfl ?_
  refine a_skip ?_
  refine a_seq ?_
  refine a_seq ?_
  refine a_region ?_
  refine aops_cons rfl (w_pure rfl (p_assign rfl) ?_)
  refine aops_nil ?_
  refine a_block ?_
  refine a_loop (ι := Nat) (fun i => i ≤ xs.length) (fun i => [(5, .int .i64 (i : Int))]) (fun i => []) (fun i => xs.length - i) 0 (Nat.zero_le _) (by repeat (first | exact Knows.nil | refine Knows.cons (by rfl) ?_)) (by repeat (first | exact Picks.nil _ | exact Pick.here _ _ _ | apply Pick.next | apply Picks.cons)) ?_
  rintro i hi
  skip
  refine a_seq ?_
  refine a_seq ?_
  refine a_region ?_
  refine aops_cons rfl (w_pure rfl (p_move rfl) ?_)
  refine aops_cons rfl (w_pure rfl (p_move rfl) ?_)
  refine aops_cons rfl (w_pure rfl (p_len sl_24 rfl rfl) ?_)
  refine aops_cons rfl (w_pure rfl (p_lss rfl rfl) ?_)
  refine aops_nil ?_
  first | refine a_cond_d rfl (fun h1 => ?_) (fun h2 => ?_) | refine a_cond_n rfl (fun h1 => ?_) (fun h2 => ?_) | refine a_cond_nb rfl (fun h1 => ?_) (fun h2 => ?_) | refine a_cond rfl (fun h1 => ?_) (fun h2 => ?_)
  · (try simp only [Bool.not_eq_true', Bool.not_eq_false', Bool.not_eq_true, Bool.not_eq_false, decide_eq_true_eq, decide_eq_false_iff_not, List.length_map, List.length_range] at h1)
    refine a_skip ?_
    refine a_seq ?_
    refine a_block ?_
    refine a_seq ?_
    refine a_draw [] (by kernel_rfl) ?_
    show ADraw _ _ _ _ _ _ 9 _ _ _ _
    refine d_take 0 rfl (by kernel_rfl) (by kernel_rfl) (by kernel_rfl) rfl (p_move rfl) ?_
    refine d_take 1 rfl (by kernel_rfl) (by kernel_rfl) (by kernel_rfl) rfl (p_move rfl) ?_
    refine d_take 2 rfl (by kernel_rfl) (by kernel_rfl) (by kernel_rfl) rfl (p_index_sl _ rfl rfl rfl (rowD _ _ zVcpu (by omega)) es_24) ?_
    refine d_load 3 rfl (by kernel_rfl) (by kernel_rfl) (by kernel_rfl) rfl (p_load_v_all ag_46 rfl (by rfl) noX) ?_
    refine d_take 4 rfl (by kernel_rfl) (by kernel_rfl) (by kernel_rfl) rfl (p_move rfl) ?_
    refine d_take 5 rfl (by kernel_rfl) (by kernel_rfl) (by kernel_rfl) rfl (p_move rfl) ?_
    refine d_take 6 rfl (by kernel_rfl) (by kernel_rfl) (by kernel_rfl) rfl (p_index_sl _ rfl rfl rfl (rowD _ _ zVcpu (by omega)) es_24) ?_
    refine d_load 7 rfl (by kernel_rfl) (by kernel_rfl) (by kernel_rfl) rfl (p_load_v_all ag_46 rfl (by rfl) noX) ?_
    refine d_take 8 rfl (by kernel_rfl) (by kernel_rfl) (by kernel_rfl) rfl (p_neqS eqs_46 rfl rfl (eqC_vcpu rfl)) ?_
    refine draw_done (by kernel_rfl) ?_
    refine a_cond_f rfl ?_
    refine a_skip ?_
    refine a_region ?_
    refine aops_cons rfl (w_pure rfl (p_move rfl) ?_)
    refine aops_cons rfl (w_pure rfl (p_add' rfl rfl ⟨by omega, by omega⟩) ?_)
    refine aops_cons rfl (w_pure rfl (p_assign rfl) ?_)
    refine aops_nil ?_
    refine ⟨(i + 1), _, ?_, ?_, (by repeat (first | exact Knows.nil | refine Knows.cons (by rfl) ?_)), (by repeat (first | exact Back.refl _ _ | refine Back.cons (by rfl) ?_)), (by repeat (first | exact Picks.nil _ | exact Pick.here _ _ _ | apply Pick.next | apply Picks.cons))⟩
    · omega
    · (try dsimp only); omega
  · (try simp only [Bool.not_eq_true', Bool.not_eq_false', Bool.not_eq_true, Bool.not_eq_false, decide_eq_true_eq, decide_eq_false_iff_not, List.length_map, List.length_range] at h2)
    refine a_exit ?_
    refine a_seq ?_
    refine a_region ?_
    refine aops_cons rfl (w_pure rfl (p_assign rfl) ?_)
    refine aops_nil ?_
    refine a_ret ?_
    refine ret_ok (hands1 rfl (.tmp rfl)) (.nil _) ?_
    first | exact ⟨rfl, rfl⟩ | (exfalso; omega)

theorem ce_laws_vVcpus (xs ys : List Vcpu) (hn : ys.length ≤ 1048576) (h : xs = ys) : ACalls Try.prog 36 [.sl (xs.map eVcpu), .sl (ys.map eVcpu)] [] (Ret (.bool true)) := by
  subst h
  exact c_laws_vVcpus xs hn

theorem c_laws_vBig (bs : List Int) (hn : bs.length ≤ 9223372036854775807) : ACalls Try.prog 34 [.sl (bs.map eByte)] [] (Ret (.bool (decide (65536 < bs.length)))) := by
  refine a_enter Try.func34 rfl rfl (fun w0 M0 => ?_)
  refine a_seq ?_
  refine a_region ?_
  refine aops_cons rfl (w_pure rfl (p_assign rfl) ?_)
  refine aops_nil ?_
  refine a_seq ?_
  refine a_region ?_
  refine aops_cons rfl (w_pure rfl (p_move rfl) ?_)
  refine aops_cons rfl (w_pure rfl (p_len sl_41 rfl rfl) ?_)
  refine aops_cons rfl (w_pure rfl (p_gtr rfl rfl) ?_)
  refine aops_cons rfl (w_pure rfl (p_assign rfl) ?_)
  refine aops_nil ?_
  refine a_ret ?_
  refine ret_ok (hands1 rfl (.tmp rfl)) (.nil _) ?_
  refine ret_dec ?_; simp only [List.length_map]; omega

set_option maxHeartbeats 4000000 in
theorem c_laws_FnCredits (bs : List Int) (_hc : (∀ x ∈ bs, 0 ≤ x ∧ x ≤ 255) ∧ bs.length ≤ maxLen) : ACalls Try.prog 7 [.sl (bs.map eByte)] [] (Ret (.bool true)) := by
  have hm : bs.length ≤ 9223372036854775807 := _hc.2
  refine a_enter Try.func7 rfl rfl (fun w0 M0 => ?_)
  refine a_seq ?_
  refine a_region ?_
  refine aops_cons rfl (w_pure rfl (p_assign rfl) ?_)
  refine aops_nil ?_
  refine a_seq ?_
  refine a_seq ?_
  refine a_region ?_
  refine aops_cons rfl (w_pure rfl (p_move rfl) ?_)
  refine aops_cons rfl (w_callR rfl rfl rfl cl_34 (c_laws_vBig _ (by omega)) ?_)
  refine aops_nil ?_
  first | refine a_cond_d rfl (fun h1 => ?_) (fun h2 => ?_) | refine a_cond_n rfl (fun h1 => ?_) (fun h2 => ?_) | refine a_cond_nb rfl (fun h1 => ?_) (fun h2 => ?_) | refine a_cond rfl (fun h1 => ?_) (fun h2 => ?_)
  · (try simp only [Bool.not_eq_true', Bool.not_eq_false', Bool.not_eq_true, Bool.not_eq_false, decide_eq_true_eq, decide_eq_false_iff_not, List.length_map, List.length_range] at h1)
    refine a_seq ?_
    refine a_region ?_
    refine aops_cons rfl (w_pure rfl (p_assign rfl) ?_)
    refine aops_nil ?_
    refine a_ret ?_
    refine ret_ok (hands1 rfl (.tmp rfl)) (.nil _) ?_
    first | exact ⟨rfl, rfl⟩ | (exfalso; omega) | (exfalso; have q := (hat i (by omega)).2 (by omega); simp_all; done)
  · (try simp only [Bool.not_eq_true', Bool.not_eq_false', Bool.not_eq_true, Bool.not_eq_false, decide_eq_true_eq, decide_eq_false_iff_not, List.length_map, List.length_range] at h2)
    refine a_skip ?_
    refine a_seq ?_
    have hb : Bytes bs := ⟨by omega, _hc.1⟩
    refine a_region ?_
    refine aops_cons rfl (w_pure rfl (p_move rfl) ?_)
    refine aops_cons rfl (w_call rfl rfl rfl cl_35 (c_spec_DrawTickVcpus bs hb) ?_)
    rintro _ _ ⟨⟨xs1, rfl, hx1⟩, rfl⟩
    skip
    refine aops_cons rfl (w_pure rfl (p_assign rfl) ?_)
    refine aops_nil ?_
    refine a_seq ?_
    refine a_region ?_
    refine aops_cons rfl (w_pure rfl (p_move rfl) ?_)
    refine aops_cons rfl (w_callR rfl rfl rfl cl_21 (cv_impl_TickVcpus xs1 (by omega)) ?_)
    refine aops_cons rfl (w_pure rfl (p_move rfl) ?_)
    refine aops_cons rfl (w_pure rfl (p_extract rfl rfl) ?_)
    refine aops_cons rfl (w_pure rfl (p_extract rfl rfl) ?_)
    refine aops_cons rfl (w_pure rfl (p_extract rfl rfl) ?_)
    refine aops_cons rfl (w_pure rfl (p_assign rfl) ?_)
    refine aops_cons rfl (w_pure rfl (p_assign rfl) ?_)
    refine aops_cons rfl (w_pure rfl (p_assign rfl) ?_)
    refine aops_nil ?_
    refine a_seq_join (ι := Unit) (fun _ => True) (fun _ => []) (fun _ => []) (old := []) (by repeat (first | exact Picks.nil _ | exact Pick.here _ _ _ | apply Pick.next | apply Picks.cons)) ?_ ?_
    · skip
      refine a_seq ?_
      refine a_region ?_
      refine aops_cons rfl (w_pure rfl (p_move rfl) ?_)
      refine aops_cons rfl (w_callR rfl rfl rfl cl_19 (cv_spec_TickVcpus xs1 (by omega)) ?_)
      refine aops_cons rfl (w_pure rfl (p_move rfl) ?_)
      refine aops_cons rfl (w_pure rfl (p_extract rfl rfl) ?_)
      refine aops_cons rfl (w_pure rfl (p_extract rfl rfl) ?_)
      refine aops_cons rfl (w_pure rfl (p_extract rfl rfl) ?_)
      refine aops_cons rfl (w_pure rfl (p_assign rfl) ?_)
      refine aops_cons rfl (w_pure rfl (p_assign rfl) ?_)
      refine aops_cons rfl (w_pure rfl (p_assign rfl) ?_)
      refine aops_nil ?_
      refine a_seq ?_
      refine a_region ?_
      refine aops_cons rfl (w_pure rfl (p_move rfl) ?_)
      refine aops_cons rfl (w_pure rfl (p_move rfl) ?_)
      refine aops_cons rfl (w_pure rfl (p_neq_bsame um_4 rfl rfl) ?_)
      refine aops_cons rfl (w_pure rfl (p_move rfl) ?_)
      refine aops_guard_t rfl rfl rfl (w_pure rfl (p_move rfl) ?_)
      refine aops_guard_t rfl rfl rfl (w_pure rfl (p_move rfl) ?_)
      refine aops_guard_t rfl rfl rfl (w_pure rfl (p_neq_same rfl rfl) ?_)
      refine aops_cons rfl (w_pure rfl (p_pick_f rfl rfl) ?_)
      refine aops_cons rfl (w_pure rfl (p_move rfl) ?_)
      refine aops_guard_t rfl rfl rfl (w_pure rfl (p_move rfl) ?_)
      refine aops_guard_t rfl rfl rfl (w_pure rfl (p_move rfl) ?_)
      refine aops_guard_t rfl rfl rfl (w_callR rfl rfl rfl cl_36 (c_laws_vVcpus (pickV (GoodTick xs1) (tickL xs1)) (pickV_small (fun h => small_tick h))) ?_)
      refine aops_guard_t rfl rfl rfl (w_pure rfl (p_not rfl) ?_)
      refine aops_cons rfl (w_pure rfl (p_pick_f rfl rfl) ?_)
      refine aops_cons rfl (w_pure rfl (p_move rfl) ?_)
      refine aops_guard_t rfl rfl rfl (w_pure rfl (p_move rfl) ?_)
      refine aops_guard_t rfl rfl rfl (w_callR rfl rfl rfl cl_37 (c_impl_AreVcpus xs1 (by omega)) ?_)
      refine aops_guard_t rfl rfl rfl (w_pure rfl (p_move rfl) ?_)
      refine aops_guard_t rfl rfl rfl (w_callR rfl rfl rfl cl_38 (c_spec_AreVcpus xs1 (by omega)) ?_)
      refine aops_guard_t rfl rfl rfl (w_pure rfl (p_neq_bsame um_4 rfl rfl) ?_)
      refine aops_cons rfl (w_pure rfl (p_pick_f rfl rfl) ?_)
      refine aops_cons rfl (w_pure rfl (p_move rfl) ?_)
      refine aops_guard_t rfl rfl rfl (w_pure rfl (p_move rfl) ?_)
      refine aops_guard_t rfl rfl rfl (w_pure rfl (p_move rfl) ?_)
      first | refine aops_split_d 80 rfl (fun h3 => ?_) (fun h4 => ?_) | refine aops_split 80 rfl (fun h3 => ?_) (fun h4 => ?_)
      · (try simp only [Bool.not_eq_true', Bool.not_eq_false', Bool.not_eq_true, Bool.not_eq_false, decide_eq_true_eq, decide_eq_false_iff_not, List.length_map, List.length_range] at h3)
        refine aops_guard_t rfl rfl rfl (w_pure rfl (p_move rfl) ?_)
        refine aops_guard_t rfl rfl rfl (w_callR rfl rfl rfl cl_37 (ct_impl_AreVcpus (pickV (GoodTick xs1) (tickL xs1)) (pickV_small (fun h => small_tick h)) (by have hk : GoodTick xs1 := (by assumption); rw [pickV_y hk]; exact tick_are hk.1 hk.2)) ?_)
        refine aops_guard_t rfl rfl rfl (w_pure rfl (p_not rfl) ?_)
        refine aops_guard_t rfl rfl rfl (w_pure rfl (p_pick_t rfl rfl) ?_)
        refine aops_cons rfl (w_pure rfl (p_pick_f rfl rfl) ?_)
        refine aops_nil ?_
        refine a_cond_f rfl ?_
        refine a_skip ?_
        exact ⟨(), _, trivial, (by repeat (first | exact Knows.nil | refine Knows.cons (by rfl) ?_)), (by repeat (first | exact Back.refl _ _ | refine Back.cons (by rfl) ?_)), (by repeat (first | exact Picks.nil _ | exact Pick.here _ _ _ | apply Pick.next | apply Picks.cons))⟩
      · (try simp only [Bool.not_eq_true', Bool.not_eq_false', Bool.not_eq_true, Bool.not_eq_false, decide_eq_true_eq, decide_eq_false_iff_not, List.length_map, List.length_range] at h4)
        refine g_pass' rfl rfl rfl rfl rfl ?_
        refine g_pass' rfl rfl rfl rfl rfl ?_
        refine g_pass' rfl rfl rfl rfl rfl ?_
        refine aops_guard_t rfl rfl rfl (w_pure rfl (p_pick_f rfl rfl) ?_)
        refine aops_cons rfl (w_pure rfl (p_pick_f rfl rfl) ?_)
        refine aops_nil ?_
        refine a_cond_f rfl ?_
        refine a_skip ?_
        exact ⟨(), _, trivial, (by repeat (first | exact Knows.nil | refine Knows.cons (by rfl) ?_)), (by repeat (first | exact Back.refl _ _ | refine Back.cons (by rfl) ?_)), (by repeat (first | exact Picks.nil _ | exact Pick.here _ _ _ | apply Pick.next | apply Picks.cons))⟩
    · rintro _ -
      refine a_seq_join (ι := Unit) (fun _ => True) (fun _ => []) (fun _ => []) (old := []) (by repeat (first | exact Picks.nil _ | exact Pick.here _ _ _ | apply Pick.next | apply Picks.cons)) ?_ ?_
      · skip
        refine a_seq ?_
        refine a_region ?_
        refine aops_cons rfl (w_pure rfl (p_move rfl) ?_)
        refine aops_nil ?_
        first | refine a_cond_d rfl (fun h5 => ?_) (fun h6 => ?_) | refine a_cond_n rfl (fun h5 => ?_) (fun h6 => ?_) | refine a_cond_nb rfl (fun h5 => ?_) (fun h6 => ?_) | refine a_cond rfl (fun h5 => ?_) (fun h6 => ?_)
        · (try simp only [Bool.not_eq_true', Bool.not_eq_false', Bool.not_eq_true, Bool.not_eq_false, decide_eq_true_eq, decide_eq_false_iff_not, List.length_map, List.length_range] at h5)
          refine a_seq ?_
          have hk : GoodTick xs1 := (by assumption)
          rw [pickV_y hk, pickI_y hk]
          have ht := tickL_len xs1
          have hr := refillL_len xs1
          refine a_region ?_
          refine aops_cons rfl (w_pure rfl (p_assign rfl) ?_)
          refine aops_nil ?_
          refine a_seq ?_
          refine a_seq ?_
          refine a_region ?_
          refine aops_cons rfl (w_pure rfl (p_assign rfl) ?_)
          refine aops_nil ?_
          refine a_block ?_
          refine a_loop (ι := Nat × Bool) (fun ⟨i, e⟩ => i ≤ xs1.length ∧ e = emptyTo xs1 i) (fun ⟨i, e⟩ => [(11, .int .i64 (i : Int)), (10, .bool e)]) (fun ⟨i, e⟩ => []) (fun ⟨i, e⟩ => xs1.length - i) (0, true) ⟨Nat.zero_le _, rfl⟩ (by repeat (first | exact Knows.nil | refine Knows.cons (by rfl) ?_)) (by repeat (first | exact Picks.nil _ | exact Pick.here _ _ _ | apply Pick.next | apply Picks.cons)) ?_
          rintro ⟨i, e⟩ ⟨hi, hI⟩
          skip
          refine a_seq ?_
          refine a_seq ?_
          refine a_region ?_
          refine aops_cons rfl (w_pure rfl (p_move rfl) ?_)
          refine aops_cons rfl (w_pure rfl (p_move rfl) ?_)
          refine aops_cons rfl (w_pure rfl (p_len sl_24 rfl rfl) ?_)
          refine aops_cons rfl (w_pure rfl (p_lss rfl rfl) ?_)
          refine aops_nil ?_
          first | refine a_cond_d rfl (fun h7 => ?_) (fun h8 => ?_) | refine a_cond_n rfl (fun h7 => ?_) (fun h8 => ?_) | refine a_cond_nb rfl (fun h7 => ?_) (fun h8 => ?_) | refine a_cond rfl (fun h7 => ?_) (fun h8 => ?_)
          · (try simp only [Bool.not_eq_true', Bool.not_eq_false', Bool.not_eq_true, Bool.not_eq_false, decide_eq_true_eq, decide_eq_false_iff_not, List.length_map, List.length_range] at h7)
            refine a_skip ?_
            refine a_seq ?_
            refine a_block ?_
            refine a_region ?_
            refine aops_cons rfl (w_pure rfl (p_move rfl) ?_)
            refine aops_cons rfl (w_pure rfl (p_move rfl) ?_)
            first | refine aops_split_d 94 rfl (fun h9 => ?_) (fun h10 => ?_) | refine aops_split 94 rfl (fun h9 => ?_) (fun h10 => ?_)
            · (try simp only [Bool.not_eq_true', Bool.not_eq_false', Bool.not_eq_true, Bool.not_eq_false, decide_eq_true_eq, decide_eq_false_iff_not, List.length_map, List.length_range] at h9)
              refine aops_guard_t rfl rfl rfl (w_pure rfl (p_move rfl) ?_)
              refine aops_guard_t rfl rfl rfl (w_pure rfl (p_move rfl) ?_)
              refine aops_guard_t rfl rfl rfl (w_pure rfl (p_index_sl _ rfl rfl rfl (rowD _ _ zVcpu (by omega)) es_24) ?_)
              refine aops_guard_t rfl rfl rfl (w_pure rfl (p_field_v fo_46_3 rfl) ?_)
              refine aops_guard_t rfl rfl rfl (w_pure rfl (p_load_v ag_4 rfl (by rfl) noX) ?_)
              refine aops_guard_t rfl rfl rfl (w_pure rfl (p_move rfl) ?_)
              first | refine aops_split_d 100 rfl (fun h11 => ?_) (fun h12 => ?_) | refine aops_split 100 rfl (fun h11 => ?_) (fun h12 => ?_)
              · (try simp only [Bool.not_eq_true', Bool.not_eq_false', Bool.not_eq_true, Bool.not_eq_false, decide_eq_true_eq, decide_eq_false_iff_not, List.length_map, List.length_range] at h11)
                refine g_pass' rfl rfl rfl rfl rfl ?_
                refine g_pass' rfl rfl rfl rfl rfl ?_
                refine g_pass' rfl rfl rfl rfl rfl ?_
                refine g_pass' rfl rfl rfl rfl rfl ?_
                refine g_pass' rfl rfl rfl rfl rfl ?_
                refine g_pass' rfl rfl rfl rfl rfl ?_
                refine aops_guard_t rfl rfl rfl (w_pure rfl (p_pick_t rfl rfl) ?_)
                refine aops_cons rfl (w_pure rfl (p_pick_t rfl rfl) ?_)
                refine aops_cons rfl (w_pure rfl (p_assign rfl) ?_)
                refine aops_nil ?_
                refine a_region ?_
                refine aops_cons rfl (w_pure rfl (p_move rfl) ?_)
                refine aops_cons rfl (w_pure rfl (p_add' rfl rfl ⟨by omega, by omega⟩) ?_)
                refine aops_cons rfl (w_pure rfl (p_assign rfl) ?_)
                refine aops_nil ?_
                refine ⟨(i + 1, _), _, ?_, ?_, (by repeat (first | exact Knows.nil | refine Knows.cons (by rfl) ?_)), (by repeat (first | exact Back.refl _ _ | refine Back.cons (by rfl) ?_)), (by repeat (first | exact Picks.nil _ | exact Pick.here _ _ _ | apply Pick.next | apply Picks.cons))⟩
                · refine ⟨by omega, ?_⟩; rw [emptyTo, ← hI, hasC]; first | exact empty_step.1 (by assumption) (by assumption) | exact empty_step.2.1 (by assumption) (by assumption) | exact empty_step.2.2 (by assumption)
                · (try dsimp only); omega
              · (try simp only [Bool.not_eq_true', Bool.not_eq_false', Bool.not_eq_true, Bool.not_eq_false, decide_eq_true_eq, decide_eq_false_iff_not, List.length_map, List.length_range] at h12)
                refine aops_guard_t rfl rfl rfl (w_pure rfl (p_move rfl) ?_)
                refine aops_guard_t rfl rfl rfl (w_pure rfl (p_move rfl) ?_)
                refine aops_guard_t rfl rfl rfl (w_pure rfl (p_index_sl _ rfl rfl rfl (rowD _ _ zVcpu (by omega)) es_24) ?_)
                refine aops_guard_t rfl rfl rfl (w_pure rfl (p_field_v fo_46_2 rfl) ?_)
                refine aops_guard_t rfl rfl rfl (w_pure rfl (p_load_v ag_3 rfl (by rfl) noX) ?_)
                refine aops_guard_t rfl rfl rfl (w_pure rfl (p_leq rfl rfl) ?_)
                refine aops_guard_t rfl rfl rfl (w_pure rfl (p_pick_f rfl rfl) ?_)
                refine aops_cons rfl (w_pure rfl (p_pick_t rfl rfl) ?_)
                refine aops_cons rfl (w_pure rfl (p_assign rfl) ?_)
                refine aops_nil ?_
                refine a_region ?_
                refine aops_cons rfl (w_pure rfl (p_move rfl) ?_)
                refine aops_cons rfl (w_pure rfl (p_add' rfl rfl ⟨by omega, by omega⟩) ?_)
                refine aops_cons rfl (w_pure rfl (p_assign rfl) ?_)
                refine aops_nil ?_
                refine ⟨(i + 1, _), _, ?_, ?_, (by repeat (first | exact Knows.nil | refine Knows.cons (by rfl) ?_)), (by repeat (first | exact Back.refl _ _ | refine Back.cons (by rfl) ?_)), (by repeat (first | exact Picks.nil _ | exact Pick.here _ _ _ | apply Pick.next | apply Picks.cons))⟩
                · refine ⟨by omega, ?_⟩; rw [emptyTo, ← hI, hasC]; first | exact empty_step.1 (by assumption) (by assumption) | exact empty_step.2.1 (by assumption) (by assumption) | exact empty_step.2.2 (by assumption)
                · (try dsimp only); omega
            · (try simp only [Bool.not_eq_true', Bool.not_eq_false', Bool.not_eq_true, Bool.not_eq_false, decide_eq_true_eq, decide_eq_false_iff_not, List.length_map, List.length_range] at h10)
              refine g_pass' rfl rfl rfl rfl rfl ?_
              refine g_pass' rfl rfl rfl rfl rfl ?_
              refine g_pass' rfl rfl rfl rfl rfl ?_
              refine g_pass' rfl rfl rfl rfl rfl ?_
              refine g_pass' rfl rfl rfl rfl rfl ?_
              refine g_pass' rfl rfl rfl rfl rfl ?_
              refine g_pass_u rfl rfl rfl rfl rfl ?_
              refine g_pass_u rfl rfl rfl rfl rfl ?_
              refine g_pass_u rfl rfl rfl rfl rfl ?_
              refine g_pass_u rfl rfl rfl rfl rfl ?_
              refine g_pass_u rfl rfl rfl rfl rfl ?_
              refine g_pass_u rfl rfl rfl rfl rfl ?_
              refine g_pass' rfl rfl rfl rfl rfl ?_
              refine aops_cons rfl (w_pure rfl (p_pick_f rfl rfl) ?_)
              refine aops_cons rfl (w_pure rfl (p_assign rfl) ?_)
              refine aops_nil ?_
              refine a_region ?_
              refine aops_cons rfl (w_pure rfl (p_move rfl) ?_)
              refine aops_cons rfl (w_pure rfl (p_add' rfl rfl ⟨by omega, by omega⟩) ?_)
              refine aops_cons rfl (w_pure rfl (p_assign rfl) ?_)
              refine aops_nil ?_
              refine ⟨(i + 1, _), _, ?_, ?_, (by repeat (first | exact Knows.nil | refine Knows.cons (by rfl) ?_)), (by repeat (first | exact Back.refl _ _ | refine Back.cons (by rfl) ?_)), (by repeat (first | exact Picks.nil _ | exact Pick.here _ _ _ | apply Pick.next | apply Picks.cons))⟩
              · refine ⟨by omega, ?_⟩; rw [emptyTo, ← hI, hasC]; first | exact empty_step.1 (by assumption) (by assumption) | exact empty_step.2.1 (by assumption) (by assumption) | exact empty_step.2.2 (by assumption)
              · (try dsimp only); omega
          · (try simp only [Bool.not_eq_true', Bool.not_eq_false', Bool.not_eq_true, Bool.not_eq_false, decide_eq_true_eq, decide_eq_false_iff_not, List.length_map, List.length_range] at h8)
            refine a_exit ?_
            refine a_seq ?_
            refine a_region ?_
            refine aops_cons rfl (w_pure rfl (p_move rfl) ?_)
            refine aops_cons rfl (w_pure rfl (p_assign rfl) ?_)
            refine aops_nil ?_
            refine a_seq ?_
            refine a_seq ?_
            have hx : i = xs1.length := (by omega)
            subst hx
            have he := hI
            rw [emptyTo_end] at he
            refine a_region ?_
            refine aops_cons rfl (w_pure rfl (p_move rfl) ?_)
            refine aops_nil ?_
            first | refine a_cond_d rfl (fun h13 => ?_) (fun h14 => ?_) | refine a_cond_n rfl (fun h13 => ?_) (fun h14 => ?_) | refine a_cond_nb rfl (fun h13 => ?_) (fun h14 => ?_) | refine a_cond rfl (fun h13 => ?_) (fun h14 => ?_)
            · (try simp only [Bool.not_eq_true', Bool.not_eq_false', Bool.not_eq_true, Bool.not_eq_false, decide_eq_true_eq, decide_eq_false_iff_not, List.length_map, List.length_range] at h13)
              refine a_seq ?_
              have hbq : baseL xs1 = refillL xs1 := if_pos (of_decide_eq_true (he.symm.trans ‹e = true›))
              refine a_region ?_
              refine aops_cons rfl (w_pure rfl (p_move rfl) ?_)
              refine aops_cons rfl (w_callR rfl rfl rfl cl_39 (ct_impl_RefillVcpus xs1 (by omega) hk.1) ?_)
              refine aops_cons rfl (w_pure rfl (p_move rfl) ?_)
              refine aops_cons rfl (w_pure rfl (p_extract rfl rfl) ?_)
              refine aops_cons rfl (w_pure rfl (p_extract rfl rfl) ?_)
              refine aops_cons rfl (w_pure rfl (p_assign rfl) ?_)
              refine aops_cons rfl (w_pure rfl (p_assign rfl) ?_)
              refine aops_nil ?_
              refine a_seq ?_
              refine a_seq ?_
              refine a_region ?_
              refine aops_cons rfl (w_pure rfl (p_move rfl) ?_)
              refine aops_cons rfl (w_pure rfl (p_not rfl) ?_)
              refine aops_nil ?_
              refine a_cond_f rfl ?_
              refine a_skip ?_
              refine a_region ?_
              refine aops_cons rfl (w_pure rfl (p_move rfl) ?_)
              refine aops_cons rfl (w_pure rfl (p_assign rfl) ?_)
              refine aops_nil ?_
              refine a_seq ?_
              have hpb := pick_base hk
              have hat := tick_at hk
              first | rw [hbq] at hpb hat | rw [show baseL xs1 = xs1 from if_neg (of_decide_eq_false (he.symm.trans ‹e = false›))] at hpb hat
              refine a_region ?_
              refine aops_cons rfl (w_pure rfl (p_move rfl) ?_)
              refine aops_cons rfl (w_callR rfl rfl rfl cl_40 (c_impl_PickVcpu _ (by first | omega | (rw [refillL_len]; omega))) ?_)
              refine aops_cons rfl (w_pure rfl (p_move rfl) ?_)
              refine aops_cons rfl (w_pure rfl (p_extract rfl rfl) ?_)
              refine aops_cons rfl (w_pure rfl (p_extract rfl rfl) ?_)
              refine aops_cons rfl (w_pure rfl (p_assign rfl) ?_)
              refine aops_cons rfl (w_pure rfl (p_assign rfl) ?_)
              refine aops_nil ?_
              refine a_seq ?_
              refine a_seq ?_
              rw [hpb]
              refine a_region ?_
              refine aops_cons rfl (w_pure rfl (p_move rfl) ?_)
              refine aops_cons rfl (w_pure rfl (p_not rfl) ?_)
              refine aops_cons rfl (w_pure rfl (p_move rfl) ?_)
              refine aops_guard_t rfl rfl rfl (w_pure rfl (p_move rfl) ?_)
              refine aops_guard_t rfl rfl rfl (w_pure rfl (p_move rfl) ?_)
              refine aops_guard_t rfl rfl rfl (w_pure rfl (p_neqF rfl rfl rfl) ?_)
              refine aops_cons rfl (w_pure rfl (p_pick_f rfl rfl) ?_)
              refine aops_nil ?_
              refine a_cond_f rfl ?_
              refine a_skip ?_
              refine a_seq ?_
              refine a_region ?_
              refine aops_cons rfl (w_pure rfl (p_assign rfl) ?_)
              refine aops_nil ?_
              refine a_block ?_
              refine a_loop (ι := Nat) (fun i => i ≤ (tickL xs1).length) (fun i => [(17, .int .i64 (i : Int))]) (fun i => []) (fun i => (tickL xs1).length - i) 0 (Nat.zero_le _) (by repeat (first | exact Knows.nil | refine Knows.cons (by rfl) ?_)) (by repeat (first | exact Picks.nil _ | exact Pick.here _ _ _ | apply Pick.next | apply Picks.cons)) ?_
              rintro i hi
              skip
              refine a_seq ?_
              refine a_seq ?_
              refine a_region ?_
              refine aops_cons rfl (w_pure rfl (p_move rfl) ?_)
              refine aops_cons rfl (w_pure rfl (p_move rfl) ?_)
              refine aops_cons rfl (w_pure rfl (p_len sl_24 rfl rfl) ?_)
              refine aops_cons rfl (w_pure rfl (p_lss rfl rfl) ?_)
              refine aops_nil ?_
              first | refine a_cond_d rfl (fun h15 => ?_) (fun h16 => ?_) | refine a_cond_n rfl (fun h15 => ?_) (fun h16 => ?_) | refine a_cond_nb rfl (fun h15 => ?_) (fun h16 => ?_) | refine a_cond rfl (fun h15 => ?_) (fun h16 => ?_)
              · (try simp only [Bool.not_eq_true', Bool.not_eq_false', Bool.not_eq_true, Bool.not_eq_false, decide_eq_true_eq, decide_eq_false_iff_not, List.length_map, List.length_range] at h15)
                refine a_skip ?_
                refine a_seq ?_
                refine a_block ?_
                refine a_seq ?_
                refine a_draw [] (by kernel_rfl) ?_
                show ADraw _ _ _ _ _ _ 54 _ _ _ _
                refine d_take 0 rfl (by kernel_rfl) (by kernel_rfl) (by kernel_rfl) rfl (p_move rfl) ?_
                refine d_take 1 rfl (by kernel_rfl) (by kernel_rfl) (by kernel_rfl) rfl (p_move rfl) ?_
                refine d_take 2 rfl (by kernel_rfl) (by kernel_rfl) (by kernel_rfl) rfl (p_index_sl _ rfl rfl rfl (rowD _ _ zVcpu (by omega)) es_24) ?_
                refine d_take 3 rfl (by kernel_rfl) (by kernel_rfl) (by kernel_rfl) rfl (p_field_v fo_46_0 rfl) ?_
                refine d_load 4 rfl (by kernel_rfl) (by kernel_rfl) (by kernel_rfl) rfl (p_load_v ag_3 rfl (by rfl) noX) ?_
                refine d_take 5 rfl (by kernel_rfl) (by kernel_rfl) (by kernel_rfl) rfl (p_move rfl) ?_
                refine d_take 6 rfl (by kernel_rfl) (by kernel_rfl) (by kernel_rfl) rfl (p_neq rfl rfl) ?_
                refine d_take 7 rfl (by kernel_rfl) (by kernel_rfl) (by kernel_rfl) rfl (p_move rfl) ?_
                first | refine d_split_d 144 rfl (fun h17 => ?_) (fun h18 => ?_) | refine draw_split 144 rfl (fun h17 => ?_) (fun h18 => ?_)
                · (try simp only [Bool.not_eq_true', Bool.not_eq_false', Bool.not_eq_true, Bool.not_eq_false, decide_eq_true_eq, decide_eq_false_iff_not, List.length_map, List.length_range] at h17)
                  refine d_take_t 8 rfl (by kernel_rfl) (by kernel_rfl) (by kernel_rfl) rfl rfl rfl (p_move rfl) ?_
                  refine d_take_t 9 rfl (by kernel_rfl) (by kernel_rfl) (by kernel_rfl) rfl rfl rfl (p_move rfl) ?_
                  refine d_take_t 10 rfl (by kernel_rfl) (by kernel_rfl) (by kernel_rfl) rfl rfl rfl (p_index_sl _ rfl rfl rfl (rowD _ _ zVcpu (by omega)) es_24) ?_
                  refine d_load_t 11 rfl (by kernel_rfl) (by kernel_rfl) (by kernel_rfl) rfl rfl rfl (p_load_v_all ag_46 rfl (by rfl) noX) ?_
                  refine d_take_t 12 rfl (by kernel_rfl) (by kernel_rfl) (by kernel_rfl) rfl rfl rfl (p_move rfl) ?_
                  refine d_take_t 13 rfl (by kernel_rfl) (by kernel_rfl) (by kernel_rfl) rfl rfl rfl (p_move rfl) ?_
                  refine d_take_t 14 rfl (by kernel_rfl) (by kernel_rfl) (by kernel_rfl) rfl rfl rfl (p_index_sl _ rfl rfl rfl (rowD _ _ zVcpu (by omega)) es_24) ?_
                  refine d_load_t 15 rfl (by kernel_rfl) (by kernel_rfl) (by kernel_rfl) rfl rfl rfl (p_load_v_all ag_46 rfl (by rfl) noX) ?_
                  refine d_take_t 16 rfl (by kernel_rfl) (by kernel_rfl) (by kernel_rfl) rfl rfl rfl (p_neqS eqs_46 rfl rfl (eqC_vcpu ((hat i (by omega)).1 (by assumption)))) ?_
                  refine d_take 17 rfl (by kernel_rfl) (by kernel_rfl) (by kernel_rfl) rfl (p_pick_t rfl rfl) ?_
                  refine d_take 18 rfl (by kernel_rfl) (by kernel_rfl) (by kernel_rfl) rfl (p_move rfl) ?_
                  refine d_take_t 19 rfl (by kernel_rfl) (by kernel_rfl) (by kernel_rfl) rfl rfl rfl (p_move rfl) ?_
                  refine d_take_t 20 rfl (by kernel_rfl) (by kernel_rfl) (by kernel_rfl) rfl rfl rfl (p_move rfl) ?_
                  refine d_take_t 21 rfl (by kernel_rfl) (by kernel_rfl) (by kernel_rfl) rfl rfl rfl (p_index_sl _ rfl rfl rfl (rowD _ _ zVcpu (by omega)) es_24) ?_
                  refine d_take_t 22 rfl (by kernel_rfl) (by kernel_rfl) (by kernel_rfl) rfl rfl rfl (p_field_v fo_46_0 rfl) ?_
                  refine d_load_t 23 rfl (by kernel_rfl) (by kernel_rfl) (by kernel_rfl) rfl rfl rfl (p_load_v ag_3 rfl (by rfl) noX) ?_
                  refine d_take_t 24 rfl (by kernel_rfl) (by kernel_rfl) (by kernel_rfl) rfl rfl rfl (p_move rfl) ?_
                  refine d_take_t 25 rfl (by kernel_rfl) (by kernel_rfl) (by kernel_rfl) rfl rfl rfl (p_eqlF rfl rfl (by assumption)) ?_
                  refine d_take_t 26 rfl (by kernel_rfl) (by kernel_rfl) (by kernel_rfl) rfl rfl rfl (p_move rfl) ?_
                  refine d_pass' 27 rfl (by kernel_rfl) (by kernel_rfl) (by kernel_rfl) rfl rfl rfl ?_
                  refine d_pass' 28 rfl (by kernel_rfl) (by kernel_rfl) (by kernel_rfl) rfl rfl rfl ?_
                  refine d_pass' 29 rfl (by kernel_rfl) (by kernel_rfl) (by kernel_rfl) rfl rfl rfl ?_
                  refine d_pass' 30 rfl (by kernel_rfl) (by kernel_rfl) (by kernel_rfl) rfl rfl rfl ?_
                  refine d_pass' 31 rfl (by kernel_rfl) (by kernel_rfl) (by kernel_rfl) rfl rfl rfl ?_
                  refine d_pass' 32 rfl (by kernel_rfl) (by kernel_rfl) (by kernel_rfl) rfl rfl rfl ?_
                  refine d_pass_u 33 rfl (by kernel_rfl) (by kernel_rfl) (by kernel_rfl) rfl rfl rfl ?_
                  refine d_pass_u 34 rfl (by kernel_rfl) (by kernel_rfl) (by kernel_rfl) rfl rfl rfl ?_
                  refine d_pass_u 35 rfl (by kernel_rfl) (by kernel_rfl) (by kernel_rfl) rfl rfl rfl ?_
                  refine d_pass_u 36 rfl (by kernel_rfl) (by kernel_rfl) (by kernel_rfl) rfl rfl rfl ?_
                  refine d_pass_u 37 rfl (by kernel_rfl) (by kernel_rfl) (by kernel_rfl) rfl rfl rfl ?_
                  refine d_pass' 38 rfl (by kernel_rfl) (by kernel_rfl) (by kernel_rfl) rfl rfl rfl ?_
                  refine d_pass' 39 rfl (by kernel_rfl) (by kernel_rfl) (by kernel_rfl) rfl rfl rfl ?_
                  refine d_pass_u 40 rfl (by kernel_rfl) (by kernel_rfl) (by kernel_rfl) rfl rfl rfl ?_
                  refine d_pass_u 41 rfl (by kernel_rfl) (by kernel_rfl) (by kernel_rfl) rfl rfl rfl ?_
                  refine d_pass_u 42 rfl (by kernel_rfl) (by kernel_rfl) (by kernel_rfl) rfl rfl rfl ?_
                  refine d_pass_u 43 rfl (by kernel_rfl) (by kernel_rfl) (by kernel_rfl) rfl rfl rfl ?_
                  refine d_pass_u 44 rfl (by kernel_rfl) (by kernel_rfl) (by kernel_rfl) rfl rfl rfl ?_
                  refine d_pass_u 45 rfl (by kernel_rfl) (by kernel_rfl) (by kernel_rfl) rfl rfl rfl ?_
                  refine d_pass_u 46 rfl (by kernel_rfl) (by kernel_rfl) (by kernel_rfl) rfl rfl rfl ?_
                  refine d_pass_u 47 rfl (by kernel_rfl) (by kernel_rfl) (by kernel_rfl) rfl rfl rfl ?_
                  refine d_pass_u 48 rfl (by kernel_rfl) (by kernel_rfl) (by kernel_rfl) rfl rfl rfl ?_
                  refine d_pass_u 49 rfl (by kernel_rfl) (by kernel_rfl) (by kernel_rfl) rfl rfl rfl ?_
                  refine d_pass_u 50 rfl (by kernel_rfl) (by kernel_rfl) (by kernel_rfl) rfl rfl rfl ?_
                  refine d_pass' 51 rfl (by kernel_rfl) (by kernel_rfl) (by kernel_rfl) rfl rfl rfl ?_
                  refine d_take_t 52 rfl (by kernel_rfl) (by kernel_rfl) (by kernel_rfl) rfl rfl rfl (p_pick_f rfl rfl) ?_
                  refine d_take 53 rfl (by kernel_rfl) (by kernel_rfl) (by kernel_rfl) rfl (p_pick_f rfl rfl) ?_
                  refine draw_done (by kernel_rfl) ?_
                  refine a_cond_f rfl ?_
                  refine a_skip ?_
                  refine a_region ?_
                  refine aops_cons rfl (w_pure rfl (p_move rfl) ?_)
                  refine aops_cons rfl (w_pure rfl (p_add' rfl rfl ⟨by omega, by omega⟩) ?_)
                  refine aops_cons rfl (w_pure rfl (p_assign rfl) ?_)
                  refine aops_nil ?_
                  refine ⟨(i + 1), _, ?_, ?_, (by repeat (first | exact Knows.nil | refine Knows.cons (by rfl) ?_)), (by repeat (first | exact Back.refl _ _ | refine Back.cons (by rfl) ?_)), (by repeat (first | exact Picks.nil _ | exact Pick.here _ _ _ | apply Pick.next | apply Picks.cons))⟩
                  · omega
                  · (try dsimp only); omega
                · (try simp only [Bool.not_eq_true', Bool.not_eq_false', Bool.not_eq_true, Bool.not_eq_false, decide_eq_true_eq, decide_eq_false_iff_not, List.length_map, List.length_range] at h18)
                  refine d_pass' 8 rfl (by kernel_rfl) (by kernel_rfl) (by kernel_rfl) rfl rfl rfl ?_
                  refine d_pass' 9 rfl (by kernel_rfl) (by kernel_rfl) (by kernel_rfl) rfl rfl rfl ?_
                  refine d_pass' 10 rfl (by kernel_rfl) (by kernel_rfl) (by kernel_rfl) rfl rfl rfl ?_
                  refine d_pass' 11 rfl (by kernel_rfl) (by kernel_rfl) (by kernel_rfl) rfl rfl rfl ?_
                  refine d_pass' 12 rfl (by kernel_rfl) (by kernel_rfl) (by kernel_rfl) rfl rfl rfl ?_
                  refine d_pass' 13 rfl (by kernel_rfl) (by kernel_rfl) (by kernel_rfl) rfl rfl rfl ?_
                  refine d_pass' 14 rfl (by kernel_rfl) (by kernel_rfl) (by kernel_rfl) rfl rfl rfl ?_
                  refine d_pass' 15 rfl (by kernel_rfl) (by kernel_rfl) (by kernel_rfl) rfl rfl rfl ?_
                  refine d_pass' 16 rfl (by kernel_rfl) (by kernel_rfl) (by kernel_rfl) rfl rfl rfl ?_
                  refine d_take 17 rfl (by kernel_rfl) (by kernel_rfl) (by kernel_rfl) rfl (p_pick_f rfl rfl) ?_
                  refine d_take 18 rfl (by kernel_rfl) (by kernel_rfl) (by kernel_rfl) rfl (p_move rfl) ?_
                  refine d_take_t 19 rfl (by kernel_rfl) (by kernel_rfl) (by kernel_rfl) rfl rfl rfl (p_move rfl) ?_
                  refine d_take_t 20 rfl (by kernel_rfl) (by kernel_rfl) (by kernel_rfl) rfl rfl rfl (p_move rfl) ?_
                  refine d_take_t 21 rfl (by kernel_rfl) (by kernel_rfl) (by kernel_rfl) rfl rfl rfl (p_index_sl _ rfl rfl rfl (rowD _ _ zVcpu (by omega)) es_24) ?_
                  refine d_take_t 22 rfl (by kernel_rfl) (by kernel_rfl) (by kernel_rfl) rfl rfl rfl (p_field_v fo_46_0 rfl) ?_
                  refine d_load_t 23 rfl (by kernel_rfl) (by kernel_rfl) (by kernel_rfl) rfl rfl rfl (p_load_v ag_3 rfl (by rfl) noX) ?_
                  refine d_take_t 24 rfl (by kernel_rfl) (by kernel_rfl) (by kernel_rfl) rfl rfl rfl (p_move rfl) ?_
                  refine d_take_t 25 rfl (by kernel_rfl) (by kernel_rfl) (by kernel_rfl) rfl rfl rfl (p_eqlT rfl rfl (by omega)) ?_
                  refine d_take_t 26 rfl (by kernel_rfl) (by kernel_rfl) (by kernel_rfl) rfl rfl rfl (p_move rfl) ?_
                  refine d_take_t 27 rfl (by kernel_rfl) (by kernel_rfl) (by kernel_rfl) rfl rfl rfl (p_move rfl) ?_
                  refine d_take_t 28 rfl (by kernel_rfl) (by kernel_rfl) (by kernel_rfl) rfl rfl rfl (p_move rfl) ?_
                  refine d_take_t 29 rfl (by kernel_rfl) (by kernel_rfl) (by kernel_rfl) rfl rfl rfl (p_index_sl _ rfl rfl rfl (rowD _ _ zVcpu (by omega)) es_24) ?_
                  refine d_take_t 30 rfl (by kernel_rfl) (by kernel_rfl) (by kernel_rfl) rfl rfl rfl (p_field_v fo_46_3 rfl) ?_
                  refine d_load_t 31 rfl (by kernel_rfl) (by kernel_rfl) (by kernel_rfl) rfl rfl rfl (p_load_v ag_4 rfl (by rfl) noX) ?_
                  refine d_take_t 32 rfl (by kernel_rfl) (by kernel_rfl) (by kernel_rfl) rfl rfl rfl (p_move rfl) ?_
                  first | refine d_split_d 169 rfl (fun h19 => ?_) (fun h20 => ?_) | refine draw_split 169 rfl (fun h19 => ?_) (fun h20 => ?_)
                  · (try simp only [Bool.not_eq_true', Bool.not_eq_false', Bool.not_eq_true, Bool.not_eq_false, decide_eq_true_eq, decide_eq_false_iff_not, List.length_map, List.length_range] at h19)
                    refine d_pass' 33 rfl (by kernel_rfl) (by kernel_rfl) (by kernel_rfl) rfl rfl rfl ?_
                    refine d_pass' 34 rfl (by kernel_rfl) (by kernel_rfl) (by kernel_rfl) rfl rfl rfl ?_
                    refine d_pass' 35 rfl (by kernel_rfl) (by kernel_rfl) (by kernel_rfl) rfl rfl rfl ?_
                    refine d_pass' 36 rfl (by kernel_rfl) (by kernel_rfl) (by kernel_rfl) rfl rfl rfl ?_
                    refine d_pass' 37 rfl (by kernel_rfl) (by kernel_rfl) (by kernel_rfl) rfl rfl rfl ?_
                    refine d_take_t 38 rfl (by kernel_rfl) (by kernel_rfl) (by kernel_rfl) rfl rfl rfl (p_pick_t rfl rfl) ?_
                    refine d_take_t 39 rfl (by kernel_rfl) (by kernel_rfl) (by kernel_rfl) rfl rfl rfl (p_move rfl) ?_
                    refine d_pass' 40 rfl (by kernel_rfl) (by kernel_rfl) (by kernel_rfl) rfl rfl rfl ?_
                    refine d_pass' 41 rfl (by kernel_rfl) (by kernel_rfl) (by kernel_rfl) rfl rfl rfl ?_
                    refine d_pass' 42 rfl (by kernel_rfl) (by kernel_rfl) (by kernel_rfl) rfl rfl rfl ?_
                    refine d_pass' 43 rfl (by kernel_rfl) (by kernel_rfl) (by kernel_rfl) rfl rfl rfl ?_
                    refine d_pass' 44 rfl (by kernel_rfl) (by kernel_rfl) (by kernel_rfl) rfl rfl rfl ?_
                    refine d_pass' 45 rfl (by kernel_rfl) (by kernel_rfl) (by kernel_rfl) rfl rfl rfl ?_
                    refine d_pass' 46 rfl (by kernel_rfl) (by kernel_rfl) (by kernel_rfl) rfl rfl rfl ?_
                    refine d_pass' 47 rfl (by kernel_rfl) (by kernel_rfl) (by kernel_rfl) rfl rfl rfl ?_
                    refine d_pass' 48 rfl (by kernel_rfl) (by kernel_rfl) (by kernel_rfl) rfl rfl rfl ?_
                    refine d_pass' 49 rfl (by kernel_rfl) (by kernel_rfl) (by kernel_rfl) rfl rfl rfl ?_
                    refine d_pass' 50 rfl (by kernel_rfl) (by kernel_rfl) (by kernel_rfl) rfl rfl rfl ?_
                    refine d_take_t 51 rfl (by kernel_rfl) (by kernel_rfl) (by kernel_rfl) rfl rfl rfl (p_pick_t rfl rfl) ?_
                    refine d_take_t 52 rfl (by kernel_rfl) (by kernel_rfl) (by kernel_rfl) rfl rfl rfl (p_pick_t rfl rfl) ?_
                    refine d_take 53 rfl (by kernel_rfl) (by kernel_rfl) (by kernel_rfl) rfl (p_pick_f rfl rfl) ?_
                    refine draw_done (by kernel_rfl) ?_
                    refine a_cond_t rfl ?_
                    refine a_seq ?_
                    refine a_region ?_
                    refine aops_cons rfl (w_pure rfl (p_assign rfl) ?_)
                    refine aops_nil ?_
                    refine a_ret ?_
                    refine ret_ok (hands1 rfl (.tmp rfl)) (.nil _) ?_
                    first | exact ⟨rfl, rfl⟩ | (exfalso; omega) | (exfalso; have q := (hat i (by omega)).2 (by omega); simp_all; done)
                  · (try simp only [Bool.not_eq_true', Bool.not_eq_false', Bool.not_eq_true, Bool.not_eq_false, decide_eq_true_eq, decide_eq_false_iff_not, List.length_map, List.length_range] at h20)
                    refine d_take_t 33 rfl (by kernel_rfl) (by kernel_rfl) (by kernel_rfl) rfl rfl rfl (p_move rfl) ?_
                    refine d_take_t 34 rfl (by kernel_rfl) (by kernel_rfl) (by kernel_rfl) rfl rfl rfl (p_move rfl) ?_
                    refine d_take_t 35 rfl (by kernel_rfl) (by kernel_rfl) (by kernel_rfl) rfl rfl rfl (p_index_sl _ rfl rfl rfl (rowD _ _ zVcpu (by omega)) es_24) ?_
                    refine d_take_t 36 rfl (by kernel_rfl) (by kernel_rfl) (by kernel_rfl) rfl rfl rfl (p_field_v fo_46_4 rfl) ?_
                    refine d_load_t 37 rfl (by kernel_rfl) (by kernel_rfl) (by kernel_rfl) rfl rfl rfl (p_load_v ag_4 rfl (by rfl) noX) ?_
                    refine d_take_t 38 rfl (by kernel_rfl) (by kernel_rfl) (by kernel_rfl) rfl rfl rfl (p_pick_f rfl rfl) ?_
                    refine d_take_t 39 rfl (by kernel_rfl) (by kernel_rfl) (by kernel_rfl) rfl rfl rfl (p_move rfl) ?_
                    first | refine d_split_d 176 rfl (fun h21 => ?_) (fun h22 => ?_) | refine draw_split 176 rfl (fun h21 => ?_) (fun h22 => ?_)
                    · (try simp only [Bool.not_eq_true', Bool.not_eq_false', Bool.not_eq_true, Bool.not_eq_false, decide_eq_true_eq, decide_eq_false_iff_not, List.length_map, List.length_range] at h21)
                      refine d_pass' 40 rfl (by kernel_rfl) (by kernel_rfl) (by kernel_rfl) rfl rfl rfl ?_
                      refine d_pass' 41 rfl (by kernel_rfl) (by kernel_rfl) (by kernel_rfl) rfl rfl rfl ?_
                      refine d_pass' 42 rfl (by kernel_rfl) (by kernel_rfl) (by kernel_rfl) rfl rfl rfl ?_
                      refine d_pass' 43 rfl (by kernel_rfl) (by kernel_rfl) (by kernel_rfl) rfl rfl rfl ?_
                      refine d_pass' 44 rfl (by kernel_rfl) (by kernel_rfl) (by kernel_rfl) rfl rfl rfl ?_
                      refine d_pass' 45 rfl (by kernel_rfl) (by kernel_rfl) (by kernel_rfl) rfl rfl rfl ?_
                      refine d_pass' 46 rfl (by kernel_rfl) (by kernel_rfl) (by kernel_rfl) rfl rfl rfl ?_
                      refine d_pass' 47 rfl (by kernel_rfl) (by kernel_rfl) (by kernel_rfl) rfl rfl rfl ?_
                      refine d_pass' 48 rfl (by kernel_rfl) (by kernel_rfl) (by kernel_rfl) rfl rfl rfl ?_
                      refine d_pass' 49 rfl (by kernel_rfl) (by kernel_rfl) (by kernel_rfl) rfl rfl rfl ?_
                      refine d_pass' 50 rfl (by kernel_rfl) (by kernel_rfl) (by kernel_rfl) rfl rfl rfl ?_
                      refine d_take_t 51 rfl (by kernel_rfl) (by kernel_rfl) (by kernel_rfl) rfl rfl rfl (p_pick_t rfl rfl) ?_
                      refine d_take_t 52 rfl (by kernel_rfl) (by kernel_rfl) (by kernel_rfl) rfl rfl rfl (p_pick_t rfl rfl) ?_
                      refine d_take 53 rfl (by kernel_rfl) (by kernel_rfl) (by kernel_rfl) rfl (p_pick_f rfl rfl) ?_
                      refine draw_done (by kernel_rfl) ?_
                      refine a_cond_t rfl ?_
                      refine a_seq ?_
                      refine a_region ?_
                      refine aops_cons rfl (w_pure rfl (p_assign rfl) ?_)
                      refine aops_nil ?_
                      refine a_ret ?_
                      refine ret_ok (hands1 rfl (.tmp rfl)) (.nil _) ?_
                      first | exact ⟨rfl, rfl⟩ | (exfalso; omega) | (exfalso; have q := (hat i (by omega)).2 (by omega); simp_all; done)
                    · (try simp only [Bool.not_eq_true', Bool.not_eq_false', Bool.not_eq_true, Bool.not_eq_false, decide_eq_true_eq, decide_eq_false_iff_not, List.length_map, List.length_range] at h22)
                      refine d_take_t 40 rfl (by kernel_rfl) (by kernel_rfl) (by kernel_rfl) rfl rfl rfl (p_move rfl) ?_
                      refine d_take_t 41 rfl (by kernel_rfl) (by kernel_rfl) (by kernel_rfl) rfl rfl rfl (p_move rfl) ?_
                      refine d_take_t 42 rfl (by kernel_rfl) (by kernel_rfl) (by kernel_rfl) rfl rfl rfl (p_index_sl _ rfl rfl rfl (rowD _ _ zVcpu (by omega)) es_24) ?_
                      refine d_take_t 43 rfl (by kernel_rfl) (by kernel_rfl) (by kernel_rfl) rfl rfl rfl (p_field_v fo_46_2 rfl) ?_
                      refine d_load_t 44 rfl (by kernel_rfl) (by kernel_rfl) (by kernel_rfl) rfl rfl rfl (p_load_v ag_3 rfl (by rfl) noX) ?_
                      refine d_take_t 45 rfl (by kernel_rfl) (by kernel_rfl) (by kernel_rfl) rfl rfl rfl (p_move rfl) ?_
                      refine d_take_t 46 rfl (by kernel_rfl) (by kernel_rfl) (by kernel_rfl) rfl rfl rfl (p_move rfl) ?_
                      refine d_take_t 47 rfl (by kernel_rfl) (by kernel_rfl) (by kernel_rfl) rfl rfl rfl (p_index_sl _ rfl rfl rfl (rowD _ _ zVcpu (by omega)) es_24) ?_
                      refine d_take_t 48 rfl (by kernel_rfl) (by kernel_rfl) (by kernel_rfl) rfl rfl rfl (p_field_v fo_46_2 rfl) ?_
                      refine d_load_t 49 rfl (by kernel_rfl) (by kernel_rfl) (by kernel_rfl) rfl rfl rfl (p_load_v ag_3 rfl (by rfl) noX) ?_
                      refine d_take_t 50 rfl (by kernel_rfl) (by kernel_rfl) (by kernel_rfl) rfl rfl rfl (p_gtrF rfl rfl ((hat i (by omega)).2 (by omega)).2.2) ?_
                      refine d_take_t 51 rfl (by kernel_rfl) (by kernel_rfl) (by kernel_rfl) rfl rfl rfl (p_pick_f rfl rfl) ?_
                      refine d_take_t 52 rfl (by kernel_rfl) (by kernel_rfl) (by kernel_rfl) rfl rfl rfl (p_pick_t rfl rfl) ?_
                      refine d_take 53 rfl (by kernel_rfl) (by kernel_rfl) (by kernel_rfl) rfl (p_pick_f rfl rfl) ?_
                      refine draw_done (by kernel_rfl) ?_
                      refine a_cond_f rfl ?_
                      refine a_skip ?_
                      refine a_region ?_
                      refine aops_cons rfl (w_pure rfl (p_move rfl) ?_)
                      refine aops_cons rfl (w_pure rfl (p_add' rfl rfl ⟨by omega, by omega⟩) ?_)
                      refine aops_cons rfl (w_pure rfl (p_assign rfl) ?_)
                      refine aops_nil ?_
                      refine ⟨(i + 1), _, ?_, ?_, (by repeat (first | exact Knows.nil | refine Knows.cons (by rfl) ?_)), (by repeat (first | exact Back.refl _ _ | refine Back.cons (by rfl) ?_)), (by repeat (first | exact Picks.nil _ | exact Pick.here _ _ _ | apply Pick.next | apply Picks.cons))⟩
                      · omega
                      · (try dsimp only); omega
              · (try simp only [Bool.not_eq_true', Bool.not_eq_false', Bool.not_eq_true, Bool.not_eq_false, decide_eq_true_eq, decide_eq_false_iff_not, List.length_map, List.length_range] at h16)
                refine a_exit ?_
                exact ⟨(), _, trivial, (by repeat (first | exact Knows.nil | refine Knows.cons (by rfl) ?_)), (by repeat (first | exact Back.refl _ _ | refine Back.cons (by rfl) ?_)), (by repeat (first | exact Picks.nil _ | exact Pick.here _ _ _ | apply Pick.next | apply Picks.cons))⟩
            · (try simp only [Bool.not_eq_true', Bool.not_eq_false', Bool.not_eq_true, Bool.not_eq_false, decide_eq_true_eq, decide_eq_false_iff_not, List.length_map, List.length_range] at h14)
              refine a_skip ?_
              refine a_seq ?_
              have hpb := pick_base hk
              have hat := tick_at hk
              first | rw [hbq] at hpb hat | rw [show baseL xs1 = xs1 from if_neg (of_decide_eq_false (he.symm.trans ‹e = false›))] at hpb hat
              refine a_region ?_
              refine aops_cons rfl (w_pure rfl (p_move rfl) ?_)
              refine aops_cons rfl (w_callR rfl rfl rfl cl_40 (c_impl_PickVcpu _ (by first | omega | (rw [refillL_len]; omega))) ?_)
              refine aops_cons rfl (w_pure rfl (p_move rfl) ?_)
              refine aops_cons rfl (w_pure rfl (p_extract rfl rfl) ?_)
              refine aops_cons rfl (w_pure rfl (p_extract rfl rfl) ?_)
              refine aops_cons rfl (w_pure rfl (p_assign rfl) ?_)
              refine aops_cons rfl (w_pure rfl (p_assign rfl) ?_)
              refine aops_nil ?_
              refine a_seq ?_
              refine a_seq ?_
              rw [hpb]
              refine a_region ?_
              refine aops_cons rfl (w_pure rfl (p_move rfl) ?_)
              refine aops_cons rfl (w_pure rfl (p_not rfl) ?_)
              refine aops_cons rfl (w_pure rfl (p_move rfl) ?_)
              refine aops_guard_t rfl rfl rfl (w_pure rfl (p_move rfl) ?_)
              refine aops_guard_t rfl rfl rfl (w_pure rfl (p_move rfl) ?_)
              refine aops_guard_t rfl rfl rfl (w_pure rfl (p_neqF rfl rfl rfl) ?_)
              refine aops_cons rfl (w_pure rfl (p_pick_f rfl rfl) ?_)
              refine aops_nil ?_
              refine a_cond_f rfl ?_
              refine a_skip ?_
              refine a_seq ?_
              refine a_region ?_
              refine aops_cons rfl (w_pure rfl (p_assign rfl) ?_)
              refine aops_nil ?_
              refine a_block ?_
              refine a_loop (ι := Nat) (fun i => i ≤ (tickL xs1).length) (fun i => [(17, .int .i64 (i : Int))]) (fun i => []) (fun i => (tickL xs1).length - i) 0 (Nat.zero_le _) (by repeat (first | exact Knows.nil | refine Knows.cons (by rfl) ?_)) (by repeat (first | exact Picks.nil _ | exact Pick.here _ _ _ | apply Pick.next | apply Picks.cons)) ?_
              rintro i hi
              skip
              refine a_seq ?_
              refine a_seq ?_
              refine a_region ?_
              refine aops_cons rfl (w_pure rfl (p_move rfl) ?_)
              refine aops_cons rfl (w_pure rfl (p_move rfl) ?_)
              refine aops_cons rfl (w_pure rfl (p_len sl_24 rfl rfl) ?_)
              refine aops_cons rfl (w_pure rfl (p_lss rfl rfl) ?_)
              refine aops_nil ?_
              first | refine a_cond_d rfl (fun h23 => ?_) (fun h24 => ?_) | refine a_cond_n rfl (fun h23 => ?_) (fun h24 => ?_) | refine a_cond_nb rfl (fun h23 => ?_) (fun h24 => ?_) | refine a_cond rfl (fun h23 => ?_) (fun h24 => ?_)
              · (try simp only [Bool.not_eq_true', Bool.not_eq_false', Bool.not_eq_true, Bool.not_eq_false, decide_eq_true_eq, decide_eq_false_iff_not, List.length_map, List.length_range] at h23)
                refine a_skip ?_
                refine a_seq ?_
                refine a_block ?_
                refine a_seq ?_
                refine a_draw [] (by kernel_rfl) ?_
                show ADraw _ _ _ _ _ _ 54 _ _ _ _
                refine d_take 0 rfl (by kernel_rfl) (by kernel_rfl) (by kernel_rfl) rfl (p_move rfl) ?_
                refine d_take 1 rfl (by kernel_rfl) (by kernel_rfl) (by kernel_rfl) rfl (p_move rfl) ?_
                refine d_take 2 rfl (by kernel_rfl) (by kernel_rfl) (by kernel_rfl) rfl (p_index_sl _ rfl rfl rfl (rowD _ _ zVcpu (by omega)) es_24) ?_
                refine d_take 3 rfl (by kernel_rfl) (by kernel_rfl) (by kernel_rfl) rfl (p_field_v fo_46_0 rfl) ?_
                refine d_load 4 rfl (by kernel_rfl) (by kernel_rfl) (by kernel_rfl) rfl (p_load_v ag_3 rfl (by rfl) noX) ?_
                refine d_take 5 rfl (by kernel_rfl) (by kernel_rfl) (by kernel_rfl) rfl (p_move rfl) ?_
                refine d_take 6 rfl (by kernel_rfl) (by kernel_rfl) (by kernel_rfl) rfl (p_neq rfl rfl) ?_
                refine d_take 7 rfl (by kernel_rfl) (by kernel_rfl) (by kernel_rfl) rfl (p_move rfl) ?_
                first | refine d_split_d 144 rfl (fun h25 => ?_) (fun h26 => ?_) | refine draw_split 144 rfl (fun h25 => ?_) (fun h26 => ?_)
                · (try simp only [Bool.not_eq_true', Bool.not_eq_false', Bool.not_eq_true, Bool.not_eq_false, decide_eq_true_eq, decide_eq_false_iff_not, List.length_map, List.length_range] at h25)
                  refine d_take_t 8 rfl (by kernel_rfl) (by kernel_rfl) (by kernel_rfl) rfl rfl rfl (p_move rfl) ?_
                  refine d_take_t 9 rfl (by kernel_rfl) (by kernel_rfl) (by kernel_rfl) rfl rfl rfl (p_move rfl) ?_
                  refine d_take_t 10 rfl (by kernel_rfl) (by kernel_rfl) (by kernel_rfl) rfl rfl rfl (p_index_sl _ rfl rfl rfl (rowD _ _ zVcpu (by omega)) es_24) ?_
                  refine d_load_t 11 rfl (by kernel_rfl) (by kernel_rfl) (by kernel_rfl) rfl rfl rfl (p_load_v_all ag_46 rfl (by rfl) noX) ?_
                  refine d_take_t 12 rfl (by kernel_rfl) (by kernel_rfl) (by kernel_rfl) rfl rfl rfl (p_move rfl) ?_
                  refine d_take_t 13 rfl (by kernel_rfl) (by kernel_rfl) (by kernel_rfl) rfl rfl rfl (p_move rfl) ?_
                  refine d_take_t 14 rfl (by kernel_rfl) (by kernel_rfl) (by kernel_rfl) rfl rfl rfl (p_index_sl _ rfl rfl rfl (rowD _ _ zVcpu (by omega)) es_24) ?_
                  refine d_load_t 15 rfl (by kernel_rfl) (by kernel_rfl) (by kernel_rfl) rfl rfl rfl (p_load_v_all ag_46 rfl (by rfl) noX) ?_
                  refine d_take_t 16 rfl (by kernel_rfl) (by kernel_rfl) (by kernel_rfl) rfl rfl rfl (p_neqS eqs_46 rfl rfl (eqC_vcpu ((hat i (by omega)).1 (by assumption)))) ?_
                  refine d_take 17 rfl (by kernel_rfl) (by kernel_rfl) (by kernel_rfl) rfl (p_pick_t rfl rfl) ?_
                  refine d_take 18 rfl (by kernel_rfl) (by kernel_rfl) (by kernel_rfl) rfl (p_move rfl) ?_
                  refine d_take_t 19 rfl (by kernel_rfl) (by kernel_rfl) (by kernel_rfl) rfl rfl rfl (p_move rfl) ?_
                  refine d_take_t 20 rfl (by kernel_rfl) (by kernel_rfl) (by kernel_rfl) rfl rfl rfl (p_move rfl) ?_
                  refine d_take_t 21 rfl (by kernel_rfl) (by kernel_rfl) (by kernel_rfl) rfl rfl rfl (p_index_sl _ rfl rfl rfl (rowD _ _ zVcpu (by omega)) es_24) ?_
                  refine d_take_t 22 rfl (by kernel_rfl) (by kernel_rfl) (by kernel_rfl) rfl rfl rfl (p_field_v fo_46_0 rfl) ?_
                  refine d_load_t 23 rfl (by kernel_rfl) (by kernel_rfl) (by kernel_rfl) rfl rfl rfl (p_load_v ag_3 rfl (by rfl) noX) ?_
                  refine d_take_t 24 rfl (by kernel_rfl) (by kernel_rfl) (by kernel_rfl) rfl rfl rfl (p_move rfl) ?_
                  refine d_take_t 25 rfl (by kernel_rfl) (by kernel_rfl) (by kernel_rfl) rfl rfl rfl (p_eqlF rfl rfl (by assumption)) ?_
                  refine d_take_t 26 rfl (by kernel_rfl) (by kernel_rfl) (by kernel_rfl) rfl rfl rfl (p_move rfl) ?_
                  refine d_pass' 27 rfl (by kernel_rfl) (by kernel_rfl) (by kernel_rfl) rfl rfl rfl ?_
                  refine d_pass' 28 rfl (by kernel_rfl) (by kernel_rfl) (by kernel_rfl) rfl rfl rfl ?_
                  refine d_pass' 29 rfl (by kernel_rfl) (by kernel_rfl) (by kernel_rfl) rfl rfl rfl ?_
                  refine d_pass' 30 rfl (by kernel_rfl) (by kernel_rfl) (by kernel_rfl) rfl rfl rfl ?_
                  refine d_pass' 31 rfl (by kernel_rfl) (by kernel_rfl) (by kernel_rfl) rfl rfl rfl ?_
                  refine d_pass' 32 rfl (by kernel_rfl) (by kernel_rfl) (by kernel_rfl) rfl rfl rfl ?_
                  refine d_pass_u 33 rfl (by kernel_rfl) (by kernel_rfl) (by kernel_rfl) rfl rfl rfl ?_
                  refine d_pass_u 34 rfl (by kernel_rfl) (by kernel_rfl) (by kernel_rfl) rfl rfl rfl ?_
                  refine d_pass_u 35 rfl (by kernel_rfl) (by kernel_rfl) (by kernel_rfl) rfl rfl rfl ?_
                  refine d_pass_u 36 rfl (by kernel_rfl) (by kernel_rfl) (by kernel_rfl) rfl rfl rfl ?_
                  refine d_pass_u 37 rfl (by kernel_rfl) (by kernel_rfl) (by kernel_rfl) rfl rfl rfl ?_
                  refine d_pass' 38 rfl (by kernel_rfl) (by kernel_rfl) (by kernel_rfl) rfl rfl rfl ?_
                  refine d_pass' 39 rfl (by kernel_rfl) (by kernel_rfl) (by kernel_rfl) rfl rfl rfl ?_
                  refine d_pass_u 40 rfl (by kernel_rfl) (by kernel_rfl) (by kernel_rfl) rfl rfl rfl ?_
                  refine d_pass_u 41 rfl (by kernel_rfl) (by kernel_rfl) (by kernel_rfl) rfl rfl rfl ?_
                  refine d_pass_u 42 rfl (by kernel_rfl) (by kernel_rfl) (by kernel_rfl) rfl rfl rfl ?_
                  refine d_pass_u 43 rfl (by kernel_rfl) (by kernel_rfl) (by kernel_rfl) rfl rfl rfl ?_
                  refine d_pass_u 44 rfl (by kernel_rfl) (by kernel_rfl) (by kernel_rfl) rfl rfl rfl ?_
                  refine d_pass_u 45 rfl (by kernel_rfl) (by kernel_rfl) (by kernel_rfl) rfl rfl rfl ?_
                  refine d_pass_u 46 rfl (by kernel_rfl) (by kernel_rfl) (by kernel_rfl) rfl rfl rfl ?_
                  refine d_pass_u 47 rfl (by kernel_rfl) (by kernel_rfl) (by kernel_rfl) rfl rfl rfl ?_
                  refine d_pass_u 48 rfl (by kernel_rfl) (by kernel_rfl) (by kernel_rfl) rfl rfl rfl ?_
                  refine d_pass_u 49 rfl (by kernel_rfl) (by kernel_rfl) (by kernel_rfl) rfl rfl rfl ?_
                  refine d_pass_u 50 rfl (by kernel_rfl) (by kernel_rfl) (by kernel_rfl) rfl rfl rfl ?_
                  refine d_pass' 51 rfl (by kernel_rfl) (by kernel_rfl) (by kernel_rfl) rfl rfl rfl ?_
                  refine d_take_t 52 rfl (by kernel_rfl) (by kernel_rfl) (by kernel_rfl) rfl rfl rfl (p_pick_f rfl rfl) ?_
                  refine d_take 53 rfl (by kernel_rfl) (by kernel_rfl) (by kernel_rfl) rfl (p_pick_f rfl rfl) ?_
                  refine draw_done (by kernel_rfl) ?_
                  refine a_cond_f rfl ?_
                  refine a_skip ?_
                  refine a_region ?_
                  refine aops_cons rfl (w_pure rfl (p_move rfl) ?_)
                  refine aops_cons rfl (w_pure rfl (p_add' rfl rfl ⟨by omega, by omega⟩) ?_)
                  refine aops_cons rfl (w_pure rfl (p_assign rfl) ?_)
                  refine aops_nil ?_
                  refine ⟨(i + 1), _, ?_, ?_, (by repeat (first | exact Knows.nil | refine Knows.cons (by rfl) ?_)), (by repeat (first | exact Back.refl _ _ | refine Back.cons (by rfl) ?_)), (by repeat (first | exact Picks.nil _ | exact Pick.here _ _ _ | apply Pick.next | apply Picks.cons))⟩
                  · omega
                  · (try dsimp only); omega
                · (try simp only [Bool.not_eq_true', Bool.not_eq_false', Bool.not_eq_true, Bool.not_eq_false, decide_eq_true_eq, decide_eq_false_iff_not, List.length_map, List.length_range] at h26)
                  refine d_pass' 8 rfl (by kernel_rfl) (by kernel_rfl) (by kernel_rfl) rfl rfl rfl ?_
                  refine d_pass' 9 rfl (by kernel_rfl) (by kernel_rfl) (by kernel_rfl) rfl rfl rfl ?_
                  refine d_pass' 10 rfl (by kernel_rfl) (by kernel_rfl) (by kernel_rfl) rfl rfl rfl ?_
                  refine d_pass' 11 rfl (by kernel_rfl) (by kernel_rfl) (by kernel_rfl) rfl rfl rfl ?_
                  refine d_pass' 12 rfl (by kernel_rfl) (by kernel_rfl) (by kernel_rfl) rfl rfl rfl ?_
                  refine d_pass' 13 rfl (by kernel_rfl) (by kernel_rfl) (by kernel_rfl) rfl rfl rfl ?_
                  refine d_pass' 14 rfl (by kernel_rfl) (by kernel_rfl) (by kernel_rfl) rfl rfl rfl ?_
                  refine d_pass' 15 rfl (by kernel_rfl) (by kernel_rfl) (by kernel_rfl) rfl rfl rfl ?_
                  refine d_pass' 16 rfl (by kernel_rfl) (by kernel_rfl) (by kernel_rfl) rfl rfl rfl ?_
                  refine d_take 17 rfl (by kernel_rfl) (by kernel_rfl) (by kernel_rfl) rfl (p_pick_f rfl rfl) ?_
                  refine d_take 18 rfl (by kernel_rfl) (by kernel_rfl) (by kernel_rfl) rfl (p_move rfl) ?_
                  refine d_take_t 19 rfl (by kernel_rfl) (by kernel_rfl) (by kernel_rfl) rfl rfl rfl (p_move rfl) ?_
                  refine d_take_t 20 rfl (by kernel_rfl) (by kernel_rfl) (by kernel_rfl) rfl rfl rfl (p_move rfl) ?_
                  refine d_take_t 21 rfl (by kernel_rfl) (by kernel_rfl) (by kernel_rfl) rfl rfl rfl (p_index_sl _ rfl rfl rfl (rowD _ _ zVcpu (by omega)) es_24) ?_
                  refine d_take_t 22 rfl (by kernel_rfl) (by kernel_rfl) (by kernel_rfl) rfl rfl rfl (p_field_v fo_46_0 rfl) ?_
                  refine d_load_t 23 rfl (by kernel_rfl) (by kernel_rfl) (by kernel_rfl) rfl rfl rfl (p_load_v ag_3 rfl (by rfl) noX) ?_
                  refine d_take_t 24 rfl (by kernel_rfl) (by kernel_rfl) (by kernel_rfl) rfl rfl rfl (p_move rfl) ?_
                  refine d_take_t 25 rfl (by kernel_rfl) (by kernel_rfl) (by kernel_rfl) rfl rfl rfl (p_eqlT rfl rfl (by omega)) ?_
                  refine d_take_t 26 rfl (by kernel_rfl) (by kernel_rfl) (by kernel_rfl) rfl rfl rfl (p_move rfl) ?_
                  refine d_take_t 27 rfl (by kernel_rfl) (by kernel_rfl) (by kernel_rfl) rfl rfl rfl (p_move rfl) ?_
                  refine d_take_t 28 rfl (by kernel_rfl) (by kernel_rfl) (by kernel_rfl) rfl rfl rfl (p_move rfl) ?_
                  refine d_take_t 29 rfl (by kernel_rfl) (by kernel_rfl) (by kernel_rfl) rfl rfl rfl (p_index_sl _ rfl rfl rfl (rowD _ _ zVcpu (by omega)) es_24) ?_
                  refine d_take_t 30 rfl (by kernel_rfl) (by kernel_rfl) (by kernel_rfl) rfl rfl rfl (p_field_v fo_46_3 rfl) ?_
                  refine d_load_t 31 rfl (by kernel_rfl) (by kernel_rfl) (by kernel_rfl) rfl rfl rfl (p_load_v ag_4 rfl (by rfl) noX) ?_
                  refine d_take_t 32 rfl (by kernel_rfl) (by kernel_rfl) (by kernel_rfl) rfl rfl rfl (p_move rfl) ?_
                  first | refine d_split_d 169 rfl (fun h27 => ?_) (fun h28 => ?_) | refine draw_split 169 rfl (fun h27 => ?_) (fun h28 => ?_)
                  · (try simp only [Bool.not_eq_true', Bool.not_eq_false', Bool.not_eq_true, Bool.not_eq_false, decide_eq_true_eq, decide_eq_false_iff_not, List.length_map, List.length_range] at h27)
                    refine d_pass' 33 rfl (by kernel_rfl) (by kernel_rfl) (by kernel_rfl) rfl rfl rfl ?_
                    refine d_pass' 34 rfl (by kernel_rfl) (by kernel_rfl) (by kernel_rfl) rfl rfl rfl ?_
                    refine d_pass' 35 rfl (by kernel_rfl) (by kernel_rfl) (by kernel_rfl) rfl rfl rfl ?_
                    refine d_pass' 36 rfl (by kernel_rfl) (by kernel_rfl) (by kernel_rfl) rfl rfl rfl ?_
                    refine d_pass' 37 rfl (by kernel_rfl) (by kernel_rfl) (by kernel_rfl) rfl rfl rfl ?_
                    refine d_take_t 38 rfl (by kernel_rfl) (by kernel_rfl) (by kernel_rfl) rfl rfl rfl (p_pick_t rfl rfl) ?_
                    refine d_take_t 39 rfl (by kernel_rfl) (by kernel_rfl) (by kernel_rfl) rfl rfl rfl (p_move rfl) ?_
                    refine d_pass' 40 rfl (by kernel_rfl) (by kernel_rfl) (by kernel_rfl) rfl rfl rfl ?_
                    refine d_pass' 41 rfl (by kernel_rfl) (by kernel_rfl) (by kernel_rfl) rfl rfl rfl ?_
                    refine d_pass' 42 rfl (by kernel_rfl) (by kernel_rfl) (by kernel_rfl) rfl rfl rfl ?_
                    refine d_pass' 43 rfl (by kernel_rfl) (by kernel_rfl) (by kernel_rfl) rfl rfl rfl ?_
                    refine d_pass' 44 rfl (by kernel_rfl) (by kernel_rfl) (by kernel_rfl) rfl rfl rfl ?_
                    refine d_pass' 45 rfl (by kernel_rfl) (by kernel_rfl) (by kernel_rfl) rfl rfl rfl ?_
                    refine d_pass' 46 rfl (by kernel_rfl) (by kernel_rfl) (by kernel_rfl) rfl rfl rfl ?_
                    refine d_pass' 47 rfl (by kernel_rfl) (by kernel_rfl) (by kernel_rfl) rfl rfl rfl ?_
                    refine d_pass' 48 rfl (by kernel_rfl) (by kernel_rfl) (by kernel_rfl) rfl rfl rfl ?_
                    refine d_pass' 49 rfl (by kernel_rfl) (by kernel_rfl) (by kernel_rfl) rfl rfl rfl ?_
                    refine d_pass' 50 rfl (by kernel_rfl) (by kernel_rfl) (by kernel_rfl) rfl rfl rfl ?_
                    refine d_take_t 51 rfl (by kernel_rfl) (by kernel_rfl) (by kernel_rfl) rfl rfl rfl (p_pick_t rfl rfl) ?_
                    refine d_take_t 52 rfl (by kernel_rfl) (by kernel_rfl) (by kernel_rfl) rfl rfl rfl (p_pick_t rfl rfl) ?_
                    refine d_take 53 rfl (by kernel_rfl) (by kernel_rfl) (by kernel_rfl) rfl (p_pick_f rfl rfl) ?_
                    refine draw_done (by kernel_rfl) ?_
                    refine a_cond_t rfl ?_
                    refine a_seq ?_
                    refine a_region ?_
                    refine aops_cons rfl (w_pure rfl (p_assign rfl) ?_)
                    refine aops_nil ?_
                    refine a_ret ?_
                    refine ret_ok (hands1 rfl (.tmp rfl)) (.nil _) ?_
                    first | exact ⟨rfl, rfl⟩ | (exfalso; omega) | (exfalso; have q := (hat i (by omega)).2 (by omega); simp_all; done)
                  · (try simp only [Bool.not_eq_true', Bool.not_eq_false', Bool.not_eq_true, Bool.not_eq_false, decide_eq_true_eq, decide_eq_false_iff_not, List.length_map, List.length_range] at h28)
                    refine d_take_t 33 rfl (by kernel_rfl) (by kernel_rfl) (by kernel_rfl) rfl rfl rfl (p_move rfl) ?_
                    refine d_take_t 34 rfl (by kernel_rfl) (by kernel_rfl) (by kernel_rfl) rfl rfl rfl (p_move rfl) ?_
                    refine d_take_t 35 rfl (by kernel_rfl) (by kernel_rfl) (by kernel_rfl) rfl rfl rfl (p_index_sl _ rfl rfl rfl (rowD _ _ zVcpu (by omega)) es_24) ?_
                    refine d_take_t 36 rfl (by kernel_rfl) (by kernel_rfl) (by kernel_rfl) rfl rfl rfl (p_field_v fo_46_4 rfl) ?_
                    refine d_load_t 37 rfl (by kernel_rfl) (by kernel_rfl) (by kernel_rfl) rfl rfl rfl (p_load_v ag_4 rfl (by rfl) noX) ?_
                    refine d_take_t 38 rfl (by kernel_rfl) (by kernel_rfl) (by kernel_rfl) rfl rfl rfl (p_pick_f rfl rfl) ?_
                    refine d_take_t 39 rfl (by kernel_rfl) (by kernel_rfl) (by kernel_rfl) rfl rfl rfl (p_move rfl) ?_
                    first | refine d_split_d 176 rfl (fun h29 => ?_) (fun h30 => ?_) | refine draw_split 176 rfl (fun h29 => ?_) (fun h30 => ?_)
                    · (try simp only [Bool.not_eq_true', Bool.not_eq_false', Bool.not_eq_true, Bool.not_eq_false, decide_eq_true_eq, decide_eq_false_iff_not, List.length_map, List.length_range] at h29)
                      refine d_pass' 40 rfl (by kernel_rfl) (by kernel_rfl) (by kernel_rfl) rfl rfl rfl ?_
                      refine d_pass' 41 rfl (by kernel_rfl) (by kernel_rfl) (by kernel_rfl) rfl rfl rfl ?_
                      refine d_pass' 42 rfl (by kernel_rfl) (by kernel_rfl) (by kernel_rfl) rfl rfl rfl ?_
                      refine d_pass' 43 rfl (by kernel_rfl) (by kernel_rfl) (by kernel_rfl) rfl rfl rfl ?_
                      refine d_pass' 44 rfl (by kernel_rfl) (by kernel_rfl) (by kernel_rfl) rfl rfl rfl ?_
                      refine d_pass' 45 rfl (by kernel_rfl) (by kernel_rfl) (by kernel_rfl) rfl rfl rfl ?_
                      refine d_pass' 46 rfl (by kernel_rfl) (by kernel_rfl) (by kernel_rfl) rfl rfl rfl ?_
                      refine d_pass' 47 rfl (by kernel_rfl) (by kernel_rfl) (by kernel_rfl) rfl rfl rfl ?_
                      refine d_pass' 48 rfl (by kernel_rfl) (by kernel_rfl) (by kernel_rfl) rfl rfl rfl ?_
                      refine d_pass' 49 rfl (by kernel_rfl) (by kernel_rfl) (by kernel_rfl) rfl rfl rfl ?_
                      refine d_pass' 50 rfl (by kernel_rfl) (by kernel_rfl) (by kernel_rfl) rfl rfl rfl ?_
                      refine d_take_t 51 rfl (by kernel_rfl) (by kernel_rfl) (by kernel_rfl) rfl rfl rfl (p_pick_t rfl rfl) ?_
                      refine d_take_t 52 rfl (by kernel_rfl) (by kernel_rfl) (by kernel_rfl) rfl rfl rfl (p_pick_t rfl rfl) ?_
                      refine d_take 53 rfl (by kernel_rfl) (by kernel_rfl) (by kernel_rfl) rfl (p_pick_f rfl rfl) ?_
                      refine draw_done (by kernel_rfl) ?_
                      refine a_cond_t rfl ?_
                      refine a_seq ?_
                      refine a_region ?_
                      refine aops_cons rfl (w_pure rfl (p_assign rfl) ?_)
                      refine aops_nil ?_
                      refine a_ret ?_
                      refine ret_ok (hands1 rfl (.tmp rfl)) (.nil _) ?_
                      first | exact ⟨rfl, rfl⟩ | (exfalso; omega) | (exfalso; have q := (hat i (by omega)).2 (by omega); simp_all; done)
                    · (try simp only [Bool.not_eq_true', Bool.not_eq_false', Bool.not_eq_true, Bool.not_eq_false, decide_eq_true_eq, decide_eq_false_iff_not, List.length_map, List.length_range] at h30)
                      refine d_take_t 40 rfl (by kernel_rfl) (by kernel_rfl) (by kernel_rfl) rfl rfl rfl (p_move rfl) ?_
                      refine d_take_t 41 rfl (by kernel_rfl) (by kernel_rfl) (by kernel_rfl) rfl rfl rfl (p_move rfl) ?_
                      refine d_take_t 42 rfl (by kernel_rfl) (by kernel_rfl) (by kernel_rfl) rfl rfl rfl (p_index_sl _ rfl rfl rfl (rowD _ _ zVcpu (by omega)) es_24) ?_
                      refine d_take_t 43 rfl (by kernel_rfl) (by kernel_rfl) (by kernel_rfl) rfl rfl rfl (p_field_v fo_46_2 rfl) ?_
                      refine d_load_t 44 rfl (by kernel_rfl) (by kernel_rfl) (by kernel_rfl) rfl rfl rfl (p_load_v ag_3 rfl (by rfl) noX) ?_
                      refine d_take_t 45 rfl (by kernel_rfl) (by kernel_rfl) (by kernel_rfl) rfl rfl rfl (p_move rfl) ?_
                      refine d_take_t 46 rfl (by kernel_rfl) (by kernel_rfl) (by kernel_rfl) rfl rfl rfl (p_move rfl) ?_
                      refine d_take_t 47 rfl (by kernel_rfl) (by kernel_rfl) (by kernel_rfl) rfl rfl rfl (p_index_sl _ rfl rfl rfl (rowD _ _ zVcpu (by omega)) es_24) ?_
                      refine d_take_t 48 rfl (by kernel_rfl) (by kernel_rfl) (by kernel_rfl) rfl rfl rfl (p_field_v fo_46_2 rfl) ?_
                      refine d_load_t 49 rfl (by kernel_rfl) (by kernel_rfl) (by kernel_rfl) rfl rfl rfl (p_load_v ag_3 rfl (by rfl) noX) ?_
                      refine d_take_t 50 rfl (by kernel_rfl) (by kernel_rfl) (by kernel_rfl) rfl rfl rfl (p_gtrF rfl rfl ((hat i (by omega)).2 (by omega)).2.2) ?_
                      refine d_take_t 51 rfl (by kernel_rfl) (by kernel_rfl) (by kernel_rfl) rfl rfl rfl (p_pick_f rfl rfl) ?_
                      refine d_take_t 52 rfl (by kernel_rfl) (by kernel_rfl) (by kernel_rfl) rfl rfl rfl (p_pick_t rfl rfl) ?_
                      refine d_take 53 rfl (by kernel_rfl) (by kernel_rfl) (by kernel_rfl) rfl (p_pick_f rfl rfl) ?_
                      refine draw_done (by kernel_rfl) ?_
                      refine a_cond_f rfl ?_
                      refine a_skip ?_
                      refine a_region ?_
                      refine aops_cons rfl (w_pure rfl (p_move rfl) ?_)
                      refine aops_cons rfl (w_pure rfl (p_add' rfl rfl ⟨by omega, by omega⟩) ?_)
                      refine aops_cons rfl (w_pure rfl (p_assign rfl) ?_)
                      refine aops_nil ?_
                      refine ⟨(i + 1), _, ?_, ?_, (by repeat (first | exact Knows.nil | refine Knows.cons (by rfl) ?_)), (by repeat (first | exact Back.refl _ _ | refine Back.cons (by rfl) ?_)), (by repeat (first | exact Picks.nil _ | exact Pick.here _ _ _ | apply Pick.next | apply Picks.cons))⟩
                      · omega
                      · (try dsimp only); omega
              · (try simp only [Bool.not_eq_true', Bool.not_eq_false', Bool.not_eq_true, Bool.not_eq_false, decide_eq_true_eq, decide_eq_false_iff_not, List.length_map, List.length_range] at h24)
                refine a_exit ?_
                exact ⟨(), _, trivial, (by repeat (first | exact Knows.nil | refine Knows.cons (by rfl) ?_)), (by repeat (first | exact Back.refl _ _ | refine Back.cons (by rfl) ?_)), (by repeat (first | exact Picks.nil _ | exact Pick.here _ _ _ | apply Pick.next | apply Picks.cons))⟩
        · (try simp only [Bool.not_eq_true', Bool.not_eq_false', Bool.not_eq_true, Bool.not_eq_false, decide_eq_true_eq, decide_eq_false_iff_not, List.length_map, List.length_range] at h6)
          refine a_skip ?_
          exact ⟨(), _, trivial, (by repeat (first | exact Knows.nil | refine Knows.cons (by rfl) ?_)), (by repeat (first | exact Back.refl _ _ | refine Back.cons (by rfl) ?_)), (by repeat (first | exact Picks.nil _ | exact Pick.here _ _ _ | apply Pick.next | apply Picks.cons))⟩
      · rintro _ -
        refine a_seq ?_
        refine a_region ?_
        refine aops_cons rfl (w_pure rfl (p_move rfl) ?_)
        refine aops_cons rfl (w_call rfl rfl rfl cl_41 (c_spec_DrawRunTicks bs hb) ?_)
        rintro _ _ ⟨⟨xs2, m2, rfl, hx2, hm2⟩, rfl⟩
        skip
        refine aops_cons rfl (w_pure rfl (p_move rfl) ?_)
        refine aops_cons rfl (w_pure rfl (p_extract rfl rfl) ?_)
        refine aops_cons rfl (w_pure rfl (p_extract rfl rfl) ?_)
        refine aops_cons rfl (w_pure rfl (p_assign rfl) ?_)
        refine aops_cons rfl (w_pure rfl (p_assign rfl) ?_)
        refine aops_nil ?_
        refine a_seq ?_
        refine a_region ?_
        refine aops_cons rfl (w_pure rfl (p_move rfl) ?_)
        refine aops_cons rfl (w_pure rfl (p_move rfl) ?_)
        refine aops_cons rfl (w_callR rfl rfl rfl cl_33 (cv_impl_RunTicks xs2 (by omega) m2) ?_)
        refine aops_cons rfl (w_pure rfl (p_move rfl) ?_)
        refine aops_cons rfl (w_pure rfl (p_extract rfl rfl) ?_)
        refine aops_cons rfl (w_pure rfl (p_extract rfl rfl) ?_)
        refine aops_cons rfl (w_pure rfl (p_extract rfl rfl) ?_)
        refine aops_cons rfl (w_pure rfl (p_assign rfl) ?_)
        refine aops_cons rfl (w_pure rfl (p_assign rfl) ?_)
        refine aops_cons rfl (w_pure rfl (p_assign rfl) ?_)
        refine aops_nil ?_
        refine a_seq ?_
        refine a_seq ?_
        refine a_region ?_
        refine aops_cons rfl (w_pure rfl (p_move rfl) ?_)
        refine aops_cons rfl (w_pure rfl (p_move rfl) ?_)
        refine aops_cons rfl (w_callR rfl rfl rfl cl_32 (cv_spec_RunTicks xs2 (by omega) m2) ?_)
        refine aops_cons rfl (w_pure rfl (p_move rfl) ?_)
        refine aops_cons rfl (w_pure rfl (p_extract rfl rfl) ?_)
        refine aops_cons rfl (w_pure rfl (p_extract rfl rfl) ?_)
        refine aops_cons rfl (w_pure rfl (p_extract rfl rfl) ?_)
        refine aops_cons rfl (w_pure rfl (p_assign rfl) ?_)
        refine aops_cons rfl (w_pure rfl (p_assign rfl) ?_)
        refine aops_cons rfl (w_pure rfl (p_assign rfl) ?_)
        refine aops_nil ?_
        refine a_seq ?_
        refine a_region ?_
        refine aops_cons rfl (w_pure rfl (p_move rfl) ?_)
        refine aops_cons rfl (w_pure rfl (p_move rfl) ?_)
        refine aops_cons rfl (w_pure rfl (p_neq_bsame um_4 rfl rfl) ?_)
        refine aops_cons rfl (w_pure rfl (p_move rfl) ?_)
        refine aops_guard_t rfl rfl rfl (w_pure rfl (p_move rfl) ?_)
        refine aops_guard_t rfl rfl rfl (w_pure rfl (p_move rfl) ?_)
        refine aops_guard_t rfl rfl rfl (w_callR rfl rfl rfl cl_42 (c_laws_vInts (pickL (GoodRun xs2 m2) (idsTo xs2 (tkN m2))) (pickL_small (fun h => small_ids h))) ?_)
        refine aops_guard_t rfl rfl rfl (w_pure rfl (p_not rfl) ?_)
        refine aops_cons rfl (w_pure rfl (p_pick_f rfl rfl) ?_)
        refine aops_cons rfl (w_pure rfl (p_move rfl) ?_)
        refine aops_guard_t rfl rfl rfl (w_pure rfl (p_move rfl) ?_)
        refine aops_guard_t rfl rfl rfl (w_pure rfl (p_move rfl) ?_)
        refine aops_guard_t rfl rfl rfl (w_callR rfl rfl rfl cl_36 (c_laws_vVcpus (pickV (GoodRun xs2 m2) (tickN xs2 (tkN m2))) (pickV_small (fun h => small_run h))) ?_)
        refine aops_guard_t rfl rfl rfl (w_pure rfl (p_not rfl) ?_)
        refine aops_cons rfl (w_pure rfl (p_pick_f rfl rfl) ?_)
        refine aops_nil ?_
        refine a_cond_f rfl ?_
        refine a_skip ?_
        refine a_seq_join (ι := Unit) (fun _ => True) (fun _ => []) (fun _ => []) (old := []) (by repeat (first | exact Picks.nil _ | exact Pick.here _ _ _ | apply Pick.next | apply Picks.cons)) ?_ ?_
        · skip
          refine a_seq ?_
          refine a_region ?_
          refine aops_cons rfl (w_pure rfl (p_move rfl) ?_)
          refine aops_nil ?_
          first | refine a_cond_d rfl (fun h31 => ?_) (fun h32 => ?_) | refine a_cond_n rfl (fun h31 => ?_) (fun h32 => ?_) | refine a_cond_nb rfl (fun h31 => ?_) (fun h32 => ?_) | refine a_cond rfl (fun h31 => ?_) (fun h32 => ?_)
          · (try simp only [Bool.not_eq_true', Bool.not_eq_false', Bool.not_eq_true, Bool.not_eq_false, decide_eq_true_eq, decide_eq_false_iff_not, List.length_map, List.length_range] at h31)
            refine a_seq ?_
            have hk : GoodRun xs2 m2 := (by assumption)
            rw [pickV_y hk, pickL_y hk]
            refine a_region ?_
            refine aops_cons rfl (w_pure rfl (p_move rfl) ?_)
            refine aops_cons rfl (w_pure rfl (p_assign rfl) ?_)
            refine aops_nil ?_
            refine a_seq ?_
            refine a_seq ?_
            refine a_region ?_
            refine aops_cons rfl (w_pure rfl (p_assign rfl) ?_)
            refine aops_nil ?_
            refine a_block ?_
            refine a_loop (ι := Nat) (fun i => (i : Int) ≤ m2 ∧ i ≤ 40) (fun i => [(27, .int .i64 (i : Int)), (26, .sl ((tickN xs2 i).map eVcpu))]) (fun i => []) (fun i => 40 - i) 0 ⟨by have := hk.2.1; omega, by omega⟩ (by repeat (first | exact Knows.nil | refine Knows.cons (by rfl) ?_)) (by repeat (first | exact Picks.nil _ | exact Pick.here _ _ _ | apply Pick.next | apply Picks.cons)) ?_
            rintro i ⟨hi1, hi2⟩
            skip
            refine a_seq ?_
            refine a_seq ?_
            refine a_region ?_
            refine aops_cons rfl (w_pure rfl (p_move rfl) ?_)
            refine aops_cons rfl (w_pure rfl (p_move rfl) ?_)
            refine aops_cons rfl (w_pure rfl (p_lss rfl rfl) ?_)
            refine aops_cons rfl (w_pure rfl (p_move rfl) ?_)
            first | refine aops_split_d 230 rfl (fun h33 => ?_) (fun h34 => ?_) | refine aops_split 230 rfl (fun h33 => ?_) (fun h34 => ?_)
            · (try simp only [Bool.not_eq_true', Bool.not_eq_false', Bool.not_eq_true, Bool.not_eq_false, decide_eq_true_eq, decide_eq_false_iff_not, List.length_map, List.length_range] at h33)
              refine aops_guard_t rfl rfl rfl (w_pure rfl (p_move rfl) ?_)
              refine aops_guard_t rfl rfl rfl (w_pure rfl (p_lss rfl rfl) ?_)
              refine aops_cons rfl (w_pure rfl (p_pick_t rfl rfl) ?_)
              refine aops_nil ?_
              first | refine a_cond_d rfl (fun h35 => ?_) (fun h36 => ?_) | refine a_cond_n rfl (fun h35 => ?_) (fun h36 => ?_) | refine a_cond_nb rfl (fun h35 => ?_) (fun h36 => ?_) | refine a_cond rfl (fun h35 => ?_) (fun h36 => ?_)
              · (try simp only [Bool.not_eq_true', Bool.not_eq_false', Bool.not_eq_true, Bool.not_eq_false, decide_eq_true_eq, decide_eq_false_iff_not, List.length_map, List.length_range] at h35)
                refine a_skip ?_
                refine a_seq ?_
                refine a_block ?_
                refine a_seq ?_
                refine a_region ?_
                refine aops_cons rfl (w_pure rfl (p_move rfl) ?_)
                refine aops_cons rfl (w_callR rfl rfl rfl cl_21 (cf_impl_TickVcpus (tickN xs2 i) (by rw [(hk.at (by omega) i).2.2]; omega) ⟨(hk.at (by omega) i).1, (hk.at (by omega) i).2.1⟩) ?_)
                refine aops_cons rfl (w_pure rfl (p_move rfl) ?_)
                refine aops_cons rfl (w_pure rfl (p_extract rfl rfl) ?_)
                refine aops_cons rfl (w_pure rfl (p_extract rfl rfl) ?_)
                refine aops_cons rfl (w_pure rfl (p_extract rfl rfl) ?_)
                refine aops_cons rfl (w_pure rfl (p_assign rfl) ?_)
                refine aops_cons rfl (w_pure rfl (p_assign rfl) ?_)
                refine aops_cons rfl (w_pure rfl (p_assign rfl) ?_)
                refine aops_nil ?_
                refine a_seq ?_
                refine a_seq ?_
                refine a_region ?_
                refine aops_cons rfl (w_pure rfl (p_move rfl) ?_)
                refine aops_cons rfl (w_pure rfl (p_not rfl) ?_)
                refine aops_cons rfl (w_pure rfl (p_move rfl) ?_)
                refine aops_guard_t rfl rfl rfl (w_pure rfl (p_move rfl) ?_)
                refine aops_guard_t rfl rfl rfl (w_pure rfl (p_move rfl) ?_)
                refine aops_guard_t rfl rfl rfl (w_pure rfl (p_move rfl) ?_)
                refine aops_guard_t rfl rfl rfl (w_pure rfl (p_index_sl i rfl rfl rfl (rowD _ _ (0 : Int) (by rw [idsTo_len]; unfold tkN; omega)) es_34) ?_)
                refine aops_guard_t rfl rfl rfl (w_pure rfl (p_load_v ag_3 rfl (by rfl) noX) ?_)
                refine aops_guard_t rfl rfl rfl (w_pure rfl (p_neqF rfl rfl (by rw [ids_at (by unfold tkN; omega)])) ?_)
                refine aops_cons rfl (w_pure rfl (p_pick_f rfl rfl) ?_)
                refine aops_nil ?_
                refine a_cond_f rfl ?_
                refine a_skip ?_
                refine a_region ?_
                refine aops_cons rfl (w_pure rfl (p_move rfl) ?_)
                refine aops_cons rfl (w_pure rfl (p_assign rfl) ?_)
                refine aops_nil ?_
                refine a_region ?_
                refine aops_cons rfl (w_pure rfl (p_move rfl) ?_)
                refine aops_cons rfl (w_pure rfl (p_add' rfl rfl ⟨by omega, by omega⟩) ?_)
                refine aops_cons rfl (w_pure rfl (p_assign rfl) ?_)
                refine aops_nil ?_
                refine ⟨(i + 1), _, ?_, ?_, (by repeat (first | exact Knows.nil | refine Knows.cons (by rfl) ?_)), (by repeat (first | exact Back.refl _ _ | refine Back.cons (by rfl) ?_)), (by repeat (first | exact Picks.nil _ | exact Pick.here _ _ _ | apply Pick.next | apply Picks.cons))⟩
                · omega
                · (try dsimp only); omega
              · (try simp only [Bool.not_eq_true', Bool.not_eq_false', Bool.not_eq_true, Bool.not_eq_false, decide_eq_true_eq, decide_eq_false_iff_not, List.length_map, List.length_range] at h36)
                refine a_exit ?_
                refine a_seq ?_
                refine a_region ?_
                refine aops_cons rfl (w_pure rfl (p_move rfl) ?_)
                refine aops_cons rfl (w_pure rfl (p_leq rfl rfl) ?_)
                refine aops_cons rfl (w_pure rfl (p_move rfl) ?_)
                first | refine aops_split_d 255 rfl (fun h37 => ?_) (fun h38 => ?_) | refine aops_split 255 rfl (fun h37 => ?_) (fun h38 => ?_)
                · (try simp only [Bool.not_eq_true', Bool.not_eq_false', Bool.not_eq_true, Bool.not_eq_false, decide_eq_true_eq, decide_eq_false_iff_not, List.length_map, List.length_range] at h37)
                  refine aops_guard_t rfl rfl rfl (w_pure rfl (p_move rfl) ?_)
                  refine aops_guard_t rfl rfl rfl (w_pure rfl (p_move rfl) ?_)
                  refine aops_guard_t rfl rfl rfl (w_callR rfl rfl rfl cl_36 (ce_laws_vVcpus (tickN xs2 i) (tickN xs2 (tkN m2)) (small_run hk) (by congr 1; unfold tkN; omega)) ?_)
                  refine aops_guard_t rfl rfl rfl (w_pure rfl (p_not rfl) ?_)
                  refine aops_cons rfl (w_pure rfl (p_pick_t rfl rfl) ?_)
                  refine aops_nil ?_
                  refine a_cond_f rfl ?_
                  refine a_skip ?_
                  exact ⟨(), _, trivial, (by repeat (first | exact Knows.nil | refine Knows.cons (by rfl) ?_)), (by repeat (first | exact Back.refl _ _ | refine Back.cons (by rfl) ?_)), (by repeat (first | exact Picks.nil _ | exact Pick.here _ _ _ | apply Pick.next | apply Picks.cons))⟩
                · (try simp only [Bool.not_eq_true', Bool.not_eq_false', Bool.not_eq_true, Bool.not_eq_false, decide_eq_true_eq, decide_eq_false_iff_not, List.length_map, List.length_range] at h38)
                  refine g_pass' rfl rfl rfl rfl rfl ?_
                  refine g_pass' rfl rfl rfl rfl rfl ?_
                  refine g_pass' rfl rfl rfl rfl rfl ?_
                  refine g_pass' rfl rfl rfl rfl rfl ?_
                  refine aops_cons rfl (w_pure rfl (p_pick_f rfl rfl) ?_)
                  refine aops_nil ?_
                  refine a_cond_f rfl ?_
                  refine a_skip ?_
                  exact ⟨(), _, trivial, (by repeat (first | exact Knows.nil | refine Knows.cons (by rfl) ?_)), (by repeat (first | exact Back.refl _ _ | refine Back.cons (by rfl) ?_)), (by repeat (first | exact Picks.nil _ | exact Pick.here _ _ _ | apply Pick.next | apply Picks.cons))⟩
            · (try simp only [Bool.not_eq_true', Bool.not_eq_false', Bool.not_eq_true, Bool.not_eq_false, decide_eq_true_eq, decide_eq_false_iff_not, List.length_map, List.length_range] at h34)
              refine g_pass' rfl rfl rfl rfl rfl ?_
              refine g_pass' rfl rfl rfl rfl rfl ?_
              refine aops_cons rfl (w_pure rfl (p_pick_f rfl rfl) ?_)
              refine aops_nil ?_
              refine a_cond_f rfl ?_
              refine a_exit ?_
              refine a_seq ?_
              refine a_region ?_
              refine aops_cons rfl (w_pure rfl (p_move rfl) ?_)
              refine aops_cons rfl (w_pure rfl (p_leq rfl rfl) ?_)
              refine aops_cons rfl (w_pure rfl (p_move rfl) ?_)
              first | refine aops_split_d 255 rfl (fun h39 => ?_) (fun h40 => ?_) | refine aops_split 255 rfl (fun h39 => ?_) (fun h40 => ?_)
              · (try simp only [Bool.not_eq_true', Bool.not_eq_false', Bool.not_eq_true, Bool.not_eq_false, decide_eq_true_eq, decide_eq_false_iff_not, List.length_map, List.length_range] at h39)
                refine aops_guard_t rfl rfl rfl (w_pure rfl (p_move rfl) ?_)
                refine aops_guard_t rfl rfl rfl (w_pure rfl (p_move rfl) ?_)
                refine aops_guard_t rfl rfl rfl (w_callR rfl rfl rfl cl_36 (ce_laws_vVcpus (tickN xs2 i) (tickN xs2 (tkN m2)) (small_run hk) (by congr 1; unfold tkN; omega)) ?_)
                refine aops_guard_t rfl rfl rfl (w_pure rfl (p_not rfl) ?_)
                refine aops_cons rfl (w_pure rfl (p_pick_t rfl rfl) ?_)
                refine aops_nil ?_
                refine a_cond_f rfl ?_
                refine a_skip ?_
                exact ⟨(), _, trivial, (by repeat (first | exact Knows.nil | refine Knows.cons (by rfl) ?_)), (by repeat (first | exact Back.refl _ _ | refine Back.cons (by rfl) ?_)), (by repeat (first | exact Picks.nil _ | exact Pick.here _ _ _ | apply Pick.next | apply Picks.cons))⟩
              · (try simp only [Bool.not_eq_true', Bool.not_eq_false', Bool.not_eq_true, Bool.not_eq_false, decide_eq_true_eq, decide_eq_false_iff_not, List.length_map, List.length_range] at h40)
                refine g_pass' rfl rfl rfl rfl rfl ?_
                refine g_pass' rfl rfl rfl rfl rfl ?_
                refine g_pass' rfl rfl rfl rfl rfl ?_
                refine g_pass' rfl rfl rfl rfl rfl ?_
                refine aops_cons rfl (w_pure rfl (p_pick_f rfl rfl) ?_)
                refine aops_nil ?_
                refine a_cond_f rfl ?_
                refine a_skip ?_
                exact ⟨(), _, trivial, (by repeat (first | exact Knows.nil | refine Knows.cons (by rfl) ?_)), (by repeat (first | exact Back.refl _ _ | refine Back.cons (by rfl) ?_)), (by repeat (first | exact Picks.nil _ | exact Pick.here _ _ _ | apply Pick.next | apply Picks.cons))⟩
          · (try simp only [Bool.not_eq_true', Bool.not_eq_false', Bool.not_eq_true, Bool.not_eq_false, decide_eq_true_eq, decide_eq_false_iff_not, List.length_map, List.length_range] at h32)
            refine a_skip ?_
            exact ⟨(), _, trivial, (by repeat (first | exact Knows.nil | refine Knows.cons (by rfl) ?_)), (by repeat (first | exact Back.refl _ _ | refine Back.cons (by rfl) ?_)), (by repeat (first | exact Picks.nil _ | exact Pick.here _ _ _ | apply Pick.next | apply Picks.cons))⟩
        · rintro _ -
          refine a_seq ?_
          refine a_region ?_
          refine aops_cons rfl (w_pure rfl (p_move rfl) ?_)
          refine aops_cons rfl (w_call rfl rfl rfl cl_43 (c_spec_DrawPickVcpu bs hb) ?_)
          rintro _ _ ⟨⟨xs3, rfl, hx3⟩, rfl⟩
          skip
          refine aops_cons rfl (w_pure rfl (p_assign rfl) ?_)
          refine aops_nil ?_
          refine a_seq ?_
          refine a_region ?_
          refine aops_cons rfl (w_pure rfl (p_move rfl) ?_)
          refine aops_cons rfl (w_callR rfl rfl rfl cl_40 (c_impl_PickVcpu xs3 (by omega)) ?_)
          refine aops_cons rfl (w_pure rfl (p_move rfl) ?_)
          refine aops_cons rfl (w_pure rfl (p_extract rfl rfl) ?_)
          refine aops_cons rfl (w_pure rfl (p_extract rfl rfl) ?_)
          refine aops_cons rfl (w_pure rfl (p_assign rfl) ?_)
          refine aops_cons rfl (w_pure rfl (p_assign rfl) ?_)
          refine aops_nil ?_
          refine a_seq ?_
          refine a_seq ?_
          refine a_region ?_
          refine aops_cons rfl (w_pure rfl (p_move rfl) ?_)
          refine aops_cons rfl (w_callR rfl rfl rfl cl_44 (c_spec_PickVcpu xs3 (by omega)) ?_)
          refine aops_cons rfl (w_pure rfl (p_move rfl) ?_)
          refine aops_cons rfl (w_pure rfl (p_extract rfl rfl) ?_)
          refine aops_cons rfl (w_pure rfl (p_extract rfl rfl) ?_)
          refine aops_cons rfl (w_pure rfl (p_assign rfl) ?_)
          refine aops_cons rfl (w_pure rfl (p_assign rfl) ?_)
          refine aops_nil ?_
          refine a_seq ?_
          refine a_region ?_
          refine aops_cons rfl (w_pure rfl (p_move rfl) ?_)
          refine aops_cons rfl (w_pure rfl (p_move rfl) ?_)
          refine aops_cons rfl (w_pure rfl (p_neq_same rfl rfl) ?_)
          refine aops_cons rfl (w_pure rfl (p_move rfl) ?_)
          refine aops_guard_t rfl rfl rfl (w_pure rfl (p_move rfl) ?_)
          refine aops_guard_t rfl rfl rfl (w_pure rfl (p_move rfl) ?_)
          refine aops_guard_t rfl rfl rfl (w_pure rfl (p_neq_bsame um_4 rfl rfl) ?_)
          refine aops_cons rfl (w_pure rfl (p_pick_f rfl rfl) ?_)
          refine aops_nil ?_
          refine a_cond_f rfl ?_
          refine a_skip ?_
          refine a_seq ?_
          refine a_region ?_
          refine aops_cons rfl (w_pure rfl (p_move rfl) ?_)
          refine aops_cons rfl (w_call rfl rfl rfl cl_45 (c_spec_DrawRefillVcpus bs hb) ?_)
          rintro _ _ ⟨⟨xs4, rfl, hx4⟩, rfl⟩
          skip
          refine aops_cons rfl (w_pure rfl (p_assign rfl) ?_)
          refine aops_nil ?_
          refine a_seq ?_
          refine a_region ?_
          refine aops_cons rfl (w_pure rfl (p_move rfl) ?_)
          refine aops_cons rfl (w_callR rfl rfl rfl cl_39 (cv_impl_RefillVcpus xs4 (by omega)) ?_)
          refine aops_cons rfl (w_pure rfl (p_move rfl) ?_)
          refine aops_cons rfl (w_pure rfl (p_extract rfl rfl) ?_)
          refine aops_cons rfl (w_pure rfl (p_extract rfl rfl) ?_)
          refine aops_cons rfl (w_pure rfl (p_assign rfl) ?_)
          refine aops_cons rfl (w_pure rfl (p_assign rfl) ?_)
          refine aops_nil ?_
          refine a_seq ?_
          refine a_region ?_
          refine aops_cons rfl (w_pure rfl (p_move rfl) ?_)
          refine aops_cons rfl (w_callR rfl rfl rfl cl_46 (c_spec_RefillVcpus xs4 (by omega)) ?_)
          refine aops_cons rfl (w_pure rfl (p_move rfl) ?_)
          refine aops_cons rfl (w_pure rfl (p_extract rfl rfl) ?_)
          refine aops_cons rfl (w_pure rfl (p_extract rfl rfl) ?_)
          refine aops_cons rfl (w_pure rfl (p_assign rfl) ?_)
          refine aops_cons rfl (w_pure rfl (p_assign rfl) ?_)
          refine aops_nil ?_
          refine a_seq ?_
          refine a_region ?_
          refine aops_cons rfl (w_pure rfl (p_move rfl) ?_)
          refine aops_cons rfl (w_pure rfl (p_move rfl) ?_)
          refine aops_cons rfl (w_pure rfl (p_eql_bsame um_4 rfl rfl) ?_)
          refine aops_cons rfl (w_pure rfl (p_move rfl) ?_)
          refine aops_guard_t rfl rfl rfl (w_pure rfl (p_move rfl) ?_)
          refine aops_guard_t rfl rfl rfl (w_pure rfl (p_move rfl) ?_)
          refine aops_guard_t rfl rfl rfl (w_callR rfl rfl rfl cl_36 (c_laws_vVcpus (refillVcpus xs4).1 (by unfold refillVcpus; split <;> simp [refillL_len] <;> omega)) ?_)
          refine aops_cons rfl (w_pure rfl (p_pick_t rfl rfl) ?_)
          refine aops_cons rfl (w_pure rfl (p_assign rfl) ?_)
          refine aops_nil ?_
          refine a_ret ?_
          refine ret_ok (hands1 rfl (.tmp rfl)) (.nil _) ?_
          first | exact ⟨rfl, rfl⟩ | (exfalso; omega) | (exfalso; have q := (hat i (by omega)).2 (by omega); simp_all; done)

end Go.Proofs.Ytkgnhpilpmbheaa
