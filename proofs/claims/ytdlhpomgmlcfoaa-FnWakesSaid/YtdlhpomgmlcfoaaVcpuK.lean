/-
  The walks of this part: each theorem is the contract of one function. Condition: none but those that it names.
-/
import Derived.Test.YtdlhpomgmlcfoaaVcpuKd
import Derived.Test.YtdlhpomgmlcfoaaVcpuKF
import Derived.Test.YtdlhpomgmlcfoaaVcpuA
import Derived.Test.YtdlhpomgmlcfoaaVcpuB
import Derived.Test.YtdlhpomgmlcfoaaVcpuC
import Derived.Test.YtdlhpomgmlcfoaaVcpuG
import Derived.Test.YtdlhpomgmlcfoaaVcpuH
namespace Go.Proofs.Ytdlhpomgmlcfoaa
open Go Go.Fw Go.Hv
attribute [local irreducible] awp Aops Aop ADraw ADrawAll ACalls
set_option maxRecDepth 4000
set_option linter.unusedSimpArgs false
set_option linter.unusedVariables false

theorem c_spec_l1Cur_next (q : Nat) (bs : List Int) (hb : Bytes bs) (a s : Int) (h0 : 0 ≤ a) (h1 : a ≤ 999999999000)  : ACalls Try.prog 79 [.ptr q 0] [(q, curE bs a s)] (fun r st => ∃ m a' s', r = .int .i64 m ∧ (0 ≤ m ∧ m ≤ 255) ∧ a ≤ a' ∧ a' ≤ a + 1 ∧ st = [(q, curE bs a' s')]) := by
  refine a_enter Try.func79 rfl rfl (fun w0 M0 => ?_)
  refine a_seq ?_
  refine a_region ?_
  refine aops_cons rfl (w_pure rfl (p_assign rfl) ?_)
  refine aops_nil ?_
  refine a_seq ?_
  refine a_region ?_
  refine aops_cons rfl (w_pure rfl (p_assign rfl) ?_)
  refine aops_nil ?_
  refine a_seq ?_
  refine a_seq ?_
  refine a_draw [] (by kernel_rfl) ?_
  show ADraw _ _ _ _ _ _ 10 _ _ _ _
  refine d_take 0 rfl (by kernel_rfl) (by kernel_rfl) (by kernel_rfl) rfl (p_move rfl) ?_
  refine d_take 1 rfl (by kernel_rfl) (by kernel_rfl) (by kernel_rfl) rfl (p_nil rfl) ?_
  refine d_take 2 rfl (by kernel_rfl) (by kernel_rfl) (by kernel_rfl) rfl (p_field_box fo_66_1 rfl) ?_
  refine d_load 3 rfl (by kernel_rfl) (by kernel_rfl) (by kernel_rfl) rfl (p_load_box ag_3 rfl (by repeat (first | exact Pick.here _ _ _ | apply Pick.next)) (by rfl) noX) ?_
  refine d_take 4 rfl (by kernel_rfl) (by kernel_rfl) (by kernel_rfl) rfl (p_move rfl) ?_
  refine d_take 5 rfl (by kernel_rfl) (by kernel_rfl) (by kernel_rfl) rfl (p_nil rfl) ?_
  refine d_take 6 rfl (by kernel_rfl) (by kernel_rfl) (by kernel_rfl) rfl (p_field_box fo_66_0 rfl) ?_
  refine d_load 7 rfl (by kernel_rfl) (by kernel_rfl) (by kernel_rfl) rfl (p_load_box ag_22 rfl (by repeat (first | exact Pick.here _ _ _ | apply Pick.next)) (by rfl) noX) ?_
  refine d_take 8 rfl (by kernel_rfl) (by kernel_rfl) (by kernel_rfl) rfl (p_len sl_22 rfl rfl) ?_
  refine d_take 9 rfl (by kernel_rfl) (by kernel_rfl) (by kernel_rfl) rfl (p_lss rfl rfl) ?_
  refine draw_done (by kernel_rfl) ?_
  first | refine a_cond_d rfl (fun h1 => ?_) (fun h2 => ?_) | refine a_cond_n rfl (fun h1 => ?_) (fun h2 => ?_) | refine a_cond_nb rfl (fun h1 => ?_) (fun h2 => ?_) | refine a_cond rfl (fun h1 => ?_) (fun h2 => ?_)
  · (try simp only [Bool.not_eq_true', Bool.not_eq_false', Bool.not_eq_true, Bool.not_eq_false, decide_eq_true_eq, decide_eq_false_iff_not, List.length_map, List.length_range] at h1)
    refine a_draw [] (by kernel_rfl) ?_
    show ADraw _ _ _ _ _ _ 12 _ _ _ _
    refine d_take 0 rfl (by kernel_rfl) (by kernel_rfl) (by kernel_rfl) rfl (p_move rfl) ?_
    refine d_take 1 rfl (by kernel_rfl) (by kernel_rfl) (by kernel_rfl) rfl (p_nil rfl) ?_
    refine d_take 2 rfl (by kernel_rfl) (by kernel_rfl) (by kernel_rfl) rfl (p_field_box fo_66_0 rfl) ?_
    refine d_load 3 rfl (by kernel_rfl) (by kernel_rfl) (by kernel_rfl) rfl (p_load_box ag_22 rfl (by repeat (first | exact Pick.here _ _ _ | apply Pick.next)) (by rfl) noX) ?_
    refine d_take 4 rfl (by kernel_rfl) (by kernel_rfl) (by kernel_rfl) rfl (p_move rfl) ?_
    refine d_take 5 rfl (by kernel_rfl) (by kernel_rfl) (by kernel_rfl) rfl (p_nil rfl) ?_
    refine d_take 6 rfl (by kernel_rfl) (by kernel_rfl) (by kernel_rfl) rfl (p_field_box fo_66_1 rfl) ?_
    refine d_load 7 rfl (by kernel_rfl) (by kernel_rfl) (by kernel_rfl) rfl (p_load_box ag_3 rfl (by repeat (first | exact Pick.here _ _ _ | apply Pick.next)) (by rfl) noX) ?_
    refine d_take 8 rfl (by kernel_rfl) (by kernel_rfl) (by kernel_rfl) rfl (p_index_sl a.toNat rfl rfl (by omega) (rowD _ _ (0 : Int) (by omega)) es_22) ?_
    refine d_load 9 rfl (by kernel_rfl) (by kernel_rfl) (by kernel_rfl) rfl (p_load_v ag_5 rfl (by rfl) noX) ?_
    refine d_take 10 rfl (by kernel_rfl) (by kernel_rfl) (by kernel_rfl) rfl (p_convert ui_5 um_3 rfl) ?_
    refine d_take 11 rfl (by kernel_rfl) (by kernel_rfl) (by kernel_rfl) rfl (p_assign rfl) ?_
    refine draw_done (by kernel_rfl) ?_
    refine a_seq ?_
    refine a_region ?_
    refine aops_cons rfl (w_pure rfl (p_move rfl) ?_)
    refine aops_cons rfl (w_pure rfl (p_nil rfl) ?_)
    refine aops_cons rfl (w_pure rfl (p_field_box fo_66_1 rfl) ?_)
    refine aops_cons rfl (w_pure rfl (p_load_box ag_3 rfl (by repeat (first | exact Pick.here _ _ _ | apply Pick.next)) (by rfl) noX) ?_)
    refine aops_cons rfl (w_pure rfl (p_add' rfl rfl ⟨by omega, by omega⟩) ?_)
    refine aops_cons rfl (w_pure rfl (p_nil rfl) ?_)
    refine aops_cons rfl (w_pure rfl (p_field_box fo_66_1 rfl) ?_)
    refine aops_cons rfl (w_store (cells' := [_, _, _]) rfl rfl rfl (by repeat (first | exact Pick.here _ _ _ | apply Pick.next)) cn_3 (by rfl) (by rfl) (by rfl) trivial ?_)
    refine aops_nil ?_
    refine a_seq ?_
    refine a_region ?_
    refine aops_cons rfl (w_pure rfl (p_move rfl) ?_)
    refine aops_cons rfl (w_pure rfl (p_move rfl) ?_)
    refine aops_cons rfl (w_pure rfl (p_nil rfl) ?_)
    refine aops_cons rfl (w_pure rfl (p_field_box fo_66_2 rfl) ?_)
    refine aops_cons rfl (w_pure rfl (p_load_box ag_64 rfl (by repeat (first | exact Pick.here _ _ _ | apply Pick.next)) (by rfl) noX) ?_)
    refine aops_cons rfl (w_pure rfl (p_mul rfl rfl) ?_)
    refine aops_cons rfl (w_pure rfl (p_move rfl) ?_)
    refine aops_cons rfl (w_pure rfl (p_convert ui_3 um_64 rfl) ?_)
    refine aops_cons rfl (w_pure rfl (p_add rfl rfl) ?_)
    refine aops_cons rfl (w_pure rfl (p_add rfl rfl) ?_)
    refine aops_cons rfl (w_pure rfl (p_nil rfl) ?_)
    refine aops_cons rfl (w_pure rfl (p_field_box fo_66_2 rfl) ?_)
    refine aops_cons rfl (w_store (cells' := [_, _, _]) rfl rfl rfl (by repeat (first | exact Pick.here _ _ _ | apply Pick.next)) cn_64 (by rfl) (by rfl) (by rfl) trivial ?_)
    refine aops_nil ?_
    refine a_seq ?_
    refine a_seq ?_
    refine a_draw [] (by kernel_rfl) ?_
    show ADraw _ _ _ _ _ _ 10 _ _ _ _
    refine d_take 0 rfl (by kernel_rfl) (by kernel_rfl) (by kernel_rfl) rfl (p_move rfl) ?_
    refine d_take 1 rfl (by kernel_rfl) (by kernel_rfl) (by kernel_rfl) rfl (p_nil rfl) ?_
    refine d_take 2 rfl (by kernel_rfl) (by kernel_rfl) (by kernel_rfl) rfl (p_field_box fo_66_1 rfl) ?_
    refine d_load 3 rfl (by kernel_rfl) (by kernel_rfl) (by kernel_rfl) rfl (p_load_box ag_3 rfl (by repeat (first | exact Pick.here _ _ _ | apply Pick.next)) (by rfl) noX) ?_
    refine d_take 4 rfl (by kernel_rfl) (by kernel_rfl) (by kernel_rfl) rfl (p_move rfl) ?_
    refine d_take 5 rfl (by kernel_rfl) (by kernel_rfl) (by kernel_rfl) rfl (p_nil rfl) ?_
    refine d_take 6 rfl (by kernel_rfl) (by kernel_rfl) (by kernel_rfl) rfl (p_field_box fo_66_0 rfl) ?_
    refine d_load 7 rfl (by kernel_rfl) (by kernel_rfl) (by kernel_rfl) rfl (p_load_box ag_22 rfl (by repeat (first | exact Pick.here _ _ _ | apply Pick.next)) (by rfl) noX) ?_
    refine d_take 8 rfl (by kernel_rfl) (by kernel_rfl) (by kernel_rfl) rfl (p_len sl_22 rfl rfl) ?_
    refine d_take 9 rfl (by kernel_rfl) (by kernel_rfl) (by kernel_rfl) rfl (p_leq rfl rfl) ?_
    refine draw_done (by kernel_rfl) ?_
    first | refine a_cond_d rfl (fun h3 => ?_) (fun h4 => ?_) | refine a_cond_n rfl (fun h3 => ?_) (fun h4 => ?_) | refine a_cond_nb rfl (fun h3 => ?_) (fun h4 => ?_) | refine a_cond rfl (fun h3 => ?_) (fun h4 => ?_)
    · (try simp only [Bool.not_eq_true', Bool.not_eq_false', Bool.not_eq_true, Bool.not_eq_false, decide_eq_true_eq, decide_eq_false_iff_not, List.length_map, List.length_range] at h3)
      refine a_seq ?_
      refine a_region ?_
      refine aops_cons rfl (w_pure rfl (p_move rfl) ?_)
      refine aops_cons rfl (w_pure rfl (p_assign rfl) ?_)
      refine aops_nil ?_
      refine a_ret ?_
      refine ret_ok (hands1 rfl (.tmp rfl)) (st' := [(q, _)]) (.cons (by repeat (first | exact Pick.here _ _ _ | apply Pick.next)) (.nil _)) ?_
      first | exact ⟨_, _, _, rfl, (by first | exact wrap_rng (hb.at (by omega)) | exact and_rng _ | exact ⟨by decide, by decide⟩), by omega, by omega, rfl⟩
    · (try simp only [Bool.not_eq_true', Bool.not_eq_false', Bool.not_eq_true, Bool.not_eq_false, decide_eq_true_eq, decide_eq_false_iff_not, List.length_map, List.length_range] at h4)
      refine a_skip ?_
      refine a_seq ?_
      refine a_region ?_
      refine aops_cons rfl (w_pure rfl (p_move rfl) ?_)
      refine aops_cons rfl (w_pure rfl (p_nil rfl) ?_)
      refine aops_cons rfl (w_pure rfl (p_field_box fo_66_2 rfl) ?_)
      refine aops_cons rfl (w_pure rfl (p_load_box ag_64 rfl (by repeat (first | exact Pick.here _ _ _ | apply Pick.next)) (by rfl) noX) ?_)
      refine aops_cons rfl (w_pure rfl (p_shr rfl rfl (by omega)) ?_)
      refine aops_cons rfl (w_pure rfl (p_bits .and (by decide) rfl rfl) ?_)
      refine aops_cons rfl (w_pure rfl (p_convert ui_64 um_3 rfl) ?_)
      refine aops_cons rfl (w_pure rfl (p_assign rfl) ?_)
      refine aops_nil ?_
      refine a_ret ?_
      refine ret_ok (hands1 rfl (.tmp rfl)) (st' := [(q, _)]) (.cons (by repeat (first | exact Pick.here _ _ _ | apply Pick.next)) (.nil _)) ?_
      first | exact ⟨_, _, _, rfl, (by first | exact wrap_rng (hb.at (by omega)) | exact and_rng _ | exact ⟨by decide, by decide⟩), by omega, by omega, rfl⟩
  · (try simp only [Bool.not_eq_true', Bool.not_eq_false', Bool.not_eq_true, Bool.not_eq_false, decide_eq_true_eq, decide_eq_false_iff_not, List.length_map, List.length_range] at h2)
    refine a_skip ?_
    refine a_seq ?_
    refine a_region ?_
    refine aops_cons rfl (w_pure rfl (p_move rfl) ?_)
    refine aops_cons rfl (w_pure rfl (p_nil rfl) ?_)
    refine aops_cons rfl (w_pure rfl (p_field_box fo_66_1 rfl) ?_)
    refine aops_cons rfl (w_pure rfl (p_load_box ag_3 rfl (by repeat (first | exact Pick.here _ _ _ | apply Pick.next)) (by rfl) noX) ?_)
    refine aops_cons rfl (w_pure rfl (p_add' rfl rfl ⟨by omega, by omega⟩) ?_)
    refine aops_cons rfl (w_pure rfl (p_nil rfl) ?_)
    refine aops_cons rfl (w_pure rfl (p_field_box fo_66_1 rfl) ?_)
    refine aops_cons rfl (w_store (cells' := [_, _, _]) rfl rfl rfl (by repeat (first | exact Pick.here _ _ _ | apply Pick.next)) cn_3 (by rfl) (by rfl) (by rfl) trivial ?_)
    refine aops_nil ?_
    refine a_seq ?_
    refine a_region ?_
    refine aops_cons rfl (w_pure rfl (p_move rfl) ?_)
    refine aops_cons rfl (w_pure rfl (p_move rfl) ?_)
    refine aops_cons rfl (w_pure rfl (p_nil rfl) ?_)
    refine aops_cons rfl (w_pure rfl (p_field_box fo_66_2 rfl) ?_)
    refine aops_cons rfl (w_pure rfl (p_load_box ag_64 rfl (by repeat (first | exact Pick.here _ _ _ | apply Pick.next)) (by rfl) noX) ?_)
    refine aops_cons rfl (w_pure rfl (p_mul rfl rfl) ?_)
    refine aops_cons rfl (w_pure rfl (p_move rfl) ?_)
    refine aops_cons rfl (w_pure rfl (p_convert ui_3 um_64 rfl) ?_)
    refine aops_cons rfl (w_pure rfl (p_add rfl rfl) ?_)
    refine aops_cons rfl (w_pure rfl (p_add rfl rfl) ?_)
    refine aops_cons rfl (w_pure rfl (p_nil rfl) ?_)
    refine aops_cons rfl (w_pure rfl (p_field_box fo_66_2 rfl) ?_)
    refine aops_cons rfl (w_store (cells' := [_, _, _]) rfl rfl rfl (by repeat (first | exact Pick.here _ _ _ | apply Pick.next)) cn_64 (by rfl) (by rfl) (by rfl) trivial ?_)
    refine aops_nil ?_
    refine a_seq ?_
    refine a_seq ?_
    refine a_draw [] (by kernel_rfl) ?_
    show ADraw _ _ _ _ _ _ 10 _ _ _ _
    refine d_take 0 rfl (by kernel_rfl) (by kernel_rfl) (by kernel_rfl) rfl (p_move rfl) ?_
    refine d_take 1 rfl (by kernel_rfl) (by kernel_rfl) (by kernel_rfl) rfl (p_nil rfl) ?_
    refine d_take 2 rfl (by kernel_rfl) (by kernel_rfl) (by kernel_rfl) rfl (p_field_box fo_66_1 rfl) ?_
    refine d_load 3 rfl (by kernel_rfl) (by kernel_rfl) (by kernel_rfl) rfl (p_load_box ag_3 rfl (by repeat (first | exact Pick.here _ _ _ | apply Pick.next)) (by rfl) noX) ?_
    refine d_take 4 rfl (by kernel_rfl) (by kernel_rfl) (by kernel_rfl) rfl (p_move rfl) ?_
    refine d_take 5 rfl (by kernel_rfl) (by kernel_rfl) (by kernel_rfl) rfl (p_nil rfl) ?_
    refine d_take 6 rfl (by kernel_rfl) (by kernel_rfl) (by kernel_rfl) rfl (p_field_box fo_66_0 rfl) ?_
    refine d_load 7 rfl (by kernel_rfl) (by kernel_rfl) (by kernel_rfl) rfl (p_load_box ag_22 rfl (by repeat (first | exact Pick.here _ _ _ | apply Pick.next)) (by rfl) noX) ?_
    refine d_take 8 rfl (by kernel_rfl) (by kernel_rfl) (by kernel_rfl) rfl (p_len sl_22 rfl rfl) ?_
    refine d_take 9 rfl (by kernel_rfl) (by kernel_rfl) (by kernel_rfl) rfl (p_leq rfl rfl) ?_
    refine draw_done (by kernel_rfl) ?_
    first | refine a_cond_d rfl (fun h5 => ?_) (fun h6 => ?_) | refine a_cond_n rfl (fun h5 => ?_) (fun h6 => ?_) | refine a_cond_nb rfl (fun h5 => ?_) (fun h6 => ?_) | refine a_cond rfl (fun h5 => ?_) (fun h6 => ?_)
    · (try simp only [Bool.not_eq_true', Bool.not_eq_false', Bool.not_eq_true, Bool.not_eq_false, decide_eq_true_eq, decide_eq_false_iff_not, List.length_map, List.length_range] at h5)
      refine a_seq ?_
      refine a_region ?_
      refine aops_cons rfl (w_pure rfl (p_move rfl) ?_)
      refine aops_cons rfl (w_pure rfl (p_assign rfl) ?_)
      refine aops_nil ?_
      refine a_ret ?_
      refine ret_ok (hands1 rfl (.tmp rfl)) (st' := [(q, _)]) (.cons (by repeat (first | exact Pick.here _ _ _ | apply Pick.next)) (.nil _)) ?_
      first | exact ⟨_, _, _, rfl, (by first | exact wrap_rng (hb.at (by omega)) | exact and_rng _ | exact ⟨by decide, by decide⟩), by omega, by omega, rfl⟩
    · (try simp only [Bool.not_eq_true', Bool.not_eq_false', Bool.not_eq_true, Bool.not_eq_false, decide_eq_true_eq, decide_eq_false_iff_not, List.length_map, List.length_range] at h6)
      refine a_skip ?_
      refine a_seq ?_
      refine a_region ?_
      refine aops_cons rfl (w_pure rfl (p_move rfl) ?_)
      refine aops_cons rfl (w_pure rfl (p_nil rfl) ?_)
      refine aops_cons rfl (w_pure rfl (p_field_box fo_66_2 rfl) ?_)
      refine aops_cons rfl (w_pure rfl (p_load_box ag_64 rfl (by repeat (first | exact Pick.here _ _ _ | apply Pick.next)) (by rfl) noX) ?_)
      refine aops_cons rfl (w_pure rfl (p_shr rfl rfl (by omega)) ?_)
      refine aops_cons rfl (w_pure rfl (p_bits .and (by decide) rfl rfl) ?_)
      refine aops_cons rfl (w_pure rfl (p_convert ui_64 um_3 rfl) ?_)
      refine aops_cons rfl (w_pure rfl (p_assign rfl) ?_)
      refine aops_nil ?_
      refine a_ret ?_
      refine ret_ok (hands1 rfl (.tmp rfl)) (st' := [(q, _)]) (.cons (by repeat (first | exact Pick.here _ _ _ | apply Pick.next)) (.nil _)) ?_
      first | exact ⟨_, _, _, rfl, (by first | exact wrap_rng (hb.at (by omega)) | exact and_rng _ | exact ⟨by decide, by decide⟩), by omega, by omega, rfl⟩

theorem c_spec_l1Cur_pick (q : Nat) (bs : List Int) (hb : Bytes bs) (a s : Int) (h0 : 0 ≤ a) (h1 : a ≤ 999999998000) (n : Int) (hn : n ≤ 1000000) : ACalls Try.prog 60 [.ptr q 0, .int .i64 n] [(q, curE bs a s)] (fun r st => ∃ m a' s', r = .int .i64 m ∧ (0 ≤ m ∧ (m < n ∨ m = 0)) ∧ a ≤ a' ∧ a' ≤ a + 2 ∧ st = [(q, curE bs a' s')]) := by
  refine a_enter Try.func60 rfl rfl (fun w0 M0 => ?_)
  refine a_seq ?_
  refine a_region ?_
  refine aops_cons rfl (w_pure rfl (p_assign rfl) ?_)
  refine aops_nil ?_
  refine a_seq ?_
  refine a_seq ?_
  refine a_region ?_
  refine aops_cons rfl (w_pure rfl (p_move rfl) ?_)
  refine aops_cons rfl (w_pure rfl (p_leq rfl rfl) ?_)
  refine aops_nil ?_
  first | refine a_cond_d rfl (fun h1 => ?_) (fun h2 => ?_) | refine a_cond_n rfl (fun h1 => ?_) (fun h2 => ?_) | refine a_cond_nb rfl (fun h1 => ?_) (fun h2 => ?_) | refine a_cond rfl (fun h1 => ?_) (fun h2 => ?_)
  · (try simp only [Bool.not_eq_true', Bool.not_eq_false', Bool.not_eq_true, Bool.not_eq_false, decide_eq_true_eq, decide_eq_false_iff_not, List.length_map, List.length_range] at h1)
    refine a_seq ?_
    refine a_region ?_
    refine aops_cons rfl (w_pure rfl (p_assign rfl) ?_)
    refine aops_nil ?_
    refine a_ret ?_
    refine ret_ok (hands1 rfl (.tmp rfl)) (st' := [(q, _)]) (.cons (by repeat (first | exact Pick.here _ _ _ | apply Pick.next)) (.nil _)) ?_
    first | exact ⟨_, _, _, rfl, ⟨by decide, .inr rfl⟩, by omega, by omega, rfl⟩ | exact ⟨_, _, _, rfl, ⟨Int.emod_nonneg _ (by omega), .inl (Int.emod_lt_of_pos _ (by omega))⟩, by omega, by omega, rfl⟩
  · (try simp only [Bool.not_eq_true', Bool.not_eq_false', Bool.not_eq_true, Bool.not_eq_false, decide_eq_true_eq, decide_eq_false_iff_not, List.length_map, List.length_range] at h2)
    refine a_skip ?_
    refine a_seq ?_
    refine a_region ?_
    refine aops_cons rfl (w_pure rfl (p_move rfl) ?_)
    refine aops_cons rfl (w_callM0 rfl rfl rfl cl_79 (.cons (by repeat (first | exact Pick.here _ _ _ | apply Pick.next)) (.nil _)) (c_spec_l1Cur_next _ _ hb _ _ (by omega) (by omega) ) trivial ?_)
    rintro _ _ ⟨m1, a1, s1, rfl, hm1, ha1, hc1, rfl⟩
    (try simp only [List.length_map] at hm1)
    refine aops_cons rfl (w_pure rfl (p_assign rfl) ?_)
    refine aops_nil ?_
    refine a_seq ?_
    refine a_seq ?_
    refine a_region ?_
    refine aops_cons rfl (w_pure rfl (p_move rfl) ?_)
    refine aops_cons rfl (w_pure rfl (p_gtr rfl rfl) ?_)
    refine aops_nil ?_
    first | refine a_cond_d rfl (fun h3 => ?_) (fun h4 => ?_) | refine a_cond_n rfl (fun h3 => ?_) (fun h4 => ?_) | refine a_cond_nb rfl (fun h3 => ?_) (fun h4 => ?_) | refine a_cond rfl (fun h3 => ?_) (fun h4 => ?_)
    · (try simp only [Bool.not_eq_true', Bool.not_eq_false', Bool.not_eq_true, Bool.not_eq_false, decide_eq_true_eq, decide_eq_false_iff_not, List.length_map, List.length_range] at h3)
      refine a_region ?_
      refine aops_cons rfl (w_pure rfl (p_move rfl) ?_)
      refine aops_cons rfl (w_pure rfl (p_mul' rfl rfl ⟨by omega, by omega⟩) ?_)
      refine aops_cons rfl (w_pure rfl (p_move rfl) ?_)
      refine aops_cons rfl (w_callM0 rfl rfl rfl cl_79 (.cons (by repeat (first | exact Pick.here _ _ _ | apply Pick.next)) (.nil _)) (c_spec_l1Cur_next _ _ hb _ _ (by omega) (by omega) ) trivial ?_)
      rintro _ _ ⟨m2, a2, s2, rfl, hm2, ha2, hc2, rfl⟩
      (try simp only [List.length_map] at hm2)
      refine aops_cons rfl (w_pure rfl (p_add' rfl rfl ⟨by omega, by omega⟩) ?_)
      refine aops_cons rfl (w_pure rfl (p_assign rfl) ?_)
      refine aops_nil ?_
      refine a_seq ?_
      refine a_region ?_
      refine aops_cons rfl (w_pure rfl (p_move rfl) ?_)
      refine aops_cons rfl (w_pure rfl (p_move rfl) ?_)
      refine aops_cons rfl (w_pure rfl (p_rem' rfl rfl (by omega) (by omega)) ?_)
      refine aops_cons rfl (w_pure rfl (p_assign rfl) ?_)
      refine aops_nil ?_
      refine a_ret ?_
      refine ret_ok (hands1 rfl (.tmp rfl)) (st' := [(q, _)]) (.cons (by repeat (first | exact Pick.here _ _ _ | apply Pick.next)) (.nil _)) ?_
      first | exact ⟨_, _, _, rfl, ⟨by decide, .inr rfl⟩, by omega, by omega, rfl⟩ | exact ⟨_, _, _, rfl, ⟨Int.emod_nonneg _ (by omega), .inl (Int.emod_lt_of_pos _ (by omega))⟩, by omega, by omega, rfl⟩
    · (try simp only [Bool.not_eq_true', Bool.not_eq_false', Bool.not_eq_true, Bool.not_eq_false, decide_eq_true_eq, decide_eq_false_iff_not, List.length_map, List.length_range] at h4)
      refine a_skip ?_
      refine a_seq ?_
      refine a_region ?_
      refine aops_cons rfl (w_pure rfl (p_move rfl) ?_)
      refine aops_cons rfl (w_pure rfl (p_move rfl) ?_)
      refine aops_cons rfl (w_pure rfl (p_rem' rfl rfl (by omega) (by omega)) ?_)
      refine aops_cons rfl (w_pure rfl (p_assign rfl) ?_)
      refine aops_nil ?_
      refine a_ret ?_
      refine ret_ok (hands1 rfl (.tmp rfl)) (st' := [(q, _)]) (.cons (by repeat (first | exact Pick.here _ _ _ | apply Pick.next)) (.nil _)) ?_
      first | exact ⟨_, _, _, rfl, ⟨by decide, .inr rfl⟩, by omega, by omega, rfl⟩ | exact ⟨_, _, _, rfl, ⟨Int.emod_nonneg _ (by omega), .inl (Int.emod_lt_of_pos _ (by omega))⟩, by omega, by omega, rfl⟩

theorem c_spec_l1Cur_one (q : Nat) (bs : List Int) (hb : Bytes bs) (a s : Int) (h0 : 0 ≤ a) (h1 : a ≤ 999999998000) (n : Int) (hn : n ≤ 1000000) : ACalls Try.prog 59 [.ptr q 0, .int .i64 n] [(q, curE bs a s)] (fun r st => ∃ b a' s', r = .bool b ∧ a ≤ a' ∧ a' ≤ a + 2 ∧ st = [(q, curE bs a' s')]) := by
  refine a_enter Try.func59 rfl rfl (fun w0 M0 => ?_)
  refine a_seq ?_
  refine a_region ?_
  refine aops_cons rfl (w_pure rfl (p_assign rfl) ?_)
  refine aops_nil ?_
  refine a_seq ?_
  refine a_region ?_
  refine aops_cons rfl (w_pure rfl (p_move rfl) ?_)
  refine aops_cons rfl (w_pure rfl (p_move rfl) ?_)
  refine aops_cons rfl (w_callM0 rfl rfl rfl cl_60 (.cons (by repeat (first | exact Pick.here _ _ _ | apply Pick.next)) (.nil _)) (c_spec_l1Cur_pick _ _ hb _ _ (by omega) (by omega) _ (by first | omega | (simp; done) | (simp; omega))) trivial ?_)
  rintro _ _ ⟨m1, a1, s1, rfl, hm1, ha1, hc1, rfl⟩
  (try simp only [List.length_map] at hm1)
  refine aops_cons rfl (w_pure rfl (p_eql rfl rfl) ?_)
  refine aops_cons rfl (w_pure rfl (p_assign rfl) ?_)
  refine aops_nil ?_
  refine a_ret ?_
  refine ret_ok (hands1 rfl (.tmp rfl)) (st' := [(q, _)]) (.cons (by repeat (first | exact Pick.here _ _ _ | apply Pick.next)) (.nil _)) ?_
  exact ⟨_, _, _, rfl, by omega, by omega, rfl⟩

theorem c_spec_l1Cur_among (q : Nat) (bs : List Int) (hb : Bytes bs) (a s : Int) (h0 : 0 ≤ a) (h1 : a ≤ 999999998000) (xs : List Int) (hx : 0 < xs.length ∧ xs.length ≤ 1000) (lo hi : Int) (hr : ∀ x ∈ xs, lo ≤ x ∧ x ≤ hi) : ACalls Try.prog 61 [.ptr q 0, .sl (xs.map eInt)] [(q, curE bs a s)] (fun r st => ∃ m a' s', r = .int .i64 m ∧ (lo ≤ m ∧ m ≤ hi) ∧ a ≤ a' ∧ a' ≤ a + 2 ∧ st = [(q, curE bs a' s')]) := by
  refine a_enter Try.func61 rfl rfl (fun w0 M0 => ?_)
  refine a_seq ?_
  refine a_region ?_
  refine aops_cons rfl (w_pure rfl (p_assign rfl) ?_)
  refine aops_nil ?_
  refine a_seq ?_
  refine a_region ?_
  refine aops_cons rfl (w_pure rfl (p_move rfl) ?_)
  refine aops_cons rfl (w_pure rfl (p_move rfl) ?_)
  refine aops_cons rfl (w_pure rfl (p_move rfl) ?_)
  refine aops_cons rfl (w_pure rfl (p_len sl_31 rfl rfl) ?_)
  refine aops_cons rfl (w_callM0 rfl rfl rfl cl_60 (.cons (by repeat (first | exact Pick.here _ _ _ | apply Pick.next)) (.nil _)) (c_spec_l1Cur_pick _ _ hb _ _ (by omega) (by omega) _ (by first | omega | (simp; done) | (simp; omega))) trivial ?_)
  rintro _ _ ⟨m1, a1, s1, rfl, hm1, ha1, hc1, rfl⟩
  (try simp only [List.length_map] at hm1)
  refine aops_cons rfl (w_pure rfl (p_index_sl (m1.toNat) rfl rfl (by omega) (rowD _ _ (0 : Int) (by omega)) es_31) ?_)
  refine aops_cons rfl (w_pure rfl (p_load_v ag_3 rfl (by rfl) noX) ?_)
  refine aops_cons rfl (w_pure rfl (p_assign rfl) ?_)
  refine aops_nil ?_
  refine a_ret ?_
  refine ret_ok (hands1 rfl (.tmp rfl)) (st' := [(q, _)]) (.cons (by repeat (first | exact Pick.here _ _ _ | apply Pick.next)) (.nil _)) ?_
  exact ⟨_, _, _, rfl, getD_mem (p := fun x => lo ≤ x ∧ x ≤ hi) hr (by omega), by omega, by omega, rfl⟩

theorem c_spec_l1Cur_vcpus (q : Nat) (bs : List Int) (hb : Bytes bs) (a s : Int) (h0 : 0 ≤ a) (h1 : a ≤ 999999860000)  : ACalls Try.prog 58 [.ptr q 0] [(q, curE bs a s)] (fun r st => ∃ (b : Nat) (xs : List Vcpu) (a' : Int) (s' : Int), r = .own 5 b 0 xs.length ∧ xs.length ≤ 6 ∧ a ≤ a' ∧ a' ≤ a + 140 ∧ st = [(q, curE bs a' s'), (b, .arr 56 5 (xs.map eVcpu))]) := by
  refine a_enter Try.func58 rfl rfl (fun w0 M0 => ?_)
  refine a_seq ?_
  refine a_region ?_
  refine aops_cons rfl (w_pure rfl (p_assign rfl) ?_)
  refine aops_nil ?_
  refine a_seq ?_
  refine a_region ?_
  refine aops_cons rfl (w_litM eVcpu [] rfl el_24 rfl rfl rfl rfl rfl fun b1 => ?_)
  refine aops_cons rfl (w_pure rfl (p_assign rfl) ?_)
  refine aops_nil ?_
  refine a_seq ?_
  refine a_region ?_
  refine aops_cons rfl (w_pure rfl (p_assign rfl) ?_)
  refine aops_nil ?_
  refine a_seq ?_
  refine a_seq ?_
  refine a_region ?_
  refine aops_cons rfl (w_pure rfl (p_move rfl) ?_)
  refine aops_cons rfl (w_callM0 rfl rfl rfl cl_60 (.cons (by repeat (first | exact Pick.here _ _ _ | apply Pick.next)) (.nil _)) (c_spec_l1Cur_pick _ _ hb _ _ (by omega) (by omega) _ (by first | omega | (simp; done) | (simp; omega))) trivial ?_)
  rintro _ _ ⟨m1, a1, s1, rfl, hm1, ha1, hc1, rfl⟩
  (try simp only [List.length_map] at hm1)
  refine aops_cons rfl (w_pure rfl (p_add' rfl rfl ⟨by omega, by omega⟩) ?_)
  refine aops_cons rfl (w_pure rfl (p_assign rfl) ?_)
  refine aops_nil ?_
  refine a_block ?_
  refine a_loop (ι := Int × Int × Nat × List Vcpu × Int × Int) (fun ⟨n, d, b, xs, ka, ks⟩ => n + xs.length = 1 + m1 ∧ 0 ≤ n ∧ (0 ≤ d ∧ d ≤ 4 * xs.length) ∧ a ≤ ka ∧ ka ≤ a + 2 + 20 * xs.length) (fun ⟨n, d, b, xs, ka, ks⟩ => [(3, .own 5 b 0 xs.length), (4, .int .i64 d), (5, .int .i64 n)]) (fun ⟨n, d, b, xs, ka, ks⟩ => [(q, curE bs ka ks), (b, .arr 56 5 (xs.map eVcpu))]) (fun ⟨n, d, b, xs, ka, ks⟩ => n.toNat) (1 + m1, 0, b1, [], a1, s1) ⟨by simp, by omega, by simp, by omega, by simp; omega⟩ (by repeat (first | exact Knows.nil | refine Knows.cons (by rfl) ?_)) (by repeat (first | exact Picks.nil _ | exact Pick.here _ _ _ | apply Pick.next | apply Picks.cons)) ?_
  rintro ⟨n, d, b, xs, ka, ks⟩ ⟨hk1, hk2, hk5, hk3, hk4⟩
  skip
  refine a_seq ?_
  refine a_seq ?_
  refine a_region ?_
  refine aops_cons rfl (w_pure rfl (p_move rfl) ?_)
  refine aops_cons rfl (w_pure rfl (p_gtr rfl rfl) ?_)
  refine aops_nil ?_
  first | refine a_cond_d rfl (fun h1 => ?_) (fun h2 => ?_) | refine a_cond_n rfl (fun h1 => ?_) (fun h2 => ?_) | refine a_cond_nb rfl (fun h1 => ?_) (fun h2 => ?_) | refine a_cond rfl (fun h1 => ?_) (fun h2 => ?_)
  · (try simp only [Bool.not_eq_true', Bool.not_eq_false', Bool.not_eq_true, Bool.not_eq_false, decide_eq_true_eq, decide_eq_false_iff_not, List.length_map, List.length_range] at h1)
    refine a_skip ?_
    refine a_seq ?_
    refine a_block ?_
    refine a_seq ?_
    refine a_region ?_
    refine aops_cons rfl (w_pure rfl (p_move rfl) ?_)
    refine aops_cons rfl (w_pure rfl (p_add' rfl rfl ⟨by omega, by omega⟩) ?_)
    refine aops_cons rfl (w_pure rfl (p_move rfl) ?_)
    refine aops_cons rfl (w_callM0 rfl rfl rfl cl_60 (.cons (by repeat (first | exact Pick.here _ _ _ | apply Pick.next)) (.nil _)) (c_spec_l1Cur_pick _ _ hb _ _ (by omega) (by omega) _ (by first | omega | (simp; done) | (simp; omega))) trivial ?_)
    rintro _ _ ⟨m2, a2, s2, rfl, hm2, ha2, hc2, rfl⟩
    (try simp only [List.length_map] at hm2)
    refine aops_cons rfl (w_pure rfl (p_add' rfl rfl ⟨by omega, by omega⟩) ?_)
    refine aops_cons rfl (w_pure rfl (p_assign rfl) ?_)
    refine aops_nil ?_
    refine a_seq ?_
    refine a_region ?_
    refine aops_cons rfl (w_pure rfl (p_move rfl) ?_)
    refine aops_cons rfl (w_pure rfl (p_move rfl) ?_)
    refine aops_cons rfl (w_lit_vM eInt [_, _, _, _, _, _] rfl el_31 rfl rfl rfl rfl rfl ?_)
    refine aops_cons rfl (w_callM0 rfl rfl rfl cl_61 (.cons (by repeat (first | exact Pick.here _ _ _ | apply Pick.next)) (.nil _)) (c_spec_l1Cur_among _ _ hb _ _ (by omega) (by omega) _ (by first | (simp; done) | (simp; omega)) (1) 10 (by first | (intro x hx; simp only [List.mem_cons, List.not_mem_nil, or_false] at hx; omega) | (intro x hx; have hx := List.mem_of_mem_take hx; simp only [List.mem_cons, List.not_mem_nil, or_false] at hx; omega))) trivial ?_)
    rintro _ _ ⟨m3, a3, s3, rfl, hm3, ha3, hc3, rfl⟩
    (try simp only [List.length_map] at hm3)
    refine aops_cons rfl (w_pure rfl (p_move rfl) ?_)
    refine aops_cons rfl (w_lit_vM eInt [_, _, _, _, _, _, _, _] rfl el_31 rfl rfl rfl rfl rfl ?_)
    refine aops_cons rfl (w_callM0 rfl rfl rfl cl_61 (.cons (by repeat (first | exact Pick.here _ _ _ | apply Pick.next)) (.nil _)) (c_spec_l1Cur_among _ _ hb _ _ (by omega) (by omega) _ (by first | (simp; done) | (simp; omega)) (-95) 200 (by first | (intro x hx; simp only [List.mem_cons, List.not_mem_nil, or_false] at hx; omega) | (intro x hx; have hx := List.mem_of_mem_take hx; simp only [List.mem_cons, List.not_mem_nil, or_false] at hx; omega))) trivial ?_)
    rintro _ _ ⟨m4, a4, s4, rfl, hm4, ha4, hc4, rfl⟩
    (try simp only [List.length_map] at hm4)
    refine aops_cons rfl (w_pure rfl (p_build (cells := [_, _, _, _, _]) z_56 pl_56 rfl rfl) ?_)
    refine aops_cons rfl (w_alloc rfl z_56 fun b2 => ?_)
    refine aops_cons rfl (w_store (cells' := [_, _, _, _, _]) rfl rfl rfl (by repeat (first | exact Pick.here _ _ _ | apply Pick.next)) cn_56 (by rfl) (by rfl) (by rfl) trivial ?_)
    refine aops_nil ?_
    refine a_seq ?_
    refine a_seq ?_
    refine a_region ?_
    refine aops_cons rfl (w_pure rfl (p_move rfl) ?_)
    refine aops_cons rfl (w_callM0 rfl rfl rfl cl_59 (.cons (by repeat (first | exact Pick.here _ _ _ | apply Pick.next)) (.nil _)) (c_spec_l1Cur_one _ _ hb _ _ (by omega) (by omega) _ (by omega)) trivial ?_)
    rintro _ _ ⟨b5, a5, s5, rfl, ha5, hc5, rfl⟩
    skip
    refine aops_nil ?_
    first | refine a_cond_d rfl (fun h3 => ?_) (fun h4 => ?_) | refine a_cond_n rfl (fun h3 => ?_) (fun h4 => ?_) | refine a_cond_nb rfl (fun h3 => ?_) (fun h4 => ?_) | refine a_cond rfl (fun h3 => ?_) (fun h4 => ?_)
    · (try simp only [Bool.not_eq_true', Bool.not_eq_false', Bool.not_eq_true, Bool.not_eq_false, decide_eq_true_eq, decide_eq_false_iff_not, List.length_map, List.length_range] at h3)
      refine a_region ?_
      refine aops_cons rfl (w_pure rfl (p_field_box fo_56_3 rfl) ?_)
      refine aops_cons rfl (w_store (cells' := [_, _, _, _, _]) rfl rfl rfl (by repeat (first | exact Pick.here _ _ _ | apply Pick.next)) cn_4 (by rfl) (by rfl) (by rfl) trivial ?_)
      refine aops_nil ?_
      refine a_region ?_
      refine aops_cons rfl (w_pure rfl (p_move rfl) ?_)
      refine aops_cons rfl (w_pure rfl (p_load_box_all ag_56 rfl (by repeat (first | exact Pick.here _ _ _ | apply Pick.next)) (by rfl) noX) ?_)
      refine aops_cons rfl (w_lit_vM eVcpu [⟨_, _, _, _, _⟩] rfl el_24 rfl rfl rfl rfl rfl ?_)
      refine aops_cons rfl (w_appendM eVcpu rfl el_24 rfl rfl (by repeat (first | exact Pick.here _ _ _ | apply Pick.next)) rfl (.sl _) (fun _ => rfl) (fun _ => rfl) (by simp; omega) (by simp; omega) trivial fun b3 => ?_)
      refine aops_cons rfl (w_pure rfl (p_assign rfl) ?_)
      refine aops_nil ?_
      refine a_region ?_
      refine aops_cons rfl (w_pure rfl (p_move rfl) ?_)
      refine aops_cons rfl (w_pure rfl (p_sub' rfl rfl ⟨by omega, by omega⟩) ?_)
      refine aops_cons rfl (w_pure rfl (p_assign rfl) ?_)
      refine aops_nil ?_
      refine ⟨(_, _, _, _, _, _), _, ?_, ?_, (by repeat (first | exact Knows.nil | refine Knows.cons (by rfl) ?_)), (by repeat (first | exact Back.refl _ _ | refine Back.cons (by rfl) ?_)), (by repeat (first | exact Picks.nil _ | exact Pick.here _ _ _ | apply Pick.next | apply Picks.cons))⟩
      · refine ⟨by simp; omega, by omega, by simp; omega, by omega, by simp; omega⟩
      · (try dsimp only); omega
    · (try simp only [Bool.not_eq_true', Bool.not_eq_false', Bool.not_eq_true, Bool.not_eq_false, decide_eq_true_eq, decide_eq_false_iff_not, List.length_map, List.length_range] at h4)
      refine a_region ?_
      refine aops_cons rfl (w_pure rfl (p_move rfl) ?_)
      refine aops_cons rfl (w_callM0 rfl rfl rfl cl_59 (.cons (by repeat (first | exact Pick.here _ _ _ | apply Pick.next)) (.nil _)) (c_spec_l1Cur_one _ _ hb _ _ (by omega) (by omega) _ (by omega)) trivial ?_)
      rintro _ _ ⟨b6, a6, s6, rfl, ha6, hc6, rfl⟩
      skip
      refine aops_cons rfl (w_pure rfl (p_field_box fo_56_4 rfl) ?_)
      refine aops_cons rfl (w_store (cells' := [_, _, _, _, _]) rfl rfl rfl (by repeat (first | exact Pick.here _ _ _ | apply Pick.next)) cn_4 (by rfl) (by rfl) (by rfl) trivial ?_)
      refine aops_nil ?_
      refine a_region ?_
      refine aops_cons rfl (w_pure rfl (p_move rfl) ?_)
      refine aops_cons rfl (w_pure rfl (p_load_box_all ag_56 rfl (by repeat (first | exact Pick.here _ _ _ | apply Pick.next)) (by rfl) noX) ?_)
      refine aops_cons rfl (w_lit_vM eVcpu [⟨_, _, _, _, _⟩] rfl el_24 rfl rfl rfl rfl rfl ?_)
      refine aops_cons rfl (w_appendM eVcpu rfl el_24 rfl rfl (by repeat (first | exact Pick.here _ _ _ | apply Pick.next)) rfl (.sl _) (fun _ => rfl) (fun _ => rfl) (by simp; omega) (by simp; omega) trivial fun b4 => ?_)
      refine aops_cons rfl (w_pure rfl (p_assign rfl) ?_)
      refine aops_nil ?_
      refine a_region ?_
      refine aops_cons rfl (w_pure rfl (p_move rfl) ?_)
      refine aops_cons rfl (w_pure rfl (p_sub' rfl rfl ⟨by omega, by omega⟩) ?_)
      refine aops_cons rfl (w_pure rfl (p_assign rfl) ?_)
      refine aops_nil ?_
      refine ⟨(_, _, _, _, _, _), _, ?_, ?_, (by repeat (first | exact Knows.nil | refine Knows.cons (by rfl) ?_)), (by repeat (first | exact Back.refl _ _ | refine Back.cons (by rfl) ?_)), (by repeat (first | exact Picks.nil _ | exact Pick.here _ _ _ | apply Pick.next | apply Picks.cons))⟩
      · refine ⟨by simp; omega, by omega, by simp; omega, by omega, by simp; omega⟩
      · (try dsimp only); omega
  · (try simp only [Bool.not_eq_true', Bool.not_eq_false', Bool.not_eq_true, Bool.not_eq_false, decide_eq_true_eq, decide_eq_false_iff_not, List.length_map, List.length_range] at h2)
    refine a_exit ?_
    refine a_seq ?_
    refine a_seq ?_
    refine a_region ?_
    refine aops_cons rfl (w_pure rfl (p_move rfl) ?_)
    refine aops_cons rfl (w_callM0 rfl rfl rfl cl_60 (.cons (by repeat (first | exact Pick.here _ _ _ | apply Pick.next)) (.nil _)) (c_spec_l1Cur_pick _ _ hb _ _ (by omega) (by omega) _ (by first | omega | (simp; done) | (simp; omega))) trivial ?_)
    rintro _ _ ⟨m2, a2, s2, rfl, hm2, ha2, hc2, rfl⟩
    (try simp only [List.length_map] at hm2)
    refine aops_nil ?_
    refine a_block ?_
    refine a_seq ?_
    refine a_region ?_
    refine aops_cons rfl (w_pure rfl (p_eql rfl rfl) ?_)
    refine aops_cons rfl (w_pure rfl (p_assign rfl) ?_)
    refine aops_nil ?_
    first | refine a_cond_d rfl (fun h5 => ?_) (fun h6 => ?_) | refine a_cond_n rfl (fun h5 => ?_) (fun h6 => ?_) | refine a_cond_nb rfl (fun h5 => ?_) (fun h6 => ?_) | refine a_cond rfl (fun h5 => ?_) (fun h6 => ?_)
    · (try simp only [Bool.not_eq_true', Bool.not_eq_false', Bool.not_eq_true, Bool.not_eq_false, decide_eq_true_eq, decide_eq_false_iff_not, List.length_map, List.length_range] at h5)
      refine a_region ?_
      refine aops_cons rfl (w_pure rfl (p_move rfl) ?_)
      refine aops_cons rfl (w_pure rfl (p_move rfl) ?_)
      refine aops_cons rfl (w_lit_vM eInt [_, _, _] rfl el_31 rfl rfl rfl rfl rfl ?_)
      refine aops_cons rfl (w_callM0 rfl rfl rfl cl_61 (.cons (by repeat (first | exact Pick.here _ _ _ | apply Pick.next)) (.nil _)) (c_spec_l1Cur_among _ _ hb _ _ (by omega) (by omega) _ (by first | (simp; done) | (simp; omega)) (0) 100 (by first | (intro x hx; simp only [List.mem_cons, List.not_mem_nil, or_false] at hx; omega) | (intro x hx; have hx := List.mem_of_mem_take hx; simp only [List.mem_cons, List.not_mem_nil, or_false] at hx; omega))) trivial ?_)
      rintro _ _ ⟨m3, a3, s3, rfl, hm3, ha3, hc3, rfl⟩
      (try simp only [List.length_map] at hm3)
      refine aops_cons rfl (w_pure rfl (p_move rfl) ?_)
      refine aops_cons rfl (w_lit_vM eInt [_, _, _] rfl el_31 rfl rfl rfl rfl rfl ?_)
      refine aops_cons rfl (w_callM0 rfl rfl rfl cl_61 (.cons (by repeat (first | exact Pick.here _ _ _ | apply Pick.next)) (.nil _)) (c_spec_l1Cur_among _ _ hb _ _ (by omega) (by omega) _ (by first | (simp; done) | (simp; omega)) (0) 11 (by first | (intro x hx; simp only [List.mem_cons, List.not_mem_nil, or_false] at hx; omega) | (intro x hx; have hx := List.mem_of_mem_take hx; simp only [List.mem_cons, List.not_mem_nil, or_false] at hx; omega))) trivial ?_)
      rintro _ _ ⟨m4, a4, s4, rfl, hm4, ha4, hc4, rfl⟩
      (try simp only [List.length_map] at hm4)
      refine aops_cons rfl (w_pure rfl (p_move rfl) ?_)
      refine aops_cons rfl (w_lit_vM eInt [_, _, _] rfl el_31 rfl rfl rfl rfl rfl ?_)
      refine aops_cons rfl (w_callM0 rfl rfl rfl cl_61 (.cons (by repeat (first | exact Pick.here _ _ _ | apply Pick.next)) (.nil _)) (c_spec_l1Cur_among _ _ hb _ _ (by omega) (by omega) _ (by first | (simp; done) | (simp; omega)) (-101) 201 (by first | (intro x hx; simp only [List.mem_cons, List.not_mem_nil, or_false] at hx; omega) | (intro x hx; have hx := List.mem_of_mem_take hx; simp only [List.mem_cons, List.not_mem_nil, or_false] at hx; omega))) trivial ?_)
      rintro _ _ ⟨m5, a5, s5, rfl, hm5, ha5, hc5, rfl⟩
      (try simp only [List.length_map] at hm5)
      refine aops_cons rfl (w_pure rfl (p_build (cells := [_, _, _, _, _]) z_56 pl_56 rfl rfl) ?_)
      refine aops_cons rfl (w_pure rfl (p_index_own0 0 rfl rfl rfl (by omega) es_24) ?_)
      refine aops_cons rfl (w_store_eM eVcpu ⟨_, _, _, _, _⟩ rfl rfl rfl (by repeat (first | exact Pick.here _ _ _ | apply Pick.next)) (by omega) cn_56 (by rfl) (by rfl) (by rfl) trivial ?_)
      refine aops_nil ?_
      refine a_seq ?_
      refine a_region ?_
      refine aops_cons rfl (w_pure rfl (p_move rfl) ?_)
      refine aops_cons rfl (w_pure rfl (p_assign rfl) ?_)
      refine aops_nil ?_
      refine a_ret ?_
      refine ret_ok (hands1 rfl (.tmp rfl)) (st' := [(q, _), (b, _)]) (.cons (by repeat (first | exact Pick.here _ _ _ | apply Pick.next)) (.cons (by repeat (first | exact Pick.here _ _ _ | apply Pick.next)) (.nil _))) ?_
      first | exact ⟨_, [], _, _, rfl, (by simp), by omega, by omega, rfl⟩ | exact ⟨_, _, _, _, rfl, (by first | omega | (simp; omega)), by omega, by omega, rfl⟩ | exact ⟨_, xs.set 0 ⟨_, _, _, _, _⟩, _, _, by rw [List.length_set], (by rw [List.length_set]; omega), by omega, by omega, rfl⟩
    · (try simp only [Bool.not_eq_true', Bool.not_eq_false', Bool.not_eq_true, Bool.not_eq_false, decide_eq_true_eq, decide_eq_false_iff_not, List.length_map, List.length_range] at h6)
      refine a_seq ?_
      refine a_region ?_
      refine aops_cons rfl (w_pure rfl (p_eql rfl rfl) ?_)
      refine aops_cons rfl (w_pure rfl (p_assign rfl) ?_)
      refine aops_nil ?_
      first | refine a_cond_d rfl (fun h7 => ?_) (fun h8 => ?_) | refine a_cond_n rfl (fun h7 => ?_) (fun h8 => ?_) | refine a_cond_nb rfl (fun h7 => ?_) (fun h8 => ?_) | refine a_cond rfl (fun h7 => ?_) (fun h8 => ?_)
      · (try simp only [Bool.not_eq_true', Bool.not_eq_false', Bool.not_eq_true, Bool.not_eq_false, decide_eq_true_eq, decide_eq_false_iff_not, List.length_map, List.length_range] at h7)
        refine a_region ?_
        refine aops_cons rfl (w_pure rfl (p_move rfl) ?_)
        refine aops_cons rfl (w_pure rfl (p_move rfl) ?_)
        refine aops_cons rfl (w_callM0 rfl rfl rfl cl_59 (.cons (by repeat (first | exact Pick.here _ _ _ | apply Pick.next)) (.nil _)) (c_spec_l1Cur_one _ _ hb _ _ (by omega) (by omega) _ (by omega)) trivial ?_)
        rintro _ _ ⟨b3, a3, s3, rfl, ha3, hc3, rfl⟩
        skip
        refine aops_cons rfl (w_pure rfl (p_build (cells := [_, _, _, _, _]) z_56 pl_56 rfl rfl) ?_)
        refine aops_cons rfl (w_lit_vM eVcpu [⟨_, _, _, _, _⟩] rfl el_24 rfl rfl rfl rfl rfl ?_)
        refine aops_cons rfl (w_appendM eVcpu rfl el_24 rfl rfl (by repeat (first | exact Pick.here _ _ _ | apply Pick.next)) rfl (.sl _) (fun _ => rfl) (fun _ => rfl) (by simp; omega) (by simp; omega) trivial fun b5 => ?_)
        refine aops_cons rfl (w_pure rfl (p_assign rfl) ?_)
        refine aops_nil ?_
        refine a_seq ?_
        refine a_region ?_
        refine aops_cons rfl (w_pure rfl (p_move rfl) ?_)
        refine aops_cons rfl (w_pure rfl (p_assign rfl) ?_)
        refine aops_nil ?_
        refine a_ret ?_
        refine ret_ok (hands1 rfl (.tmp rfl)) (st' := [(q, _), (b5, _)]) (.cons (by repeat (first | exact Pick.here _ _ _ | apply Pick.next)) (.cons (by repeat (first | exact Pick.here _ _ _ | apply Pick.next)) (.nil _))) ?_
        first | exact ⟨_, [], _, _, rfl, (by simp), by omega, by omega, rfl⟩ | exact ⟨_, _, _, _, rfl, (by first | omega | (simp; omega)), by omega, by omega, rfl⟩ | exact ⟨_, xs.set 0 ⟨_, _, _, _, _⟩, _, _, by rw [List.length_set], (by rw [List.length_set]; omega), by omega, by omega, rfl⟩
      · (try simp only [Bool.not_eq_true', Bool.not_eq_false', Bool.not_eq_true, Bool.not_eq_false, decide_eq_true_eq, decide_eq_false_iff_not, List.length_map, List.length_range] at h8)
        refine a_seq ?_
        refine a_region ?_
        refine aops_cons rfl (w_pure rfl (p_eql rfl rfl) ?_)
        refine aops_cons rfl (w_pure rfl (p_assign rfl) ?_)
        refine aops_nil ?_
        first | refine a_cond_d rfl (fun h9 => ?_) (fun h10 => ?_) | refine a_cond_n rfl (fun h9 => ?_) (fun h10 => ?_) | refine a_cond_nb rfl (fun h9 => ?_) (fun h10 => ?_) | refine a_cond rfl (fun h9 => ?_) (fun h10 => ?_)
        · (try simp only [Bool.not_eq_true', Bool.not_eq_false', Bool.not_eq_true, Bool.not_eq_false, decide_eq_true_eq, decide_eq_false_iff_not, List.length_map, List.length_range] at h9)
          refine a_region ?_
          refine aops_cons rfl (w_litM eVcpu [] rfl el_24 rfl rfl rfl rfl rfl fun b6 => ?_)
          refine aops_cons rfl (w_pure rfl (p_assign rfl) ?_)
          refine aops_nil ?_
          refine a_seq ?_
          refine a_region ?_
          refine aops_cons rfl (w_pure rfl (p_move rfl) ?_)
          refine aops_cons rfl (w_pure rfl (p_assign rfl) ?_)
          refine aops_nil ?_
          refine a_ret ?_
          refine ret_ok (hands1 rfl (.tmp rfl)) (st' := [(q, _), (b6, _)]) (.cons (by repeat (first | exact Pick.here _ _ _ | apply Pick.next)) (.cons (by repeat (first | exact Pick.here _ _ _ | apply Pick.next)) (.nil _))) ?_
          first | exact ⟨_, [], _, _, rfl, (by simp), by omega, by omega, rfl⟩ | exact ⟨_, _, _, _, rfl, (by first | omega | (simp; omega)), by omega, by omega, rfl⟩ | exact ⟨_, xs.set 0 ⟨_, _, _, _, _⟩, _, _, by rw [List.length_set], (by rw [List.length_set]; omega), by omega, by omega, rfl⟩
        · (try simp only [Bool.not_eq_true', Bool.not_eq_false', Bool.not_eq_true, Bool.not_eq_false, decide_eq_true_eq, decide_eq_false_iff_not, List.length_map, List.length_range] at h10)
          refine a_skip ?_
          refine a_seq ?_
          refine a_region ?_
          refine aops_cons rfl (w_pure rfl (p_move rfl) ?_)
          refine aops_cons rfl (w_pure rfl (p_assign rfl) ?_)
          refine aops_nil ?_
          refine a_ret ?_
          refine ret_ok (hands1 rfl (.tmp rfl)) (st' := [(q, _), (b, _)]) (.cons (by repeat (first | exact Pick.here _ _ _ | apply Pick.next)) (.cons (by repeat (first | exact Pick.here _ _ _ | apply Pick.next)) (.nil _))) ?_
          first | exact ⟨_, [], _, _, rfl, (by simp), by omega, by omega, rfl⟩ | exact ⟨_, _, _, _, rfl, (by first | omega | (simp; omega)), by omega, by omega, rfl⟩ | exact ⟨_, xs.set 0 ⟨_, _, _, _, _⟩, _, _, by rw [List.length_set], (by rw [List.length_set]; omega), by omega, by omega, rfl⟩

theorem c_spec_l1Cur_hall (q : Nat) (bs : List Int) (hb : Bytes bs) (a s : Int) (h0 : 0 ≤ a) (h1 : a ≤ 999999840000)  : ACalls Try.prog 31 [.ptr q 0] [(q, curE bs a s)] (fun r st => ∃ (b1 : Nat) (b2 : Nat) (p : Hall) (a' : Int) (s' : Int), r = .agg [.own 5 b1 0 p.list.length, .own 1 b2 0 p.events.length] ∧ DrawnH p ∧ a ≤ a' ∧ a' ≤ a + 160 ∧ st = [(q, curE bs a' s'), (b1, .arr 56 5 (p.list.map eVcpu)), (b2, .arr 4 1 (p.events.map eBool))]) := by
  refine a_enter Try.func31 rfl rfl (fun w0 M0 => ?_)
  refine a_seq ?_
  refine a_region ?_
  refine aops_cons rfl (w_alloc rfl z_27 fun b1 => ?_)
  refine aops_nil ?_
  refine a_seq ?_
  refine a_region ?_
  refine aops_cons rfl (w_pure rfl (p_move rfl) ?_)
  refine aops_cons rfl (w_callM0 rfl rfl rfl cl_58 (.cons (by repeat (first | exact Pick.here _ _ _ | apply Pick.next)) (.nil _)) (c_spec_l1Cur_vcpus _ _ hb _ _ (by omega) (by omega) ) trivial ?_)
  rintro _ _ ⟨b2, xs1, a1, s1, rfl, hx1, ha1, hc1, rfl⟩
  skip
  refine aops_cons rfl (w_litM eBool [] rfl el_25 rfl rfl rfl rfl rfl fun b3 => ?_)
  refine aops_cons rfl (w_pure rfl (p_build (cells := [_, _]) z_27 pl_27 rfl rfl) ?_)
  refine aops_cons rfl (w_alloc rfl z_27 fun b4 => ?_)
  refine aops_cons rfl (w_store (cells' := [_, _]) rfl rfl rfl (by repeat (first | exact Pick.here _ _ _ | apply Pick.next)) cn_27 (by rfl) (by rfl) (by rfl) trivial ?_)
  refine aops_nil ?_
  refine a_seq ?_
  refine a_seq ?_
  refine a_region ?_
  refine aops_cons rfl (w_pure rfl (p_assign rfl) ?_)
  refine aops_nil ?_
  refine a_block ?_
  refine a_loop (ι := Nat × Nat × List Bool × Int × Int) (fun ⟨i, c, ys, ka, ks⟩ => ys.length = i ∧ i ≤ xs1.length ∧ a ≤ ka ∧ ka ≤ a + 140 + 2 * i) (fun ⟨i, c, ys, ka, ks⟩ => [(4, .int .i64 (i : Int))]) (fun ⟨i, c, ys, ka, ks⟩ => [(b1, .box [.nil, .nil]), (b4, .box [.own 5 b2 0 xs1.length, .own 1 c 0 ys.length]), (q, curE bs ka ks), (b2, .arr 56 5 (xs1.map eVcpu)), (c, .arr 4 1 (ys.map eBool))]) (fun ⟨i, c, ys, ka, ks⟩ => xs1.length - i) (0, b3, [], a1, s1) ⟨rfl, Nat.zero_le _, by omega, by omega⟩ (by repeat (first | exact Knows.nil | refine Knows.cons (by rfl) ?_)) (by repeat (first | exact Picks.nil _ | exact Pick.here _ _ _ | apply Pick.next | apply Picks.cons)) ?_
  rintro ⟨i, c, ys, ka, ks⟩ ⟨hj0, hj1, hj2, hj3⟩
  skip
  refine a_seq ?_
  refine a_seq ?_
  refine a_region ?_
  refine aops_cons rfl (w_pure rfl (p_move rfl) ?_)
  refine aops_cons rfl (w_pure rfl (p_field_box fo_27_0 rfl) ?_)
  refine aops_cons rfl (w_pure rfl (p_load_box ag_24 rfl (by repeat (first | exact Pick.here _ _ _ | apply Pick.next)) (by rfl) noX) ?_)
  refine aops_cons rfl (w_pure rfl (p_len sl_24 rfl rfl) ?_)
  refine aops_cons rfl (w_pure rfl (p_lss rfl rfl) ?_)
  refine aops_nil ?_
  first | refine a_cond_d rfl (fun h1 => ?_) (fun h2 => ?_) | refine a_cond_n rfl (fun h1 => ?_) (fun h2 => ?_) | refine a_cond_nb rfl (fun h1 => ?_) (fun h2 => ?_) | refine a_cond rfl (fun h1 => ?_) (fun h2 => ?_)
  · (try simp only [Bool.not_eq_true', Bool.not_eq_false', Bool.not_eq_true, Bool.not_eq_false, decide_eq_true_eq, decide_eq_false_iff_not, List.length_map, List.length_range] at h1)
    refine a_skip ?_
    refine a_seq ?_
    refine a_block ?_
    refine a_draw [q, c, b4] (by kernel_rfl) ?_
    show ADraw _ _ _ _ _ _ 17 _ _ _ _
    refine d_take 0 rfl (by kernel_rfl) (by kernel_rfl) (by kernel_rfl) rfl (p_field_box fo_27_1 rfl) ?_
    refine d_take 2 rfl (by kernel_rfl) (by kernel_rfl) (by kernel_rfl) rfl (p_field_box fo_27_0 rfl) ?_
    refine d_take 4 rfl (by kernel_rfl) (by kernel_rfl) (by kernel_rfl) rfl (p_move rfl) ?_
    refine draw_all [1, 3] (by kernel_rfl) (by simp) ?_
    refine all_cons rfl rfl ?_ ?_
    · skip
      refine w_pure rfl (p_load_box ag_25 rfl (by repeat (first | exact Pick.here _ _ _ | apply Pick.next)) (by rfl) noX) ?_
      refine draw_all [3] (by kernel_rfl) (by simp) ?_
      refine all_cons rfl rfl ?_ ?_
      · skip
        refine w_pure rfl (p_load_box ag_24 rfl (by repeat (first | exact Pick.here _ _ _ | apply Pick.next)) (by rfl) noX) ?_
        refine d_take 5 rfl (by kernel_rfl) (by kernel_rfl) (by kernel_rfl) rfl (p_index_own0 _ rfl rfl rfl (by omega) es_24) ?_
        refine d_take 6 rfl (by kernel_rfl) (by kernel_rfl) (by kernel_rfl) rfl (p_field_e fo_56_3 rfl) ?_
        refine draw_all [7] (by kernel_rfl) (by simp) ?_
        refine all_cons rfl rfl ?_ ?_
        · skip
          refine w_pure rfl (p_load_e ag_4 rfl (by repeat (first | exact Pick.here _ _ _ | apply Pick.next)) (rowD _ _ zVcpu (by omega)) (by rfl) noX) ?_
          refine d_take 8 rfl (by kernel_rfl) (by kernel_rfl) (by kernel_rfl) rfl (p_not rfl) ?_
          refine d_take 9 rfl (by kernel_rfl) (by kernel_rfl) (by kernel_rfl) rfl (p_move rfl) ?_
          first | refine d_split_d 25 rfl (fun h3 => ?_) (fun h4 => ?_) | refine draw_split 25 rfl (fun h3 => ?_) (fun h4 => ?_)
          · (try simp only [Bool.not_eq_true', Bool.not_eq_false', Bool.not_eq_true, Bool.not_eq_false, decide_eq_true_eq, decide_eq_false_iff_not, List.length_map, List.length_range] at h3)
            refine d_take_t 10 rfl (by kernel_rfl) (by kernel_rfl) (by kernel_rfl) rfl rfl rfl (p_move rfl) ?_
            refine draw_all [11] (by kernel_rfl) (by simp) ?_
            refine all_cons_t rfl rfl rfl rfl ?_ ?_
            · skip
              refine w_callM0 rfl rfl rfl cl_59 (.cons (by repeat (first | exact Pick.here _ _ _ | apply Pick.next)) (.nil _)) (c_spec_l1Cur_one _ _ hb _ _ (by omega) (by omega) _ (by omega)) (by first | (simp [InTs, keys]; done) | trivial) ?_
              rintro _ _ ⟨b2, a2, s2, rfl, ha2, hc2, rfl⟩
              skip
              refine d_take 12 rfl (by kernel_rfl) (by kernel_rfl) (by kernel_rfl) rfl (p_pick_t rfl rfl) ?_
              refine draw_all [13] (by kernel_rfl) (by simp) ?_
              refine all_cons rfl rfl ?_ ?_
              · skip
                refine w_lit_vM eBool [_] rfl el_25 rfl rfl rfl rfl rfl ?_
                refine draw_all [14] (by kernel_rfl) (by simp) ?_
                refine all_cons rfl rfl ?_ ?_
                · skip
                  refine w_appendM eBool rfl el_25 rfl rfl (by repeat (first | exact Pick.here _ _ _ | apply Pick.next)) rfl (.sl _) (fun _ => rfl) (fun _ => rfl) (by simp; omega) (by simp; omega) (by first | (refine .inl ?_; simp; done) | (refine .inr ?_; simp [keys]; done)) fun b5 => ?_
                  refine d_take 15 rfl (by kernel_rfl) (by kernel_rfl) (by kernel_rfl) rfl (p_field_box fo_27_1 rfl) ?_
                  refine draw_all [16] (by kernel_rfl) (by simp) ?_
                  refine all_cons rfl rfl ?_ ?_
                  · skip
                    refine w_store (cells' := [_, _]) rfl rfl rfl (by repeat (first | exact Pick.here _ _ _ | apply Pick.next)) cn_25 (by rfl) (by rfl) (by rfl) (by first | (refine .inl ?_; simp; done) | (refine .inr ?_; simp [keys]; done)) ?_
                    refine draw_done (by kernel_rfl) ?_
                    refine a_region ?_
                    refine aops_cons rfl (w_pure rfl (p_move rfl) ?_)
                    refine aops_cons rfl (w_pure rfl (p_add' rfl rfl ⟨by omega, by omega⟩) ?_)
                    refine aops_cons rfl (w_pure rfl (p_assign rfl) ?_)
                    refine aops_nil ?_
                    refine ⟨(i + 1, _, _, _, _), _, ?_, ?_, (by repeat (first | exact Knows.nil | refine Knows.cons (by rfl) ?_)), (by repeat (first | exact Back.refl _ _ | refine Back.cons (by rfl) ?_)), (by repeat (first | exact Picks.nil _ | exact Pick.here _ _ _ | apply Pick.next | apply Picks.cons))⟩
                    · refine ⟨by simp; omega, by omega, by omega, by omega⟩
                    · (try dsimp only); omega
                  exact all_nil
                exact all_nil
              exact all_nil
            exact all_nil
          · (try simp only [Bool.not_eq_true', Bool.not_eq_false', Bool.not_eq_true, Bool.not_eq_false, decide_eq_true_eq, decide_eq_false_iff_not, List.length_map, List.length_range] at h4)
            refine d_pass' 10 rfl (by kernel_rfl) (by kernel_rfl) (by kernel_rfl) rfl rfl rfl ?_
            refine d_pass' 11 rfl (by kernel_rfl) (by kernel_rfl) (by kernel_rfl) rfl rfl rfl ?_
            refine d_take 12 rfl (by kernel_rfl) (by kernel_rfl) (by kernel_rfl) rfl (p_pick_f rfl rfl) ?_
            refine draw_all [13] (by kernel_rfl) (by simp) ?_
            refine all_cons rfl rfl ?_ ?_
            · skip
              refine w_lit_vM eBool [_] rfl el_25 rfl rfl rfl rfl rfl ?_
              refine draw_all [14] (by kernel_rfl) (by simp) ?_
              refine all_cons rfl rfl ?_ ?_
              · skip
                refine w_appendM eBool rfl el_25 rfl rfl (by repeat (first | exact Pick.here _ _ _ | apply Pick.next)) rfl (.sl _) (fun _ => rfl) (fun _ => rfl) (by simp; omega) (by simp; omega) (by first | (refine .inl ?_; simp; done) | (refine .inr ?_; simp [keys]; done)) fun b6 => ?_
                refine d_take 15 rfl (by kernel_rfl) (by kernel_rfl) (by kernel_rfl) rfl (p_field_box fo_27_1 rfl) ?_
                refine draw_all [16] (by kernel_rfl) (by simp) ?_
                refine all_cons rfl rfl ?_ ?_
                · skip
                  refine w_store (cells' := [_, _]) rfl rfl rfl (by repeat (first | exact Pick.here _ _ _ | apply Pick.next)) cn_25 (by rfl) (by rfl) (by rfl) (by first | (refine .inl ?_; simp; done) | (refine .inr ?_; simp [keys]; done)) ?_
                  refine draw_done (by kernel_rfl) ?_
                  refine a_region ?_
                  refine aops_cons rfl (w_pure rfl (p_move rfl) ?_)
                  refine aops_cons rfl (w_pure rfl (p_add' rfl rfl ⟨by omega, by omega⟩) ?_)
                  refine aops_cons rfl (w_pure rfl (p_assign rfl) ?_)
                  refine aops_nil ?_
                  refine ⟨(i + 1, _, _, _, _), _, ?_, ?_, (by repeat (first | exact Knows.nil | refine Knows.cons (by rfl) ?_)), (by repeat (first | exact Back.refl _ _ | refine Back.cons (by rfl) ?_)), (by repeat (first | exact Picks.nil _ | exact Pick.here _ _ _ | apply Pick.next | apply Picks.cons))⟩
                  · refine ⟨by simp; omega, by omega, by omega, by omega⟩
                  · (try dsimp only); omega
                exact all_nil
              exact all_nil
            exact all_nil
        exact all_nil
      exact all_nil
    refine all_cons rfl rfl ?_ ?_
    · skip
      refine w_pure rfl (p_load_box ag_24 rfl (by repeat (first | exact Pick.here _ _ _ | apply Pick.next)) (by rfl) noX) ?_
      refine d_take 5 rfl (by kernel_rfl) (by kernel_rfl) (by kernel_rfl) rfl (p_index_own0 _ rfl rfl rfl (by omega) es_24) ?_
      refine d_take 6 rfl (by kernel_rfl) (by kernel_rfl) (by kernel_rfl) rfl (p_field_e fo_56_3 rfl) ?_
      refine draw_all [1, 7] (by kernel_rfl) (by simp) ?_
      refine all_cons rfl rfl ?_ ?_
      · skip
        refine w_pure rfl (p_load_box ag_25 rfl (by repeat (first | exact Pick.here _ _ _ | apply Pick.next)) (by rfl) noX) ?_
        refine draw_all [7] (by kernel_rfl) (by simp) ?_
        refine all_cons rfl rfl ?_ ?_
        · skip
          refine w_pure rfl (p_load_e ag_4 rfl (by repeat (first | exact Pick.here _ _ _ | apply Pick.next)) (rowD _ _ zVcpu (by omega)) (by rfl) noX) ?_
          refine d_take 8 rfl (by kernel_rfl) (by kernel_rfl) (by kernel_rfl) rfl (p_not rfl) ?_
          refine d_take 9 rfl (by kernel_rfl) (by kernel_rfl) (by kernel_rfl) rfl (p_move rfl) ?_
          first | refine d_split_d 25 rfl (fun h5 => ?_) (fun h6 => ?_) | refine draw_split 25 rfl (fun h5 => ?_) (fun h6 => ?_)
          · (try simp only [Bool.not_eq_true', Bool.not_eq_false', Bool.not_eq_true, Bool.not_eq_false, decide_eq_true_eq, decide_eq_false_iff_not, List.length_map, List.length_range] at h5)
            refine d_take_t 10 rfl (by kernel_rfl) (by kernel_rfl) (by kernel_rfl) rfl rfl rfl (p_move rfl) ?_
            refine draw_all [11] (by kernel_rfl) (by simp) ?_
            refine all_cons_t rfl rfl rfl rfl ?_ ?_
            · skip
              refine w_callM0 rfl rfl rfl cl_59 (.cons (by repeat (first | exact Pick.here _ _ _ | apply Pick.next)) (.nil _)) (c_spec_l1Cur_one _ _ hb _ _ (by omega) (by omega) _ (by omega)) (by first | (simp [InTs, keys]; done) | trivial) ?_
              rintro _ _ ⟨b2, a2, s2, rfl, ha2, hc2, rfl⟩
              skip
              refine d_take 12 rfl (by kernel_rfl) (by kernel_rfl) (by kernel_rfl) rfl (p_pick_t rfl rfl) ?_
              refine draw_all [13] (by kernel_rfl) (by simp) ?_
              refine all_cons rfl rfl ?_ ?_
              · skip
                refine w_lit_vM eBool [_] rfl el_25 rfl rfl rfl rfl rfl ?_
                refine draw_all [14] (by kernel_rfl) (by simp) ?_
                refine all_cons rfl rfl ?_ ?_
                · skip
                  refine w_appendM eBool rfl el_25 rfl rfl (by repeat (first | exact Pick.here _ _ _ | apply Pick.next)) rfl (.sl _) (fun _ => rfl) (fun _ => rfl) (by simp; omega) (by simp; omega) (by first | (refine .inl ?_; simp; done) | (refine .inr ?_; simp [keys]; done)) fun b7 => ?_
                  refine d_take 15 rfl (by kernel_rfl) (by kernel_rfl) (by kernel_rfl) rfl (p_field_box fo_27_1 rfl) ?_
                  refine draw_all [16] (by kernel_rfl) (by simp) ?_
                  refine all_cons rfl rfl ?_ ?_
                  · skip
                    refine w_store (cells' := [_, _]) rfl rfl rfl (by repeat (first | exact Pick.here _ _ _ | apply Pick.next)) cn_25 (by rfl) (by rfl) (by rfl) (by first | (refine .inl ?_; simp; done) | (refine .inr ?_; simp [keys]; done)) ?_
                    refine draw_done (by kernel_rfl) ?_
                    refine a_region ?_
                    refine aops_cons rfl (w_pure rfl (p_move rfl) ?_)
                    refine aops_cons rfl (w_pure rfl (p_add' rfl rfl ⟨by omega, by omega⟩) ?_)
                    refine aops_cons rfl (w_pure rfl (p_assign rfl) ?_)
                    refine aops_nil ?_
                    refine ⟨(i + 1, _, _, _, _), _, ?_, ?_, (by repeat (first | exact Knows.nil | refine Knows.cons (by rfl) ?_)), (by repeat (first | exact Back.refl _ _ | refine Back.cons (by rfl) ?_)), (by repeat (first | exact Picks.nil _ | exact Pick.here _ _ _ | apply Pick.next | apply Picks.cons))⟩
                    · refine ⟨by simp; omega, by omega, by omega, by omega⟩
                    · (try dsimp only); omega
                  exact all_nil
                exact all_nil
              exact all_nil
            exact all_nil
          · (try simp only [Bool.not_eq_true', Bool.not_eq_false', Bool.not_eq_true, Bool.not_eq_false, decide_eq_true_eq, decide_eq_false_iff_not, List.length_map, List.length_range] at h6)
            refine d_pass' 10 rfl (by kernel_rfl) (by kernel_rfl) (by kernel_rfl) rfl rfl rfl ?_
            refine d_pass' 11 rfl (by kernel_rfl) (by kernel_rfl) (by kernel_rfl) rfl rfl rfl ?_
            refine d_take 12 rfl (by kernel_rfl) (by kernel_rfl) (by kernel_rfl) rfl (p_pick_f rfl rfl) ?_
            refine draw_all [13] (by kernel_rfl) (by simp) ?_
            refine all_cons rfl rfl ?_ ?_
            · skip
              refine w_lit_vM eBool [_] rfl el_25 rfl rfl rfl rfl rfl ?_
              refine draw_all [14] (by kernel_rfl) (by simp) ?_
              refine all_cons rfl rfl ?_ ?_
              · skip
                refine w_appendM eBool rfl el_25 rfl rfl (by repeat (first | exact Pick.here _ _ _ | apply Pick.next)) rfl (.sl _) (fun _ => rfl) (fun _ => rfl) (by simp; omega) (by simp; omega) (by first | (refine .inl ?_; simp; done) | (refine .inr ?_; simp [keys]; done)) fun b8 => ?_
                refine d_take 15 rfl (by kernel_rfl) (by kernel_rfl) (by kernel_rfl) rfl (p_field_box fo_27_1 rfl) ?_
                refine draw_all [16] (by kernel_rfl) (by simp) ?_
                refine all_cons rfl rfl ?_ ?_
                · skip
                  refine w_store (cells' := [_, _]) rfl rfl rfl (by repeat (first | exact Pick.here _ _ _ | apply Pick.next)) cn_25 (by rfl) (by rfl) (by rfl) (by first | (refine .inl ?_; simp; done) | (refine .inr ?_; simp [keys]; done)) ?_
                  refine draw_done (by kernel_rfl) ?_
                  refine a_region ?_
                  refine aops_cons rfl (w_pure rfl (p_move rfl) ?_)
                  refine aops_cons rfl (w_pure rfl (p_add' rfl rfl ⟨by omega, by omega⟩) ?_)
                  refine aops_cons rfl (w_pure rfl (p_assign rfl) ?_)
                  refine aops_nil ?_
                  refine ⟨(i + 1, _, _, _, _), _, ?_, ?_, (by repeat (first | exact Knows.nil | refine Knows.cons (by rfl) ?_)), (by repeat (first | exact Back.refl _ _ | refine Back.cons (by rfl) ?_)), (by repeat (first | exact Picks.nil _ | exact Pick.here _ _ _ | apply Pick.next | apply Picks.cons))⟩
                  · refine ⟨by simp; omega, by omega, by omega, by omega⟩
                  · (try dsimp only); omega
                exact all_nil
              exact all_nil
            exact all_nil
        exact all_nil
      refine all_cons rfl rfl ?_ ?_
      · skip
        refine w_pure rfl (p_load_e ag_4 rfl (by repeat (first | exact Pick.here _ _ _ | apply Pick.next)) (rowD _ _ zVcpu (by omega)) (by rfl) noX) ?_
        refine d_take 8 rfl (by kernel_rfl) (by kernel_rfl) (by kernel_rfl) rfl (p_not rfl) ?_
        refine d_take 9 rfl (by kernel_rfl) (by kernel_rfl) (by kernel_rfl) rfl (p_move rfl) ?_
        first | refine d_split_d 25 rfl (fun h7 => ?_) (fun h8 => ?_) | refine draw_split 25 rfl (fun h7 => ?_) (fun h8 => ?_)
        · (try simp only [Bool.not_eq_true', Bool.not_eq_false', Bool.not_eq_true, Bool.not_eq_false, decide_eq_true_eq, decide_eq_false_iff_not, List.length_map, List.length_range] at h7)
          refine d_take_t 10 rfl (by kernel_rfl) (by kernel_rfl) (by kernel_rfl) rfl rfl rfl (p_move rfl) ?_
          refine draw_all [1, 11] (by kernel_rfl) (by simp) ?_
          refine all_cons rfl rfl ?_ ?_
          · skip
            refine w_pure rfl (p_load_box ag_25 rfl (by repeat (first | exact Pick.here _ _ _ | apply Pick.next)) (by rfl) noX) ?_
            refine draw_all [11] (by kernel_rfl) (by simp) ?_
            refine all_cons_t rfl rfl rfl rfl ?_ ?_
            · skip
              refine w_callM0 rfl rfl rfl cl_59 (.cons (by repeat (first | exact Pick.here _ _ _ | apply Pick.next)) (.nil _)) (c_spec_l1Cur_one _ _ hb _ _ (by omega) (by omega) _ (by omega)) (by first | (simp [InTs, keys]; done) | trivial) ?_
              rintro _ _ ⟨b2, a2, s2, rfl, ha2, hc2, rfl⟩
              skip
              refine d_take 12 rfl (by kernel_rfl) (by kernel_rfl) (by kernel_rfl) rfl (p_pick_t rfl rfl) ?_
              refine draw_all [13] (by kernel_rfl) (by simp) ?_
              refine all_cons rfl rfl ?_ ?_
              · skip
                refine w_lit_vM eBool [_] rfl el_25 rfl rfl rfl rfl rfl ?_
                refine draw_all [14] (by kernel_rfl) (by simp) ?_
                refine all_cons rfl rfl ?_ ?_
                · skip
                  refine w_appendM eBool rfl el_25 rfl rfl (by repeat (first | exact Pick.here _ _ _ | apply Pick.next)) rfl (.sl _) (fun _ => rfl) (fun _ => rfl) (by simp; omega) (by simp; omega) (by first | (refine .inl ?_; simp; done) | (refine .inr ?_; simp [keys]; done)) fun b9 => ?_
                  refine d_take 15 rfl (by kernel_rfl) (by kernel_rfl) (by kernel_rfl) rfl (p_field_box fo_27_1 rfl) ?_
                  refine draw_all [16] (by kernel_rfl) (by simp) ?_
                  refine all_cons rfl rfl ?_ ?_
                  · skip
                    refine w_store (cells' := [_, _]) rfl rfl rfl (by repeat (first | exact Pick.here _ _ _ | apply Pick.next)) cn_25 (by rfl) (by rfl) (by rfl) (by first | (refine .inl ?_; simp; done) | (refine .inr ?_; simp [keys]; done)) ?_
                    refine draw_done (by kernel_rfl) ?_
                    refine a_region ?_
                    refine aops_cons rfl (w_pure rfl (p_move rfl) ?_)
                    refine aops_cons rfl (w_pure rfl (p_add' rfl rfl ⟨by omega, by omega⟩) ?_)
                    refine aops_cons rfl (w_pure rfl (p_assign rfl) ?_)
                    refine aops_nil ?_
                    refine ⟨(i + 1, _, _, _, _), _, ?_, ?_, (by repeat (first | exact Knows.nil | refine Knows.cons (by rfl) ?_)), (by repeat (first | exact Back.refl _ _ | refine Back.cons (by rfl) ?_)), (by repeat (first | exact Picks.nil _ | exact Pick.here _ _ _ | apply Pick.next | apply Picks.cons))⟩
                    · refine ⟨by simp; omega, by omega, by omega, by omega⟩
                    · (try dsimp only); omega
                  exact all_nil
                exact all_nil
              exact all_nil
            exact all_nil
          refine all_cons_t rfl rfl rfl rfl ?_ ?_
          · skip
            refine w_callM0 rfl rfl rfl cl_59 (.cons (by repeat (first | exact Pick.here _ _ _ | apply Pick.next)) (.nil _)) (c_spec_l1Cur_one _ _ hb _ _ (by omega) (by omega) _ (by omega)) (by first | (simp [InTs, keys]; done) | trivial) ?_
            rintro _ _ ⟨b2, a2, s2, rfl, ha2, hc2, rfl⟩
            skip
            refine d_take 12 rfl (by kernel_rfl) (by kernel_rfl) (by kernel_rfl) rfl (p_pick_t rfl rfl) ?_
            refine draw_all [1, 13] (by kernel_rfl) (by simp) ?_
            refine all_cons rfl rfl ?_ ?_
            · skip
              refine w_pure rfl (p_load_box ag_25 rfl (by repeat (first | exact Pick.here _ _ _ | apply Pick.next)) (by rfl) noX) ?_
              refine draw_all [13] (by kernel_rfl) (by simp) ?_
              refine all_cons rfl rfl ?_ ?_
              · skip
                refine w_lit_vM eBool [_] rfl el_25 rfl rfl rfl rfl rfl ?_
                refine draw_all [14] (by kernel_rfl) (by simp) ?_
                refine all_cons rfl rfl ?_ ?_
                · skip
                  refine w_appendM eBool rfl el_25 rfl rfl (by repeat (first | exact Pick.here _ _ _ | apply Pick.next)) rfl (.sl _) (fun _ => rfl) (fun _ => rfl) (by simp; omega) (by simp; omega) (by first | (refine .inl ?_; simp; done) | (refine .inr ?_; simp [keys]; done)) fun b10 => ?_
                  refine d_take 15 rfl (by kernel_rfl) (by kernel_rfl) (by kernel_rfl) rfl (p_field_box fo_27_1 rfl) ?_
                  refine draw_all [16] (by kernel_rfl) (by simp) ?_
                  refine all_cons rfl rfl ?_ ?_
                  · skip
                    refine w_store (cells' := [_, _]) rfl rfl rfl (by repeat (first | exact Pick.here _ _ _ | apply Pick.next)) cn_25 (by rfl) (by rfl) (by rfl) (by first | (refine .inl ?_; simp; done) | (refine .inr ?_; simp [keys]; done)) ?_
                    refine draw_done (by kernel_rfl) ?_
                    refine a_region ?_
                    refine aops_cons rfl (w_pure rfl (p_move rfl) ?_)
                    refine aops_cons rfl (w_pure rfl (p_add' rfl rfl ⟨by omega, by omega⟩) ?_)
                    refine aops_cons rfl (w_pure rfl (p_assign rfl) ?_)
                    refine aops_nil ?_
                    refine ⟨(i + 1, _, _, _, _), _, ?_, ?_, (by repeat (first | exact Knows.nil | refine Knows.cons (by rfl) ?_)), (by repeat (first | exact Back.refl _ _ | refine Back.cons (by rfl) ?_)), (by repeat (first | exact Picks.nil _ | exact Pick.here _ _ _ | apply Pick.next | apply Picks.cons))⟩
                    · refine ⟨by simp; omega, by omega, by omega, by omega⟩
                    · (try dsimp only); omega
                  exact all_nil
                exact all_nil
              exact all_nil
            refine all_cons rfl rfl ?_ ?_
            · skip
              refine w_lit_vM eBool [_] rfl el_25 rfl rfl rfl rfl rfl ?_
              refine draw_all [1] (by kernel_rfl) (by simp) ?_
              refine all_cons rfl rfl ?_ ?_
              · skip
                refine w_pure rfl (p_load_box ag_25 rfl (by repeat (first | exact Pick.here _ _ _ | apply Pick.next)) (by rfl) noX) ?_
                refine draw_all [14] (by kernel_rfl) (by simp) ?_
                refine all_cons rfl rfl ?_ ?_
                · skip
                  refine w_appendM eBool rfl el_25 rfl rfl (by repeat (first | exact Pick.here _ _ _ | apply Pick.next)) rfl (.sl _) (fun _ => rfl) (fun _ => rfl) (by simp; omega) (by simp; omega) (by first | (refine .inl ?_; simp; done) | (refine .inr ?_; simp [keys]; done)) fun b11 => ?_
                  refine d_take 15 rfl (by kernel_rfl) (by kernel_rfl) (by kernel_rfl) rfl (p_field_box fo_27_1 rfl) ?_
                  refine draw_all [16] (by kernel_rfl) (by simp) ?_
                  refine all_cons rfl rfl ?_ ?_
                  · skip
                    refine w_store (cells' := [_, _]) rfl rfl rfl (by repeat (first | exact Pick.here _ _ _ | apply Pick.next)) cn_25 (by rfl) (by rfl) (by rfl) (by first | (refine .inl ?_; simp; done) | (refine .inr ?_; simp [keys]; done)) ?_
                    refine draw_done (by kernel_rfl) ?_
                    refine a_region ?_
                    refine aops_cons rfl (w_pure rfl (p_move rfl) ?_)
                    refine aops_cons rfl (w_pure rfl (p_add' rfl rfl ⟨by omega, by omega⟩) ?_)
                    refine aops_cons rfl (w_pure rfl (p_assign rfl) ?_)
                    refine aops_nil ?_
                    refine ⟨(i + 1, _, _, _, _), _, ?_, ?_, (by repeat (first | exact Knows.nil | refine Knows.cons (by rfl) ?_)), (by repeat (first | exact Back.refl _ _ | refine Back.cons (by rfl) ?_)), (by repeat (first | exact Picks.nil _ | exact Pick.here _ _ _ | apply Pick.next | apply Picks.cons))⟩
                    · refine ⟨by simp; omega, by omega, by omega, by omega⟩
                    · (try dsimp only); omega
                  exact all_nil
                exact all_nil
              exact all_nil
            exact all_nil
          exact all_nil
        · (try simp only [Bool.not_eq_true', Bool.not_eq_false', Bool.not_eq_true, Bool.not_eq_false, decide_eq_true_eq, decide_eq_false_iff_not, List.length_map, List.length_range] at h8)
          refine d_pass' 10 rfl (by kernel_rfl) (by kernel_rfl) (by kernel_rfl) rfl rfl rfl ?_
          refine d_pass' 11 rfl (by kernel_rfl) (by kernel_rfl) (by kernel_rfl) rfl rfl rfl ?_
          refine d_take 12 rfl (by kernel_rfl) (by kernel_rfl) (by kernel_rfl) rfl (p_pick_f rfl rfl) ?_
          refine draw_all [1, 13] (by kernel_rfl) (by simp) ?_
          refine all_cons rfl rfl ?_ ?_
          · skip
            refine w_pure rfl (p_load_box ag_25 rfl (by repeat (first | exact Pick.here _ _ _ | apply Pick.next)) (by rfl) noX) ?_
            refine draw_all [13] (by kernel_rfl) (by simp) ?_
            refine all_cons rfl rfl ?_ ?_
            · skip
              refine w_lit_vM eBool [_] rfl el_25 rfl rfl rfl rfl rfl ?_
              refine draw_all [14] (by kernel_rfl) (by simp) ?_
              refine all_cons rfl rfl ?_ ?_
              · skip
                refine w_appendM eBool rfl el_25 rfl rfl (by repeat (first | exact Pick.here _ _ _ | apply Pick.next)) rfl (.sl _) (fun _ => rfl) (fun _ => rfl) (by simp; omega) (by simp; omega) (by first | (refine .inl ?_; simp; done) | (refine .inr ?_; simp [keys]; done)) fun b12 => ?_
                refine d_take 15 rfl (by kernel_rfl) (by kernel_rfl) (by kernel_rfl) rfl (p_field_box fo_27_1 rfl) ?_
                refine draw_all [16] (by kernel_rfl) (by simp) ?_
                refine all_cons rfl rfl ?_ ?_
                · skip
                  refine w_store (cells' := [_, _]) rfl rfl rfl (by repeat (first | exact Pick.here _ _ _ | apply Pick.next)) cn_25 (by rfl) (by rfl) (by rfl) (by first | (refine .inl ?_; simp; done) | (refine .inr ?_; simp [keys]; done)) ?_
                  refine draw_done (by kernel_rfl) ?_
                  refine a_region ?_
                  refine aops_cons rfl (w_pure rfl (p_move rfl) ?_)
                  refine aops_cons rfl (w_pure rfl (p_add' rfl rfl ⟨by omega, by omega⟩) ?_)
                  refine aops_cons rfl (w_pure rfl (p_assign rfl) ?_)
                  refine aops_nil ?_
                  refine ⟨(i + 1, _, _, _, _), _, ?_, ?_, (by repeat (first | exact Knows.nil | refine Knows.cons (by rfl) ?_)), (by repeat (first | exact Back.refl _ _ | refine Back.cons (by rfl) ?_)), (by repeat (first | exact Picks.nil _ | exact Pick.here _ _ _ | apply Pick.next | apply Picks.cons))⟩
                  · refine ⟨by simp; omega, by omega, by omega, by omega⟩
                  · (try dsimp only); omega
                exact all_nil
              exact all_nil
            exact all_nil
          refine all_cons rfl rfl ?_ ?_
          · skip
            refine w_lit_vM eBool [_] rfl el_25 rfl rfl rfl rfl rfl ?_
            refine draw_all [1] (by kernel_rfl) (by simp) ?_
            refine all_cons rfl rfl ?_ ?_
            · skip
              refine w_pure rfl (p_load_box ag_25 rfl (by repeat (first | exact Pick.here _ _ _ | apply Pick.next)) (by rfl) noX) ?_
              refine draw_all [14] (by kernel_rfl) (by simp) ?_
              refine all_cons rfl rfl ?_ ?_
              · skip
                refine w_appendM eBool rfl el_25 rfl rfl (by repeat (first | exact Pick.here _ _ _ | apply Pick.next)) rfl (.sl _) (fun _ => rfl) (fun _ => rfl) (by simp; omega) (by simp; omega) (by first | (refine .inl ?_; simp; done) | (refine .inr ?_; simp [keys]; done)) fun b13 => ?_
                refine d_take 15 rfl (by kernel_rfl) (by kernel_rfl) (by kernel_rfl) rfl (p_field_box fo_27_1 rfl) ?_
                refine draw_all [16] (by kernel_rfl) (by simp) ?_
                refine all_cons rfl rfl ?_ ?_
                · skip
                  refine w_store (cells' := [_, _]) rfl rfl rfl (by repeat (first | exact Pick.here _ _ _ | apply Pick.next)) cn_25 (by rfl) (by rfl) (by rfl) (by first | (refine .inl ?_; simp; done) | (refine .inr ?_; simp [keys]; done)) ?_
                  refine draw_done (by kernel_rfl) ?_
                  refine a_region ?_
                  refine aops_cons rfl (w_pure rfl (p_move rfl) ?_)
                  refine aops_cons rfl (w_pure rfl (p_add' rfl rfl ⟨by omega, by omega⟩) ?_)
                  refine aops_cons rfl (w_pure rfl (p_assign rfl) ?_)
                  refine aops_nil ?_
                  refine ⟨(i + 1, _, _, _, _), _, ?_, ?_, (by repeat (first | exact Knows.nil | refine Knows.cons (by rfl) ?_)), (by repeat (first | exact Back.refl _ _ | refine Back.cons (by rfl) ?_)), (by repeat (first | exact Picks.nil _ | exact Pick.here _ _ _ | apply Pick.next | apply Picks.cons))⟩
                  · refine ⟨by simp; omega, by omega, by omega, by omega⟩
                  · (try dsimp only); omega
                exact all_nil
              exact all_nil
            exact all_nil
          exact all_nil
      exact all_nil
    exact all_nil
  · (try simp only [Bool.not_eq_true', Bool.not_eq_false', Bool.not_eq_true, Bool.not_eq_false, decide_eq_true_eq, decide_eq_false_iff_not, List.length_map, List.length_range] at h2)
    refine a_exit ?_
    refine a_seq ?_
    refine a_seq ?_
    refine a_region ?_
    refine aops_cons rfl (w_pure rfl (p_move rfl) ?_)
    refine aops_cons rfl (w_callM0 rfl rfl rfl cl_60 (.cons (by repeat (first | exact Pick.here _ _ _ | apply Pick.next)) (.nil _)) (c_spec_l1Cur_pick _ _ hb _ _ (by omega) (by omega) _ (by first | omega | (simp; done) | (simp; omega))) trivial ?_)
    rintro _ _ ⟨m2, a2, s2, rfl, hm2, ha2, hc2, rfl⟩
    (try simp only [List.length_map] at hm2)
    refine aops_nil ?_
    refine a_block ?_
    refine a_seq ?_
    refine a_region ?_
    refine aops_cons rfl (w_pure rfl (p_eql rfl rfl) ?_)
    refine aops_cons rfl (w_pure rfl (p_assign rfl) ?_)
    refine aops_nil ?_
    first | refine a_cond_d rfl (fun h9 => ?_) (fun h10 => ?_) | refine a_cond_n rfl (fun h9 => ?_) (fun h10 => ?_) | refine a_cond_nb rfl (fun h9 => ?_) (fun h10 => ?_) | refine a_cond rfl (fun h9 => ?_) (fun h10 => ?_)
    · (try simp only [Bool.not_eq_true', Bool.not_eq_false', Bool.not_eq_true, Bool.not_eq_false, decide_eq_true_eq, decide_eq_false_iff_not, List.length_map, List.length_range] at h9)
      refine a_region ?_
      refine aops_cons rfl (w_pure rfl (p_field_box fo_27_1 rfl) ?_)
      refine aops_cons rfl (w_pure rfl (p_load_box ag_25 rfl (by repeat (first | exact Pick.here _ _ _ | apply Pick.next)) (by rfl) noX) ?_)
      refine aops_cons rfl (w_lit_vM eBool [_] rfl el_25 rfl rfl rfl rfl rfl ?_)
      refine aops_cons rfl (w_appendM eBool rfl el_25 rfl rfl (by repeat (first | exact Pick.here _ _ _ | apply Pick.next)) rfl (.sl _) (fun _ => rfl) (fun _ => rfl) (by simp; omega) (by simp; omega) trivial fun b14 => ?_)
      refine aops_cons rfl (w_pure rfl (p_field_box fo_27_1 rfl) ?_)
      refine aops_cons rfl (w_store (cells' := [_, _]) rfl rfl rfl (by repeat (first | exact Pick.here _ _ _ | apply Pick.next)) cn_25 (by rfl) (by rfl) (by rfl) trivial ?_)
      refine aops_nil ?_
      refine a_seq ?_
      refine a_region ?_
      refine aops_cons rfl (w_pure rfl (p_load_box_all ag_27 rfl (by repeat (first | exact Pick.here _ _ _ | apply Pick.next)) (by rfl) noX) ?_)
      refine aops_cons rfl (w_store (cells' := [_, _]) rfl rfl rfl (by repeat (first | exact Pick.here _ _ _ | apply Pick.next)) cn_27 (by rfl) (by rfl) (by rfl) trivial ?_)
      refine aops_nil ?_
      refine a_ret ?_
      refine ret_ok (hands1 rfl (.cell ag_27 rfl (by repeat (first | exact Pick.here _ _ _ | apply Pick.next)) (by rfl))) (st' := [(q, _), (b2, _), (b14, _)]) (.cons (by repeat (first | exact Pick.here _ _ _ | apply Pick.next)) (.cons (by repeat (first | exact Pick.here _ _ _ | apply Pick.next)) (.cons (by repeat (first | exact Pick.here _ _ _ | apply Pick.next)) (.nil _)))) ?_
      first | exact ⟨_, _, ⟨_, _⟩, _, _, rfl, (by unfold DrawnH; first | (dsimp only; omega) | (simp; omega)), by omega, by omega, rfl⟩ | exact ⟨_, _, ⟨_, ys.set 0 true⟩, _, _, (by dsimp only; rw [List.length_set]), (by unfold DrawnH; dsimp only; rw [List.length_set]; omega), by omega, by omega, rfl⟩
    · (try simp only [Bool.not_eq_true', Bool.not_eq_false', Bool.not_eq_true, Bool.not_eq_false, decide_eq_true_eq, decide_eq_false_iff_not, List.length_map, List.length_range] at h10)
      refine a_seq ?_
      refine a_region ?_
      refine aops_cons rfl (w_pure rfl (p_eql rfl rfl) ?_)
      refine aops_cons rfl (w_pure rfl (p_assign rfl) ?_)
      refine aops_nil ?_
      first | refine a_cond_d rfl (fun h11 => ?_) (fun h12 => ?_) | refine a_cond_n rfl (fun h11 => ?_) (fun h12 => ?_) | refine a_cond_nb rfl (fun h11 => ?_) (fun h12 => ?_) | refine a_cond rfl (fun h11 => ?_) (fun h12 => ?_)
      · (try simp only [Bool.not_eq_true', Bool.not_eq_false', Bool.not_eq_true, Bool.not_eq_false, decide_eq_true_eq, decide_eq_false_iff_not, List.length_map, List.length_range] at h11)
        refine a_seq ?_
        refine a_region ?_
        refine aops_cons rfl (w_pure rfl (p_field_box fo_27_1 rfl) ?_)
        refine aops_cons rfl (w_pure rfl (p_load_box ag_25 rfl (by repeat (first | exact Pick.here _ _ _ | apply Pick.next)) (by rfl) noX) ?_)
        refine aops_cons rfl (w_pure rfl (p_len sl_25 rfl rfl) ?_)
        refine aops_cons rfl (w_pure rfl (p_gtr rfl rfl) ?_)
        refine aops_nil ?_
        first | refine a_cond_d rfl (fun h13 => ?_) (fun h14 => ?_) | refine a_cond_n rfl (fun h13 => ?_) (fun h14 => ?_) | refine a_cond_nb rfl (fun h13 => ?_) (fun h14 => ?_) | refine a_cond rfl (fun h13 => ?_) (fun h14 => ?_)
        · (try simp only [Bool.not_eq_true', Bool.not_eq_false', Bool.not_eq_true, Bool.not_eq_false, decide_eq_true_eq, decide_eq_false_iff_not, List.length_map, List.length_range] at h13)
          refine a_region ?_
          refine aops_cons rfl (w_pure rfl (p_field_box fo_27_1 rfl) ?_)
          refine aops_cons rfl (w_pure rfl (p_load_box ag_25 rfl (by repeat (first | exact Pick.here _ _ _ | apply Pick.next)) (by rfl) noX) ?_)
          refine aops_cons rfl (w_pure rfl (p_index_own0 0 rfl rfl rfl (by omega) es_25) ?_)
          refine aops_cons rfl (w_store_eM eBool true rfl rfl rfl (by repeat (first | exact Pick.here _ _ _ | apply Pick.next)) (by omega) cn_4 (by rfl) (by rfl) (by rfl) trivial ?_)
          refine aops_nil ?_
          refine a_seq ?_
          refine a_region ?_
          refine aops_cons rfl (w_pure rfl (p_load_box_all ag_27 rfl (by repeat (first | exact Pick.here _ _ _ | apply Pick.next)) (by rfl) noX) ?_)
          refine aops_cons rfl (w_store (cells' := [_, _]) rfl rfl rfl (by repeat (first | exact Pick.here _ _ _ | apply Pick.next)) cn_27 (by rfl) (by rfl) (by rfl) trivial ?_)
          refine aops_nil ?_
          refine a_ret ?_
          refine ret_ok (hands1 rfl (.cell ag_27 rfl (by repeat (first | exact Pick.here _ _ _ | apply Pick.next)) (by rfl))) (st' := [(q, _), (b2, _), (c, _)]) (.cons (by repeat (first | exact Pick.here _ _ _ | apply Pick.next)) (.cons (by repeat (first | exact Pick.here _ _ _ | apply Pick.next)) (.cons (by repeat (first | exact Pick.here _ _ _ | apply Pick.next)) (.nil _)))) ?_
          first | exact ⟨_, _, ⟨_, _⟩, _, _, rfl, (by unfold DrawnH; first | (dsimp only; omega) | (simp; omega)), by omega, by omega, rfl⟩ | exact ⟨_, _, ⟨_, ys.set 0 true⟩, _, _, (by dsimp only; rw [List.length_set]), (by unfold DrawnH; dsimp only; rw [List.length_set]; omega), by omega, by omega, rfl⟩
        · (try simp only [Bool.not_eq_true', Bool.not_eq_false', Bool.not_eq_true, Bool.not_eq_false, decide_eq_true_eq, decide_eq_false_iff_not, List.length_map, List.length_range] at h14)
          refine a_skip ?_
          refine a_seq ?_
          refine a_region ?_
          refine aops_cons rfl (w_pure rfl (p_load_box_all ag_27 rfl (by repeat (first | exact Pick.here _ _ _ | apply Pick.next)) (by rfl) noX) ?_)
          refine aops_cons rfl (w_store (cells' := [_, _]) rfl rfl rfl (by repeat (first | exact Pick.here _ _ _ | apply Pick.next)) cn_27 (by rfl) (by rfl) (by rfl) trivial ?_)
          refine aops_nil ?_
          refine a_ret ?_
          refine ret_ok (hands1 rfl (.cell ag_27 rfl (by repeat (first | exact Pick.here _ _ _ | apply Pick.next)) (by rfl))) (st' := [(q, _), (b2, _), (c, _)]) (.cons (by repeat (first | exact Pick.here _ _ _ | apply Pick.next)) (.cons (by repeat (first | exact Pick.here _ _ _ | apply Pick.next)) (.cons (by repeat (first | exact Pick.here _ _ _ | apply Pick.next)) (.nil _)))) ?_
          first | exact ⟨_, _, ⟨_, _⟩, _, _, rfl, (by unfold DrawnH; first | (dsimp only; omega) | (simp; omega)), by omega, by omega, rfl⟩ | exact ⟨_, _, ⟨_, ys.set 0 true⟩, _, _, (by dsimp only; rw [List.length_set]), (by unfold DrawnH; dsimp only; rw [List.length_set]; omega), by omega, by omega, rfl⟩
      · (try simp only [Bool.not_eq_true', Bool.not_eq_false', Bool.not_eq_true, Bool.not_eq_false, decide_eq_true_eq, decide_eq_false_iff_not, List.length_map, List.length_range] at h12)
        refine a_skip ?_
        refine a_seq ?_
        refine a_region ?_
        refine aops_cons rfl (w_pure rfl (p_load_box_all ag_27 rfl (by repeat (first | exact Pick.here _ _ _ | apply Pick.next)) (by rfl) noX) ?_)
        refine aops_cons rfl (w_store (cells' := [_, _]) rfl rfl rfl (by repeat (first | exact Pick.here _ _ _ | apply Pick.next)) cn_27 (by rfl) (by rfl) (by rfl) trivial ?_)
        refine aops_nil ?_
        refine a_ret ?_
        refine ret_ok (hands1 rfl (.cell ag_27 rfl (by repeat (first | exact Pick.here _ _ _ | apply Pick.next)) (by rfl))) (st' := [(q, _), (b2, _), (c, _)]) (.cons (by repeat (first | exact Pick.here _ _ _ | apply Pick.next)) (.cons (by repeat (first | exact Pick.here _ _ _ | apply Pick.next)) (.cons (by repeat (first | exact Pick.here _ _ _ | apply Pick.next)) (.nil _)))) ?_
        first | exact ⟨_, _, ⟨_, _⟩, _, _, rfl, (by unfold DrawnH; first | (dsimp only; omega) | (simp; omega)), by omega, by omega, rfl⟩ | exact ⟨_, _, ⟨_, ys.set 0 true⟩, _, _, (by dsimp only; rw [List.length_set]), (by unfold DrawnH; dsimp only; rw [List.length_set]; omega), by omega, by omega, rfl⟩

theorem c_spec_l1Cur_vcpuOf (q : Nat) (bs : List Int) (hb : Bytes bs) (a s : Int) (h0 : 0 ≤ a) (h1 : a ≤ 999999992000) (p : Hall) (hp : DrawnH p) (c1 c2 : Nat) : ACalls Try.prog 44 [.ptr q 0, .agg [.own 5 c1 0 p.list.length, .own 1 c2 0 p.events.length]] [(q, curE bs a s), (c1, .arr 56 5 (p.list.map eVcpu)), (c2, .arr 4 1 (p.events.map eBool))] (fun r st => ∃ m a' s', r = .int .i64 m ∧ a ≤ a' ∧ a' ≤ a + 8 ∧ st = [(q, curE bs a' s'), (c1, .arr 56 5 (p.list.map eVcpu)), (c2, .arr 4 1 (p.events.map eBool))]) := by
  have hp1 := hp.1
  refine a_enter Try.func44 rfl rfl (fun w0 M0 => ?_)
  refine a_seq ?_
  refine a_region ?_
  refine aops_cons rfl (w_box_v rfl rfl rfl ?_)
  refine aops_cons rfl (w_pure rfl (p_assign rfl) ?_)
  refine aops_nil ?_
  refine a_seq ?_
  refine a_seq ?_
  refine a_region ?_
  refine aops_cons rfl (w_pure rfl (p_field_v fo_27_0 rfl) ?_)
  refine aops_cons rfl (w_pure rfl (p_load_v ag_24 rfl (by rfl) noX) ?_)
  refine aops_cons rfl (w_pure rfl (p_len sl_24 rfl rfl) ?_)
  refine aops_cons rfl (w_pure rfl (p_eql rfl rfl) ?_)
  refine aops_cons rfl (w_pure rfl (p_move rfl) ?_)
  first | refine aops_split_d 9 rfl (fun h1 => ?_) (fun h2 => ?_) | refine aops_split 9 rfl (fun h1 => ?_) (fun h2 => ?_)
  · (try simp only [Bool.not_eq_true', Bool.not_eq_false', Bool.not_eq_true, Bool.not_eq_false, decide_eq_true_eq, decide_eq_false_iff_not, List.length_map, List.length_range] at h1)
    refine g_pass' rfl rfl rfl rfl rfl ?_
    refine g_pass' rfl rfl rfl rfl rfl ?_
    refine aops_cons rfl (w_pure rfl (p_pick_t rfl rfl) ?_)
    refine aops_nil ?_
    refine a_cond_t rfl ?_
    refine a_seq ?_
    refine a_region ?_
    refine aops_cons rfl (w_pure rfl (p_move rfl) ?_)
    refine aops_cons rfl (w_lit_vM eInt [_, _, _] rfl el_31 rfl rfl rfl rfl rfl ?_)
    refine aops_cons rfl (w_callM0 rfl rfl rfl cl_61 (.cons (by repeat (first | exact Pick.here _ _ _ | apply Pick.next)) (.nil _)) (c_spec_l1Cur_among _ _ hb _ _ (by omega) (by omega) _ (by first | (simp; done) | (simp; omega)) (-1) 98 (by first | (intro x hx; simp only [List.mem_cons, List.not_mem_nil, or_false] at hx; omega) | (intro x hx; have hx := List.mem_of_mem_take hx; simp only [List.mem_cons, List.not_mem_nil, or_false] at hx; omega))) trivial ?_)
    rintro _ _ ⟨m1, a1, s1, rfl, hm1, ha1, hc1, rfl⟩
    (try simp only [List.length_map] at hm1)
    refine aops_cons rfl (w_pure rfl (p_assign rfl) ?_)
    refine aops_nil ?_
    refine a_ret ?_
    refine ret_ok (hands1 rfl (.tmp rfl)) (st' := [(q, _), (c1, _), (c2, _)]) (.cons (by repeat (first | exact Pick.here _ _ _ | apply Pick.next)) (.cons (by repeat (first | exact Pick.here _ _ _ | apply Pick.next)) (.cons (by repeat (first | exact Pick.here _ _ _ | apply Pick.next)) (.nil _)))) ?_
    exact ⟨_, _, _, rfl, by omega, by omega, rfl⟩
  · (try simp only [Bool.not_eq_true', Bool.not_eq_false', Bool.not_eq_true, Bool.not_eq_false, decide_eq_true_eq, decide_eq_false_iff_not, List.length_map, List.length_range] at h2)
    refine aops_guard_t rfl rfl rfl (w_pure rfl (p_move rfl) ?_)
    refine aops_guard_t rfl rfl rfl (w_callM0 rfl rfl rfl cl_59 (.cons (by repeat (first | exact Pick.here _ _ _ | apply Pick.next)) (.nil _)) (c_spec_l1Cur_one _ _ hb _ _ (by omega) (by omega) _ (by omega)) trivial ?_)
    rintro _ _ ⟨b1, a1, s1, rfl, ha1, hc1, rfl⟩
    skip
    refine aops_cons rfl (w_pure rfl (p_pick_f rfl rfl) ?_)
    refine aops_nil ?_
    first | refine a_cond_d rfl (fun h3 => ?_) (fun h4 => ?_) | refine a_cond_n rfl (fun h3 => ?_) (fun h4 => ?_) | refine a_cond_nb rfl (fun h3 => ?_) (fun h4 => ?_) | refine a_cond rfl (fun h3 => ?_) (fun h4 => ?_)
    · (try simp only [Bool.not_eq_true', Bool.not_eq_false', Bool.not_eq_true, Bool.not_eq_false, decide_eq_true_eq, decide_eq_false_iff_not, List.length_map, List.length_range] at h3)
      refine a_seq ?_
      refine a_region ?_
      refine aops_cons rfl (w_pure rfl (p_move rfl) ?_)
      refine aops_cons rfl (w_lit_vM eInt [_, _, _] rfl el_31 rfl rfl rfl rfl rfl ?_)
      refine aops_cons rfl (w_callM0 rfl rfl rfl cl_61 (.cons (by repeat (first | exact Pick.here _ _ _ | apply Pick.next)) (.nil _)) (c_spec_l1Cur_among _ _ hb _ _ (by omega) (by omega) _ (by first | (simp; done) | (simp; omega)) (-1) 98 (by first | (intro x hx; simp only [List.mem_cons, List.not_mem_nil, or_false] at hx; omega) | (intro x hx; have hx := List.mem_of_mem_take hx; simp only [List.mem_cons, List.not_mem_nil, or_false] at hx; omega))) trivial ?_)
      rintro _ _ ⟨m2, a2, s2, rfl, hm2, ha2, hc2, rfl⟩
      (try simp only [List.length_map] at hm2)
      refine aops_cons rfl (w_pure rfl (p_assign rfl) ?_)
      refine aops_nil ?_
      refine a_ret ?_
      refine ret_ok (hands1 rfl (.tmp rfl)) (st' := [(q, _), (c1, _), (c2, _)]) (.cons (by repeat (first | exact Pick.here _ _ _ | apply Pick.next)) (.cons (by repeat (first | exact Pick.here _ _ _ | apply Pick.next)) (.cons (by repeat (first | exact Pick.here _ _ _ | apply Pick.next)) (.nil _)))) ?_
      exact ⟨_, _, _, rfl, by omega, by omega, rfl⟩
    · (try simp only [Bool.not_eq_true', Bool.not_eq_false', Bool.not_eq_true, Bool.not_eq_false, decide_eq_true_eq, decide_eq_false_iff_not, List.length_map, List.length_range] at h4)
      refine a_skip ?_
      refine a_seq ?_
      refine a_draw [q] (by kernel_rfl) ?_
      show ADraw _ _ _ _ _ _ 11 _ _ _ _
      refine d_take 0 rfl (by kernel_rfl) (by kernel_rfl) (by kernel_rfl) rfl (p_field_v fo_27_0 rfl) ?_
      refine d_load 1 rfl (by kernel_rfl) (by kernel_rfl) (by kernel_rfl) rfl (p_load_v ag_24 rfl (by rfl) (by simp [keys])) ?_
      refine d_take 2 rfl (by kernel_rfl) (by kernel_rfl) (by kernel_rfl) rfl (p_move rfl) ?_
      refine d_take 3 rfl (by kernel_rfl) (by kernel_rfl) (by kernel_rfl) rfl (p_field_v fo_27_0 rfl) ?_
      refine d_load 4 rfl (by kernel_rfl) (by kernel_rfl) (by kernel_rfl) rfl (p_load_v ag_24 rfl (by rfl) (by simp [keys])) ?_
      refine d_take 5 rfl (by kernel_rfl) (by kernel_rfl) (by kernel_rfl) rfl (p_len sl_24 rfl rfl) ?_
      refine draw_all [6] (by kernel_rfl) (by simp) ?_
      refine all_cons rfl rfl ?_ ?_
      · skip
        refine w_callM0 rfl rfl rfl cl_60 (.cons (by repeat (first | exact Pick.here _ _ _ | apply Pick.next)) (.nil _)) (c_spec_l1Cur_pick _ _ hb _ _ (by omega) (by omega) _ (by first | omega | (simp; done) | (simp; omega))) (by first | (simp [InTs, keys]; done) | trivial) ?_
        rintro _ _ ⟨m2, a2, s2, rfl, hm2, ha2, hc2, rfl⟩
        (try simp only [List.length_map] at hm2)
        refine d_take 7 rfl (by kernel_rfl) (by kernel_rfl) (by kernel_rfl) rfl (p_index_own0 m2.toNat rfl rfl (by omega) (by omega) es_24) ?_
        refine d_take 8 rfl (by kernel_rfl) (by kernel_rfl) (by kernel_rfl) rfl (p_field_e fo_56_0 rfl) ?_
        refine draw_all [9] (by kernel_rfl) (by simp) ?_
        refine all_cons rfl rfl ?_ ?_
        · skip
          refine w_pure rfl (p_load_e ag_3 rfl (by repeat (first | exact Pick.here _ _ _ | apply Pick.next)) (rowD _ _ zVcpu (by omega)) (by rfl) noX) ?_
          refine d_take 10 rfl (by kernel_rfl) (by kernel_rfl) (by kernel_rfl) rfl (p_assign rfl) ?_
          refine draw_done (by kernel_rfl) ?_
          refine a_ret ?_
          refine ret_ok (hands1 rfl (.tmp rfl)) (st' := [(q, _), (c1, _), (c2, _)]) (.cons (by repeat (first | exact Pick.here _ _ _ | apply Pick.next)) (.cons (by repeat (first | exact Pick.here _ _ _ | apply Pick.next)) (.cons (by repeat (first | exact Pick.here _ _ _ | apply Pick.next)) (.nil _)))) ?_
          exact ⟨_, _, _, rfl, by omega, by omega, rfl⟩
        exact all_nil
      exact all_nil











theorem cv_impl_SignalVcpu (h : Hall) (hn : SmallHall h) (id : Int) : ACalls Try.prog 12 [.agg (eHall h), .int .i64 id] [] (Ret (.tup [.agg (eHall (pickH (GoodSig h id) (signalH h (hI h id)))), .bool (decide (GoodSig h id))])) := by
  by_cases hA : GoodSig h id
  · rw [pickH_y hA, decide_eq_true hA]
    exact cf_impl_SignalVcpu h hn id hA
  · rw [pickH_n hA, decide_eq_false hA]
    exact (cn_impl_SignalVcpu h hn id hA).freeze (by rintro _ _ ⟨rfl, rfl⟩; first | exact (.tup (.cons (.agg (.cons .nil (.cons .nil .nil))) (.cons (.refl _) .nil))) | exact (.tup (.cons (.agg (.cons .nil (.cons .nil .nil))) (.cons (.refl _) .nil))))

theorem cv_impl_WaitVcpu (h : Hall) (hn : SmallHall h) (id : Int) : ACalls Try.prog 11 [.agg (eHall h), .int .i64 id] [] (Ret (.tup [.agg (eHall (pickH (GoodHalt h id) (waitH h (hI h id)))), .bool (decide (GoodHalt h id))])) := by
  by_cases hA : GoodHalt h id
  · rw [pickH_y hA, decide_eq_true hA]
    exact cf_impl_WaitVcpu h hn id hA
  · rw [pickH_n hA, decide_eq_false hA]
    exact (cn_impl_WaitVcpu h hn id hA).freeze (by rintro _ _ ⟨rfl, rfl⟩; first | exact (.tup (.cons (.agg (.cons .nil (.cons .nil .nil))) (.cons (.refl _) .nil))) | exact (.tup (.cons (.agg (.cons .nil (.cons .nil .nil))) (.cons (.refl _) .nil))))

theorem cv_impl_TickHall (h : Hall) (hn : SmallHall h) : ACalls Try.prog 13 [.agg (eHall h)] [] (Ret (.tup [.agg (eHall (pickH (IsHall h) (tickH h).1)), .int .i64 (pickI (IsHall h) (tickH h).2), .bool (decide (IsHall h))])) := by
  by_cases hA : IsHall h
  · rw [pickH_y hA, pickI_y hA, decide_eq_true hA]
    exact cf_impl_TickHall h hn hA
  · rw [pickH_n hA, pickI_n hA, decide_eq_false hA]
    exact (cn_impl_TickHall h hn hA).freeze (by rintro _ _ ⟨rfl, rfl⟩; first | exact (.tup (.cons (.agg (.cons .nil (.cons .nil .nil))) (.cons (.refl _) (.cons (.refl _) .nil)))) | exact (.tup (.cons (.agg (.cons .nil (.cons .nil .nil))) (.cons (.refl _) (.cons (.refl _) .nil)))))

theorem cv_impl_EventIds (h : Hall) (hn : SmallHall h) : ACalls Try.prog 17 [.agg (eHall h)] [] (Ret (.tup [.sl ((pickL (IsHall h) (evtIds h)).map eInt), .bool (decide (IsHall h))])) := by
  by_cases hA : IsHall h
  · rw [pickL_y hA, decide_eq_true hA]
    exact cf_impl_EventIds h hn hA
  · rw [pickL_n hA, decide_eq_false hA]
    exact (cn_impl_EventIds h hn hA).freeze (by rintro _ _ ⟨rfl, rfl⟩; first | exact (.tup (.cons .nil (.cons (.refl _) .nil))) | exact (.tup (.cons (.refl _) (.cons (.refl _) .nil))))

theorem ct_impl_IsHall (h : Hall) (hn : SmallHall h) (hA : IsHall h) : ACalls Try.prog 39 [.agg (eHall h)] [] (Ret (.bool true)) := by
  have := c_impl_IsHall h hn
  rwa [decide_eq_true hA] at this

theorem eqs_56 : eqShape Try.prog 56 = some [true, true, true, false, false] := by kernel_rfl

theorem c_laws_vInts (xs : List Int) (hn : xs.length ≤ 1048576) : ACalls Try.prog 9 [.sl (xs.map eInt), .sl (xs.map eInt)] [] (Ret (.bool true)) := by
  refine a_enter Try.func9 rfl rfl (fun w0 M0 => ?_)
  refine a_seq ?_
  refine a_region ?_
  refine aops_cons rfl (w_pure rfl (p_assign rfl) ?_)
  refine aops_nil ?_
  refine a_seq ?_
  refine a_seq ?_
  refine a_region ?_
  refine aops_cons rfl (w_pure rfl (p_move rfl) ?_)
  refine aops_cons rfl (w_pure rfl (p_len sl_31 rfl rfl) ?_)
  refine aops_cons rfl (w_pure rfl (p_move rfl) ?_)
  refine aops_cons rfl (w_pure rfl (p_len sl_31 rfl rfl) ?_)
  refine aops_cons rfl (w_pure rfl (p_neq_same rfl rfl) ?_)
  refine aops_nil ?_
  refine a_cond_f rfl ?_
  refine a_skip ?_
  refine a_seq ?_
  refine a_seq ?_
  refine a_region ?_
  refine aops_cons rfl (w_pure rfl (p_assign rfl) ?_)
  refine aops_nil ?_
  refine a_block ?_
  refine a_loop (ι := Nat) (fun i => i ≤ xs.length) (fun i => [(5, .int .i64 (i : Int))]) (fun i => []) (fun i => xs.length - i) 0 (Nat.zero_le _) (by repeat (first | exact Knows.nil | refine Knows.cons (by rfl) ?_)) (by repeat (first | exact Picks.nil _ | exact Pick.here _ _ _ | apply Pick.next | apply Picks.cons)) ?_
  rintro i hi
  skip
  refine a_seq ?_
  refine a_seq ?_
  refine a_region ?_
  refine aops_cons rfl (w_pure rfl (p_move rfl) ?_)
  refine aops_cons rfl (w_pure rfl (p_move rfl) ?_)
  refine aops_cons rfl (w_pure rfl (p_len sl_31 rfl rfl) ?_)
  refine aops_cons rfl (w_pure rfl (p_lss rfl rfl) ?_)
  refine aops_nil ?_
  first | refine a_cond_d rfl (fun h1 => ?_) (fun h2 => ?_) | refine a_cond_n rfl (fun h1 => ?_) (fun h2 => ?_) | refine a_cond_nb rfl (fun h1 => ?_) (fun h2 => ?_) | refine a_cond rfl (fun h1 => ?_) (fun h2 => ?_)
  · (try simp only [Bool.not_eq_true', Bool.not_eq_false', Bool.not_eq_true, Bool.not_eq_false, decide_eq_true_eq, decide_eq_false_iff_not, List.length_map, List.length_range] at h1)
    refine a_skip ?_
    refine a_seq ?_
    refine a_block ?_
    refine a_seq ?_
    refine a_draw [] (by kernel_rfl) ?_
    show ADraw _ _ _ _ _ _ 9 _ _ _ _
    refine d_take 0 rfl (by kernel_rfl) (by kernel_rfl) (by kernel_rfl) rfl (p_move rfl) ?_
    refine d_take 1 rfl (by kernel_rfl) (by kernel_rfl) (by kernel_rfl) rfl (p_move rfl) ?_
    refine d_take 2 rfl (by kernel_rfl) (by kernel_rfl) (by kernel_rfl) rfl (p_index_sl _ rfl rfl rfl (rowD _ _ (0 : Int) (by omega)) es_31) ?_
    refine d_load 3 rfl (by kernel_rfl) (by kernel_rfl) (by kernel_rfl) rfl (p_load_v ag_3 rfl (by rfl) noX) ?_
    refine d_take 4 rfl (by kernel_rfl) (by kernel_rfl) (by kernel_rfl) rfl (p_move rfl) ?_
    refine d_take 5 rfl (by kernel_rfl) (by kernel_rfl) (by kernel_rfl) rfl (p_move rfl) ?_
    refine d_take 6 rfl (by kernel_rfl) (by kernel_rfl) (by kernel_rfl) rfl (p_index_sl _ rfl rfl rfl (rowD _ _ (0 : Int) (by omega)) es_31) ?_
    refine d_load 7 rfl (by kernel_rfl) (by kernel_rfl) (by kernel_rfl) rfl (p_load_v ag_3 rfl (by rfl) noX) ?_
    refine d_take 8 rfl (by kernel_rfl) (by kernel_rfl) (by kernel_rfl) rfl (p_neq_same rfl rfl) ?_
    refine draw_done (by kernel_rfl) ?_
    refine a_cond_f rfl ?_
    refine a_skip ?_
    refine a_region ?_
    refine aops_cons rfl (w_pure rfl (p_move rfl) ?_)
    refine aops_cons rfl (w_pure rfl (p_add' rfl rfl ⟨by omega, by omega⟩) ?_)
    refine aops_cons rfl (w_pure rfl (p_assign rfl) ?_)
    refine aops_nil ?_
    refine ⟨(i + 1), _, ?_, ?_, (by repeat (first | exact Knows.nil | refine Knows.cons (by rfl) ?_)), (by repeat (first | exact Back.refl _ _ | refine Back.cons (by rfl) ?_)), (by repeat (first | exact Picks.nil _ | exact Pick.here _ _ _ | apply Pick.next | apply Picks.cons))⟩
    · omega
    · (try dsimp only); omega
  · (try simp only [Bool.not_eq_true', Bool.not_eq_false', Bool.not_eq_true, Bool.not_eq_false, decide_eq_true_eq, decide_eq_false_iff_not, List.length_map, List.length_range] at h2)
    refine a_exit ?_
    refine a_seq ?_
    refine a_region ?_
    refine aops_cons rfl (w_pure rfl (p_assign rfl) ?_)
    refine aops_nil ?_
    refine a_ret ?_
    refine ret_ok (hands1 rfl (.tmp rfl)) (.nil _) ?_
    first | exact ⟨rfl, rfl⟩ | (exfalso; omega)

theorem c_laws_vBools (xs : List Bool) (hn : xs.length ≤ 1048576) : ACalls Try.prog 37 [.sl (xs.map eBool), .sl (xs.map eBool)] [] (Ret (.bool true)) := by
  refine a_enter Try.func37 rfl rfl (fun w0 M0 => ?_)
  refine a_seq ?_
  refine a_region ?_
  refine aops_cons rfl (w_pure rfl (p_assign rfl) ?_)
  refine aops_nil ?_
  refine a_seq ?_
  refine a_seq ?_
  refine a_region ?_
  refine aops_cons rfl (w_pure rfl (p_move rfl) ?_)
  refine aops_cons rfl (w_pure rfl (p_len sl_25 rfl rfl) ?_)
  refine aops_cons rfl (w_pure rfl (p_move rfl) ?_)
  refine aops_cons rfl (w_pure rfl (p_len sl_25 rfl rfl) ?_)
  refine aops_cons rfl (w_pure rfl (p_neq_same rfl rfl) ?_)
  refine aops_nil ?_
  refine a_cond_f rfl ?_
  refine a_skip ?_
  refine a_seq ?_
  refine a_seq ?_
  refine a_region ?_
  refine aops_cons rfl (w_pure rfl (p_assign rfl) ?_)
  refine aops_nil ?_
  refine a_block ?_
  refine a_loop (ι := Nat) (fun i => i ≤ xs.length) (fun i => [(5, .int .i64 (i : Int))]) (fun i => []) (fun i => xs.length - i) 0 (Nat.zero_le _) (by repeat (first | exact Knows.nil | refine Knows.cons (by rfl) ?_)) (by repeat (first | exact Picks.nil _ | exact Pick.here _ _ _ | apply Pick.next | apply Picks.cons)) ?_
  rintro i hi
  skip
  refine a_seq ?_
  refine a_seq ?_
  refine a_region ?_
  refine aops_cons rfl (w_pure rfl (p_move rfl) ?_)
  refine aops_cons rfl (w_pure rfl (p_move rfl) ?_)
  refine aops_cons rfl (w_pure rfl (p_len sl_25 rfl rfl) ?_)
  refine aops_cons rfl (w_pure rfl (p_lss rfl rfl) ?_)
  refine aops_nil ?_
  first | refine a_cond_d rfl (fun h1 => ?_) (fun h2 => ?_) | refine a_cond_n rfl (fun h1 => ?_) (fun h2 => ?_) | refine a_cond_nb rfl (fun h1 => ?_) (fun h2 => ?_) | refine a_cond rfl (fun h1 => ?_) (fun h2 => ?_)
  · (try simp only [Bool.not_eq_true', Bool.not_eq_false', Bool.not_eq_true, Bool.not_eq_false, decide_eq_true_eq, decide_eq_false_iff_not, List.length_map, List.length_range] at h1)
    refine a_skip ?_
    refine a_seq ?_
    refine a_block ?_
    refine a_seq ?_
    refine a_draw [] (by kernel_rfl) ?_
    show ADraw _ _ _ _ _ _ 9 _ _ _ _
    refine d_take 0 rfl (by kernel_rfl) (by kernel_rfl) (by kernel_rfl) rfl (p_move rfl) ?_
    refine d_take 1 rfl (by kernel_rfl) (by kernel_rfl) (by kernel_rfl) rfl (p_move rfl) ?_
    refine d_take 2 rfl (by kernel_rfl) (by kernel_rfl) (by kernel_rfl) rfl (p_index_sl _ rfl rfl rfl (rowD _ _ false (by omega)) es_25) ?_
    refine d_load 3 rfl (by kernel_rfl) (by kernel_rfl) (by kernel_rfl) rfl (p_load_v ag_4 rfl (by rfl) noX) ?_
    refine d_take 4 rfl (by kernel_rfl) (by kernel_rfl) (by kernel_rfl) rfl (p_move rfl) ?_
    refine d_take 5 rfl (by kernel_rfl) (by kernel_rfl) (by kernel_rfl) rfl (p_move rfl) ?_
    refine d_take 6 rfl (by kernel_rfl) (by kernel_rfl) (by kernel_rfl) rfl (p_index_sl _ rfl rfl rfl (rowD _ _ false (by omega)) es_25) ?_
    refine d_load 7 rfl (by kernel_rfl) (by kernel_rfl) (by kernel_rfl) rfl (p_load_v ag_4 rfl (by rfl) noX) ?_
    refine d_take 8 rfl (by kernel_rfl) (by kernel_rfl) (by kernel_rfl) rfl (p_neq_bsame um_4 rfl rfl) ?_
    refine draw_done (by kernel_rfl) ?_
    refine a_cond_f rfl ?_
    refine a_skip ?_
    refine a_region ?_
    refine aops_cons rfl (w_pure rfl (p_move rfl) ?_)
    refine aops_cons rfl (w_pure rfl (p_add' rfl rfl ⟨by omega, by omega⟩) ?_)
    refine aops_cons rfl (w_pure rfl (p_assign rfl) ?_)
    refine aops_nil ?_
    refine ⟨(i + 1), _, ?_, ?_, (by repeat (first | exact Knows.nil | refine Knows.cons (by rfl) ?_)), (by repeat (first | exact Back.refl _ _ | refine Back.cons (by rfl) ?_)), (by repeat (first | exact Picks.nil _ | exact Pick.here _ _ _ | apply Pick.next | apply Picks.cons))⟩
    · omega
    · (try dsimp only); omega
  · (try simp only [Bool.not_eq_true', Bool.not_eq_false', Bool.not_eq_true, Bool.not_eq_false, decide_eq_true_eq, decide_eq_false_iff_not, List.length_map, List.length_range] at h2)
    refine a_exit ?_
    refine a_seq ?_
    refine a_region ?_
    refine aops_cons rfl (w_pure rfl (p_assign rfl) ?_)
    refine aops_nil ?_
    refine a_ret ?_
    refine ret_ok (hands1 rfl (.tmp rfl)) (.nil _) ?_
    first | exact ⟨rfl, rfl⟩ | (exfalso; omega)

theorem c_laws_vVcpus (xs : List Vcpu) (hn : xs.length ≤ 1048576) : ACalls Try.prog 36 [.sl (xs.map eVcpu), .sl (xs.map eVcpu)] [] (Ret (.bool true)) := by
  refine a_enter Try.func36 rfl rfl (fun w0 M0 => ?_)
  refine a_seq ?_
  refine a_region ?_
  refine aops_cons rfl (w_pure rfl (p_assign rfl) ?_)
  refine aops_nil ?_
  refine a_seq ?_
  refine a_seq ?_
  refine a_region ?_
  refine aops_cons rfl (w_pure rfl (p_move rfl) ?_)
  refine aops_cons rfl (w_pure rfl (p_len sl_24 rfl rfl) ?_)
  refine aops_cons rfl (w_pure rfl (p_move rfl) ?_)
  refine aops_cons rfl (w_pure rfl (p_len sl_24 rfl rfl) ?_)
  refine aops_cons rfl (w_pure rfl (p_neq_same rfl rfl) ?_)
  refine aops_nil ?_
  refine a_cond_f rfl ?_
  refine a_skip ?_
  refine a_seq ?_
  refine a_seq ?_
  refine a_region ?_
  refine aops_cons rfl (w_pure rfl (p_assign rfl) ?_)
  refine aops_nil ?_
  refine a_block ?_
  refine a_loop (ι := Nat) (fun i => i ≤ xs.length) (fun i => [(5, .int .i64 (i : Int))]) (fun i => []) (fun i => xs.length - i) 0 (Nat.zero_le _) (by repeat (first | exact Knows.nil | refine Knows.cons (by rfl) ?_)) (by repeat (first | exact Picks.nil _ | exact Pick.here _ _ _ | apply Pick.next | apply Picks.cons)) ?_
  rintro i hi
  skip
  refine a_seq ?_
  refine a_seq ?_
  refine a_region ?_
  refine aops_cons rfl (w_pure rfl (p_move rfl) ?_)
  refine aops_cons rfl (w_pure rfl (p_move rfl) ?_)
  refine aops_cons rfl (w_pure rfl (p_len sl_24 rfl rfl) ?_)
  refine aops_cons rfl (w_pure rfl (p_lss rfl rfl) ?_)
  refine aops_nil ?_
  first | refine a_cond_d rfl (fun h1 => ?_) (fun h2 => ?_) | refine a_cond_n rfl (fun h1 => ?_) (fun h2 => ?_) | refine a_cond_nb rfl (fun h1 => ?_) (fun h2 => ?_) | refine a_cond rfl (fun h1 => ?_) (fun h2 => ?_)
  · (try simp only [Bool.not_eq_true', Bool.not_eq_false', Bool.not_eq_true, Bool.not_eq_false, decide_eq_true_eq, decide_eq_false_iff_not, List.length_map, List.length_range] at h1)
    refine a_skip ?_
    refine a_seq ?_
    refine a_block ?_
    refine a_seq ?_
    refine a_draw [] (by kernel_rfl) ?_
    show ADraw _ _ _ _ _ _ 9 _ _ _ _
    refine d_take 0 rfl (by kernel_rfl) (by kernel_rfl) (by kernel_rfl) rfl (p_move rfl) ?_
    refine d_take 1 rfl (by kernel_rfl) (by kernel_rfl) (by kernel_rfl) rfl (p_move rfl) ?_
    refine d_take 2 rfl (by kernel_rfl) (by kernel_rfl) (by kernel_rfl) rfl (p_index_sl _ rfl rfl rfl (rowD _ _ zVcpu (by omega)) es_24) ?_
    refine d_load 3 rfl (by kernel_rfl) (by kernel_rfl) (by kernel_rfl) rfl (p_load_v_all ag_56 rfl (by rfl) noX) ?_
    refine d_take 4 rfl (by kernel_rfl) (by kernel_rfl) (by kernel_rfl) rfl (p_move rfl) ?_
    refine d_take 5 rfl (by kernel_rfl) (by kernel_rfl) (by kernel_rfl) rfl (p_move rfl) ?_
    refine d_take 6 rfl (by kernel_rfl) (by kernel_rfl) (by kernel_rfl) rfl (p_index_sl _ rfl rfl rfl (rowD _ _ zVcpu (by omega)) es_24) ?_
    refine d_load 7 rfl (by kernel_rfl) (by kernel_rfl) (by kernel_rfl) rfl (p_load_v_all ag_56 rfl (by rfl) noX) ?_
    refine d_take 8 rfl (by kernel_rfl) (by kernel_rfl) (by kernel_rfl) rfl (p_neqS eqs_56 rfl rfl (eqC_vcpu rfl)) ?_
    refine draw_done (by kernel_rfl) ?_
    refine a_cond_f rfl ?_
    refine a_skip ?_
    refine a_region ?_
    refine aops_cons rfl (w_pure rfl (p_move rfl) ?_)
    refine aops_cons rfl (w_pure rfl (p_add' rfl rfl ⟨by omega, by omega⟩) ?_)
    refine aops_cons rfl (w_pure rfl (p_assign rfl) ?_)
    refine aops_nil ?_
    refine ⟨(i + 1), _, ?_, ?_, (by repeat (first | exact Knows.nil | refine Knows.cons (by rfl) ?_)), (by repeat (first | exact Back.refl _ _ | refine Back.cons (by rfl) ?_)), (by repeat (first | exact Picks.nil _ | exact Pick.here _ _ _ | apply Pick.next | apply Picks.cons))⟩
    · omega
    · (try dsimp only); omega
  · (try simp only [Bool.not_eq_true', Bool.not_eq_false', Bool.not_eq_true, Bool.not_eq_false, decide_eq_true_eq, decide_eq_false_iff_not, List.length_map, List.length_range] at h2)
    refine a_exit ?_
    refine a_seq ?_
    refine a_region ?_
    refine aops_cons rfl (w_pure rfl (p_assign rfl) ?_)
    refine aops_nil ?_
    refine a_ret ?_
    refine ret_ok (hands1 rfl (.tmp rfl)) (.nil _) ?_
    first | exact ⟨rfl, rfl⟩ | (exfalso; omega)

theorem c_laws_vHall (h : Hall) (hn : SmallHall h) : ACalls Try.prog 10 [.agg (eHall h), .agg (eHall h)] [] (Ret (.bool true)) := by
  have hn1 := hn.1
  have hn2 := hn.2
  refine a_enter Try.func10 rfl rfl (fun w0 M0 => ?_)
  refine a_seq ?_
  refine a_region ?_
  refine aops_cons rfl (w_box_v rfl rfl rfl ?_)
  refine aops_cons rfl (w_box_v rfl rfl rfl ?_)
  refine aops_cons rfl (w_pure rfl (p_assign rfl) ?_)
  refine aops_nil ?_
  refine a_seq ?_
  refine a_region ?_
  refine aops_cons rfl (w_pure rfl (p_field_v fo_27_0 rfl) ?_)
  refine aops_cons rfl (w_pure rfl (p_load_v ag_24 rfl (by rfl) noX) ?_)
  refine aops_cons rfl (w_pure rfl (p_field_v fo_27_0 rfl) ?_)
  refine aops_cons rfl (w_pure rfl (p_load_v ag_24 rfl (by rfl) noX) ?_)
  refine aops_cons rfl (w_callR rfl rfl rfl cl_36 (c_laws_vVcpus _ (by assumption)) ?_)
  refine aops_cons rfl (w_pure rfl (p_move rfl) ?_)
  refine aops_guard_t rfl rfl rfl (w_pure rfl (p_field_v fo_27_1 rfl) ?_)
  refine aops_guard_t rfl rfl rfl (w_pure rfl (p_load_v ag_25 rfl (by rfl) noX) ?_)
  refine aops_guard_t rfl rfl rfl (w_pure rfl (p_field_v fo_27_1 rfl) ?_)
  refine aops_guard_t rfl rfl rfl (w_pure rfl (p_load_v ag_25 rfl (by rfl) noX) ?_)
  refine aops_guard_t rfl rfl rfl (w_callR rfl rfl rfl cl_37 (c_laws_vBools _ (by assumption)) ?_)
  refine aops_cons rfl (w_pure rfl (p_pick_t rfl rfl) ?_)
  refine aops_cons rfl (w_pure rfl (p_assign rfl) ?_)
  refine aops_nil ?_
  refine a_ret ?_
  refine ret_ok (hands1 rfl (.tmp rfl)) (.nil _) ?_
  exact ⟨rfl, rfl⟩

theorem c_laws_vBig (bs : List Int) (hn : bs.length ≤ 9223372036854775807) : ACalls Try.prog 5 [.sl (bs.map eByte)] [] (Ret (.bool (decide (65536 < bs.length)))) := by
  refine a_enter Try.func5 rfl rfl (fun w0 M0 => ?_)
  refine a_seq ?_
  refine a_region ?_
  refine aops_cons rfl (w_pure rfl (p_assign rfl) ?_)
  refine aops_nil ?_
  refine a_seq ?_
  refine a_region ?_
  refine aops_cons rfl (w_pure rfl (p_move rfl) ?_)
  refine aops_cons rfl (w_pure rfl (p_len sl_22 rfl rfl) ?_)
  refine aops_cons rfl (w_pure rfl (p_gtr rfl rfl) ?_)
  refine aops_cons rfl (w_pure rfl (p_assign rfl) ?_)
  refine aops_nil ?_
  refine a_ret ?_
  refine ret_ok (hands1 rfl (.tmp rfl)) (.nil _) ?_
  refine ret_dec ?_; simp only [List.length_map]; omega

theorem c_laws_vHas (xs : List Int) (hn : xs.length ≤ 1048576) (x : Int) : ACalls Try.prog 18 [.sl (xs.map eInt), .int .i64 x] [] (Ret (.bool (decide (x ∈ xs)))) := by
  refine a_enter Try.func18 rfl rfl (fun w0 M0 => ?_)
  refine a_seq ?_
  refine a_region ?_
  refine aops_cons rfl (w_pure rfl (p_assign rfl) ?_)
  refine aops_nil ?_
  refine a_seq ?_
  refine a_seq ?_
  refine a_region ?_
  refine aops_cons rfl (w_pure rfl (p_assign rfl) ?_)
  refine aops_nil ?_
  refine a_block ?_
  refine a_loop (ι := Nat) (fun i => i ≤ xs.length ∧ ∀ j, j < i → xs.getD j 0 ≠ x) (fun i => [(5, .int .i64 (i : Int))]) (fun i => []) (fun i => xs.length - i) 0 ⟨Nat.zero_le _, below_zero⟩ (by repeat (first | exact Knows.nil | refine Knows.cons (by rfl) ?_)) (by repeat (first | exact Picks.nil _ | exact Pick.here _ _ _ | apply Pick.next | apply Picks.cons)) ?_
  rintro i ⟨hi, hI⟩
  skip
  refine a_seq ?_
  refine a_seq ?_
  refine a_region ?_
  refine aops_cons rfl (w_pure rfl (p_move rfl) ?_)
  refine aops_cons rfl (w_pure rfl (p_move rfl) ?_)
  refine aops_cons rfl (w_pure rfl (p_len sl_31 rfl rfl) ?_)
  refine aops_cons rfl (w_pure rfl (p_lss rfl rfl) ?_)
  refine aops_nil ?_
  first | refine a_cond_d rfl (fun h1 => ?_) (fun h2 => ?_) | refine a_cond_n rfl (fun h1 => ?_) (fun h2 => ?_) | refine a_cond_nb rfl (fun h1 => ?_) (fun h2 => ?_) | refine a_cond rfl (fun h1 => ?_) (fun h2 => ?_)
  · (try simp only [Bool.not_eq_true', Bool.not_eq_false', Bool.not_eq_true, Bool.not_eq_false, decide_eq_true_eq, decide_eq_false_iff_not, List.length_map, List.length_range] at h1)
    refine a_skip ?_
    refine a_seq ?_
    refine a_block ?_
    refine a_seq ?_
    refine a_region ?_
    refine aops_cons rfl (w_pure rfl (p_move rfl) ?_)
    refine aops_cons rfl (w_pure rfl (p_move rfl) ?_)
    refine aops_cons rfl (w_pure rfl (p_index_sl _ rfl rfl rfl (rowD _ _ (0 : Int) (by omega)) es_31) ?_)
    refine aops_cons rfl (w_pure rfl (p_load_v ag_3 rfl (by rfl) noX) ?_)
    refine aops_cons rfl (w_pure rfl (p_move rfl) ?_)
    refine aops_cons rfl (w_pure rfl (p_eql rfl rfl) ?_)
    refine aops_nil ?_
    first | refine a_cond_d rfl (fun h3 => ?_) (fun h4 => ?_) | refine a_cond_n rfl (fun h3 => ?_) (fun h4 => ?_) | refine a_cond_nb rfl (fun h3 => ?_) (fun h4 => ?_) | refine a_cond rfl (fun h3 => ?_) (fun h4 => ?_)
    · (try simp only [Bool.not_eq_true', Bool.not_eq_false', Bool.not_eq_true, Bool.not_eq_false, decide_eq_true_eq, decide_eq_false_iff_not, List.length_map, List.length_range] at h3)
      refine a_seq ?_
      refine a_region ?_
      refine aops_cons rfl (w_pure rfl (p_assign rfl) ?_)
      refine aops_nil ?_
      refine a_ret ?_
      refine ret_ok (hands1 rfl (.tmp rfl)) (.nil _) ?_
      first | exact ⟨congrArg AV.bool (decide_eq_true (has_at (i := i) (by omega) (by assumption))).symm, rfl⟩ | exact ⟨congrArg AV.bool (decide_eq_false (has_not (below_all hI (by omega)))).symm, rfl⟩
    · (try simp only [Bool.not_eq_true', Bool.not_eq_false', Bool.not_eq_true, Bool.not_eq_false, decide_eq_true_eq, decide_eq_false_iff_not, List.length_map, List.length_range] at h4)
      refine a_skip ?_
      refine a_region ?_
      refine aops_cons rfl (w_pure rfl (p_move rfl) ?_)
      refine aops_cons rfl (w_pure rfl (p_add' rfl rfl ⟨by omega, by omega⟩) ?_)
      refine aops_cons rfl (w_pure rfl (p_assign rfl) ?_)
      refine aops_nil ?_
      refine ⟨(i + 1), _, ?_, ?_, (by repeat (first | exact Knows.nil | refine Knows.cons (by rfl) ?_)), (by repeat (first | exact Back.refl _ _ | refine Back.cons (by rfl) ?_)), (by repeat (first | exact Picks.nil _ | exact Pick.here _ _ _ | apply Pick.next | apply Picks.cons))⟩
      · exact ⟨by omega, below_succ hI (by assumption)⟩
      · (try dsimp only); omega
  · (try simp only [Bool.not_eq_true', Bool.not_eq_false', Bool.not_eq_true, Bool.not_eq_false, decide_eq_true_eq, decide_eq_false_iff_not, List.length_map, List.length_range] at h2)
    refine a_exit ?_
    refine a_seq ?_
    refine a_region ?_
    refine aops_cons rfl (w_pure rfl (p_assign rfl) ?_)
    refine aops_nil ?_
    refine a_ret ?_
    refine ret_ok (hands1 rfl (.tmp rfl)) (.nil _) ?_
    first | exact ⟨congrArg AV.bool (decide_eq_true (has_at (i := i) (by omega) (by assumption))).symm, rfl⟩ | exact ⟨congrArg AV.bool (decide_eq_false (has_not (below_all hI (by omega)))).symm, rfl⟩

theorem cf_laws_vHas (xs : List Int) (hn : xs.length ≤ 1048576) (x : Int) (h : decide (x ∈ xs) = false) : ACalls Try.prog 18 [.sl (xs.map eInt), .int .i64 x] [] (Ret (.bool false)) := by
  have := c_laws_vHas xs hn x
  rwa [h] at this



end Go.Proofs.Ytdlhpomgmlcfoaa
