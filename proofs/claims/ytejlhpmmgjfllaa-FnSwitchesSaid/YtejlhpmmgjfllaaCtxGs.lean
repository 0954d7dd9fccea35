/-
  The walks of this part: each theorem is the contract of one function. Condition: none but those that it names.
-/
import Derived.Test.YtejlhpmmgjfllaaCtxGd
import Derived.Test.YtejlhpmmgjfllaaCtxGF
import Derived.Test.YtejlhpmmgjfllaaCtxA
import Derived.Test.YtejlhpmmgjfllaaCtxB
import Derived.Test.YtejlhpmmgjfllaaCtxCs
import Derived.Test.YtejlhpmmgjfllaaCtxDs
import Derived.Test.YtejlhpmmgjfllaaCtxEs
namespace Go.Proofs.Ytejlhpmmgjfllaa
open Go Go.Fw Go.Hv
attribute [local irreducible] awp Aops Aop ADraw ADrawAll ACalls
set_option maxRecDepth 4000
set_option linter.unusedSimpArgs false
set_option linter.unusedVariables false

theorem c_spec_l1Cur_next (q : Nat) (bs : List Int) (hb : Bytes bs) (a s : Int) (h0 : 0 ≤ a) (h1 : a ≤ 999999999000)  : ACalls Try.prog 112 [.ptr q 0] [(q, curE bs a s)] (fun r st => ∃ m a' s', r = .int .i64 m ∧ (0 ≤ m ∧ m ≤ 255) ∧ a ≤ a' ∧ a' ≤ a + 1 ∧ st = [(q, curE bs a' s')]) := by
  refine a_enter Try.func112 rfl rfl (fun w0 M0 => ?_)
  refine a_seq ?_
  refine a_region ?_
  refine aops_cons rfl (w_pure rfl (p_assign rfl) ?_)
  refine aops_nil ?_
  refine a_seq ?_
  refine a_region ?_
  refine aops_cons rfl (w_pure rfl (p_assign rfl) ?_)
  refine aops_nil ?_
  refine a_seq ?_
  refine a_seq ?_
  refine a_draw [] (by kernel_rfl) ?_
  show ADraw _ _ _ _ _ _ 10 _ _ _ _
  refine d_take 0 rfl (by kernel_rfl) (by kernel_rfl) (by kernel_rfl) rfl (p_move rfl) ?_
  refine d_take 1 rfl (by kernel_rfl) (by kernel_rfl) (by kernel_rfl) rfl (p_nil rfl) ?_
  refine d_take 2 rfl (by kernel_rfl) (by kernel_rfl) (by kernel_rfl) rfl (p_field_box fo_97_1 rfl) ?_
  refine d_load 3 rfl (by kernel_rfl) (by kernel_rfl) (by kernel_rfl) rfl (p_load_box ag_3 rfl (by repeat (first | exact Pick.here _ _ _ | apply Pick.next)) (by rfl) noX) ?_
  refine d_take 4 rfl (by kernel_rfl) (by kernel_rfl) (by kernel_rfl) rfl (p_move rfl) ?_
  refine d_take 5 rfl (by kernel_rfl) (by kernel_rfl) (by kernel_rfl) rfl (p_nil rfl) ?_
  refine d_take 6 rfl (by kernel_rfl) (by kernel_rfl) (by kernel_rfl) rfl (p_field_box fo_97_0 rfl) ?_
  refine d_load 7 rfl (by kernel_rfl) (by kernel_rfl) (by kernel_rfl) rfl (p_load_box ag_59 rfl (by repeat (first | exact Pick.here _ _ _ | apply Pick.next)) (by rfl) noX) ?_
  refine d_take 8 rfl (by kernel_rfl) (by kernel_rfl) (by kernel_rfl) rfl (p_len sl_59 rfl rfl) ?_
  refine d_take 9 rfl (by kernel_rfl) (by kernel_rfl) (by kernel_rfl) rfl (p_lss rfl rfl) ?_
  refine draw_done (by kernel_rfl) ?_
  first | refine a_cond_d rfl (fun h1 => ?_) (fun h2 => ?_) | refine a_cond_n rfl (fun h1 => ?_) (fun h2 => ?_) | refine a_cond_nb rfl (fun h1 => ?_) (fun h2 => ?_) | refine a_cond rfl (fun h1 => ?_) (fun h2 => ?_)
  · (try simp only [Bool.not_eq_true', Bool.not_eq_false', Bool.not_eq_true, Bool.not_eq_false, decide_eq_true_eq, decide_eq_false_iff_not, List.length_map, List.length_range] at h1)
    refine a_draw [] (by kernel_rfl) ?_
    show ADraw _ _ _ _ _ _ 12 _ _ _ _
    refine d_take 0 rfl (by kernel_rfl) (by kernel_rfl) (by kernel_rfl) rfl (p_move rfl) ?_
    refine d_take 1 rfl (by kernel_rfl) (by kernel_rfl) (by kernel_rfl) rfl (p_nil rfl) ?_
    refine d_take 2 rfl (by kernel_rfl) (by kernel_rfl) (by kernel_rfl) rfl (p_field_box fo_97_0 rfl) ?_
    refine d_load 3 rfl (by kernel_rfl) (by kernel_rfl) (by kernel_rfl) rfl (p_load_box ag_59 rfl (by repeat (first | exact Pick.here _ _ _ | apply Pick.next)) (by rfl) noX) ?_
    refine d_take 4 rfl (by kernel_rfl) (by kernel_rfl) (by kernel_rfl) rfl (p_move rfl) ?_
    refine d_take 5 rfl (by kernel_rfl) (by kernel_rfl) (by kernel_rfl) rfl (p_nil rfl) ?_
    refine d_take 6 rfl (by kernel_rfl) (by kernel_rfl) (by kernel_rfl) rfl (p_field_box fo_97_1 rfl) ?_
    refine d_load 7 rfl (by kernel_rfl) (by kernel_rfl) (by kernel_rfl) rfl (p_load_box ag_3 rfl (by repeat (first | exact Pick.here _ _ _ | apply Pick.next)) (by rfl) noX) ?_
    refine d_take 8 rfl (by kernel_rfl) (by kernel_rfl) (by kernel_rfl) rfl (p_index_sl a.toNat rfl rfl (by omega) (rowD _ _ (0 : Int) (by omega)) es_59) ?_
    refine d_load 9 rfl (by kernel_rfl) (by kernel_rfl) (by kernel_rfl) rfl (p_load_v ag_5 rfl (by rfl) noX) ?_
    refine d_take 10 rfl (by kernel_rfl) (by kernel_rfl) (by kernel_rfl) rfl (p_convert ui_5 um_3 rfl) ?_
    refine d_take 11 rfl (by kernel_rfl) (by kernel_rfl) (by kernel_rfl) rfl (p_assign rfl) ?_
    refine draw_done (by kernel_rfl) ?_
    refine a_seq ?_
    refine a_region ?_
    refine aops_cons rfl (w_pure rfl (p_move rfl) ?_)
    refine aops_cons rfl (w_pure rfl (p_nil rfl) ?_)
    refine aops_cons rfl (w_pure rfl (p_field_box fo_97_1 rfl) ?_)
    refine aops_cons rfl (w_pure rfl (p_load_box ag_3 rfl (by repeat (first | exact Pick.here _ _ _ | apply Pick.next)) (by rfl) noX) ?_)
    refine aops_cons rfl (w_pure rfl (p_add' rfl rfl ⟨by omega, by omega⟩) ?_)
    refine aops_cons rfl (w_pure rfl (p_nil rfl) ?_)
    refine aops_cons rfl (w_pure rfl (p_field_box fo_97_1 rfl) ?_)
    refine aops_cons rfl (w_store (cells' := [_, _, _]) rfl rfl rfl (by repeat (first | exact Pick.here _ _ _ | apply Pick.next)) cn_3 (by rfl) (by rfl) (by rfl) trivial ?_)
    refine aops_nil ?_
    refine a_seq ?_
    refine a_region ?_
    refine aops_cons rfl (w_pure rfl (p_move rfl) ?_)
    refine aops_cons rfl (w_pure rfl (p_move rfl) ?_)
    refine aops_cons rfl (w_pure rfl (p_nil rfl) ?_)
    refine aops_cons rfl (w_pure rfl (p_field_box fo_97_2 rfl) ?_)
    refine aops_cons rfl (w_pure rfl (p_load_box ag_95 rfl (by repeat (first | exact Pick.here _ _ _ | apply Pick.next)) (by rfl) noX) ?_)
    refine aops_cons rfl (w_pure rfl (p_mul rfl rfl) ?_)
    refine aops_cons rfl (w_pure rfl (p_move rfl) ?_)
    refine aops_cons rfl (w_pure rfl (p_convert ui_3 um_95 rfl) ?_)
    refine aops_cons rfl (w_pure rfl (p_add rfl rfl) ?_)
    refine aops_cons rfl (w_pure rfl (p_add rfl rfl) ?_)
    refine aops_cons rfl (w_pure rfl (p_nil rfl) ?_)
    refine aops_cons rfl (w_pure rfl (p_field_box fo_97_2 rfl) ?_)
    refine aops_cons rfl (w_store (cells' := [_, _, _]) rfl rfl rfl (by repeat (first | exact Pick.here _ _ _ | apply Pick.next)) cn_95 (by rfl) (by rfl) (by rfl) trivial ?_)
    refine aops_nil ?_
    refine a_seq ?_
    refine a_seq ?_
    refine a_draw [] (by kernel_rfl) ?_
    show ADraw _ _ _ _ _ _ 10 _ _ _ _
    refine d_take 0 rfl (by kernel_rfl) (by kernel_rfl) (by kernel_rfl) rfl (p_move rfl) ?_
    refine d_take 1 rfl (by kernel_rfl) (by kernel_rfl) (by kernel_rfl) rfl (p_nil rfl) ?_
    refine d_take 2 rfl (by kernel_rfl) (by kernel_rfl) (by kernel_rfl) rfl (p_field_box fo_97_1 rfl) ?_
    refine d_load 3 rfl (by kernel_rfl) (by kernel_rfl) (by kernel_rfl) rfl (p_load_box ag_3 rfl (by repeat (first | exact Pick.here _ _ _ | apply Pick.next)) (by rfl) noX) ?_
    refine d_take 4 rfl (by kernel_rfl) (by kernel_rfl) (by kernel_rfl) rfl (p_move rfl) ?_
    refine d_take 5 rfl (by kernel_rfl) (by kernel_rfl) (by kernel_rfl) rfl (p_nil rfl) ?_
    refine d_take 6 rfl (by kernel_rfl) (by kernel_rfl) (by kernel_rfl) rfl (p_field_box fo_97_0 rfl) ?_
    refine d_load 7 rfl (by kernel_rfl) (by kernel_rfl) (by kernel_rfl) rfl (p_load_box ag_59 rfl (by repeat (first | exact Pick.here _ _ _ | apply Pick.next)) (by rfl) noX) ?_
    refine d_take 8 rfl (by kernel_rfl) (by kernel_rfl) (by kernel_rfl) rfl (p_len sl_59 rfl rfl) ?_
    refine d_take 9 rfl (by kernel_rfl) (by kernel_rfl) (by kernel_rfl) rfl (p_leq rfl rfl) ?_
    refine draw_done (by kernel_rfl) ?_
    first | refine a_cond_d rfl (fun h3 => ?_) (fun h4 => ?_) | refine a_cond_n rfl (fun h3 => ?_) (fun h4 => ?_) | refine a_cond_nb rfl (fun h3 => ?_) (fun h4 => ?_) | refine a_cond rfl (fun h3 => ?_) (fun h4 => ?_)
    · (try simp only [Bool.not_eq_true', Bool.not_eq_false', Bool.not_eq_true, Bool.not_eq_false, decide_eq_true_eq, decide_eq_false_iff_not, List.length_map, List.length_range] at h3)
      refine a_seq ?_
      refine a_region ?_
      refine aops_cons rfl (w_pure rfl (p_move rfl) ?_)
      refine aops_cons rfl (w_pure rfl (p_assign rfl) ?_)
      refine aops_nil ?_
      refine a_ret ?_
      refine ret_ok (hands1 rfl (.tmp rfl)) (st' := [(q, _)]) (.cons (by repeat (first | exact Pick.here _ _ _ | apply Pick.next)) (.nil _)) ?_
      first | exact ⟨_, _, _, rfl, (by first | exact wrap_rng (hb.at (by omega)) | exact and_rng _ | exact ⟨by decide, by decide⟩), by omega, by omega, rfl⟩
    · (try simp only [Bool.not_eq_true', Bool.not_eq_false', Bool.not_eq_true, Bool.not_eq_false, decide_eq_true_eq, decide_eq_false_iff_not, List.length_map, List.length_range] at h4)
      refine a_skip ?_
      refine a_seq ?_
      refine a_region ?_
      refine aops_cons rfl (w_pure rfl (p_move rfl) ?_)
      refine aops_cons rfl (w_pure rfl (p_nil rfl) ?_)
      refine aops_cons rfl (w_pure rfl (p_field_box fo_97_2 rfl) ?_)
      refine aops_cons rfl (w_pure rfl (p_load_box ag_95 rfl (by repeat (first | exact Pick.here _ _ _ | apply Pick.next)) (by rfl) noX) ?_)
      refine aops_cons rfl (w_pure rfl (p_shr rfl rfl (by omega)) ?_)
      refine aops_cons rfl (w_pure rfl (p_bits .and (by decide) rfl rfl) ?_)
      refine aops_cons rfl (w_pure rfl (p_convert ui_95 um_3 rfl) ?_)
      refine aops_cons rfl (w_pure rfl (p_assign rfl) ?_)
      refine aops_nil ?_
      refine a_ret ?_
      refine ret_ok (hands1 rfl (.tmp rfl)) (st' := [(q, _)]) (.cons (by repeat (first | exact Pick.here _ _ _ | apply Pick.next)) (.nil _)) ?_
      first | exact ⟨_, _, _, rfl, (by first | exact wrap_rng (hb.at (by omega)) | exact and_rng _ | exact ⟨by decide, by decide⟩), by omega, by omega, rfl⟩
  · (try simp only [Bool.not_eq_true', Bool.not_eq_false', Bool.not_eq_true, Bool.not_eq_false, decide_eq_true_eq, decide_eq_false_iff_not, List.length_map, List.length_range] at h2)
    refine a_skip ?_
    refine a_seq ?_
    refine a_region ?_
    refine aops_cons rfl (w_pure rfl (p_move rfl) ?_)
    refine aops_cons rfl (w_pure rfl (p_nil rfl) ?_)
    refine aops_cons rfl (w_pure rfl (p_field_box fo_97_1 rfl) ?_)
    refine aops_cons rfl (w_pure rfl (p_load_box ag_3 rfl (by repeat (first | exact Pick.here _ _ _ | apply Pick.next)) (by rfl) noX) ?_)
    refine aops_cons rfl (w_pure rfl (p_add' rfl rfl ⟨by omega, by omega⟩) ?_)
    refine aops_cons rfl (w_pure rfl (p_nil rfl) ?_)
    refine aops_cons rfl (w_pure rfl (p_field_box fo_97_1 rfl) ?_)
    refine aops_cons rfl (w_store (cells' := [_, _, _]) rfl rfl rfl (by repeat (first | exact Pick.here _ _ _ | apply Pick.next)) cn_3 (by rfl) (by rfl) (by rfl) trivial ?_)
    refine aops_nil ?_
    refine a_seq ?_
    refine a_region ?_
    refine aops_cons rfl (w_pure rfl (p_move rfl) ?_)
    refine aops_cons rfl (w_pure rfl (p_move rfl) ?_)
    refine aops_cons rfl (w_pure rfl (p_nil rfl) ?_)
    refine aops_cons rfl (w_pure rfl (p_field_box fo_97_2 rfl) ?_)
    refine aops_cons rfl (w_pure rfl (p_load_box ag_95 rfl (by repeat (first | exact Pick.here _ _ _ | apply Pick.next)) (by rfl) noX) ?_)
    refine aops_cons rfl (w_pure rfl (p_mul rfl rfl) ?_)
    refine aops_cons rfl (w_pure rfl (p_move rfl) ?_)
    refine aops_cons rfl (w_pure rfl (p_convert ui_3 um_95 rfl) ?_)
    refine aops_cons rfl (w_pure rfl (p_add rfl rfl) ?_)
    refine aops_cons rfl (w_pure rfl (p_add rfl rfl) ?_)
    refine aops_cons rfl (w_pure rfl (p_nil rfl) ?_)
    refine aops_cons rfl (w_pure rfl (p_field_box fo_97_2 rfl) ?_)
    refine aops_cons rfl (w_store (cells' := [_, _, _]) rfl rfl rfl (by repeat (first | exact Pick.here _ _ _ | apply Pick.next)) cn_95 (by rfl) (by rfl) (by rfl) trivial ?_)
    refine aops_nil ?_
    refine a_seq ?_
    refine a_seq ?_
    refine a_draw [] (by kernel_rfl) ?_
    show ADraw _ _ _ _ _ _ 10 _ _ _ _
    refine d_take 0 rfl (by kernel_rfl) (by kernel_rfl) (by kernel_rfl) rfl (p_move rfl) ?_
    refine d_take 1 rfl (by kernel_rfl) (by kernel_rfl) (by kernel_rfl) rfl (p_nil rfl) ?_
    refine d_take 2 rfl (by kernel_rfl) (by kernel_rfl) (by kernel_rfl) rfl (p_field_box fo_97_1 rfl) ?_
    refine d_load 3 rfl (by kernel_rfl) (by kernel_rfl) (by kernel_rfl) rfl (p_load_box ag_3 rfl (by repeat (first | exact Pick.here _ _ _ | apply Pick.next)) (by rfl) noX) ?_
    refine d_take 4 rfl (by kernel_rfl) (by kernel_rfl) (by kernel_rfl) rfl (p_move rfl) ?_
    refine d_take 5 rfl (by kernel_rfl) (by kernel_rfl) (by kernel_rfl) rfl (p_nil rfl) ?_
    refine d_take 6 rfl (by kernel_rfl) (by kernel_rfl) (by kernel_rfl) rfl (p_field_box fo_97_0 rfl) ?_
    refine d_load 7 rfl (by kernel_rfl) (by kernel_rfl) (by kernel_rfl) rfl (p_load_box ag_59 rfl (by repeat (first | exact Pick.here _ _ _ | apply Pick.next)) (by rfl) noX) ?_
    refine d_take 8 rfl (by kernel_rfl) (by kernel_rfl) (by kernel_rfl) rfl (p_len sl_59 rfl rfl) ?_
    refine d_take 9 rfl (by kernel_rfl) (by kernel_rfl) (by kernel_rfl) rfl (p_leq rfl rfl) ?_
    refine draw_done (by kernel_rfl) ?_
    first | refine a_cond_d rfl (fun h5 => ?_) (fun h6 => ?_) | refine a_cond_n rfl (fun h5 => ?_) (fun h6 => ?_) | refine a_cond_nb rfl (fun h5 => ?_) (fun h6 => ?_) | refine a_cond rfl (fun h5 => ?_) (fun h6 => ?_)
    · (try simp only [Bool.not_eq_true', Bool.not_eq_false', Bool.not_eq_true, Bool.not_eq_false, decide_eq_true_eq, decide_eq_false_iff_not, List.length_map, List.length_range] at h5)
      refine a_seq ?_
      refine a_region ?_
      refine aops_cons rfl (w_pure rfl (p_move rfl) ?_)
      refine aops_cons rfl (w_pure rfl (p_assign rfl) ?_)
      refine aops_nil ?_
      refine a_ret ?_
      refine ret_ok (hands1 rfl (.tmp rfl)) (st' := [(q, _)]) (.cons (by repeat (first | exact Pick.here _ _ _ | apply Pick.next)) (.nil _)) ?_
      first | exact ⟨_, _, _, rfl, (by first | exact wrap_rng (hb.at (by omega)) | exact and_rng _ | exact ⟨by decide, by decide⟩), by omega, by omega, rfl⟩
    · (try simp only [Bool.not_eq_true', Bool.not_eq_false', Bool.not_eq_true, Bool.not_eq_false, decide_eq_true_eq, decide_eq_false_iff_not, List.length_map, List.length_range] at h6)
      refine a_skip ?_
      refine a_seq ?_
      refine a_region ?_
      refine aops_cons rfl (w_pure rfl (p_move rfl) ?_)
      refine aops_cons rfl (w_pure rfl (p_nil rfl) ?_)
      refine aops_cons rfl (w_pure rfl (p_field_box fo_97_2 rfl) ?_)
      refine aops_cons rfl (w_pure rfl (p_load_box ag_95 rfl (by repeat (first | exact Pick.here _ _ _ | apply Pick.next)) (by rfl) noX) ?_)
      refine aops_cons rfl (w_pure rfl (p_shr rfl rfl (by omega)) ?_)
      refine aops_cons rfl (w_pure rfl (p_bits .and (by decide) rfl rfl) ?_)
      refine aops_cons rfl (w_pure rfl (p_convert ui_95 um_3 rfl) ?_)
      refine aops_cons rfl (w_pure rfl (p_assign rfl) ?_)
      refine aops_nil ?_
      refine a_ret ?_
      refine ret_ok (hands1 rfl (.tmp rfl)) (st' := [(q, _)]) (.cons (by repeat (first | exact Pick.here _ _ _ | apply Pick.next)) (.nil _)) ?_
      first | exact ⟨_, _, _, rfl, (by first | exact wrap_rng (hb.at (by omega)) | exact and_rng _ | exact ⟨by decide, by decide⟩), by omega, by omega, rfl⟩

theorem c_spec_l1Cur_pick (q : Nat) (bs : List Int) (hb : Bytes bs) (a s : Int) (h0 : 0 ≤ a) (h1 : a ≤ 999999998000) (n : Int) (hn : n ≤ 1000000) : ACalls Try.prog 89 [.ptr q 0, .int .i64 n] [(q, curE bs a s)] (fun r st => ∃ m a' s', r = .int .i64 m ∧ (0 ≤ m ∧ (m < n ∨ m = 0)) ∧ a ≤ a' ∧ a' ≤ a + 2 ∧ st = [(q, curE bs a' s')]) := by
  refine a_enter Try.func89 rfl rfl (fun w0 M0 => ?_)
  refine a_seq ?_
  refine a_region ?_
  refine aops_cons rfl (w_pure rfl (p_assign rfl) ?_)
  refine aops_nil ?_
  refine a_seq ?_
  refine a_seq ?_
  refine a_region ?_
  refine aops_cons rfl (w_pure rfl (p_move rfl) ?_)
  refine aops_cons rfl (w_pure rfl (p_leq rfl rfl) ?_)
  refine aops_nil ?_
  first | refine a_cond_d rfl (fun h1 => ?_) (fun h2 => ?_) | refine a_cond_n rfl (fun h1 => ?_) (fun h2 => ?_) | refine a_cond_nb rfl (fun h1 => ?_) (fun h2 => ?_) | refine a_cond rfl (fun h1 => ?_) (fun h2 => ?_)
  · (try simp only [Bool.not_eq_true', Bool.not_eq_false', Bool.not_eq_true, Bool.not_eq_false, decide_eq_true_eq, decide_eq_false_iff_not, List.length_map, List.length_range] at h1)
    refine a_seq ?_
    refine a_region ?_
    refine aops_cons rfl (w_pure rfl (p_assign rfl) ?_)
    refine aops_nil ?_
    refine a_ret ?_
    refine ret_ok (hands1 rfl (.tmp rfl)) (st' := [(q, _)]) (.cons (by repeat (first | exact Pick.here _ _ _ | apply Pick.next)) (.nil _)) ?_
    first | exact ⟨_, _, _, rfl, ⟨by decide, .inr rfl⟩, by omega, by omega, rfl⟩ | exact ⟨_, _, _, rfl, ⟨Int.emod_nonneg _ (by omega), .inl (Int.emod_lt_of_pos _ (by omega))⟩, by omega, by omega, rfl⟩
  · (try simp only [Bool.not_eq_true', Bool.not_eq_false', Bool.not_eq_true, Bool.not_eq_false, decide_eq_true_eq, decide_eq_false_iff_not, List.length_map, List.length_range] at h2)
    refine a_skip ?_
    refine a_seq ?_
    refine a_region ?_
    refine aops_cons rfl (w_pure rfl (p_move rfl) ?_)
    refine aops_cons rfl (w_callM0 rfl rfl rfl cl_112 (.cons (by repeat (first | exact Pick.here _ _ _ | apply Pick.next)) (.nil _)) (c_spec_l1Cur_next _ _ hb _ _ (by omega) (by omega) ) trivial ?_)
    rintro _ _ ⟨m1, a1, s1, rfl, hm1, ha1, hc1, rfl⟩
    (try simp only [List.length_map] at hm1)
    refine aops_cons rfl (w_pure rfl (p_assign rfl) ?_)
    refine aops_nil ?_
    refine a_seq ?_
    refine a_seq ?_
    refine a_region ?_
    refine aops_cons rfl (w_pure rfl (p_move rfl) ?_)
    refine aops_cons rfl (w_pure rfl (p_gtr rfl rfl) ?_)
    refine aops_nil ?_
    first | refine a_cond_d rfl (fun h3 => ?_) (fun h4 => ?_) | refine a_cond_n rfl (fun h3 => ?_) (fun h4 => ?_) | refine a_cond_nb rfl (fun h3 => ?_) (fun h4 => ?_) | refine a_cond rfl (fun h3 => ?_) (fun h4 => ?_)
    · (try simp only [Bool.not_eq_true', Bool.not_eq_false', Bool.not_eq_true, Bool.not_eq_false, decide_eq_true_eq, decide_eq_false_iff_not, List.length_map, List.length_range] at h3)
      refine a_region ?_
      refine aops_cons rfl (w_pure rfl (p_move rfl) ?_)
      refine aops_cons rfl (w_pure rfl (p_mul' rfl rfl ⟨by omega, by omega⟩) ?_)
      refine aops_cons rfl (w_pure rfl (p_move rfl) ?_)
      refine aops_cons rfl (w_callM0 rfl rfl rfl cl_112 (.cons (by repeat (first | exact Pick.here _ _ _ | apply Pick.next)) (.nil _)) (c_spec_l1Cur_next _ _ hb _ _ (by omega) (by omega) ) trivial ?_)
      rintro _ _ ⟨m2, a2, s2, rfl, hm2, ha2, hc2, rfl⟩
      (try simp only [List.length_map] at hm2)
      refine aops_cons rfl (w_pure rfl (p_add' rfl rfl ⟨by omega, by omega⟩) ?_)
      refine aops_cons rfl (w_pure rfl (p_assign rfl) ?_)
      refine aops_nil ?_
      refine a_seq ?_
      refine a_region ?_
      refine aops_cons rfl (w_pure rfl (p_move rfl) ?_)
      refine aops_cons rfl (w_pure rfl (p_move rfl) ?_)
      refine aops_cons rfl (w_pure rfl (p_rem' rfl rfl (by omega) (by omega)) ?_)
      refine aops_cons rfl (w_pure rfl (p_assign rfl) ?_)
      refine aops_nil ?_
      refine a_ret ?_
      refine ret_ok (hands1 rfl (.tmp rfl)) (st' := [(q, _)]) (.cons (by repeat (first | exact Pick.here _ _ _ | apply Pick.next)) (.nil _)) ?_
      first | exact ⟨_, _, _, rfl, ⟨by decide, .inr rfl⟩, by omega, by omega, rfl⟩ | exact ⟨_, _, _, rfl, ⟨Int.emod_nonneg _ (by omega), .inl (Int.emod_lt_of_pos _ (by omega))⟩, by omega, by omega, rfl⟩
    · (try simp only [Bool.not_eq_true', Bool.not_eq_false', Bool.not_eq_true, Bool.not_eq_false, decide_eq_true_eq, decide_eq_false_iff_not, List.length_map, List.length_range] at h4)
      refine a_skip ?_
      refine a_seq ?_
      refine a_region ?_
      refine aops_cons rfl (w_pure rfl (p_move rfl) ?_)
      refine aops_cons rfl (w_pure rfl (p_move rfl) ?_)
      refine aops_cons rfl (w_pure rfl (p_rem' rfl rfl (by omega) (by omega)) ?_)
      refine aops_cons rfl (w_pure rfl (p_assign rfl) ?_)
      refine aops_nil ?_
      refine a_ret ?_
      refine ret_ok (hands1 rfl (.tmp rfl)) (st' := [(q, _)]) (.cons (by repeat (first | exact Pick.here _ _ _ | apply Pick.next)) (.nil _)) ?_
      first | exact ⟨_, _, _, rfl, ⟨by decide, .inr rfl⟩, by omega, by omega, rfl⟩ | exact ⟨_, _, _, rfl, ⟨Int.emod_nonneg _ (by omega), .inl (Int.emod_lt_of_pos _ (by omega))⟩, by omega, by omega, rfl⟩

theorem c_spec_l1Cur_one (q : Nat) (bs : List Int) (hb : Bytes bs) (a s : Int) (h0 : 0 ≤ a) (h1 : a ≤ 999999998000) (n : Int) (hn : n ≤ 1000000) : ACalls Try.prog 96 [.ptr q 0, .int .i64 n] [(q, curE bs a s)] (fun r st => ∃ b a' s', r = .bool b ∧ a ≤ a' ∧ a' ≤ a + 2 ∧ st = [(q, curE bs a' s')]) := by
  refine a_enter Try.func96 rfl rfl (fun w0 M0 => ?_)
  refine a_seq ?_
  refine a_region ?_
  refine aops_cons rfl (w_pure rfl (p_assign rfl) ?_)
  refine aops_nil ?_
  refine a_seq ?_
  refine a_region ?_
  refine aops_cons rfl (w_pure rfl (p_move rfl) ?_)
  refine aops_cons rfl (w_pure rfl (p_move rfl) ?_)
  refine aops_cons rfl (w_callM0 rfl rfl rfl cl_89 (.cons (by repeat (first | exact Pick.here _ _ _ | apply Pick.next)) (.nil _)) (c_spec_l1Cur_pick _ _ hb _ _ (by omega) (by omega) _ (by first | omega | (simp; done) | (simp; omega))) trivial ?_)
  rintro _ _ ⟨m1, a1, s1, rfl, hm1, ha1, hc1, rfl⟩
  (try simp only [List.length_map] at hm1)
  refine aops_cons rfl (w_pure rfl (p_eql rfl rfl) ?_)
  refine aops_cons rfl (w_pure rfl (p_assign rfl) ?_)
  refine aops_nil ?_
  refine a_ret ?_
  refine ret_ok (hands1 rfl (.tmp rfl)) (st' := [(q, _)]) (.cons (by repeat (first | exact Pick.here _ _ _ | apply Pick.next)) (.nil _)) ?_
  exact ⟨_, _, _, rfl, by omega, by omega, rfl⟩

theorem c_spec_l1Cur_among (q : Nat) (bs : List Int) (hb : Bytes bs) (a s : Int) (h0 : 0 ≤ a) (h1 : a ≤ 999999998000) (xs : List Int) (hx : 0 < xs.length ∧ xs.length ≤ 1000) (lo hi : Int) (hr : ∀ x ∈ xs, lo ≤ x ∧ x ≤ hi) : ACalls Try.prog 90 [.ptr q 0, .sl (xs.map eInt)] [(q, curE bs a s)] (fun r st => ∃ m a' s', r = .int .i64 m ∧ (lo ≤ m ∧ m ≤ hi) ∧ a ≤ a' ∧ a' ≤ a + 2 ∧ st = [(q, curE bs a' s')]) := by
  refine a_enter Try.func90 rfl rfl (fun w0 M0 => ?_)
  refine a_seq ?_
  refine a_region ?_
  refine aops_cons rfl (w_pure rfl (p_assign rfl) ?_)
  refine aops_nil ?_
  refine a_seq ?_
  refine a_region ?_
  refine aops_cons rfl (w_pure rfl (p_move rfl) ?_)
  refine aops_cons rfl (w_pure rfl (p_move rfl) ?_)
  refine aops_cons rfl (w_pure rfl (p_move rfl) ?_)
  refine aops_cons rfl (w_pure rfl (p_len sl_22 rfl rfl) ?_)
  refine aops_cons rfl (w_callM0 rfl rfl rfl cl_89 (.cons (by repeat (first | exact Pick.here _ _ _ | apply Pick.next)) (.nil _)) (c_spec_l1Cur_pick _ _ hb _ _ (by omega) (by omega) _ (by first | omega | (simp; done) | (simp; omega))) trivial ?_)
  rintro _ _ ⟨m1, a1, s1, rfl, hm1, ha1, hc1, rfl⟩
  (try simp only [List.length_map] at hm1)
  refine aops_cons rfl (w_pure rfl (p_index_sl (m1.toNat) rfl rfl (by omega) (rowD _ _ (0 : Int) (by omega)) es_22) ?_)
  refine aops_cons rfl (w_pure rfl (p_load_v ag_3 rfl (by rfl) noX) ?_)
  refine aops_cons rfl (w_pure rfl (p_assign rfl) ?_)
  refine aops_nil ?_
  refine a_ret ?_
  refine ret_ok (hands1 rfl (.tmp rfl)) (st' := [(q, _)]) (.cons (by repeat (first | exact Pick.here _ _ _ | apply Pick.next)) (.nil _)) ?_
  exact ⟨_, _, _, rfl, getD_mem (p := fun x => lo ≤ x ∧ x ≤ hi) hr (by omega), by omega, by omega, rfl⟩

theorem c_spec_l1Cur_registers5 (q : Nat) (bs : List Int) (hb : Bytes bs) (a s : Int) (h0 : 0 ≤ a) (h1 : a ≤ 999999986000)  : ACalls Try.prog 111 [.ptr q 0] [(q, curE bs a s)] (fun r st => ∃ (b : Nat) (xs : List Int) (a' : Int) (s' : Int), r = .own 1 b 0 xs.length ∧ xs.length ≤ 4 ∧ a ≤ a' ∧ a' ≤ a + 14 ∧ st = [(q, curE bs a' s'), (b, .arr 3 1 (xs.map eInt))]) := by
  refine a_enter Try.func111 rfl rfl (fun w0 M0 => ?_)
  refine a_seq ?_
  refine a_region ?_
  refine aops_cons rfl (w_pure rfl (p_assign rfl) ?_)
  refine aops_nil ?_
  refine a_seq ?_
  refine a_region ?_
  refine aops_cons rfl (w_litM eInt [] rfl el_22 rfl rfl rfl rfl rfl fun b1 => ?_)
  refine aops_cons rfl (w_pure rfl (p_assign rfl) ?_)
  refine aops_nil ?_
  refine a_seq ?_
  refine a_seq ?_
  refine a_region ?_
  refine aops_cons rfl (w_pure rfl (p_assign rfl) ?_)
  refine aops_nil ?_
  refine a_block ?_
  refine a_loop (ι := Nat × Nat × List Int × Int × Int) (fun ⟨i, b, xs, ka, ks⟩ => i ≤ 4 ∧ xs.length = i ∧ a ≤ ka ∧ ka ≤ a + 2 * i) (fun ⟨i, b, xs, ka, ks⟩ => [(3, .own 1 b 0 xs.length), (4, .int .i64 (i : Int))]) (fun ⟨i, b, xs, ka, ks⟩ => [(q, curE bs ka ks), (b, .arr 3 1 (xs.map eInt))]) (fun ⟨i, b, xs, ka, ks⟩ => 4 - i) (0, b1, [], a, s) ⟨by omega, rfl, by omega, by omega⟩ (by repeat (first | exact Knows.nil | refine Knows.cons (by rfl) ?_)) (by repeat (first | exact Picks.nil _ | exact Pick.here _ _ _ | apply Pick.next | apply Picks.cons)) ?_
  rintro ⟨i, b, xs, ka, ks⟩ ⟨hk1, hk2, hk3, hk4⟩
  skip
  refine a_seq ?_
  refine a_seq ?_
  refine a_region ?_
  refine aops_cons rfl (w_pure rfl (p_move rfl) ?_)
  refine aops_cons rfl (w_pure rfl (p_lss rfl rfl) ?_)
  refine aops_nil ?_
  first | refine a_cond_d rfl (fun h1 => ?_) (fun h2 => ?_) | refine a_cond_n rfl (fun h1 => ?_) (fun h2 => ?_) | refine a_cond_nb rfl (fun h1 => ?_) (fun h2 => ?_) | refine a_cond rfl (fun h1 => ?_) (fun h2 => ?_)
  · (try simp only [Bool.not_eq_true', Bool.not_eq_false', Bool.not_eq_true, Bool.not_eq_false, decide_eq_true_eq, decide_eq_false_iff_not, List.length_map, List.length_range] at h1)
    refine a_skip ?_
    refine a_seq ?_
    refine a_block ?_
    refine a_region ?_
    refine aops_cons rfl (w_pure rfl (p_move rfl) ?_)
    refine aops_cons rfl (w_pure rfl (p_move rfl) ?_)
    refine aops_cons rfl (w_lit_vM eInt [_, _, _, _, _, _] rfl el_22 rfl rfl rfl rfl rfl ?_)
    refine aops_cons rfl (w_callM0 rfl rfl rfl cl_90 (.cons (by repeat (first | exact Pick.here _ _ _ | apply Pick.next)) (.nil _)) (c_spec_l1Cur_among _ _ hb _ _ (by omega) (by omega) _ (by first | (simp; done) | (simp; omega)) (0) 65535 (by first | (intro x hx; simp only [List.mem_cons, List.not_mem_nil, or_false] at hx; omega) | (intro x hx; have hx := List.mem_of_mem_take hx; simp only [List.mem_cons, List.not_mem_nil, or_false] at hx; omega))) trivial ?_)
    rintro _ _ ⟨m1, a1, s1, rfl, hm1, ha1, hc1, rfl⟩
    (try simp only [List.length_map] at hm1)
    refine aops_cons rfl (w_lit_vM eInt [_] rfl el_22 rfl rfl rfl rfl rfl ?_)
    refine aops_cons rfl (w_appendM eInt rfl el_22 rfl rfl (by repeat (first | exact Pick.here _ _ _ | apply Pick.next)) rfl (.sl _) (fun _ => rfl) (fun _ => rfl) (by simp; omega) (by simp; omega) trivial fun b2 => ?_)
    refine aops_cons rfl (w_pure rfl (p_assign rfl) ?_)
    refine aops_nil ?_
    refine a_region ?_
    refine aops_cons rfl (w_pure rfl (p_move rfl) ?_)
    refine aops_cons rfl (w_pure rfl (p_add' rfl rfl ⟨by omega, by omega⟩) ?_)
    refine aops_cons rfl (w_pure rfl (p_assign rfl) ?_)
    refine aops_nil ?_
    refine ⟨(i + 1, _, _, _, _), _, ?_, ?_, (by repeat (first | exact Knows.nil | refine Knows.cons (by rfl) ?_)), (by repeat (first | exact Back.refl _ _ | refine Back.cons (by rfl) ?_)), (by repeat (first | exact Picks.nil _ | exact Pick.here _ _ _ | apply Pick.next | apply Picks.cons))⟩
    · refine ⟨by omega, by simp; omega, by omega, by omega⟩
    · (try dsimp only); omega
  · (try simp only [Bool.not_eq_true', Bool.not_eq_false', Bool.not_eq_true, Bool.not_eq_false, decide_eq_true_eq, decide_eq_false_iff_not, List.length_map, List.length_range] at h2)
    refine a_exit ?_
    refine a_seq ?_
    refine a_seq ?_
    refine a_region ?_
    refine aops_cons rfl (w_pure rfl (p_move rfl) ?_)
    refine aops_cons rfl (w_callM0 rfl rfl rfl cl_89 (.cons (by repeat (first | exact Pick.here _ _ _ | apply Pick.next)) (.nil _)) (c_spec_l1Cur_pick _ _ hb _ _ (by omega) (by omega) _ (by first | omega | (simp; done) | (simp; omega))) trivial ?_)
    rintro _ _ ⟨m1, a1, s1, rfl, hm1, ha1, hc1, rfl⟩
    (try simp only [List.length_map] at hm1)
    refine aops_nil ?_
    refine a_block ?_
    refine a_seq ?_
    refine a_region ?_
    refine aops_cons rfl (w_pure rfl (p_eql rfl rfl) ?_)
    refine aops_cons rfl (w_pure rfl (p_assign rfl) ?_)
    refine aops_nil ?_
    first | refine a_cond_d rfl (fun h3 => ?_) (fun h4 => ?_) | refine a_cond_n rfl (fun h3 => ?_) (fun h4 => ?_) | refine a_cond_nb rfl (fun h3 => ?_) (fun h4 => ?_) | refine a_cond rfl (fun h3 => ?_) (fun h4 => ?_)
    · (try simp only [Bool.not_eq_true', Bool.not_eq_false', Bool.not_eq_true, Bool.not_eq_false, decide_eq_true_eq, decide_eq_false_iff_not, List.length_map, List.length_range] at h3)
      refine a_seq ?_
      refine a_cut (xs := xs) (f := eInt) 3 (by repeat (first | exact Pick.here _ _ _ | apply Pick.next)) ?_
      refine a_region ?_
      refine aops_cons rfl (w_pure rfl (p_move rfl) ?_)
      refine aops_cons rfl (w_pure rfl (p_slice_own 3 es_22 rfl (hi_some rfl rfl) (by omega)) ?_)
      refine aops_cons rfl (w_pure rfl (p_assign rfl) ?_)
      refine aops_nil ?_
      refine a_ret ?_
      refine ret_ok (hands1 rfl (.tmp rfl)) (st' := [(q, _), (b, _)]) (.cons (by repeat (first | exact Pick.here _ _ _ | apply Pick.next)) (.cons (by repeat (first | exact Pick.here _ _ _ | apply Pick.next)) (.nil _))) ?_
      first | exact ⟨_, _, _, _, rfl, by omega, by omega, by omega, rfl⟩ | exact ⟨_, _, _, _, by rw [List.length_set], by rw [List.length_set]; omega, by omega, by omega, rfl⟩ | exact ⟨_, xs.take 3, _, _, by rw [List.length_take, Nat.min_eq_left (by omega)], by rw [List.length_take]; omega, by omega, by omega, rfl⟩
    · (try simp only [Bool.not_eq_true', Bool.not_eq_false', Bool.not_eq_true, Bool.not_eq_false, decide_eq_true_eq, decide_eq_false_iff_not, List.length_map, List.length_range] at h4)
      refine a_seq ?_
      refine a_region ?_
      refine aops_cons rfl (w_pure rfl (p_eql rfl rfl) ?_)
      refine aops_cons rfl (w_pure rfl (p_assign rfl) ?_)
      refine aops_nil ?_
      first | refine a_cond_d rfl (fun h5 => ?_) (fun h6 => ?_) | refine a_cond_n rfl (fun h5 => ?_) (fun h6 => ?_) | refine a_cond_nb rfl (fun h5 => ?_) (fun h6 => ?_) | refine a_cond rfl (fun h5 => ?_) (fun h6 => ?_)
      · (try simp only [Bool.not_eq_true', Bool.not_eq_false', Bool.not_eq_true, Bool.not_eq_false, decide_eq_true_eq, decide_eq_false_iff_not, List.length_map, List.length_range] at h5)
        refine a_region ?_
        refine aops_cons rfl (w_pure rfl (p_move rfl) ?_)
        refine aops_cons rfl (w_pure rfl (p_move rfl) ?_)
        refine aops_cons rfl (w_lit_vM eInt [_, _] rfl el_22 rfl rfl rfl rfl rfl ?_)
        refine aops_cons rfl (w_callM0 rfl rfl rfl cl_90 (.cons (by repeat (first | exact Pick.here _ _ _ | apply Pick.next)) (.nil _)) (c_spec_l1Cur_among _ _ hb _ _ (by omega) (by omega) _ (by first | (simp; done) | (simp; omega)) (-1) 65536 (by first | (intro x hx; simp only [List.mem_cons, List.not_mem_nil, or_false] at hx; omega) | (intro x hx; have hx := List.mem_of_mem_take hx; simp only [List.mem_cons, List.not_mem_nil, or_false] at hx; omega))) trivial ?_)
        rintro _ _ ⟨m2, a2, s2, rfl, hm2, ha2, hc2, rfl⟩
        (try simp only [List.length_map] at hm2)
        refine aops_cons rfl (w_pure rfl (p_index_own0 3 rfl rfl rfl (by omega) es_22) ?_)
        refine aops_cons rfl (w_store_eM eInt _ rfl rfl rfl (by repeat (first | exact Pick.here _ _ _ | apply Pick.next)) (by omega) cn_3 (by rfl) (by rfl) (by rfl) trivial ?_)
        refine aops_nil ?_
        refine a_seq ?_
        refine a_region ?_
        refine aops_cons rfl (w_pure rfl (p_move rfl) ?_)
        refine aops_cons rfl (w_pure rfl (p_assign rfl) ?_)
        refine aops_nil ?_
        refine a_ret ?_
        refine ret_ok (hands1 rfl (.tmp rfl)) (st' := [(q, _), (b, _)]) (.cons (by repeat (first | exact Pick.here _ _ _ | apply Pick.next)) (.cons (by repeat (first | exact Pick.here _ _ _ | apply Pick.next)) (.nil _))) ?_
        first | exact ⟨_, _, _, _, rfl, by omega, by omega, by omega, rfl⟩ | exact ⟨_, _, _, _, by rw [List.length_set], by rw [List.length_set]; omega, by omega, by omega, rfl⟩ | exact ⟨_, xs.take 3, _, _, by rw [List.length_take, Nat.min_eq_left (by omega)], by rw [List.length_take]; omega, by omega, by omega, rfl⟩
      · (try simp only [Bool.not_eq_true', Bool.not_eq_false', Bool.not_eq_true, Bool.not_eq_false, decide_eq_true_eq, decide_eq_false_iff_not, List.length_map, List.length_range] at h6)
        refine a_skip ?_
        refine a_seq ?_
        refine a_region ?_
        refine aops_cons rfl (w_pure rfl (p_move rfl) ?_)
        refine aops_cons rfl (w_pure rfl (p_assign rfl) ?_)
        refine aops_nil ?_
        refine a_ret ?_
        refine ret_ok (hands1 rfl (.tmp rfl)) (st' := [(q, _), (b, _)]) (.cons (by repeat (first | exact Pick.here _ _ _ | apply Pick.next)) (.cons (by repeat (first | exact Pick.here _ _ _ | apply Pick.next)) (.nil _))) ?_
        first | exact ⟨_, _, _, _, rfl, by omega, by omega, by omega, rfl⟩ | exact ⟨_, _, _, _, by rw [List.length_set], by rw [List.length_set]; omega, by omega, by omega, rfl⟩ | exact ⟨_, xs.take 3, _, _, by rw [List.length_take, Nat.min_eq_left (by omega)], by rw [List.length_take]; omega, by omega, by omega, rfl⟩

theorem c_spec_l1Cur_context (q : Nat) (bs : List Int) (hb : Bytes bs) (a s : Int) (h0 : 0 ≤ a) (h1 : a ≤ 999999970000) (g : Int) : ACalls Try.prog 88 [.ptr q 0, .int .i64 g] [(q, curE bs a s)] (fun r st => ∃ (b : Nat) (c : Context) (a' : Int) (s' : Int), r = .agg [.int .i64 c.id, .own 1 b 0 c.regs.words.length, .int .i64 c.regs.pc, .bool c.regs.f, .bool c.regs.g, .int .i64 c.wait, .int .i64 c.pend] ∧ c.regs.words.length ≤ 4 ∧ a ≤ a' ∧ a' ≤ a + 30 ∧ st = [(q, curE bs a' s'), (b, .arr 3 1 (c.regs.words.map eInt))]) := by
  refine a_enter Try.func88 rfl rfl (fun w0 M0 => ?_)
  refine a_seq ?_
  refine a_region ?_
  refine aops_cons rfl (w_alloc rfl z_32 fun b1 => ?_)
  refine aops_nil ?_
  refine a_seq ?_
  refine a_region ?_
  refine aops_cons rfl (w_pure rfl (p_move rfl) ?_)
  refine aops_cons rfl (w_pure rfl (p_move rfl) ?_)
  refine aops_cons rfl (w_callM0 rfl rfl rfl cl_111 (.cons (by repeat (first | exact Pick.here _ _ _ | apply Pick.next)) (.nil _)) (c_spec_l1Cur_registers5 _ _ hb _ _ (by omega) (by omega) ) trivial ?_)
  rintro _ _ ⟨b2, xs1, a1, s1, rfl, hx1, ha1, hc1, rfl⟩
  skip
  refine aops_cons rfl (w_pure rfl (p_move rfl) ?_)
  refine aops_cons rfl (w_callM0 rfl rfl rfl cl_89 (.cons (by repeat (first | exact Pick.here _ _ _ | apply Pick.next)) (.nil _)) (c_spec_l1Cur_pick _ _ hb _ _ (by omega) (by omega) _ (by first | omega | (simp; done) | (simp; omega))) trivial ?_)
  rintro _ _ ⟨m2, a2, s2, rfl, hm2, ha2, hc2, rfl⟩
  (try simp only [List.length_map] at hm2)
  refine aops_cons rfl (w_pure rfl (p_move rfl) ?_)
  refine aops_cons rfl (w_callM0 rfl rfl rfl cl_96 (.cons (by repeat (first | exact Pick.here _ _ _ | apply Pick.next)) (.nil _)) (c_spec_l1Cur_one _ _ hb _ _ (by omega) (by omega) _ (by omega)) trivial ?_)
  rintro _ _ ⟨o3, a3, s3, rfl, ha3, hc3, rfl⟩
  skip
  refine aops_cons rfl (w_pure rfl (p_move rfl) ?_)
  refine aops_cons rfl (w_callM0 rfl rfl rfl cl_96 (.cons (by repeat (first | exact Pick.here _ _ _ | apply Pick.next)) (.nil _)) (c_spec_l1Cur_one _ _ hb _ _ (by omega) (by omega) _ (by omega)) trivial ?_)
  rintro _ _ ⟨o4, a4, s4, rfl, ha4, hc4, rfl⟩
  skip
  refine aops_cons rfl (w_pure rfl (p_build (cells := [_, _, _, _]) z_30 pl_30 rfl rfl) ?_)
  refine aops_cons rfl (w_pure rfl (p_move rfl) ?_)
  refine aops_cons rfl (w_callM0 rfl rfl rfl cl_89 (.cons (by repeat (first | exact Pick.here _ _ _ | apply Pick.next)) (.nil _)) (c_spec_l1Cur_pick _ _ hb _ _ (by omega) (by omega) _ (by first | omega | (simp; done) | (simp; omega))) trivial ?_)
  rintro _ _ ⟨m5, a5, s5, rfl, hm5, ha5, hc5, rfl⟩
  (try simp only [List.length_map] at hm5)
  refine aops_cons rfl (w_pure rfl (p_move rfl) ?_)
  refine aops_cons rfl (w_lit_vM eInt [_, _, _, _, _] rfl el_22 rfl rfl rfl rfl rfl ?_)
  refine aops_cons rfl (w_callM0 rfl rfl rfl cl_90 (.cons (by repeat (first | exact Pick.here _ _ _ | apply Pick.next)) (.nil _)) (c_spec_l1Cur_among _ _ hb _ _ (by omega) (by omega) _ (by first | (simp; done) | (simp; omega)) (0) 255 (by first | (intro x hx; simp only [List.mem_cons, List.not_mem_nil, or_false] at hx; omega) | (intro x hx; have hx := List.mem_of_mem_take hx; simp only [List.mem_cons, List.not_mem_nil, or_false] at hx; omega))) trivial ?_)
  rintro _ _ ⟨m6, a6, s6, rfl, hm6, ha6, hc6, rfl⟩
  (try simp only [List.length_map] at hm6)
  refine aops_cons rfl (w_pure rfl (p_build (cells := [_, _, _, _, _, _, _]) z_32 pl_32 rfl rfl) ?_)
  refine aops_cons rfl (w_alloc rfl z_32 fun b3 => ?_)
  refine aops_cons rfl (w_store (cells' := [_, _, _, _, _, _, _]) rfl rfl rfl (by repeat (first | exact Pick.here _ _ _ | apply Pick.next)) cn_32 (by rfl) (by rfl) (by rfl) trivial ?_)
  refine aops_nil ?_
  refine a_seq ?_
  refine a_seq ?_
  refine a_region ?_
  refine aops_cons rfl (w_pure rfl (p_move rfl) ?_)
  refine aops_cons rfl (w_callM0 rfl rfl rfl cl_89 (.cons (by repeat (first | exact Pick.here _ _ _ | apply Pick.next)) (.nil _)) (c_spec_l1Cur_pick _ _ hb _ _ (by omega) (by omega) _ (by first | omega | (simp; done) | (simp; omega))) trivial ?_)
  rintro _ _ ⟨m7, a7, s7, rfl, hm7, ha7, hc7, rfl⟩
  (try simp only [List.length_map] at hm7)
  refine aops_nil ?_
  refine a_block ?_
  refine a_seq ?_
  refine a_region ?_
  refine aops_cons rfl (w_pure rfl (p_eql rfl rfl) ?_)
  refine aops_cons rfl (w_pure rfl (p_assign rfl) ?_)
  refine aops_nil ?_
  first | refine a_cond_d rfl (fun h1 => ?_) (fun h2 => ?_) | refine a_cond_n rfl (fun h1 => ?_) (fun h2 => ?_) | refine a_cond_nb rfl (fun h1 => ?_) (fun h2 => ?_) | refine a_cond rfl (fun h1 => ?_) (fun h2 => ?_)
  · (try simp only [Bool.not_eq_true', Bool.not_eq_false', Bool.not_eq_true, Bool.not_eq_false, decide_eq_true_eq, decide_eq_false_iff_not, List.length_map, List.length_range] at h1)
    refine a_region ?_
    refine aops_cons rfl (w_pure rfl (p_move rfl) ?_)
    refine aops_cons rfl (w_lit_vM eInt [_, _] rfl el_22 rfl rfl rfl rfl rfl ?_)
    refine aops_cons rfl (w_callM0 rfl rfl rfl cl_90 (.cons (by repeat (first | exact Pick.here _ _ _ | apply Pick.next)) (.nil _)) (c_spec_l1Cur_among _ _ hb _ _ (by omega) (by omega) _ (by first | (simp; done) | (simp; omega)) (0) 5 (by first | (intro x hx; simp only [List.mem_cons, List.not_mem_nil, or_false] at hx; omega) | (intro x hx; have hx := List.mem_of_mem_take hx; simp only [List.mem_cons, List.not_mem_nil, or_false] at hx; omega))) trivial ?_)
    rintro _ _ ⟨m8, a8, s8, rfl, hm8, ha8, hc8, rfl⟩
    (try simp only [List.length_map] at hm8)
    refine aops_cons rfl (w_pure rfl (p_field_box fo_32_0 rfl) ?_)
    refine aops_cons rfl (w_store (cells' := [_, _, _, _, _, _, _]) rfl rfl rfl (by repeat (first | exact Pick.here _ _ _ | apply Pick.next)) cn_3 (by rfl) (by rfl) (by rfl) trivial ?_)
    refine aops_nil ?_
    refine a_seq ?_
    refine a_region ?_
    refine aops_cons rfl (w_pure rfl (p_load_box_all ag_32 rfl (by repeat (first | exact Pick.here _ _ _ | apply Pick.next)) (by rfl) noX) ?_)
    refine aops_cons rfl (w_store (cells' := [_, _, _, _, _, _, _]) rfl rfl rfl (by repeat (first | exact Pick.here _ _ _ | apply Pick.next)) cn_32 (by rfl) (by rfl) (by rfl) trivial ?_)
    refine aops_nil ?_
    refine a_ret ?_
    refine ret_ok (hands1 rfl (.cell ag_32 rfl (by repeat (first | exact Pick.here _ _ _ | apply Pick.next)) (by rfl))) (st' := [(q, _), (b2, _)]) (.cons (by repeat (first | exact Pick.here _ _ _ | apply Pick.next)) (.cons (by repeat (first | exact Pick.here _ _ _ | apply Pick.next)) (.nil _))) ?_
    exact ⟨_, ⟨_, ⟨_, _, _, _⟩, _, _⟩, _, _, rfl, by (try dsimp only); omega, by omega, by omega, rfl⟩
  · (try simp only [Bool.not_eq_true', Bool.not_eq_false', Bool.not_eq_true, Bool.not_eq_false, decide_eq_true_eq, decide_eq_false_iff_not, List.length_map, List.length_range] at h2)
    refine a_seq ?_
    refine a_region ?_
    refine aops_cons rfl (w_pure rfl (p_eql rfl rfl) ?_)
    refine aops_cons rfl (w_pure rfl (p_assign rfl) ?_)
    refine aops_nil ?_
    first | refine a_cond_d rfl (fun h3 => ?_) (fun h4 => ?_) | refine a_cond_n rfl (fun h3 => ?_) (fun h4 => ?_) | refine a_cond_nb rfl (fun h3 => ?_) (fun h4 => ?_) | refine a_cond rfl (fun h3 => ?_) (fun h4 => ?_)
    · (try simp only [Bool.not_eq_true', Bool.not_eq_false', Bool.not_eq_true, Bool.not_eq_false, decide_eq_true_eq, decide_eq_false_iff_not, List.length_map, List.length_range] at h3)
      refine a_region ?_
      refine aops_cons rfl (w_pure rfl (p_move rfl) ?_)
      refine aops_cons rfl (w_lit_vM eInt [_, _] rfl el_22 rfl rfl rfl rfl rfl ?_)
      refine aops_cons rfl (w_callM0 rfl rfl rfl cl_90 (.cons (by repeat (first | exact Pick.here _ _ _ | apply Pick.next)) (.nil _)) (c_spec_l1Cur_among _ _ hb _ _ (by omega) (by omega) _ (by first | (simp; done) | (simp; omega)) (-1) 16 (by first | (intro x hx; simp only [List.mem_cons, List.not_mem_nil, or_false] at hx; omega) | (intro x hx; have hx := List.mem_of_mem_take hx; simp only [List.mem_cons, List.not_mem_nil, or_false] at hx; omega))) trivial ?_)
      rintro _ _ ⟨m8, a8, s8, rfl, hm8, ha8, hc8, rfl⟩
      (try simp only [List.length_map] at hm8)
      refine aops_cons rfl (w_pure rfl (p_field_box fo_32_1 rfl) ?_)
      refine aops_cons rfl (w_pure rfl (p_field_box fo_30_1 rfl) ?_)
      refine aops_cons rfl (w_store (cells' := [_, _, _, _, _, _, _]) rfl rfl rfl (by repeat (first | exact Pick.here _ _ _ | apply Pick.next)) cn_3 (by rfl) (by rfl) (by rfl) trivial ?_)
      refine aops_nil ?_
      refine a_seq ?_
      refine a_region ?_
      refine aops_cons rfl (w_pure rfl (p_load_box_all ag_32 rfl (by repeat (first | exact Pick.here _ _ _ | apply Pick.next)) (by rfl) noX) ?_)
      refine aops_cons rfl (w_store (cells' := [_, _, _, _, _, _, _]) rfl rfl rfl (by repeat (first | exact Pick.here _ _ _ | apply Pick.next)) cn_32 (by rfl) (by rfl) (by rfl) trivial ?_)
      refine aops_nil ?_
      refine a_ret ?_
      refine ret_ok (hands1 rfl (.cell ag_32 rfl (by repeat (first | exact Pick.here _ _ _ | apply Pick.next)) (by rfl))) (st' := [(q, _), (b2, _)]) (.cons (by repeat (first | exact Pick.here _ _ _ | apply Pick.next)) (.cons (by repeat (first | exact Pick.here _ _ _ | apply Pick.next)) (.nil _))) ?_
      exact ⟨_, ⟨_, ⟨_, _, _, _⟩, _, _⟩, _, _, rfl, by (try dsimp only); omega, by omega, by omega, rfl⟩
    · (try simp only [Bool.not_eq_true', Bool.not_eq_false', Bool.not_eq_true, Bool.not_eq_false, decide_eq_true_eq, decide_eq_false_iff_not, List.length_map, List.length_range] at h4)
      refine a_seq ?_
      refine a_region ?_
      refine aops_cons rfl (w_pure rfl (p_eql rfl rfl) ?_)
      refine aops_cons rfl (w_pure rfl (p_assign rfl) ?_)
      refine aops_nil ?_
      first | refine a_cond_d rfl (fun h5 => ?_) (fun h6 => ?_) | refine a_cond_n rfl (fun h5 => ?_) (fun h6 => ?_) | refine a_cond_nb rfl (fun h5 => ?_) (fun h6 => ?_) | refine a_cond rfl (fun h5 => ?_) (fun h6 => ?_)
      · (try simp only [Bool.not_eq_true', Bool.not_eq_false', Bool.not_eq_true, Bool.not_eq_false, decide_eq_true_eq, decide_eq_false_iff_not, List.length_map, List.length_range] at h5)
        refine a_region ?_
        refine aops_cons rfl (w_pure rfl (p_move rfl) ?_)
        refine aops_cons rfl (w_lit_vM eInt [_, _] rfl el_22 rfl rfl rfl rfl rfl ?_)
        refine aops_cons rfl (w_callM0 rfl rfl rfl cl_90 (.cons (by repeat (first | exact Pick.here _ _ _ | apply Pick.next)) (.nil _)) (c_spec_l1Cur_among _ _ hb _ _ (by omega) (by omega) _ (by first | (simp; done) | (simp; omega)) (-1) 16 (by first | (intro x hx; simp only [List.mem_cons, List.not_mem_nil, or_false] at hx; omega) | (intro x hx; have hx := List.mem_of_mem_take hx; simp only [List.mem_cons, List.not_mem_nil, or_false] at hx; omega))) trivial ?_)
        rintro _ _ ⟨m8, a8, s8, rfl, hm8, ha8, hc8, rfl⟩
        (try simp only [List.length_map] at hm8)
        refine aops_cons rfl (w_pure rfl (p_field_box fo_32_2 rfl) ?_)
        refine aops_cons rfl (w_store (cells' := [_, _, _, _, _, _, _]) rfl rfl rfl (by repeat (first | exact Pick.here _ _ _ | apply Pick.next)) cn_3 (by rfl) (by rfl) (by rfl) trivial ?_)
        refine aops_nil ?_
        refine a_seq ?_
        refine a_region ?_
        refine aops_cons rfl (w_pure rfl (p_load_box_all ag_32 rfl (by repeat (first | exact Pick.here _ _ _ | apply Pick.next)) (by rfl) noX) ?_)
        refine aops_cons rfl (w_store (cells' := [_, _, _, _, _, _, _]) rfl rfl rfl (by repeat (first | exact Pick.here _ _ _ | apply Pick.next)) cn_32 (by rfl) (by rfl) (by rfl) trivial ?_)
        refine aops_nil ?_
        refine a_ret ?_
        refine ret_ok (hands1 rfl (.cell ag_32 rfl (by repeat (first | exact Pick.here _ _ _ | apply Pick.next)) (by rfl))) (st' := [(q, _), (b2, _)]) (.cons (by repeat (first | exact Pick.here _ _ _ | apply Pick.next)) (.cons (by repeat (first | exact Pick.here _ _ _ | apply Pick.next)) (.nil _))) ?_
        exact ⟨_, ⟨_, ⟨_, _, _, _⟩, _, _⟩, _, _, rfl, by (try dsimp only); omega, by omega, by omega, rfl⟩
      · (try simp only [Bool.not_eq_true', Bool.not_eq_false', Bool.not_eq_true, Bool.not_eq_false, decide_eq_true_eq, decide_eq_false_iff_not, List.length_map, List.length_range] at h6)
        refine a_seq ?_
        refine a_region ?_
        refine aops_cons rfl (w_pure rfl (p_eql rfl rfl) ?_)
        refine aops_cons rfl (w_pure rfl (p_assign rfl) ?_)
        refine aops_nil ?_
        first | refine a_cond_d rfl (fun h7 => ?_) (fun h8 => ?_) | refine a_cond_n rfl (fun h7 => ?_) (fun h8 => ?_) | refine a_cond_nb rfl (fun h7 => ?_) (fun h8 => ?_) | refine a_cond rfl (fun h7 => ?_) (fun h8 => ?_)
        · (try simp only [Bool.not_eq_true', Bool.not_eq_false', Bool.not_eq_true, Bool.not_eq_false, decide_eq_true_eq, decide_eq_false_iff_not, List.length_map, List.length_range] at h7)
          refine a_region ?_
          refine aops_cons rfl (w_pure rfl (p_move rfl) ?_)
          refine aops_cons rfl (w_lit_vM eInt [_, _] rfl el_22 rfl rfl rfl rfl rfl ?_)
          refine aops_cons rfl (w_callM0 rfl rfl rfl cl_90 (.cons (by repeat (first | exact Pick.here _ _ _ | apply Pick.next)) (.nil _)) (c_spec_l1Cur_among _ _ hb _ _ (by omega) (by omega) _ (by first | (simp; done) | (simp; omega)) (-1) 256 (by first | (intro x hx; simp only [List.mem_cons, List.not_mem_nil, or_false] at hx; omega) | (intro x hx; have hx := List.mem_of_mem_take hx; simp only [List.mem_cons, List.not_mem_nil, or_false] at hx; omega))) trivial ?_)
          rintro _ _ ⟨m8, a8, s8, rfl, hm8, ha8, hc8, rfl⟩
          (try simp only [List.length_map] at hm8)
          refine aops_cons rfl (w_pure rfl (p_field_box fo_32_3 rfl) ?_)
          refine aops_cons rfl (w_store (cells' := [_, _, _, _, _, _, _]) rfl rfl rfl (by repeat (first | exact Pick.here _ _ _ | apply Pick.next)) cn_3 (by rfl) (by rfl) (by rfl) trivial ?_)
          refine aops_nil ?_
          refine a_seq ?_
          refine a_region ?_
          refine aops_cons rfl (w_pure rfl (p_load_box_all ag_32 rfl (by repeat (first | exact Pick.here _ _ _ | apply Pick.next)) (by rfl) noX) ?_)
          refine aops_cons rfl (w_store (cells' := [_, _, _, _, _, _, _]) rfl rfl rfl (by repeat (first | exact Pick.here _ _ _ | apply Pick.next)) cn_32 (by rfl) (by rfl) (by rfl) trivial ?_)
          refine aops_nil ?_
          refine a_ret ?_
          refine ret_ok (hands1 rfl (.cell ag_32 rfl (by repeat (first | exact Pick.here _ _ _ | apply Pick.next)) (by rfl))) (st' := [(q, _), (b2, _)]) (.cons (by repeat (first | exact Pick.here _ _ _ | apply Pick.next)) (.cons (by repeat (first | exact Pick.here _ _ _ | apply Pick.next)) (.nil _))) ?_
          exact ⟨_, ⟨_, ⟨_, _, _, _⟩, _, _⟩, _, _, rfl, by (try dsimp only); omega, by omega, by omega, rfl⟩
        · (try simp only [Bool.not_eq_true', Bool.not_eq_false', Bool.not_eq_true, Bool.not_eq_false, decide_eq_true_eq, decide_eq_false_iff_not, List.length_map, List.length_range] at h8)
          refine a_skip ?_
          refine a_seq ?_
          refine a_region ?_
          refine aops_cons rfl (w_pure rfl (p_load_box_all ag_32 rfl (by repeat (first | exact Pick.here _ _ _ | apply Pick.next)) (by rfl) noX) ?_)
          refine aops_cons rfl (w_store (cells' := [_, _, _, _, _, _, _]) rfl rfl rfl (by repeat (first | exact Pick.here _ _ _ | apply Pick.next)) cn_32 (by rfl) (by rfl) (by rfl) trivial ?_)
          refine aops_nil ?_
          refine a_ret ?_
          refine ret_ok (hands1 rfl (.cell ag_32 rfl (by repeat (first | exact Pick.here _ _ _ | apply Pick.next)) (by rfl))) (st' := [(q, _), (b2, _)]) (.cons (by repeat (first | exact Pick.here _ _ _ | apply Pick.next)) (.cons (by repeat (first | exact Pick.here _ _ _ | apply Pick.next)) (.nil _))) ?_
          exact ⟨_, ⟨_, ⟨_, _, _, _⟩, _, _⟩, _, _, rfl, by (try dsimp only); omega, by omega, by omega, rfl⟩

theorem c_spec_l1Cur_contexts (q : Nat) (bs : List Int) (hb : Bytes bs) (a s : Int) (h0 : 0 ≤ a) (h1 : a ≤ 999999800000)  : ACalls Try.prog 98 [.ptr q 0] [(q, curE bs a s)] (fun r st => ∃ (b : Nat) (ps rs : List BC) (a' : Int) (s' : Int), r = .own 7 b 0 rs.length ∧ DrawnL ps rs ∧ a ≤ a' ∧ a' ≤ a + 200 ∧ st = (q, curE bs a' s') :: (b, .arr 32 7 (rs.map rowC)) :: fam (famC 3) ps) := by
  refine a_enter Try.func98 rfl rfl (fun w0 M0 => ?_)
  refine a_seq ?_
  refine a_region ?_
  refine aops_cons rfl (w_pure rfl (p_assign rfl) ?_)
  refine aops_nil ?_
  refine a_seq ?_
  refine a_region ?_
  refine aops_cons rfl (w_litM rowC [] rfl el_44 rfl rfl rfl rfl rfl fun b1 => ?_)
  refine aops_cons rfl (w_pure rfl (p_assign rfl) ?_)
  refine aops_nil ?_
  refine a_seq ?_
  refine a_seq ?_
  refine a_region ?_
  refine aops_cons rfl (w_pure rfl (p_assign rfl) ?_)
  refine aops_nil ?_
  refine a_block ?_
  refine a_loop (ι := Int × Nat × List BC × Int × Int) (fun ⟨n, b, ps, ka, ks⟩ => (1 ≤ n ∧ n ≤ 5 ∧ (ps.length : Int) + 1 ≤ n) ∧ (∀ p ∈ ps, p.2.regs.words.length ≤ 4) ∧ a ≤ ka ∧ ka + 40 ≤ a + 40 * n) (fun ⟨n, b, ps, ka, ks⟩ => [(3, .own 7 b 0 ps.length), (4, .int .i64 n)]) (fun ⟨n, b, ps, ka, ks⟩ => (q, curE bs ka ks) :: (b, .arr 32 7 (ps.map rowC)) :: fam (famC 3) ps) (fun ⟨n, b, ps, ka, ks⟩ => (5 - n).toNat) (1, b1, [], a, s) ⟨⟨by omega, by omega, by simp⟩, (fun _ h => by cases h), by omega, by omega⟩ (by repeat (first | exact Knows.nil | refine Knows.cons (by rfl) ?_)) (by (try dsimp only); (try simp only [fam_app, fam_one, fam_nil, List.append_assoc, List.cons_append, List.nil_append, List.append_nil, List.append_eq]); repeat (first | exact Picks.nil _ | exact Pick.here _ _ _ | exact Picks.whole _ _ | exact Picks.whole0 _ | apply Pick.next | apply Pick.under | apply Picks.cons | apply Picks.both | apply Picks.skip1 | apply Picks.skipA)) ?_
  rintro ⟨n, b, ps, ka, ks⟩ ⟨hk1, hk2, hk3, hk4⟩
  skip
  refine a_seq ?_
  refine a_seq ?_
  refine a_region ?_
  refine aops_cons rfl (w_pure rfl (p_move rfl) ?_)
  refine aops_cons rfl (w_pure rfl (p_leq rfl rfl) ?_)
  refine aops_nil ?_
  first | refine a_cond_d rfl (fun h1 => ?_) (fun h2 => ?_) | refine a_cond_n rfl (fun h1 => ?_) (fun h2 => ?_) | refine a_cond_nb rfl (fun h1 => ?_) (fun h2 => ?_) | refine a_cond rfl (fun h1 => ?_) (fun h2 => ?_)
  · (try simp only [Bool.not_eq_true', Bool.not_eq_false', Bool.not_eq_true, Bool.not_eq_false, decide_eq_true_eq, decide_eq_false_iff_not, List.length_map, List.length_range] at h1)
    refine a_skip ?_
    refine a_seq ?_
    refine a_block ?_
    refine a_seq ?_
    refine a_region ?_
    refine aops_cons rfl (w_pure rfl (p_move rfl) ?_)
    refine aops_cons rfl (w_callM0 rfl rfl rfl cl_96 (.cons (by (try simp only [fam_app, fam_one, fam_nil, List.append_assoc, List.cons_append, List.nil_append, List.append_nil, List.append_eq]); repeat (first | exact Pick.here _ _ _ | apply Pick.next | apply Pick.under)) (.nil _)) (c_spec_l1Cur_one _ _ hb _ _ (by omega) (by omega) _ (by omega)) trivial ?_)
    rintro _ _ ⟨o1, a1, s1, rfl, ha1, hc1, rfl⟩
    skip
    refine aops_nil ?_
    first | refine a_cond_d rfl (fun h3 => ?_) (fun h4 => ?_) | refine a_cond_n rfl (fun h3 => ?_) (fun h4 => ?_) | refine a_cond_nb rfl (fun h3 => ?_) (fun h4 => ?_) | refine a_cond rfl (fun h3 => ?_) (fun h4 => ?_)
    · (try simp only [Bool.not_eq_true', Bool.not_eq_false', Bool.not_eq_true, Bool.not_eq_false, decide_eq_true_eq, decide_eq_false_iff_not, List.length_map, List.length_range] at h3)
      refine a_region ?_
      refine aops_cons rfl (w_pure rfl (p_move rfl) ?_)
      refine aops_cons rfl (w_pure rfl (p_move rfl) ?_)
      refine aops_cons rfl (w_pure rfl (p_move rfl) ?_)
      refine aops_cons rfl (w_callM0 rfl rfl rfl cl_88 (.cons (by (try simp only [fam_app, fam_one, fam_nil, List.append_assoc, List.cons_append, List.nil_append, List.append_nil, List.append_eq]); repeat (first | exact Pick.here _ _ _ | apply Pick.next | apply Pick.under)) (.nil _)) (c_spec_l1Cur_context _ _ hb _ _ (by omega) (by omega) _) trivial ?_)
      rintro _ _ ⟨b2, v2, a2, s2, rfl, hd2, ha2, hc2, rfl⟩
      skip
      refine aops_cons rfl (w_lit_vM rowC [(b2, v2)] rfl el_44 rfl rfl rfl rfl rfl ?_)
      refine aops_cons rfl (w_appendM rowC rfl el_44 rfl rfl (by (try simp only [fam_app, fam_one, fam_nil, List.append_assoc, List.cons_append, List.nil_append, List.append_nil, List.append_eq]); repeat (first | exact Pick.here _ _ _ | apply Pick.next | apply Pick.under)) rfl (.sl _) (fun _ => rfl) (fun _ => rfl) (by simp; omega) (by simp; omega) trivial fun b3 => ?_)
      refine aops_cons rfl (w_pure rfl (p_assign rfl) ?_)
      refine aops_nil ?_
      refine a_region ?_
      refine aops_cons rfl (w_pure rfl (p_move rfl) ?_)
      refine aops_cons rfl (w_pure rfl (p_add' rfl rfl ⟨by omega, by omega⟩) ?_)
      refine aops_cons rfl (w_pure rfl (p_assign rfl) ?_)
      refine aops_nil ?_
      refine ⟨(n + 1, _, ps ++ [(b2, v2)], _, _), _, ?_, ?_, (by repeat (first | exact Knows.nil | refine Knows.cons (by rfl) ?_)), (by repeat (first | exact Back.refl _ _ | refine Back.cons (by rfl) ?_)), (by (try dsimp only); (try simp only [fam_app, fam_one, fam_nil, List.append_assoc, List.cons_append, List.nil_append, List.append_nil, List.append_eq]); repeat (first | exact Picks.nil _ | exact Pick.here _ _ _ | exact Picks.whole _ _ | exact Picks.whole0 _ | apply Pick.next | apply Pick.under | apply Picks.cons | apply Picks.both | apply Picks.skip1 | apply Picks.skipA))⟩
      · first | exact ⟨⟨by omega, by omega, by omega⟩, hk2, by omega, by omega⟩ | exact ⟨⟨by omega, by omega, by simp; omega⟩, drawn_mem hk2 (by assumption), by omega, by omega⟩
      · (try dsimp only); omega
    · (try simp only [Bool.not_eq_true', Bool.not_eq_false', Bool.not_eq_true, Bool.not_eq_false, decide_eq_true_eq, decide_eq_false_iff_not, List.length_map, List.length_range] at h4)
      refine a_skip ?_
      refine a_region ?_
      refine aops_cons rfl (w_pure rfl (p_move rfl) ?_)
      refine aops_cons rfl (w_pure rfl (p_add' rfl rfl ⟨by omega, by omega⟩) ?_)
      refine aops_cons rfl (w_pure rfl (p_assign rfl) ?_)
      refine aops_nil ?_
      refine ⟨(n + 1, _, ps, _, _), _, ?_, ?_, (by repeat (first | exact Knows.nil | refine Knows.cons (by rfl) ?_)), (by repeat (first | exact Back.refl _ _ | refine Back.cons (by rfl) ?_)), (by (try dsimp only); (try simp only [fam_app, fam_one, fam_nil, List.append_assoc, List.cons_append, List.nil_append, List.append_nil, List.append_eq]); repeat (first | exact Picks.nil _ | exact Pick.here _ _ _ | exact Picks.whole _ _ | exact Picks.whole0 _ | apply Pick.next | apply Pick.under | apply Picks.cons | apply Picks.both | apply Picks.skip1 | apply Picks.skipA))⟩
      · first | exact ⟨⟨by omega, by omega, by omega⟩, hk2, by omega, by omega⟩ | exact ⟨⟨by omega, by omega, by simp; omega⟩, drawn_mem hk2 (by assumption), by omega, by omega⟩
      · (try dsimp only); omega
  · (try simp only [Bool.not_eq_true', Bool.not_eq_false', Bool.not_eq_true, Bool.not_eq_false, decide_eq_true_eq, decide_eq_false_iff_not, List.length_map, List.length_range] at h2)
    refine a_exit ?_
    refine a_seq ?_
    refine a_seq ?_
    refine a_region ?_
    refine aops_cons rfl (w_pure rfl (p_move rfl) ?_)
    refine aops_cons rfl (w_pure rfl (p_len sl_44 rfl rfl) ?_)
    refine aops_cons rfl (w_pure rfl (p_gtr rfl rfl) ?_)
    refine aops_cons rfl (w_pure rfl (p_move rfl) ?_)
    first | refine aops_split_d 21 rfl (fun h5 => ?_) (fun h6 => ?_) | refine aops_split 21 rfl (fun h5 => ?_) (fun h6 => ?_)
    · (try simp only [Bool.not_eq_true', Bool.not_eq_false', Bool.not_eq_true, Bool.not_eq_false, decide_eq_true_eq, decide_eq_false_iff_not, List.length_map, List.length_range] at h5)
      refine aops_guard_t rfl rfl rfl (w_pure rfl (p_move rfl) ?_)
      refine aops_guard_t rfl rfl rfl (w_callM0 rfl rfl rfl cl_96 (.cons (by (try simp only [fam_app, fam_one, fam_nil, List.append_assoc, List.cons_append, List.nil_append, List.append_nil, List.append_eq]); repeat (first | exact Pick.here _ _ _ | apply Pick.next | apply Pick.under)) (.nil _)) (c_spec_l1Cur_one _ _ hb _ _ (by omega) (by omega) _ (by omega)) trivial ?_)
      rintro _ _ ⟨o1, a1, s1, rfl, ha1, hc1, rfl⟩
      skip
      refine aops_cons rfl (w_pure rfl (p_pick_t rfl rfl) ?_)
      refine aops_nil ?_
      first | refine a_cond_d rfl (fun h7 => ?_) (fun h8 => ?_) | refine a_cond_n rfl (fun h7 => ?_) (fun h8 => ?_) | refine a_cond_nb rfl (fun h7 => ?_) (fun h8 => ?_) | refine a_cond rfl (fun h7 => ?_) (fun h8 => ?_)
      · (try simp only [Bool.not_eq_true', Bool.not_eq_false', Bool.not_eq_true, Bool.not_eq_false, decide_eq_true_eq, decide_eq_false_iff_not, List.length_map, List.length_range] at h7)
        refine a_region ?_
        refine aops_cons rfl (w_pure rfl (p_move rfl) ?_)
        refine aops_cons rfl (w_pure rfl (p_move rfl) ?_)
        refine aops_cons rfl (w_pure rfl (p_index_own0 0 rfl rfl rfl (by omega) es_44) ?_)
        refine aops_cons rfl (w_pure rfl (p_load_e_all ag_32 rfl (by (try simp only [fam_app, fam_one, fam_nil, List.append_assoc, List.cons_append, List.nil_append, List.append_nil, List.append_eq]); repeat (first | exact Pick.here _ _ _ | apply Pick.next | apply Pick.under)) (rowD _ _ zBC (by omega)) noX) ?_)
        refine aops_cons rfl (w_lit_vM rowC [(ps.getD 0 zBC)] rfl el_44 rfl rfl rfl rfl rfl ?_)
        refine aops_cons rfl (w_appendM rowC rfl el_44 rfl rfl (by (try simp only [fam_app, fam_one, fam_nil, List.append_assoc, List.cons_append, List.nil_append, List.append_nil, List.append_eq]); repeat (first | exact Pick.here _ _ _ | apply Pick.next | apply Pick.under)) rfl (.sl _) (fun _ => rfl) (fun _ => rfl) (by simp; omega) (by simp; omega) trivial fun b4 => ?_)
        refine aops_cons rfl (w_pure rfl (p_assign rfl) ?_)
        refine aops_nil ?_
        refine a_seq ?_
        refine a_region ?_
        refine aops_cons rfl (w_pure rfl (p_move rfl) ?_)
        refine aops_cons rfl (w_pure rfl (p_assign rfl) ?_)
        refine aops_nil ?_
        refine a_ret ?_
        refine ret_ok (hands1 rfl (.tmp rfl)) (st' := (q, _) :: (_, .arr 32 7 _) :: fam (famC 3) ps) (by (try dsimp only); (try simp only [fam_app, fam_one, fam_nil, List.append_assoc, List.cons_append, List.nil_append, List.append_nil, List.append_eq]); repeat (first | exact Picks.nil _ | exact Pick.here _ _ _ | exact Picks.whole _ _ | exact Picks.whole0 _ | apply Pick.next | apply Pick.under | apply Picks.cons | apply Picks.both | apply Picks.skip1 | apply Picks.skipA)) ?_
        first | exact ⟨_, ps, ps, _, _, rfl, drawn_same (by omega) hk2, by omega, by omega, rfl⟩ | exact ⟨_, ps, ps ++ [(ps.getD 0 zBC)], _, _, by rw [List.length_append], drawn_app (by omega) hk2 (by omega), by omega, by omega, rfl⟩
      · (try simp only [Bool.not_eq_true', Bool.not_eq_false', Bool.not_eq_true, Bool.not_eq_false, decide_eq_true_eq, decide_eq_false_iff_not, List.length_map, List.length_range] at h8)
        refine a_skip ?_
        refine a_seq ?_
        refine a_region ?_
        refine aops_cons rfl (w_pure rfl (p_move rfl) ?_)
        refine aops_cons rfl (w_pure rfl (p_assign rfl) ?_)
        refine aops_nil ?_
        refine a_ret ?_
        refine ret_ok (hands1 rfl (.tmp rfl)) (st' := (q, _) :: (_, .arr 32 7 _) :: fam (famC 3) ps) (by (try dsimp only); (try simp only [fam_app, fam_one, fam_nil, List.append_assoc, List.cons_append, List.nil_append, List.append_nil, List.append_eq]); repeat (first | exact Picks.nil _ | exact Pick.here _ _ _ | exact Picks.whole _ _ | exact Picks.whole0 _ | apply Pick.next | apply Pick.under | apply Picks.cons | apply Picks.both | apply Picks.skip1 | apply Picks.skipA)) ?_
        first | exact ⟨_, ps, ps, _, _, rfl, drawn_same (by omega) hk2, by omega, by omega, rfl⟩ | exact ⟨_, ps, ps ++ [(ps.getD 0 zBC)], _, _, by rw [List.length_append], drawn_app (by omega) hk2 (by omega), by omega, by omega, rfl⟩
    · (try simp only [Bool.not_eq_true', Bool.not_eq_false', Bool.not_eq_true, Bool.not_eq_false, decide_eq_true_eq, decide_eq_false_iff_not, List.length_map, List.length_range] at h6)
      refine g_pass' rfl rfl rfl rfl rfl ?_
      refine g_pass' rfl rfl rfl rfl rfl ?_
      refine aops_cons rfl (w_pure rfl (p_pick_f rfl rfl) ?_)
      refine aops_nil ?_
      refine a_cond_f rfl ?_
      refine a_skip ?_
      refine a_seq ?_
      refine a_region ?_
      refine aops_cons rfl (w_pure rfl (p_move rfl) ?_)
      refine aops_cons rfl (w_pure rfl (p_assign rfl) ?_)
      refine aops_nil ?_
      refine a_ret ?_
      refine ret_ok (hands1 rfl (.tmp rfl)) (st' := (q, _) :: (_, .arr 32 7 _) :: fam (famC 3) ps) (by (try dsimp only); (try simp only [fam_app, fam_one, fam_nil, List.append_assoc, List.cons_append, List.nil_append, List.append_nil, List.append_eq]); repeat (first | exact Picks.nil _ | exact Pick.here _ _ _ | exact Picks.whole _ _ | exact Picks.whole0 _ | apply Pick.next | apply Pick.under | apply Picks.cons | apply Picks.both | apply Picks.skip1 | apply Picks.skipA)) ?_
      first | exact ⟨_, ps, ps, _, _, rfl, drawn_same (by omega) hk2, by omega, by omega, rfl⟩ | exact ⟨_, ps, ps ++ [(ps.getD 0 zBC)], _, _, by rw [List.length_append], drawn_app (by omega) hk2 (by omega), by omega, by omega, rfl⟩

theorem co_spec_DrawAreContexts (bs : List Int) (hb : Bytes bs) : ACalls Try.prog 97 [.sl (bs.map eByte)] [] (fun r st => ∃ (b : Nat) (ps rs : List BC), r = .own 7 b 0 rs.length ∧ DrawnL ps rs ∧ st = (b, .arr 32 7 (rs.map rowC)) :: fam (famC 3) ps) := by
  refine a_enter Try.func97 rfl rfl (fun w0 M0 => ?_)
  refine a_seq ?_
  refine a_region ?_
  refine aops_cons rfl (w_pure rfl (p_assign rfl) ?_)
  refine aops_nil ?_
  refine a_seq ?_
  refine a_region ?_
  refine aops_cons rfl (w_pure rfl (p_move rfl) ?_)
  refine aops_cons rfl (w_pure rfl (p_build (cells := [_, _, _]) z_97 pl_97 rfl rfl) ?_)
  refine aops_cons rfl (w_box rfl rfl rfl fun b1 => ?_)
  refine aops_cons rfl (w_pure rfl (p_assign rfl) ?_)
  refine aops_nil ?_
  refine a_seq ?_
  refine a_region ?_
  refine aops_cons rfl (w_pure rfl (p_move rfl) ?_)
  refine aops_cons rfl (w_callM0 rfl rfl rfl cl_98 (.cons (by (try simp only [fam_app, fam_one, fam_nil, List.append_assoc, List.cons_append, List.nil_append, List.append_nil, List.append_eq]); repeat (first | exact Pick.here _ _ _ | apply Pick.next | apply Pick.under)) (.nil _)) (c_spec_l1Cur_contexts _ _ hb _ _ (by omega) (by omega) ) trivial ?_)
  rintro _ _ ⟨b2, ps1, rs1, a1, s1, rfl, hd1, ha1, hc1, rfl⟩
  skip
  refine aops_cons rfl (w_pure rfl (p_assign rfl) ?_)
  refine aops_nil ?_
  refine a_ret ?_
  refine ret_ok (hands1 rfl (.tmp rfl)) (st' := (_, .arr 32 7 _) :: fam (famC 3) ps1) (by (try dsimp only); (try simp only [fam_app, fam_one, fam_nil, List.append_assoc, List.cons_append, List.nil_append, List.append_nil, List.append_eq]); repeat (first | exact Picks.nil _ | exact Pick.here _ _ _ | exact Picks.whole _ _ | exact Picks.whole0 _ | apply Pick.next | apply Pick.under | apply Picks.cons | apply Picks.both | apply Picks.skip1 | apply Picks.skipA)) ?_
  exact ⟨_, _, _, rfl, hd1, rfl⟩

theorem c_spec_DrawAreContexts (bs : List Int) (hb : Bytes bs) : ACalls Try.prog 97 [.sl (bs.map eByte)] [] (fun r st => (∃ xs : List Context, r = .sl (xs.map eContext) ∧ SmallL xs) ∧ st = []) :=
  freezeE (co_spec_DrawAreContexts bs hb) (by rintro _ _ ⟨b, ps, rs, rfl, hd, rfl⟩; exact ⟨_, .own2 (List.mem_cons_self ..) (List.length_map _) (vwR_ctx (drawn_vw hd)), rs.map (·.2), rfl, drawn_small hd⟩)

theorem c_spec_DrawSwapImages (bs : List Int) (hb : Bytes bs) : ACalls Try.prog 48 [.sl (bs.map eByte)] [] (fun r st => (∃ xs : List Context, r = .sl (xs.map eContext) ∧ SmallL xs) ∧ st = []) := by
  refine a_enter Try.func48 rfl rfl (fun w0 M0 => ?_)
  refine a_seq ?_
  refine a_region ?_
  refine aops_cons rfl (w_pure rfl (p_assign rfl) ?_)
  refine aops_nil ?_
  refine a_seq ?_
  refine a_region ?_
  refine aops_cons rfl (w_pure rfl (p_move rfl) ?_)
  refine aops_cons rfl (w_call rfl rfl rfl cl_97 (c_spec_DrawAreContexts bs hb) ?_)
  rintro _ _ ⟨⟨xs1, rfl, hx1⟩, rfl⟩
  skip
  refine aops_cons rfl (w_pure rfl (p_assign rfl) ?_)
  refine aops_nil ?_
  refine a_ret ?_
  refine ret_ok (hands1 rfl (.tmp rfl)) (.nil _) ?_
  exact ⟨⟨_, rfl, hx1⟩, rfl⟩

theorem co_spec_DrawIsContext (bs : List Int) (hb : Bytes bs) : ACalls Try.prog 78 [.sl (bs.map eByte)] [] (fun r st => ∃ (b : Nat) (c : Context), r = .agg [.int .i64 c.id, .own 1 b 0 c.regs.words.length, .int .i64 c.regs.pc, .bool c.regs.f, .bool c.regs.g, .int .i64 c.wait, .int .i64 c.pend] ∧ c.regs.words.length ≤ 4 ∧ st = [(b, .arr 3 1 (c.regs.words.map eInt))]) := by
  refine a_enter Try.func78 rfl rfl (fun w0 M0 => ?_)
  refine a_seq ?_
  refine a_region ?_
  refine aops_cons rfl (w_alloc rfl z_32 fun b1 => ?_)
  refine aops_nil ?_
  refine a_seq ?_
  refine a_region ?_
  refine aops_cons rfl (w_pure rfl (p_move rfl) ?_)
  refine aops_cons rfl (w_pure rfl (p_build (cells := [_, _, _]) z_97 pl_97 rfl rfl) ?_)
  refine aops_cons rfl (w_box rfl rfl rfl fun b2 => ?_)
  refine aops_cons rfl (w_pure rfl (p_assign rfl) ?_)
  refine aops_nil ?_
  refine a_seq ?_
  refine a_region ?_
  refine aops_cons rfl (w_pure rfl (p_move rfl) ?_)
  refine aops_cons rfl (w_pure rfl (p_move rfl) ?_)
  refine aops_cons rfl (w_callM0 rfl rfl rfl cl_89 (.cons (by repeat (first | exact Pick.here _ _ _ | apply Pick.next)) (.nil _)) (c_spec_l1Cur_pick _ _ hb _ _ (by omega) (by omega) _ (by first | omega | (simp; done) | (simp; omega))) trivial ?_)
  rintro _ _ ⟨m1, a1, s1, rfl, hm1, ha1, hc1, rfl⟩
  (try simp only [List.length_map] at hm1)
  refine aops_cons rfl (w_pure rfl (p_add' rfl rfl ⟨by omega, by omega⟩) ?_)
  refine aops_cons rfl (w_callM0 rfl rfl rfl cl_88 (.cons (by repeat (first | exact Pick.here _ _ _ | apply Pick.next)) (.nil _)) (c_spec_l1Cur_context _ _ hb _ _ (by omega) (by omega) _) trivial ?_)
  rintro _ _ ⟨b3, v2, a2, s2, rfl, hd2, ha2, hc2, rfl⟩
  skip
  refine aops_cons rfl (w_store (cells' := [_, _, _, _, _, _, _]) rfl rfl rfl (by repeat (first | exact Pick.here _ _ _ | apply Pick.next)) cn_32 (by rfl) (by rfl) (by rfl) trivial ?_)
  refine aops_nil ?_
  refine a_ret ?_
  refine ret_ok (hands1 rfl (.cell ag_32 rfl (by repeat (first | exact Pick.here _ _ _ | apply Pick.next)) (by rfl))) (st' := [(b3, _)]) (.cons (by repeat (first | exact Pick.here _ _ _ | apply Pick.next)) (.nil _)) ?_
  exact ⟨_, _, rfl, hd2, rfl⟩

theorem c_spec_DrawIsContext (bs : List Int) (hb : Bytes bs) : ACalls Try.prog 78 [.sl (bs.map eByte)] [] (fun r st => (∃ c : Context, r = .agg (eContext c) ∧ c.regs.words.length ≤ 4) ∧ st = []) :=
  freezeE (co_spec_DrawIsContext bs hb) (by rintro _ _ ⟨b, c, rfl, hd, rfl⟩; exact ⟨_, (.agg (.cons (.refl _) (.cons (.own (by repeat (first | exact List.Mem.head _ | apply List.Mem.tail)) (List.length_map _)) (.cons (.refl _) (.cons (.refl _) (.cons (.refl _) (.cons (.refl _) (.cons (.refl _) .nil)))))))), c, rfl, hd⟩)

theorem c_spec_DrawSaveContext (bs : List Int) (hb : Bytes bs) : ACalls Try.prog 40 [.sl (bs.map eByte)] [] (fun r st => (∃ c : Context, r = .agg (eContext c) ∧ c.regs.words.length ≤ 4) ∧ st = []) := by
  refine a_enter Try.func40 rfl rfl (fun w0 M0 => ?_)
  refine a_seq ?_
  refine a_region ?_
  refine aops_cons rfl (w_alloc rfl z_32 fun b1 => ?_)
  refine aops_nil ?_
  refine a_seq ?_
  refine a_region ?_
  refine aops_cons rfl (w_pure rfl (p_move rfl) ?_)
  refine aops_cons rfl (w_call rfl rfl rfl cl_78 (c_spec_DrawIsContext bs hb) ?_)
  rintro _ _ ⟨⟨v1, rfl, hd1⟩, rfl⟩
  skip
  refine aops_cons rfl (w_store (cells' := [_, _, _, _, _, _, _]) rfl rfl rfl (by repeat (first | exact Pick.here _ _ _ | apply Pick.next)) cn_32 (by rfl) (by rfl) (by rfl) trivial ?_)
  refine aops_nil ?_
  refine a_ret ?_
  refine ret_ok (hands1 rfl (.cell ag_32 rfl (by repeat (first | exact Pick.here _ _ _ | apply Pick.next)) (by rfl))) (.nil _) ?_
  exact ⟨⟨_, rfl, hd1⟩, rfl⟩

theorem co_spec_DrawChangedWords (bs : List Int) (hb : Bytes bs) : ACalls Try.prog 47 [.sl (bs.map eByte)] [] (fun r st => ∃ (b1 b2 : Nat) (a c : Context), r = .tup [.agg [.int .i64 a.id, .own 1 b1 0 a.regs.words.length, .int .i64 a.regs.pc, .bool a.regs.f, .bool a.regs.g, .int .i64 a.wait, .int .i64 a.pend], .agg [.int .i64 c.id, .own 1 b2 0 c.regs.words.length, .int .i64 c.regs.pc, .bool c.regs.f, .bool c.regs.g, .int .i64 c.wait, .int .i64 c.pend]] ∧ a.regs.words.length ≤ 4 ∧ c.regs.words.length ≤ 4 ∧ st = [(b1, .arr 3 1 (a.regs.words.map eInt)), (b2, .arr 3 1 (c.regs.words.map eInt))]) := by
  refine a_enter Try.func47 rfl rfl (fun w0 M0 => ?_)
  refine a_seq ?_
  refine a_region ?_
  refine aops_cons rfl (w_alloc rfl z_32 fun b1 => ?_)
  refine aops_cons rfl (w_alloc rfl z_32 fun b2 => ?_)
  refine aops_nil ?_
  refine a_seq ?_
  refine a_region ?_
  refine aops_cons rfl (w_pure rfl (p_move rfl) ?_)
  refine aops_cons rfl (w_pure rfl (p_build (cells := [_, _, _]) z_97 pl_97 rfl rfl) ?_)
  refine aops_cons rfl (w_box rfl rfl rfl fun b3 => ?_)
  refine aops_cons rfl (w_pure rfl (p_assign rfl) ?_)
  refine aops_nil ?_
  refine a_seq ?_
  refine a_region ?_
  refine aops_cons rfl (w_pure rfl (p_move rfl) ?_)
  refine aops_cons rfl (w_callM0 rfl rfl rfl cl_88 (.cons (by repeat (first | exact Pick.here _ _ _ | apply Pick.next)) (.nil _)) (c_spec_l1Cur_context _ _ hb _ _ (by omega) (by omega) _) trivial ?_)
  rintro _ _ ⟨b4, v1, a1, s1, rfl, hd1, ha1, hc1, rfl⟩
  skip
  refine aops_cons rfl (w_alloc rfl z_32 fun b5 => ?_)
  refine aops_cons rfl (w_store (cells' := [_, _, _, _, _, _, _]) rfl rfl rfl (by repeat (first | exact Pick.here _ _ _ | apply Pick.next)) cn_32 (by rfl) (by rfl) (by rfl) trivial ?_)
  refine aops_nil ?_
  refine a_seq ?_
  refine a_region ?_
  refine aops_cons rfl (w_pure rfl (p_load_box_all ag_32 rfl (by repeat (first | exact Pick.here _ _ _ | apply Pick.next)) (by rfl) noX) ?_)
  refine aops_cons rfl (w_callL rfl rfl rfl cl_95 (.cons (.agg (.cons (.refl _) (.cons (.own (by repeat (first | exact List.Mem.head _ | apply List.Mem.tail)) (by first | (simp; done) | (simp; assumption) | (simp; omega) | (simp [mkL]; done))) (.cons (.refl _) (.cons (.refl _) (.cons (.refl _) (.cons (.refl _) (.cons (.refl _) .nil)))))))) .nil) (co_spec_l14Copy v1 (small_four hd1)) ?_)
  rintro _ _ ⟨b6, rfl, rfl⟩
  refine ⟨(closed_agg (all_cons' (closed_int _ _) (all_cons' (closed_own _ _ _ _) (all_cons' (closed_int _ _) (all_cons' (closed_bool _) (all_cons' (closed_bool _) (all_cons' (closed_int _ _) (all_cons' (closed_int _ _) all_nil')))))))), (closedS_cons (closedAll _ _ _ _ cl_eInt) closedS_nil), ?_⟩
  refine aops_cons rfl (w_alloc rfl z_32 fun b7 => ?_)
  refine aops_cons rfl (w_store (cells' := [_, _, _, _, _, _, _]) rfl rfl rfl (by repeat (first | exact Pick.here _ _ _ | apply Pick.next)) cn_32 (by rfl) (by rfl) (by rfl) trivial ?_)
  refine aops_nil ?_
  refine a_seq ?_
  refine a_seq ?_
  refine a_region ?_
  refine aops_cons rfl (w_pure rfl (p_move rfl) ?_)
  refine aops_cons rfl (w_callM0 rfl rfl rfl cl_96 (.cons (by repeat (first | exact Pick.here _ _ _ | apply Pick.next)) (.nil _)) (c_spec_l1Cur_one _ _ hb _ _ (by omega) (by omega) _ (by omega)) trivial ?_)
  rintro _ _ ⟨o2, a2, s2, rfl, ha2, hc2, rfl⟩
  skip
  refine aops_nil ?_
  first | refine a_cond_d rfl (fun h1 => ?_) (fun h2 => ?_) | refine a_cond_n rfl (fun h1 => ?_) (fun h2 => ?_) | refine a_cond_nb rfl (fun h1 => ?_) (fun h2 => ?_) | refine a_cond rfl (fun h1 => ?_) (fun h2 => ?_)
  · (try simp only [Bool.not_eq_true', Bool.not_eq_false', Bool.not_eq_true, Bool.not_eq_false, decide_eq_true_eq, decide_eq_false_iff_not, List.length_map, List.length_range] at h1)
    refine a_seq ?_
    refine a_draw [b3, b1, b2] (by kernel_rfl) ?_
    show ADraw _ _ _ _ _ _ 8 _ _ _ _
    refine d_load 0 rfl (by kernel_rfl) (by kernel_rfl) (by kernel_rfl) rfl (p_load_box_all ag_32 rfl (by repeat (first | exact Pick.here _ _ _ | apply Pick.next)) (by rfl) (by simp [keys])) ?_
    refine d_take 1 rfl (by kernel_rfl) (by kernel_rfl) (by kernel_rfl) rfl (p_move rfl) ?_
    refine d_take 2 rfl (by kernel_rfl) (by kernel_rfl) (by kernel_rfl) rfl (p_move rfl) ?_
    refine draw_all [3] (by kernel_rfl) (by simp) ?_
    refine all_cons rfl rfl ?_ ?_
    · skip
      refine w_callM0 rfl rfl rfl cl_89 (.cons (by repeat (first | exact Pick.here _ _ _ | apply Pick.next)) (.nil _)) (c_spec_l1Cur_pick _ _ hb _ _ (by omega) (by omega) _ (by first | omega | (simp; done) | (simp; omega))) (by first | (simp [InTs, keys]; done) | trivial) ?_
      rintro _ _ ⟨m3, a3, s3, rfl, hm3, ha3, hc3, rfl⟩
      (try simp only [List.length_map] at hm3)
      refine d_take 4 rfl (by kernel_rfl) (by kernel_rfl) (by kernel_rfl) rfl (p_add' rfl rfl ⟨by omega, by omega⟩) ?_
      refine draw_all [5] (by kernel_rfl) (by simp) ?_
      refine all_cons rfl rfl ?_ ?_
      · skip
        refine w_callM0 rfl rfl rfl cl_88 (.cons (by repeat (first | exact Pick.here _ _ _ | apply Pick.next)) (.nil _)) (c_spec_l1Cur_context _ _ hb _ _ (by omega) (by omega) _) (by first | (simp [InTs, keys]; done) | trivial) ?_
        rintro _ _ ⟨b8, v4, a4, s4, rfl, hd4, ha4, hc4, rfl⟩
        skip
        refine draw_all [6] (by kernel_rfl) (by simp) ?_
        refine all_cons rfl rfl ?_ ?_
        · skip
          refine w_store (cells' := [_, _, _, _, _, _, _]) rfl rfl rfl (by repeat (first | exact Pick.here _ _ _ | apply Pick.next)) cn_32 (by rfl) (by rfl) (by rfl) (by first | (refine .inl ?_; simp; done) | (refine .inr ?_; simp [keys]; done)) ?_
          refine draw_all [7] (by kernel_rfl) (by simp) ?_
          refine all_cons rfl rfl ?_ ?_
          · skip
            refine w_store (cells' := [_, _, _, _, _, _, _]) rfl rfl rfl (by repeat (first | exact Pick.here _ _ _ | apply Pick.next)) cn_32 (by rfl) (by rfl) (by rfl) (by first | (refine .inl ?_; simp; done) | (refine .inr ?_; simp [keys]; done)) ?_
            refine draw_done (by kernel_rfl) ?_
            refine a_ret ?_
            refine ret_ok (hands2 rfl (.cell ag_32 rfl (by repeat (first | exact Pick.here _ _ _ | apply Pick.next)) (by rfl)) (.cell ag_32 rfl (by repeat (first | exact Pick.here _ _ _ | apply Pick.next)) (by rfl))) (st' := [(b4, _), (b8, _)]) (.cons (by repeat (first | exact Pick.here _ _ _ | apply Pick.next)) (.cons (by repeat (first | exact Pick.here _ _ _ | apply Pick.next)) (.nil _))) ?_
            first | exact ⟨_, _, v1, _, rfl, hd1, (by assumption), rfl⟩ | exact ⟨_, _, v1, ⟨v1.id, ⟨v1.regs.words, v1.regs.pc, v1.regs.f, v1.regs.g⟩, m4, v1.pend⟩, rfl, hd1, hd1, rfl⟩ | exact ⟨_, _, v1, ⟨v1.id, ⟨v1.regs.words, v1.regs.pc, !v1.regs.f, v1.regs.g⟩, v1.wait, v1.pend⟩, rfl, hd1, hd1, rfl⟩ | exact ⟨_, _, v1, ⟨v1.id, ⟨v1.regs.words, v1.regs.pc, v1.regs.f, v1.regs.g⟩, v1.wait, 7⟩, rfl, hd1, hd1, rfl⟩
          exact all_nil
        exact all_nil
      exact all_nil
    exact all_nil
  · (try simp only [Bool.not_eq_true', Bool.not_eq_false', Bool.not_eq_true, Bool.not_eq_false, decide_eq_true_eq, decide_eq_false_iff_not, List.length_map, List.length_range] at h2)
    refine a_skip ?_
    refine a_seq ?_
    refine a_seq ?_
    refine a_region ?_
    refine aops_cons rfl (w_pure rfl (p_move rfl) ?_)
    refine aops_cons rfl (w_callM0 rfl rfl rfl cl_89 (.cons (by repeat (first | exact Pick.here _ _ _ | apply Pick.next)) (.nil _)) (c_spec_l1Cur_pick _ _ hb _ _ (by omega) (by omega) _ (by first | omega | (simp; done) | (simp; omega))) trivial ?_)
    rintro _ _ ⟨m3, a3, s3, rfl, hm3, ha3, hc3, rfl⟩
    (try simp only [List.length_map] at hm3)
    refine aops_nil ?_
    refine a_block ?_
    refine a_seq ?_
    refine a_region ?_
    refine aops_cons rfl (w_pure rfl (p_eql rfl rfl) ?_)
    refine aops_cons rfl (w_pure rfl (p_assign rfl) ?_)
    refine aops_nil ?_
    first | refine a_cond_d rfl (fun h3 => ?_) (fun h4 => ?_) | refine a_cond_n rfl (fun h3 => ?_) (fun h4 => ?_) | refine a_cond_nb rfl (fun h3 => ?_) (fun h4 => ?_) | refine a_cond rfl (fun h3 => ?_) (fun h4 => ?_)
    · (try simp only [Bool.not_eq_true', Bool.not_eq_false', Bool.not_eq_true, Bool.not_eq_false, decide_eq_true_eq, decide_eq_false_iff_not, List.length_map, List.length_range] at h3)
      refine a_region ?_
      refine aops_cons rfl (w_pure rfl (p_move rfl) ?_)
      refine aops_cons rfl (w_callM0 rfl rfl rfl cl_89 (.cons (by repeat (first | exact Pick.here _ _ _ | apply Pick.next)) (.nil _)) (c_spec_l1Cur_pick _ _ hb _ _ (by omega) (by omega) _ (by first | omega | (simp; done) | (simp; omega))) trivial ?_)
      rintro _ _ ⟨m4, a4, s4, rfl, hm4, ha4, hc4, rfl⟩
      (try simp only [List.length_map] at hm4)
      refine aops_cons rfl (w_pure rfl (p_field_box fo_32_2 rfl) ?_)
      refine aops_cons rfl (w_store (cells' := [_, _, _, _, _, _, _]) rfl rfl rfl (by repeat (first | exact Pick.here _ _ _ | apply Pick.next)) cn_3 (by rfl) (by rfl) (by rfl) trivial ?_)
      refine aops_nil ?_
      refine a_seq ?_
      refine a_draw [b1, b2] (by kernel_rfl) ?_
      show ADraw _ _ _ _ _ _ 4 _ _ _ _
      refine d_load 0 rfl (by kernel_rfl) (by kernel_rfl) (by kernel_rfl) rfl (p_load_box_all ag_32 rfl (by repeat (first | exact Pick.here _ _ _ | apply Pick.next)) (by rfl) (by simp [keys])) ?_
      refine d_load 1 rfl (by kernel_rfl) (by kernel_rfl) (by kernel_rfl) rfl (p_load_box_all ag_32 rfl (by repeat (first | exact Pick.here _ _ _ | apply Pick.next)) (by rfl) (by simp [keys])) ?_
      refine draw_all [2] (by kernel_rfl) (by simp) ?_
      refine all_cons rfl rfl ?_ ?_
      · skip
        refine w_store (cells' := [_, _, _, _, _, _, _]) rfl rfl rfl (by repeat (first | exact Pick.here _ _ _ | apply Pick.next)) cn_32 (by rfl) (by rfl) (by rfl) (by first | (refine .inl ?_; simp; done) | (refine .inr ?_; simp [keys]; done)) ?_
        refine draw_all [3] (by kernel_rfl) (by simp) ?_
        refine all_cons rfl rfl ?_ ?_
        · skip
          refine w_store (cells' := [_, _, _, _, _, _, _]) rfl rfl rfl (by repeat (first | exact Pick.here _ _ _ | apply Pick.next)) cn_32 (by rfl) (by rfl) (by rfl) (by first | (refine .inl ?_; simp; done) | (refine .inr ?_; simp [keys]; done)) ?_
          refine draw_done (by kernel_rfl) ?_
          refine a_ret ?_
          refine ret_ok (hands2 rfl (.cell ag_32 rfl (by repeat (first | exact Pick.here _ _ _ | apply Pick.next)) (by rfl)) (.cell ag_32 rfl (by repeat (first | exact Pick.here _ _ _ | apply Pick.next)) (by rfl))) (st' := [(b4, _), (b6, _)]) (.cons (by repeat (first | exact Pick.here _ _ _ | apply Pick.next)) (.cons (by repeat (first | exact Pick.here _ _ _ | apply Pick.next)) (.nil _))) ?_
          first | exact ⟨_, _, v1, _, rfl, hd1, (by assumption), rfl⟩ | exact ⟨_, _, v1, ⟨v1.id, ⟨v1.regs.words, v1.regs.pc, v1.regs.f, v1.regs.g⟩, m4, v1.pend⟩, rfl, hd1, hd1, rfl⟩ | exact ⟨_, _, v1, ⟨v1.id, ⟨v1.regs.words, v1.regs.pc, !v1.regs.f, v1.regs.g⟩, v1.wait, v1.pend⟩, rfl, hd1, hd1, rfl⟩ | exact ⟨_, _, v1, ⟨v1.id, ⟨v1.regs.words, v1.regs.pc, v1.regs.f, v1.regs.g⟩, v1.wait, 7⟩, rfl, hd1, hd1, rfl⟩
        exact all_nil
      exact all_nil
    · (try simp only [Bool.not_eq_true', Bool.not_eq_false', Bool.not_eq_true, Bool.not_eq_false, decide_eq_true_eq, decide_eq_false_iff_not, List.length_map, List.length_range] at h4)
      refine a_seq ?_
      refine a_region ?_
      refine aops_cons rfl (w_pure rfl (p_eql rfl rfl) ?_)
      refine aops_cons rfl (w_pure rfl (p_assign rfl) ?_)
      refine aops_nil ?_
      first | refine a_cond_d rfl (fun h5 => ?_) (fun h6 => ?_) | refine a_cond_n rfl (fun h5 => ?_) (fun h6 => ?_) | refine a_cond_nb rfl (fun h5 => ?_) (fun h6 => ?_) | refine a_cond rfl (fun h5 => ?_) (fun h6 => ?_)
      · (try simp only [Bool.not_eq_true', Bool.not_eq_false', Bool.not_eq_true, Bool.not_eq_false, decide_eq_true_eq, decide_eq_false_iff_not, List.length_map, List.length_range] at h5)
        refine a_region ?_
        refine aops_cons rfl (w_pure rfl (p_field_box fo_32_1 rfl) ?_)
        refine aops_cons rfl (w_pure rfl (p_field_box fo_30_2 rfl) ?_)
        refine aops_cons rfl (w_pure rfl (p_load_box ag_4 rfl (by repeat (first | exact Pick.here _ _ _ | apply Pick.next)) (by rfl) noX) ?_)
        refine aops_cons rfl (w_pure rfl (p_not rfl) ?_)
        refine aops_cons rfl (w_pure rfl (p_field_box fo_32_1 rfl) ?_)
        refine aops_cons rfl (w_pure rfl (p_field_box fo_30_2 rfl) ?_)
        refine aops_cons rfl (w_store (cells' := [_, _, _, _, _, _, _]) rfl rfl rfl (by repeat (first | exact Pick.here _ _ _ | apply Pick.next)) cn_4 (by rfl) (by rfl) (by rfl) trivial ?_)
        refine aops_nil ?_
        refine a_seq ?_
        refine a_draw [b1, b2] (by kernel_rfl) ?_
        show ADraw _ _ _ _ _ _ 4 _ _ _ _
        refine d_load 0 rfl (by kernel_rfl) (by kernel_rfl) (by kernel_rfl) rfl (p_load_box_all ag_32 rfl (by repeat (first | exact Pick.here _ _ _ | apply Pick.next)) (by rfl) (by simp [keys])) ?_
        refine d_load 1 rfl (by kernel_rfl) (by kernel_rfl) (by kernel_rfl) rfl (p_load_box_all ag_32 rfl (by repeat (first | exact Pick.here _ _ _ | apply Pick.next)) (by rfl) (by simp [keys])) ?_
        refine draw_all [2] (by kernel_rfl) (by simp) ?_
        refine all_cons rfl rfl ?_ ?_
        · skip
          refine w_store (cells' := [_, _, _, _, _, _, _]) rfl rfl rfl (by repeat (first | exact Pick.here _ _ _ | apply Pick.next)) cn_32 (by rfl) (by rfl) (by rfl) (by first | (refine .inl ?_; simp; done) | (refine .inr ?_; simp [keys]; done)) ?_
          refine draw_all [3] (by kernel_rfl) (by simp) ?_
          refine all_cons rfl rfl ?_ ?_
          · skip
            refine w_store (cells' := [_, _, _, _, _, _, _]) rfl rfl rfl (by repeat (first | exact Pick.here _ _ _ | apply Pick.next)) cn_32 (by rfl) (by rfl) (by rfl) (by first | (refine .inl ?_; simp; done) | (refine .inr ?_; simp [keys]; done)) ?_
            refine draw_done (by kernel_rfl) ?_
            refine a_ret ?_
            refine ret_ok (hands2 rfl (.cell ag_32 rfl (by repeat (first | exact Pick.here _ _ _ | apply Pick.next)) (by rfl)) (.cell ag_32 rfl (by repeat (first | exact Pick.here _ _ _ | apply Pick.next)) (by rfl))) (st' := [(b4, _), (b6, _)]) (.cons (by repeat (first | exact Pick.here _ _ _ | apply Pick.next)) (.cons (by repeat (first | exact Pick.here _ _ _ | apply Pick.next)) (.nil _))) ?_
            first | exact ⟨_, _, v1, _, rfl, hd1, (by assumption), rfl⟩ | exact ⟨_, _, v1, ⟨v1.id, ⟨v1.regs.words, v1.regs.pc, v1.regs.f, v1.regs.g⟩, m4, v1.pend⟩, rfl, hd1, hd1, rfl⟩ | exact ⟨_, _, v1, ⟨v1.id, ⟨v1.regs.words, v1.regs.pc, !v1.regs.f, v1.regs.g⟩, v1.wait, v1.pend⟩, rfl, hd1, hd1, rfl⟩ | exact ⟨_, _, v1, ⟨v1.id, ⟨v1.regs.words, v1.regs.pc, v1.regs.f, v1.regs.g⟩, v1.wait, 7⟩, rfl, hd1, hd1, rfl⟩
          exact all_nil
        exact all_nil
      · (try simp only [Bool.not_eq_true', Bool.not_eq_false', Bool.not_eq_true, Bool.not_eq_false, decide_eq_true_eq, decide_eq_false_iff_not, List.length_map, List.length_range] at h6)
        refine a_seq ?_
        refine a_region ?_
        refine aops_cons rfl (w_pure rfl (p_eql rfl rfl) ?_)
        refine aops_cons rfl (w_pure rfl (p_assign rfl) ?_)
        refine aops_nil ?_
        first | refine a_cond_d rfl (fun h7 => ?_) (fun h8 => ?_) | refine a_cond_n rfl (fun h7 => ?_) (fun h8 => ?_) | refine a_cond_nb rfl (fun h7 => ?_) (fun h8 => ?_) | refine a_cond rfl (fun h7 => ?_) (fun h8 => ?_)
        · (try simp only [Bool.not_eq_true', Bool.not_eq_false', Bool.not_eq_true, Bool.not_eq_false, decide_eq_true_eq, decide_eq_false_iff_not, List.length_map, List.length_range] at h7)
          refine a_region ?_
          refine aops_cons rfl (w_pure rfl (p_field_box fo_32_3 rfl) ?_)
          refine aops_cons rfl (w_store (cells' := [_, _, _, _, _, _, _]) rfl rfl rfl (by repeat (first | exact Pick.here _ _ _ | apply Pick.next)) cn_3 (by rfl) (by rfl) (by rfl) trivial ?_)
          refine aops_nil ?_
          refine a_seq ?_
          refine a_draw [b1, b2] (by kernel_rfl) ?_
          show ADraw _ _ _ _ _ _ 4 _ _ _ _
          refine d_load 0 rfl (by kernel_rfl) (by kernel_rfl) (by kernel_rfl) rfl (p_load_box_all ag_32 rfl (by repeat (first | exact Pick.here _ _ _ | apply Pick.next)) (by rfl) (by simp [keys])) ?_
          refine d_load 1 rfl (by kernel_rfl) (by kernel_rfl) (by kernel_rfl) rfl (p_load_box_all ag_32 rfl (by repeat (first | exact Pick.here _ _ _ | apply Pick.next)) (by rfl) (by simp [keys])) ?_
          refine draw_all [2] (by kernel_rfl) (by simp) ?_
          refine all_cons rfl rfl ?_ ?_
          · skip
            refine w_store (cells' := [_, _, _, _, _, _, _]) rfl rfl rfl (by repeat (first | exact Pick.here _ _ _ | apply Pick.next)) cn_32 (by rfl) (by rfl) (by rfl) (by first | (refine .inl ?_; simp; done) | (refine .inr ?_; simp [keys]; done)) ?_
            refine draw_all [3] (by kernel_rfl) (by simp) ?_
            refine all_cons rfl rfl ?_ ?_
            · skip
              refine w_store (cells' := [_, _, _, _, _, _, _]) rfl rfl rfl (by repeat (first | exact Pick.here _ _ _ | apply Pick.next)) cn_32 (by rfl) (by rfl) (by rfl) (by first | (refine .inl ?_; simp; done) | (refine .inr ?_; simp [keys]; done)) ?_
              refine draw_done (by kernel_rfl) ?_
              refine a_ret ?_
              refine ret_ok (hands2 rfl (.cell ag_32 rfl (by repeat (first | exact Pick.here _ _ _ | apply Pick.next)) (by rfl)) (.cell ag_32 rfl (by repeat (first | exact Pick.here _ _ _ | apply Pick.next)) (by rfl))) (st' := [(b4, _), (b6, _)]) (.cons (by repeat (first | exact Pick.here _ _ _ | apply Pick.next)) (.cons (by repeat (first | exact Pick.here _ _ _ | apply Pick.next)) (.nil _))) ?_
              first | exact ⟨_, _, v1, _, rfl, hd1, (by assumption), rfl⟩ | exact ⟨_, _, v1, ⟨v1.id, ⟨v1.regs.words, v1.regs.pc, v1.regs.f, v1.regs.g⟩, m4, v1.pend⟩, rfl, hd1, hd1, rfl⟩ | exact ⟨_, _, v1, ⟨v1.id, ⟨v1.regs.words, v1.regs.pc, !v1.regs.f, v1.regs.g⟩, v1.wait, v1.pend⟩, rfl, hd1, hd1, rfl⟩ | exact ⟨_, _, v1, ⟨v1.id, ⟨v1.regs.words, v1.regs.pc, v1.regs.f, v1.regs.g⟩, v1.wait, 7⟩, rfl, hd1, hd1, rfl⟩
            exact all_nil
          exact all_nil
        · (try simp only [Bool.not_eq_true', Bool.not_eq_false', Bool.not_eq_true, Bool.not_eq_false, decide_eq_true_eq, decide_eq_false_iff_not, List.length_map, List.length_range] at h8)
          refine a_skip ?_
          refine a_seq ?_
          refine a_draw [b1, b2] (by kernel_rfl) ?_
          show ADraw _ _ _ _ _ _ 4 _ _ _ _
          refine d_load 0 rfl (by kernel_rfl) (by kernel_rfl) (by kernel_rfl) rfl (p_load_box_all ag_32 rfl (by repeat (first | exact Pick.here _ _ _ | apply Pick.next)) (by rfl) (by simp [keys])) ?_
          refine d_load 1 rfl (by kernel_rfl) (by kernel_rfl) (by kernel_rfl) rfl (p_load_box_all ag_32 rfl (by repeat (first | exact Pick.here _ _ _ | apply Pick.next)) (by rfl) (by simp [keys])) ?_
          refine draw_all [2] (by kernel_rfl) (by simp) ?_
          refine all_cons rfl rfl ?_ ?_
          · skip
            refine w_store (cells' := [_, _, _, _, _, _, _]) rfl rfl rfl (by repeat (first | exact Pick.here _ _ _ | apply Pick.next)) cn_32 (by rfl) (by rfl) (by rfl) (by first | (refine .inl ?_; simp; done) | (refine .inr ?_; simp [keys]; done)) ?_
            refine draw_all [3] (by kernel_rfl) (by simp) ?_
            refine all_cons rfl rfl ?_ ?_
            · skip
              refine w_store (cells' := [_, _, _, _, _, _, _]) rfl rfl rfl (by repeat (first | exact Pick.here _ _ _ | apply Pick.next)) cn_32 (by rfl) (by rfl) (by rfl) (by first | (refine .inl ?_; simp; done) | (refine .inr ?_; simp [keys]; done)) ?_
              refine draw_done (by kernel_rfl) ?_
              refine a_ret ?_
              refine ret_ok (hands2 rfl (.cell ag_32 rfl (by repeat (first | exact Pick.here _ _ _ | apply Pick.next)) (by rfl)) (.cell ag_32 rfl (by repeat (first | exact Pick.here _ _ _ | apply Pick.next)) (by rfl))) (st' := [(b4, _), (b6, _)]) (.cons (by repeat (first | exact Pick.here _ _ _ | apply Pick.next)) (.cons (by repeat (first | exact Pick.here _ _ _ | apply Pick.next)) (.nil _))) ?_
              first | exact ⟨_, _, v1, _, rfl, hd1, (by assumption), rfl⟩ | exact ⟨_, _, v1, ⟨v1.id, ⟨v1.regs.words, v1.regs.pc, v1.regs.f, v1.regs.g⟩, m4, v1.pend⟩, rfl, hd1, hd1, rfl⟩ | exact ⟨_, _, v1, ⟨v1.id, ⟨v1.regs.words, v1.regs.pc, !v1.regs.f, v1.regs.g⟩, v1.wait, v1.pend⟩, rfl, hd1, hd1, rfl⟩ | exact ⟨_, _, v1, ⟨v1.id, ⟨v1.regs.words, v1.regs.pc, v1.regs.f, v1.regs.g⟩, v1.wait, 7⟩, rfl, hd1, hd1, rfl⟩
            exact all_nil
          exact all_nil

theorem c_spec_DrawChangedWords (bs : List Int) (hb : Bytes bs) : ACalls Try.prog 47 [.sl (bs.map eByte)] [] (fun r st => (∃ a c : Context, r = .tup [.agg (eContext a), .agg (eContext c)] ∧ a.regs.words.length ≤ 4 ∧ c.regs.words.length ≤ 4) ∧ st = []) :=
  freezeE (co_spec_DrawChangedWords bs hb) (by rintro _ _ ⟨b1, b2, a, c, rfl, ha, hc, rfl⟩; exact ⟨_, (.tup (.cons (.agg (.cons (.refl _) (.cons (.own (by repeat (first | exact List.Mem.head _ | apply List.Mem.tail)) (List.length_map _)) (.cons (.refl _) (.cons (.refl _) (.cons (.refl _) (.cons (.refl _) (.cons (.refl _) .nil)))))))) (.cons (.agg (.cons (.refl _) (.cons (.own (by repeat (first | exact List.Mem.head _ | apply List.Mem.tail)) (List.length_map _)) (.cons (.refl _) (.cons (.refl _) (.cons (.refl _) (.cons (.refl _) (.cons (.refl _) .nil)))))))) .nil))), a, c, rfl, ha, hc⟩)

theorem ck_spec_SaveContext (c : Context) (hn : SmallC c) : ACalls Try.prog 13 [.agg (eContext c)] [] (fun r st => ∃ (b : Nat) (l : List Int), r = .tup [.own 1 b 0 l.length, .bool (decide (IsContext c))] ∧ (IsContext c → l = imageV c) ∧ st = [(b, .arr 3 1 (l.map eInt))]) := by
  refine a_enter Try.func13 rfl rfl (fun w0 M0 => ?_)
  refine a_seq ?_
  refine a_region ?_
  refine aops_cons rfl (w_box_v rfl rfl rfl ?_)
  refine aops_cons rfl (w_pure rfl (p_assign rfl) ?_)
  refine aops_cons rfl (w_pure rfl (p_assign rfl) ?_)
  refine aops_nil ?_
  refine a_seq ?_
  refine a_seq ?_
  refine a_region ?_
  refine aops_cons rfl (w_pure rfl (p_load_v_all ag_32 rfl (by rfl) noX) ?_)
  refine aops_cons rfl (w_callR rfl rfl rfl cl_61 (c_spec_l14One _ (by first | assumption | exact hn.2 _ (by omega))) ?_)
  refine aops_cons rfl (w_pure rfl (p_not rfl) ?_)
  refine aops_nil ?_
  first | refine a_cond_d rfl (fun h1 => ?_) (fun h2 => ?_) | refine a_cond_n rfl (fun h1 => ?_) (fun h2 => ?_) | refine a_cond_nb rfl (fun h1 => ?_) (fun h2 => ?_) | refine a_cond rfl (fun h1 => ?_) (fun h2 => ?_)
  · (try simp only [Bool.not_eq_true', Bool.not_eq_false', Bool.not_eq_true, Bool.not_eq_false, decide_eq_true_eq, decide_eq_false_iff_not, List.length_map, List.length_range] at h1)
    refine a_seq ?_
    refine a_region ?_
    refine aops_cons rfl (w_litM eInt [] rfl el_22 rfl rfl rfl rfl rfl fun b1 => ?_)
    refine aops_cons rfl (w_pure rfl (p_assign rfl) ?_)
    refine aops_cons rfl (w_pure rfl (p_assign rfl) ?_)
    refine aops_nil ?_
    refine a_ret ?_
    refine ret_ok (hands2 rfl (.tmp rfl) (.tmp rfl)) (st' := [(b1, _)]) (.cons (by repeat (first | exact Pick.here _ _ _ | apply Pick.next)) (.nil _)) ?_
    first | exact ⟨_, imageV c, by rw [decide_eq_true (by assumption)], fun _ => rfl, rfl⟩ | exact ⟨_, [], by rw [decide_eq_false (by assumption)], fun h => absurd h (by assumption), rfl⟩
  · (try simp only [Bool.not_eq_true', Bool.not_eq_false', Bool.not_eq_true, Bool.not_eq_false, decide_eq_true_eq, decide_eq_false_iff_not, List.length_map, List.length_range] at h2)
    refine a_skip ?_
    refine a_seq ?_
    refine a_region ?_
    refine aops_cons rfl (w_pure rfl (p_load_v_all ag_32 rfl (by rfl) noX) ?_)
    refine aops_cons rfl (w_call rfl rfl rfl cl_62 ((co_spec_l14Image c hn (by assumption)).mono fun _ _ h => h.len) ?_)
    rintro _ _ ⟨b2, rfl, rfl⟩
    refine aops_cons rfl (w_pure rfl (p_assign rfl) ?_)
    refine aops_cons rfl (w_pure rfl (p_assign rfl) ?_)
    refine aops_nil ?_
    refine a_ret ?_
    refine ret_ok (hands2 rfl (.tmp rfl) (.tmp rfl)) (st' := [(b2, _)]) (.cons (by repeat (first | exact Pick.here _ _ _ | apply Pick.next)) (.nil _)) ?_
    first | exact ⟨_, imageV c, by rw [decide_eq_true (by assumption)], fun _ => rfl, rfl⟩ | exact ⟨_, [], by rw [decide_eq_false (by assumption)], fun h => absurd h (by assumption), rfl⟩

theorem d_spec_l14Check (b : Nat) (xs : List Int) (n : Nat) (hl : n ≤ xs.length) (hn : n ≤ 11) (hw : ∀ x ∈ xs, -1 ≤ x ∧ x ≤ 65536) : ACalls Try.prog 92 [.own 1 b 0 n] [(b, .arr 3 1 (xs.map eInt))] (fun r st => ∃ m : Int, r = .int .i64 m ∧ st = [(b, .arr 3 1 (xs.map eInt))]) := by
  refine a_enter Try.func92 rfl rfl (fun w0 M0 => ?_)
  refine a_seq ?_
  refine a_region ?_
  refine aops_cons rfl (w_pure rfl (p_assign rfl) ?_)
  refine aops_nil ?_
  refine a_seq ?_
  refine a_region ?_
  refine aops_cons rfl (w_pure rfl (p_assign rfl) ?_)
  refine aops_nil ?_
  refine a_seq ?_
  refine a_seq ?_
  refine a_region ?_
  refine aops_cons rfl (w_pure rfl (p_assign rfl) ?_)
  refine aops_nil ?_
  refine a_block ?_
  refine a_loop (ι := Nat × Int) (fun ⟨i, m⟩ => i ≤ n ∧ -720896 * (i : Int) ≤ m ∧ m ≤ 720896 * (i : Int)) (fun ⟨i, m⟩ => [(4, .int .i64 (i : Int)), (3, .int .i64 m)]) (fun ⟨i, m⟩ => [(b, .arr 3 1 (xs.map eInt))]) (fun ⟨i, m⟩ => n - i) (0, 0) ⟨Nat.zero_le _, by omega, by omega⟩ (by repeat (first | exact Knows.nil | refine Knows.cons (by rfl) ?_)) (by repeat (first | exact Picks.nil _ | exact Pick.here _ _ _ | apply Pick.next | apply Picks.cons)) ?_
  rintro ⟨i, m⟩ ⟨hi, hm1, hm2⟩
  replace hi : i ≤ n := hi
  have hmw := fun h : i < n => mul_w (a := (i : Int) + 1) (at_rng hw (show i < xs.length by omega)) (by omega) (by omega)
  refine a_seq ?_
  refine a_seq ?_
  refine a_region ?_
  refine aops_cons rfl (w_pure rfl (p_move rfl) ?_)
  refine aops_cons rfl (w_pure rfl (p_move rfl) ?_)
  refine aops_cons rfl (w_pure rfl (p_len sl_22 rfl rfl) ?_)
  refine aops_cons rfl (w_pure rfl (p_lss rfl rfl) ?_)
  refine aops_nil ?_
  first | refine a_cond_d rfl (fun h1 => ?_) (fun h2 => ?_) | refine a_cond_n rfl (fun h1 => ?_) (fun h2 => ?_) | refine a_cond_nb rfl (fun h1 => ?_) (fun h2 => ?_) | refine a_cond rfl (fun h1 => ?_) (fun h2 => ?_)
  · (try simp only [Bool.not_eq_true', Bool.not_eq_false', Bool.not_eq_true, Bool.not_eq_false, decide_eq_true_eq, decide_eq_false_iff_not, List.length_map, List.length_range] at h1)
    refine a_skip ?_
    refine a_seq ?_
    refine a_block ?_
    refine a_region ?_
    refine aops_cons rfl (w_pure rfl (p_move rfl) ?_)
    refine aops_cons rfl (w_pure rfl (p_move rfl) ?_)
    refine aops_cons rfl (w_pure rfl (p_add' rfl rfl ⟨by omega, by omega⟩) ?_)
    refine aops_cons rfl (w_pure rfl (p_move rfl) ?_)
    refine aops_cons rfl (w_pure rfl (p_move rfl) ?_)
    refine aops_cons rfl (w_pure rfl (p_index_own0 _ rfl rfl rfl (by omega) es_22) ?_)
    refine aops_cons rfl (w_pure rfl (p_load_e ag_3 rfl (by repeat (first | exact Pick.here _ _ _ | apply Pick.next)) (rowD _ _ (0 : Int) (by omega)) (by rfl) noX) ?_)
    refine aops_cons rfl (w_pure rfl (p_mul' rfl rfl ⟨by rw [Int.mul_comm]; have := hmw (by omega); omega, by rw [Int.mul_comm]; have := hmw (by omega); omega⟩) ?_)
    rw [Int.mul_comm]
    refine aops_cons rfl (w_pure rfl (p_add' rfl rfl ⟨by have := hmw (by omega); omega, by have := hmw (by omega); omega⟩) ?_)
    refine aops_cons rfl (w_pure rfl (p_assign rfl) ?_)
    refine aops_nil ?_
    refine a_region ?_
    refine aops_cons rfl (w_pure rfl (p_move rfl) ?_)
    refine aops_cons rfl (w_pure rfl (p_add' rfl rfl ⟨by omega, by omega⟩) ?_)
    refine aops_cons rfl (w_pure rfl (p_assign rfl) ?_)
    refine aops_nil ?_
    refine ⟨(i + 1, _), _, ?_, ?_, (by repeat (first | exact Knows.nil | refine Knows.cons (by rfl) ?_)), (by repeat (first | exact Back.refl _ _ | refine Back.cons (by rfl) ?_)), (by repeat (first | exact Picks.nil _ | exact Pick.here _ _ _ | apply Pick.next | apply Picks.cons))⟩
    · have := hmw (by omega); exact ⟨by omega, by omega, by omega⟩
    · (try dsimp only); omega
  · (try simp only [Bool.not_eq_true', Bool.not_eq_false', Bool.not_eq_true, Bool.not_eq_false, decide_eq_true_eq, decide_eq_false_iff_not, List.length_map, List.length_range] at h2)
    refine a_exit ?_
    refine a_seq ?_
    refine a_region ?_
    refine aops_cons rfl (w_pure rfl (p_move rfl) ?_)
    refine aops_cons rfl (w_pure rfl (p_rem rfl rfl (by decide)) ?_)
    refine aops_cons rfl (w_pure rfl (p_assign rfl) ?_)
    refine aops_nil ?_
    refine a_ret ?_
    refine ret_ok (hands1 rfl (.tmp rfl)) (st' := [(b, _)]) (.cons (by repeat (first | exact Pick.here _ _ _ | apply Pick.next)) (.nil _)) ?_
    exact ⟨_, rfl, rfl⟩

theorem c_spec_l1Most (m n : Int) : ACalls Try.prog 91 [.int .i64 m, .int .i64 n] [] (fun r st => ∃ k : Int, r = .int .i64 k ∧ st = []) := by
  refine a_enter Try.func91 rfl rfl (fun w0 M0 => ?_)
  refine a_seq ?_
  refine a_region ?_
  refine aops_cons rfl (w_pure rfl (p_assign rfl) ?_)
  refine aops_nil ?_
  refine a_seq ?_
  refine a_seq ?_
  refine a_region ?_
  refine aops_cons rfl (w_pure rfl (p_move rfl) ?_)
  refine aops_cons rfl (w_pure rfl (p_move rfl) ?_)
  refine aops_cons rfl (w_pure rfl (p_gtr rfl rfl) ?_)
  refine aops_nil ?_
  first | refine a_cond_d rfl (fun h1 => ?_) (fun h2 => ?_) | refine a_cond_n rfl (fun h1 => ?_) (fun h2 => ?_) | refine a_cond_nb rfl (fun h1 => ?_) (fun h2 => ?_) | refine a_cond rfl (fun h1 => ?_) (fun h2 => ?_)
  · (try simp only [Bool.not_eq_true', Bool.not_eq_false', Bool.not_eq_true, Bool.not_eq_false, decide_eq_true_eq, decide_eq_false_iff_not, List.length_map, List.length_range] at h1)
    refine a_seq ?_
    refine a_region ?_
    refine aops_cons rfl (w_pure rfl (p_move rfl) ?_)
    refine aops_cons rfl (w_pure rfl (p_assign rfl) ?_)
    refine aops_nil ?_
    refine a_ret ?_
    refine ret_ok (hands1 rfl (.tmp rfl)) (.nil _) ?_
    exact ⟨_, rfl, rfl⟩
  · (try simp only [Bool.not_eq_true', Bool.not_eq_false', Bool.not_eq_true, Bool.not_eq_false, decide_eq_true_eq, decide_eq_false_iff_not, List.length_map, List.length_range] at h2)
    refine a_skip ?_
    refine a_seq ?_
    refine a_region ?_
    refine aops_cons rfl (w_pure rfl (p_move rfl) ?_)
    refine aops_cons rfl (w_pure rfl (p_assign rfl) ?_)
    refine aops_nil ?_
    refine a_ret ?_
    refine ret_ok (hands1 rfl (.tmp rfl)) (.nil _) ?_
    exact ⟨_, rfl, rfl⟩

theorem co_spec_DrawLoadContext (bs : List Int) (hb : Bytes bs) : ACalls Try.prog 45 [.sl (bs.map eByte)] [] (fun r st => ∃ (b : Nat) (xs : List Int), r = .own 1 b 0 xs.length ∧ xs.length ≤ 12 ∧ st = [(b, .arr 3 1 (xs.map eInt))]) := by
  refine a_enter Try.func45 rfl rfl (fun w0 M0 => ?_)
  refine a_seq ?_
  refine a_region ?_
  refine aops_cons rfl (w_pure rfl (p_assign rfl) ?_)
  refine aops_nil ?_
  refine a_seq ?_
  refine a_region ?_
  refine aops_cons rfl (w_pure rfl (p_move rfl) ?_)
  refine aops_cons rfl (w_pure rfl (p_build (cells := [_, _, _]) z_97 pl_97 rfl rfl) ?_)
  refine aops_cons rfl (w_box rfl rfl rfl fun b1 => ?_)
  refine aops_cons rfl (w_pure rfl (p_assign rfl) ?_)
  refine aops_nil ?_
  refine a_seq ?_
  refine a_region ?_
  refine aops_cons rfl (w_pure rfl (p_move rfl) ?_)
  refine aops_cons rfl (w_pure rfl (p_move rfl) ?_)
  refine aops_cons rfl (w_callM0 rfl rfl rfl cl_89 (.cons (by repeat (first | exact Pick.here _ _ _ | apply Pick.next)) (.nil _)) (c_spec_l1Cur_pick _ _ hb _ _ (by omega) (by omega) _ (by first | omega | (simp; done) | (simp; omega))) trivial ?_)
  rintro _ _ ⟨m1, a1, s1, rfl, hm1, ha1, hc1, rfl⟩
  (try simp only [List.length_map] at hm1)
  refine aops_cons rfl (w_pure rfl (p_add' rfl rfl ⟨by omega, by omega⟩) ?_)
  refine aops_cons rfl (w_callM0 rfl rfl rfl cl_88 (.cons (by repeat (first | exact Pick.here _ _ _ | apply Pick.next)) (.nil _)) (c_spec_l1Cur_context _ _ hb _ _ (by omega) (by omega) _) trivial ?_)
  rintro _ _ ⟨b2, v2, a2, s2, rfl, hd2, ha2, hc2, rfl⟩
  skip
  refine aops_cons rfl (w_callL rfl rfl rfl cl_13 (.cons (.agg (.cons (.refl _) (.cons (.own (by repeat (first | exact List.Mem.head _ | apply List.Mem.tail)) (by first | (simp; done) | (simp; assumption) | (simp; omega) | (simp [mkL]; done))) (.cons (.refl _) (.cons (.refl _) (.cons (.refl _) (.cons (.refl _) (.cons (.refl _) .nil)))))))) .nil) (ck_spec_SaveContext v2 (small_four hd2)) ?_)
  rintro _ _ ⟨b3, l3, rfl, hl3, rfl⟩
  refine ⟨(closed_tup (all_cons' (closed_own _ _ _ _) (all_cons' (closed_bool _) all_nil'))), (closedS_cons (closedAll _ _ _ _ cl_eInt) closedS_nil), ?_⟩
  skip
  refine aops_cons rfl (w_pure rfl (p_move rfl) ?_)
  refine aops_cons rfl (w_pure rfl (p_extract rfl rfl) ?_)
  refine aops_cons rfl (w_pure rfl (p_extract rfl rfl) ?_)
  refine aops_cons rfl (w_pure rfl (p_assign rfl) ?_)
  refine aops_cons rfl (w_pure rfl (p_assign rfl) ?_)
  refine aops_nil ?_
  refine a_seq ?_
  refine a_seq ?_
  refine a_region ?_
  refine aops_cons rfl (w_pure rfl (p_move rfl) ?_)
  refine aops_cons rfl (w_pure rfl (p_not rfl) ?_)
  refine aops_nil ?_
  first | refine a_cond_d rfl (fun h1 => ?_) (fun h2 => ?_) | refine a_cond_n rfl (fun h1 => ?_) (fun h2 => ?_) | refine a_cond_nb rfl (fun h1 => ?_) (fun h2 => ?_) | refine a_cond rfl (fun h1 => ?_) (fun h2 => ?_)
  · (try simp only [Bool.not_eq_true', Bool.not_eq_false', Bool.not_eq_true, Bool.not_eq_false, decide_eq_true_eq, decide_eq_false_iff_not, List.length_map, List.length_range] at h1)
    refine a_seq ?_
    refine a_region ?_
    refine aops_cons rfl (w_litM eInt [_, _] rfl el_22 rfl rfl rfl rfl rfl fun b4 => ?_)
    refine aops_cons rfl (w_pure rfl (p_assign rfl) ?_)
    refine aops_nil ?_
    refine a_ret ?_
    refine ret_ok (hands1 rfl (.tmp rfl)) (st' := [(b4, _)]) (.cons (by repeat (first | exact Pick.here _ _ _ | apply Pick.next)) (.nil _)) ?_
    first | exact ⟨_, _, rfl, by omega, rfl⟩ | exact ⟨_, [2, 1], rfl, by decide, rfl⟩ | exact ⟨_, _, by (try simp only [List.length_set, List.length_append, List.length_singleton]), by (try simp only [List.length_set, List.length_append, List.length_singleton]); omega, rfl⟩ | exact ⟨_, l3 ++ [0], by simp, by simp; omega, rfl⟩
  · (try simp only [Bool.not_eq_true', Bool.not_eq_false', Bool.not_eq_true, Bool.not_eq_false, decide_eq_true_eq, decide_eq_false_iff_not, List.length_map, List.length_range] at h2)
    refine a_skip ?_
    refine a_seq ?_
    have hI := hl3 (by assumption)
    have hI1 : l3.length = 11 := (by rw [hI]; exact image_len (by assumption))
    have hI2 : ∀ x ∈ l3, 0 ≤ x ∧ x ≤ 65535 := (by rw [hI]; exact image_rng (by assumption))
    refine a_region ?_
    refine aops_cons rfl (w_pure rfl (p_move rfl) ?_)
    refine aops_cons rfl (w_callM0 rfl rfl rfl cl_89 (.cons (by repeat (first | exact Pick.here _ _ _ | apply Pick.next)) (.nil _)) (c_spec_l1Cur_pick _ _ hb _ _ (by omega) (by omega) _ (by first | omega | (simp; done) | (simp; omega))) trivial ?_)
    rintro _ _ ⟨m4, a4, s4, rfl, hm4, ha4, hc4, rfl⟩
    (try simp only [List.length_map] at hm4)
    refine aops_cons rfl (w_pure rfl (p_assign rfl) ?_)
    refine aops_nil ?_
    refine a_seq ?_
    refine a_seq ?_
    refine a_region ?_
    refine aops_cons rfl (w_pure rfl (p_move rfl) ?_)
    refine aops_cons rfl (w_callM0 rfl rfl rfl cl_89 (.cons (by repeat (first | exact Pick.here _ _ _ | apply Pick.next)) (.nil _)) (c_spec_l1Cur_pick _ _ hb _ _ (by omega) (by omega) _ (by first | omega | (simp; done) | (simp; omega))) trivial ?_)
    rintro _ _ ⟨m5, a5, s5, rfl, hm5, ha5, hc5, rfl⟩
    (try simp only [List.length_map] at hm5)
    refine aops_nil ?_
    refine a_block ?_
    refine a_seq ?_
    refine a_region ?_
    refine aops_cons rfl (w_pure rfl (p_eql rfl rfl) ?_)
    refine aops_cons rfl (w_pure rfl (p_assign rfl) ?_)
    refine aops_nil ?_
    first | refine a_cond_d rfl (fun h3 => ?_) (fun h4 => ?_) | refine a_cond_n rfl (fun h3 => ?_) (fun h4 => ?_) | refine a_cond_nb rfl (fun h3 => ?_) (fun h4 => ?_) | refine a_cond rfl (fun h3 => ?_) (fun h4 => ?_)
    · (try simp only [Bool.not_eq_true', Bool.not_eq_false', Bool.not_eq_true, Bool.not_eq_false, decide_eq_true_eq, decide_eq_false_iff_not, List.length_map, List.length_range] at h3)
      refine a_region ?_
      refine aops_cons rfl (w_pure rfl (p_move rfl) ?_)
      refine aops_cons rfl (w_pure rfl (p_move rfl) ?_)
      refine aops_cons rfl (w_pure rfl (p_move rfl) ?_)
      refine aops_cons rfl (w_lit_vM eInt [_, _, _, _, _, _, _] rfl el_22 rfl rfl rfl rfl rfl ?_)
      refine aops_cons rfl (w_callM0 rfl rfl rfl cl_90 (.cons (by repeat (first | exact Pick.here _ _ _ | apply Pick.next)) (.nil _)) (c_spec_l1Cur_among _ _ hb _ _ (by omega) (by omega) _ (by first | (simp; done) | (simp; omega)) (-1) 65536 (by first | (intro x hx; simp only [List.mem_cons, List.not_mem_nil, or_false] at hx; omega) | (intro x hx; have hx := List.mem_of_mem_take hx; simp only [List.mem_cons, List.not_mem_nil, or_false] at hx; omega))) trivial ?_)
      rintro _ _ ⟨m6, a6, s6, rfl, hm6, ha6, hc6, rfl⟩
      (try simp only [List.length_map] at hm6)
      refine aops_cons rfl (w_pure rfl (p_index_own0 m4.toNat rfl rfl (by omega) (by omega) es_22) ?_)
      refine aops_cons rfl (w_store_eM eInt _ rfl rfl rfl (by repeat (first | exact Pick.here _ _ _ | apply Pick.next)) (by omega) cn_3 (by rfl) (by rfl) (by rfl) trivial ?_)
      refine aops_nil ?_
      refine a_seq ?_
      refine a_region ?_
      refine aops_cons rfl (w_pure rfl (p_move rfl) ?_)
      refine aops_cons rfl (w_pure rfl (p_assign rfl) ?_)
      refine aops_nil ?_
      refine a_ret ?_
      refine ret_ok (hands1 rfl (.tmp rfl)) (st' := [(b3, _)]) (.cons (by repeat (first | exact Pick.here _ _ _ | apply Pick.next)) (.nil _)) ?_
      first | exact ⟨_, _, rfl, by omega, rfl⟩ | exact ⟨_, [2, 1], rfl, by decide, rfl⟩ | exact ⟨_, _, by (try simp only [List.length_set, List.length_append, List.length_singleton]), by (try simp only [List.length_set, List.length_append, List.length_singleton]); omega, rfl⟩ | exact ⟨_, l3 ++ [0], by simp, by simp; omega, rfl⟩
    · (try simp only [Bool.not_eq_true', Bool.not_eq_false', Bool.not_eq_true, Bool.not_eq_false, decide_eq_true_eq, decide_eq_false_iff_not, List.length_map, List.length_range] at h4)
      refine a_seq ?_
      refine a_region ?_
      refine aops_cons rfl (w_pure rfl (p_eql rfl rfl) ?_)
      refine aops_cons rfl (w_pure rfl (p_assign rfl) ?_)
      refine aops_nil ?_
      first | refine a_cond_d rfl (fun h5 => ?_) (fun h6 => ?_) | refine a_cond_n rfl (fun h5 => ?_) (fun h6 => ?_) | refine a_cond_nb rfl (fun h5 => ?_) (fun h6 => ?_) | refine a_cond rfl (fun h5 => ?_) (fun h6 => ?_)
      · (try simp only [Bool.not_eq_true', Bool.not_eq_false', Bool.not_eq_true, Bool.not_eq_false, decide_eq_true_eq, decide_eq_false_iff_not, List.length_map, List.length_range] at h5)
        refine a_seq ?_
        refine a_region ?_
        refine aops_cons rfl (w_pure rfl (p_move rfl) ?_)
        refine aops_cons rfl (w_pure rfl (p_move rfl) ?_)
        refine aops_cons rfl (w_pure rfl (p_move rfl) ?_)
        refine aops_cons rfl (w_lit_vM eInt [_, _, _, _, _, _, _] rfl el_22 rfl rfl rfl rfl rfl ?_)
        refine aops_cons rfl (w_callM0 rfl rfl rfl cl_90 (.cons (by repeat (first | exact Pick.here _ _ _ | apply Pick.next)) (.nil _)) (c_spec_l1Cur_among _ _ hb _ _ (by omega) (by omega) _ (by first | (simp; done) | (simp; omega)) (-1) 65536 (by first | (intro x hx; simp only [List.mem_cons, List.not_mem_nil, or_false] at hx; omega) | (intro x hx; have hx := List.mem_of_mem_take hx; simp only [List.mem_cons, List.not_mem_nil, or_false] at hx; omega))) trivial ?_)
        rintro _ _ ⟨m6, a6, s6, rfl, hm6, ha6, hc6, rfl⟩
        (try simp only [List.length_map] at hm6)
        refine aops_cons rfl (w_pure rfl (p_index_own0 m4.toNat rfl rfl (by omega) (by omega) es_22) ?_)
        refine aops_cons rfl (w_store_eM eInt _ rfl rfl rfl (by repeat (first | exact Pick.here _ _ _ | apply Pick.next)) (by omega) cn_3 (by rfl) (by rfl) (by rfl) trivial ?_)
        refine aops_nil ?_
        refine a_region ?_
        refine aops_cons rfl (w_pure rfl (p_move rfl) ?_)
        refine aops_cons rfl (w_pure rfl (p_move rfl) ?_)
        refine aops_cons rfl (w_pure rfl (p_slice_own 10 es_22 rfl (hi_some rfl rfl) (by omega)) ?_)
        refine aops_cons rfl (w_callM0 rfl rfl rfl cl_92 (.cons (by repeat (first | exact Pick.here _ _ _ | apply Pick.next)) (.nil _)) (d_spec_l14Check _ (l3.set m4.toNat m6) 10 (by rw [List.length_set]; omega) (by decide) (all_set _ (all_wide hI2 (by decide) (by decide)) (by omega))) trivial ?_)
        rintro _ _ ⟨m7, rfl, rfl⟩
        skip
        refine aops_cons rfl (w_call rfl rfl rfl cl_91 (c_spec_l1Most _ _) ?_)
        rintro _ _ ⟨m8, rfl, rfl⟩
        skip
        refine aops_cons rfl (w_pure rfl (p_index_own0 10 rfl rfl rfl (by omega) es_22) ?_)
        refine aops_cons rfl (w_store_eM eInt _ rfl rfl rfl (by repeat (first | exact Pick.here _ _ _ | apply Pick.next)) (by rw [List.length_set]; omega) cn_3 (by rfl) (by rfl) (by rfl) trivial ?_)
        refine aops_nil ?_
        refine a_seq ?_
        refine a_region ?_
        refine aops_cons rfl (w_pure rfl (p_move rfl) ?_)
        refine aops_cons rfl (w_pure rfl (p_assign rfl) ?_)
        refine aops_nil ?_
        refine a_ret ?_
        refine ret_ok (hands1 rfl (.tmp rfl)) (st' := [(b3, _)]) (.cons (by repeat (first | exact Pick.here _ _ _ | apply Pick.next)) (.nil _)) ?_
        first | exact ⟨_, _, rfl, by omega, rfl⟩ | exact ⟨_, [2, 1], rfl, by decide, rfl⟩ | exact ⟨_, _, by (try simp only [List.length_set, List.length_append, List.length_singleton]), by (try simp only [List.length_set, List.length_append, List.length_singleton]); omega, rfl⟩ | exact ⟨_, l3 ++ [0], by simp, by simp; omega, rfl⟩
      · (try simp only [Bool.not_eq_true', Bool.not_eq_false', Bool.not_eq_true, Bool.not_eq_false, decide_eq_true_eq, decide_eq_false_iff_not, List.length_map, List.length_range] at h6)
        refine a_seq ?_
        refine a_region ?_
        refine aops_cons rfl (w_pure rfl (p_eql rfl rfl) ?_)
        refine aops_cons rfl (w_pure rfl (p_assign rfl) ?_)
        refine aops_nil ?_
        first | refine a_cond_d rfl (fun h7 => ?_) (fun h8 => ?_) | refine a_cond_n rfl (fun h7 => ?_) (fun h8 => ?_) | refine a_cond_nb rfl (fun h7 => ?_) (fun h8 => ?_) | refine a_cond rfl (fun h7 => ?_) (fun h8 => ?_)
        · (try simp only [Bool.not_eq_true', Bool.not_eq_false', Bool.not_eq_true, Bool.not_eq_false, decide_eq_true_eq, decide_eq_false_iff_not, List.length_map, List.length_range] at h7)
          refine a_region ?_
          refine aops_cons rfl (w_pure rfl (p_move rfl) ?_)
          refine aops_cons rfl (w_lit_vM eInt [(0 : Int)] rfl el_22 rfl rfl rfl rfl rfl ?_)
          refine aops_cons rfl (w_appendM eInt rfl el_22 rfl rfl (by repeat (first | exact Pick.here _ _ _ | apply Pick.next)) rfl (.sl _) (fun _ => rfl) (fun _ => rfl) (by simp; omega) (by simp; omega) trivial fun b5 => ?_)
          refine aops_cons rfl (w_pure rfl (p_assign rfl) ?_)
          refine aops_nil ?_
          refine a_seq ?_
          refine a_region ?_
          refine aops_cons rfl (w_pure rfl (p_move rfl) ?_)
          refine aops_cons rfl (w_pure rfl (p_assign rfl) ?_)
          refine aops_nil ?_
          refine a_ret ?_
          refine ret_ok (hands1 rfl (.tmp rfl)) (st' := [(b5, _)]) (.cons (by repeat (first | exact Pick.here _ _ _ | apply Pick.next)) (.nil _)) ?_
          first | exact ⟨_, _, rfl, by omega, rfl⟩ | exact ⟨_, [2, 1], rfl, by decide, rfl⟩ | exact ⟨_, _, by (try simp only [List.length_set, List.length_append, List.length_singleton]), by (try simp only [List.length_set, List.length_append, List.length_singleton]); omega, rfl⟩ | exact ⟨_, l3 ++ [0], by simp, by simp; omega, rfl⟩
        · (try simp only [Bool.not_eq_true', Bool.not_eq_false', Bool.not_eq_true, Bool.not_eq_false, decide_eq_true_eq, decide_eq_false_iff_not, List.length_map, List.length_range] at h8)
          refine a_seq ?_
          refine a_region ?_
          refine aops_cons rfl (w_pure rfl (p_eql rfl rfl) ?_)
          refine aops_cons rfl (w_pure rfl (p_assign rfl) ?_)
          refine aops_nil ?_
          first | refine a_cond_d rfl (fun h9 => ?_) (fun h10 => ?_) | refine a_cond_n rfl (fun h9 => ?_) (fun h10 => ?_) | refine a_cond_nb rfl (fun h9 => ?_) (fun h10 => ?_) | refine a_cond rfl (fun h9 => ?_) (fun h10 => ?_)
          · (try simp only [Bool.not_eq_true', Bool.not_eq_false', Bool.not_eq_true, Bool.not_eq_false, decide_eq_true_eq, decide_eq_false_iff_not, List.length_map, List.length_range] at h9)
            refine a_region ?_
            refine aops_cons rfl (w_pure rfl (p_move rfl) ?_)
            refine aops_cons rfl (w_pure rfl (p_index_own0 0 rfl rfl rfl (by omega) es_22) ?_)
            refine aops_cons rfl (w_store_eM eInt _ rfl rfl rfl (by repeat (first | exact Pick.here _ _ _ | apply Pick.next)) (by omega) cn_3 (by rfl) (by rfl) (by rfl) trivial ?_)
            refine aops_nil ?_
            refine a_seq ?_
            refine a_region ?_
            refine aops_cons rfl (w_pure rfl (p_move rfl) ?_)
            refine aops_cons rfl (w_pure rfl (p_assign rfl) ?_)
            refine aops_nil ?_
            refine a_ret ?_
            refine ret_ok (hands1 rfl (.tmp rfl)) (st' := [(b3, _)]) (.cons (by repeat (first | exact Pick.here _ _ _ | apply Pick.next)) (.nil _)) ?_
            first | exact ⟨_, _, rfl, by omega, rfl⟩ | exact ⟨_, [2, 1], rfl, by decide, rfl⟩ | exact ⟨_, _, by (try simp only [List.length_set, List.length_append, List.length_singleton]), by (try simp only [List.length_set, List.length_append, List.length_singleton]); omega, rfl⟩ | exact ⟨_, l3 ++ [0], by simp, by simp; omega, rfl⟩
          · (try simp only [Bool.not_eq_true', Bool.not_eq_false', Bool.not_eq_true, Bool.not_eq_false, decide_eq_true_eq, decide_eq_false_iff_not, List.length_map, List.length_range] at h10)
            refine a_skip ?_
            refine a_seq ?_
            refine a_region ?_
            refine aops_cons rfl (w_pure rfl (p_move rfl) ?_)
            refine aops_cons rfl (w_pure rfl (p_assign rfl) ?_)
            refine aops_nil ?_
            refine a_ret ?_
            refine ret_ok (hands1 rfl (.tmp rfl)) (st' := [(b3, _)]) (.cons (by repeat (first | exact Pick.here _ _ _ | apply Pick.next)) (.nil _)) ?_
            first | exact ⟨_, _, rfl, by omega, rfl⟩ | exact ⟨_, [2, 1], rfl, by decide, rfl⟩ | exact ⟨_, _, by (try simp only [List.length_set, List.length_append, List.length_singleton]), by (try simp only [List.length_set, List.length_append, List.length_singleton]); omega, rfl⟩ | exact ⟨_, l3 ++ [0], by simp, by simp; omega, rfl⟩

theorem c_spec_DrawLoadContext (bs : List Int) (hb : Bytes bs) : ACalls Try.prog 45 [.sl (bs.map eByte)] [] (fun r st => (∃ xs : List Int, r = .sl (xs.map eInt) ∧ xs.length ≤ 12) ∧ st = []) :=
  freezeE (co_spec_DrawLoadContext bs hb) (by rintro _ _ ⟨b, xs, rfl, hx, rfl⟩; exact ⟨_, (.own (by repeat (first | exact List.Mem.head _ | apply List.Mem.tail)) (List.length_map _)), xs, rfl, hx⟩)

theorem cv_spec_SaveContext (c : Context) (hn : SmallC c) : ACalls Try.prog 13 [.agg (eContext c)] [] (Ret (.tup [.sl ((pickL (IsContext c) (imageV c)).map eInt), .bool (decide (IsContext c))])) := by
  by_cases hA : IsContext c
  · rw [pickL_y hA, decide_eq_true hA]
    exact cy_spec_SaveContext c hn hA
  · rw [pickL_n hA, decide_eq_false hA]
    exact (cn_spec_SaveContext c hn hA).freeze (by rintro _ _ ⟨rfl, rfl⟩; first | exact (.tup (.cons .nil (.cons (.refl _) .nil))) | exact (.tup (.cons (.refl _) (.cons (.refl _) .nil))))

theorem cv_impl_SaveContext (c : Context) (hn : SmallC c) : ACalls Try.prog 15 [.agg (eContext c)] [] (Ret (.tup [.sl ((pickL (IsContext c) (imageV c)).map eInt), .bool (decide (IsContext c))])) := by
  by_cases hA : IsContext c
  · rw [pickL_y hA, decide_eq_true hA]
    exact cf_impl_SaveContext c hn hA
  · rw [pickL_n hA, decide_eq_false hA]
    exact (cn_impl_SaveContext c hn hA).freeze (by rintro _ _ ⟨rfl, rfl⟩; first | exact (.tup (.cons .nil (.cons (.refl _) .nil))) | exact (.tup (.cons (.refl _) (.cons (.refl _) .nil))))

theorem cv_spec_LoadContext (xs : List Int) (hn : xs.length ≤ 1048576) : ACalls Try.prog 46 [.sl (xs.map eInt)] [] (Ret (.tup [.agg (eContext (pickX (GoodLoad xs) (ctxOf xs))), .int .i64 (pickF (GoodLoad xs) (codeL xs)), .bool (decide (GoodLoad xs))])) := by
  by_cases hA : GoodLoad xs
  · rw [pickX_y hA, pickF_y hA, decide_eq_true hA]
    exact cy_spec_LoadContext xs hn hA
  · rw [pickX_n hA, pickF_n hA, decide_eq_false hA]
    exact (cn_spec_LoadContext xs hn hA).freeze (by rintro _ _ ⟨rfl, rfl⟩; first | exact (.tup (.cons (.agg (.cons (.refl _) (.cons .nil (.cons (.refl _) (.cons (.refl _) (.cons (.refl _) (.cons (.refl _) (.cons (.refl _) .nil)))))))) (.cons (.refl _) (.cons (.refl _) .nil)))) | exact (.tup (.cons (.agg (.cons (.refl _) (.cons .nil (.cons (.refl _) (.cons (.refl _) (.cons (.refl _) (.cons (.refl _) (.cons (.refl _) .nil)))))))) (.cons (.refl _) (.cons (.refl _) .nil)))))

theorem cv_impl_LoadContext (xs : List Int) (hn : xs.length ≤ 1048576) : ACalls Try.prog 43 [.sl (xs.map eInt)] [] (Ret (.tup [.agg (eContext (pickX (GoodLoad xs) (ctxOf xs))), .int .i64 (pickF (GoodLoad xs) (codeL xs)), .bool (decide (GoodLoad xs))])) := by
  by_cases hA : GoodLoad xs
  · rw [pickX_y hA, pickF_y hA, decide_eq_true hA]
    exact cf_impl_LoadContext xs hn hA
  · rw [pickX_n hA, pickF_n hA, decide_eq_false hA]
    exact (cn_impl_LoadContext xs hn hA).freeze (by rintro _ _ ⟨rfl, rfl⟩; first | exact (.tup (.cons (.agg (.cons (.refl _) (.cons .nil (.cons (.refl _) (.cons (.refl _) (.cons (.refl _) (.cons (.refl _) (.cons (.refl _) .nil)))))))) (.cons (.refl _) (.cons (.refl _) .nil)))) | exact (.tup (.cons (.agg (.cons (.refl _) (.cons .nil (.cons (.refl _) (.cons (.refl _) (.cons (.refl _) (.cons (.refl _) (.cons (.refl _) .nil)))))))) (.cons (.refl _) (.cons (.refl _) .nil)))))

theorem cv_spec_ChangedWords (a : Context) (ha : SmallC a) (c : Context) (hn : SmallC c) : ACalls Try.prog 21 [.agg (eContext a), .agg (eContext c)] [] (Ret (.tup [.sl ((pickL (GoodTwo a c) (chgL a c)).map eInt), .bool (decide (GoodTwo a c))])) := by
  by_cases hA : GoodTwo a c
  · rw [pickL_y hA, decide_eq_true hA]
    exact cy_spec_ChangedWords a ha c hn hA
  · rw [pickL_n hA, decide_eq_false hA]
    exact (cn_spec_ChangedWords a ha c hn hA).freeze (by rintro _ _ ⟨rfl, rfl⟩; first | exact (.tup (.cons .nil (.cons (.refl _) .nil))) | exact (.tup (.cons (.refl _) (.cons (.refl _) .nil))))

theorem cv_impl_ChangedWords (a : Context) (ha : SmallC a) (c : Context) (hn : SmallC c) : ACalls Try.prog 22 [.agg (eContext a), .agg (eContext c)] [] (Ret (.tup [.sl ((pickL (GoodTwo a c) (chgL a c)).map eInt), .bool (decide (GoodTwo a c))])) := by
  by_cases hA : GoodTwo a c
  · rw [pickL_y hA, decide_eq_true hA]
    exact cf_impl_ChangedWords a ha c hn hA
  · rw [pickL_n hA, decide_eq_false hA]
    exact (cn_impl_ChangedWords a ha c hn hA).freeze (by rintro _ _ ⟨rfl, rfl⟩; first | exact (.tup (.cons .nil (.cons (.refl _) .nil))) | exact (.tup (.cons (.refl _) (.cons (.refl _) .nil))))

theorem cv_spec_SwapImages (xs : List Context) (hn : SmallL xs) : ACalls Try.prog 34 [.sl (xs.map eContext)] [] (Ret (.tup [.sl ((pickS (AreContexts xs) (swapL xs)).map eInts), .bool (decide (AreContexts xs))])) := by
  by_cases hA : AreContexts xs
  · rw [pickS_y hA, decide_eq_true hA]
    exact cy_spec_SwapImages xs hn hA
  · rw [pickS_n hA, decide_eq_false hA]
    exact (cn_spec_SwapImages xs hn hA).freeze (by rintro _ _ ⟨rfl, rfl⟩; first | exact (.tup (.cons .nil (.cons (.refl _) .nil))) | exact (.tup (.cons (.refl _) (.cons (.refl _) .nil))))

theorem cv_impl_SwapImages (xs : List Context) (hn : SmallL xs) : ACalls Try.prog 35 [.sl (xs.map eContext)] [] (Ret (.tup [.sl ((pickS (AreContexts xs) (swapL xs)).map eInts), .bool (decide (AreContexts xs))])) := by
  by_cases hA : AreContexts xs
  · rw [pickS_y hA, decide_eq_true hA]
    exact cf_impl_SwapImages xs hn hA
  · rw [pickS_n hA, decide_eq_false hA]
    exact (cn_impl_SwapImages xs hn hA).freeze (by rintro _ _ ⟨rfl, rfl⟩; first | exact (.tup (.cons .nil (.cons (.refl _) .nil))) | exact (.tup (.cons (.refl _) (.cons (.refl _) .nil))))

theorem ct_impl_LoadContext (c : Context) (hn : SmallC c) (h : IsContext c) : ACalls Try.prog 43 [.sl ((imageV c).map eInt)] [] (Ret (.tup [.agg (eContext c), .int .i64 0, .bool true])) := by
  have := cf_impl_LoadContext (imageV c) (by rw [image_len h]; omega) (load_image h)
  rwa [ctx_image h] at this

theorem ct_impl_SaveContext (xs : List Int) (h : GoodLoad xs) : ACalls Try.prog 15 [.agg (eContext (ctxOf xs))] [] (Ret (.tup [.sl (xs.map eInt), .bool true])) := by
  have := cf_impl_SaveContext (ctxOf xs) (small_ctxOf xs) h.2.2.2.1
  rwa [image_ctx h] at this

theorem c_laws_rInts (xs ys : List Int) (hn : xs.length ≤ 1048576) (hm : ys.length ≤ 1048576) : ACalls Try.prog 41 [.sl (xs.map eInt), .sl (ys.map eInt)] [] (Ret (.bool (decide (xs = ys)))) := by
  refine a_enter Try.func41 rfl rfl (fun w0 M0 => ?_)
  refine a_seq ?_
  refine a_region ?_
  refine aops_cons rfl (w_pure rfl (p_assign rfl) ?_)
  refine aops_nil ?_
  refine a_seq ?_
  refine a_seq ?_
  refine a_region ?_
  refine aops_cons rfl (w_pure rfl (p_move rfl) ?_)
  refine aops_cons rfl (w_pure rfl (p_len sl_22 rfl rfl) ?_)
  refine aops_cons rfl (w_pure rfl (p_move rfl) ?_)
  refine aops_cons rfl (w_pure rfl (p_len sl_22 rfl rfl) ?_)
  refine aops_cons rfl (w_pure rfl (p_neq rfl rfl) ?_)
  refine aops_nil ?_
  first | refine a_cond_d rfl (fun h1 => ?_) (fun h2 => ?_) | refine a_cond_n rfl (fun h1 => ?_) (fun h2 => ?_) | refine a_cond_nb rfl (fun h1 => ?_) (fun h2 => ?_) | refine a_cond rfl (fun h1 => ?_) (fun h2 => ?_)
  · (try simp only [Bool.not_eq_true', Bool.not_eq_false', Bool.not_eq_true, Bool.not_eq_false, decide_eq_true_eq, decide_eq_false_iff_not, List.length_map, List.length_range] at h1)
    refine a_seq ?_
    refine a_region ?_
    refine aops_cons rfl (w_pure rfl (p_assign rfl) ?_)
    refine aops_nil ?_
    refine a_ret ?_
    refine ret_ok (hands1 rfl (.tmp rfl)) (.nil _) ?_
    first | (refine ret_false ?_; exact ints_ne (by assumption)) | (refine ret_true ?_; exact ints_eq (by omega) (below_all hI (by omega))) | (refine ret_false ?_; intro e; have := congrArg List.length e; omega)
  · (try simp only [Bool.not_eq_true', Bool.not_eq_false', Bool.not_eq_true, Bool.not_eq_false, decide_eq_true_eq, decide_eq_false_iff_not, List.length_map, List.length_range] at h2)
    refine a_skip ?_
    refine a_seq ?_
    refine a_seq ?_
    refine a_region ?_
    refine aops_cons rfl (w_pure rfl (p_assign rfl) ?_)
    refine aops_nil ?_
    refine a_block ?_
    refine a_loop (ι := Nat) (fun i => i ≤ xs.length ∧ ∀ j, j < i → xs.getD j 0 = ys.getD j 0) (fun i => [(5, .int .i64 (i : Int))]) (fun i => []) (fun i => xs.length - i) 0 ⟨Nat.zero_le _, below_zero⟩ (by repeat (first | exact Knows.nil | refine Knows.cons (by rfl) ?_)) (by repeat (first | exact Picks.nil _ | exact Pick.here _ _ _ | apply Pick.next | apply Picks.cons)) ?_
    rintro i ⟨hi, hI⟩
    have hly : xs.length = ys.length := (by omega)
    refine a_seq ?_
    refine a_seq ?_
    refine a_region ?_
    refine aops_cons rfl (w_pure rfl (p_move rfl) ?_)
    refine aops_cons rfl (w_pure rfl (p_move rfl) ?_)
    refine aops_cons rfl (w_pure rfl (p_len sl_22 rfl rfl) ?_)
    refine aops_cons rfl (w_pure rfl (p_lss rfl rfl) ?_)
    refine aops_nil ?_
    first | refine a_cond_d rfl (fun h3 => ?_) (fun h4 => ?_) | refine a_cond_n rfl (fun h3 => ?_) (fun h4 => ?_) | refine a_cond_nb rfl (fun h3 => ?_) (fun h4 => ?_) | refine a_cond rfl (fun h3 => ?_) (fun h4 => ?_)
    · (try simp only [Bool.not_eq_true', Bool.not_eq_false', Bool.not_eq_true, Bool.not_eq_false, decide_eq_true_eq, decide_eq_false_iff_not, List.length_map, List.length_range] at h3)
      refine a_skip ?_
      refine a_seq ?_
      refine a_block ?_
      refine a_seq ?_
      refine a_draw [] (by kernel_rfl) ?_
      show ADraw _ _ _ _ _ _ 9 _ _ _ _
      refine d_take 0 rfl (by kernel_rfl) (by kernel_rfl) (by kernel_rfl) rfl (p_move rfl) ?_
      refine d_take 1 rfl (by kernel_rfl) (by kernel_rfl) (by kernel_rfl) rfl (p_move rfl) ?_
      refine d_take 2 rfl (by kernel_rfl) (by kernel_rfl) (by kernel_rfl) rfl (p_index_sl _ rfl rfl rfl (rowD _ _ (0 : Int) (by omega)) es_22) ?_
      refine d_load 3 rfl (by kernel_rfl) (by kernel_rfl) (by kernel_rfl) rfl (p_load_v ag_3 rfl (by rfl) noX) ?_
      refine d_take 4 rfl (by kernel_rfl) (by kernel_rfl) (by kernel_rfl) rfl (p_move rfl) ?_
      refine d_take 5 rfl (by kernel_rfl) (by kernel_rfl) (by kernel_rfl) rfl (p_move rfl) ?_
      refine d_take 6 rfl (by kernel_rfl) (by kernel_rfl) (by kernel_rfl) rfl (p_index_sl _ rfl rfl rfl (rowD _ _ (0 : Int) (by omega)) es_22) ?_
      refine d_load 7 rfl (by kernel_rfl) (by kernel_rfl) (by kernel_rfl) rfl (p_load_v ag_3 rfl (by rfl) noX) ?_
      refine d_take 8 rfl (by kernel_rfl) (by kernel_rfl) (by kernel_rfl) rfl (p_neq rfl rfl) ?_
      refine draw_done (by kernel_rfl) ?_
      first | refine a_cond_d rfl (fun h5 => ?_) (fun h6 => ?_) | refine a_cond_n rfl (fun h5 => ?_) (fun h6 => ?_) | refine a_cond_nb rfl (fun h5 => ?_) (fun h6 => ?_) | refine a_cond rfl (fun h5 => ?_) (fun h6 => ?_)
      · (try simp only [Bool.not_eq_true', Bool.not_eq_false', Bool.not_eq_true, Bool.not_eq_false, decide_eq_true_eq, decide_eq_false_iff_not, List.length_map, List.length_range] at h5)
        refine a_seq ?_
        refine a_region ?_
        refine aops_cons rfl (w_pure rfl (p_assign rfl) ?_)
        refine aops_nil ?_
        refine a_ret ?_
        refine ret_ok (hands1 rfl (.tmp rfl)) (.nil _) ?_
        first | (refine ret_false ?_; exact ints_ne (by assumption)) | (refine ret_true ?_; exact ints_eq (by omega) (below_all hI (by omega))) | (refine ret_false ?_; intro e; have := congrArg List.length e; omega)
      · (try simp only [Bool.not_eq_true', Bool.not_eq_false', Bool.not_eq_true, Bool.not_eq_false, decide_eq_true_eq, decide_eq_false_iff_not, List.length_map, List.length_range] at h6)
        refine a_skip ?_
        refine a_region ?_
        refine aops_cons rfl (w_pure rfl (p_move rfl) ?_)
        refine aops_cons rfl (w_pure rfl (p_add' rfl rfl ⟨by omega, by omega⟩) ?_)
        refine aops_cons rfl (w_pure rfl (p_assign rfl) ?_)
        refine aops_nil ?_
        refine ⟨(i + 1), _, ?_, ?_, (by repeat (first | exact Knows.nil | refine Knows.cons (by rfl) ?_)), (by repeat (first | exact Back.refl _ _ | refine Back.cons (by rfl) ?_)), (by repeat (first | exact Picks.nil _ | exact Pick.here _ _ _ | apply Pick.next | apply Picks.cons))⟩
        · exact ⟨by omega, below_succ hI (by omega)⟩
        · (try dsimp only); omega
    · (try simp only [Bool.not_eq_true', Bool.not_eq_false', Bool.not_eq_true, Bool.not_eq_false, decide_eq_true_eq, decide_eq_false_iff_not, List.length_map, List.length_range] at h4)
      refine a_exit ?_
      refine a_seq ?_
      refine a_region ?_
      refine aops_cons rfl (w_pure rfl (p_assign rfl) ?_)
      refine aops_nil ?_
      refine a_ret ?_
      refine ret_ok (hands1 rfl (.tmp rfl)) (.nil _) ?_
      first | (refine ret_false ?_; exact ints_ne (by assumption)) | (refine ret_true ?_; exact ints_eq (by omega) (below_all hI (by omega))) | (refine ret_false ?_; intro e; have := congrArg List.length e; omega)

theorem c_laws_rRegisters (r s : Registers) (hn : SmallR r) (hm : SmallR s) : ACalls Try.prog 87 [.agg (eRegisters r), .agg (eRegisters s)] [] (Ret (.bool (decide (SameR r s)))) := by
  have hn1 : r.words.length ≤ 1048576 := hn
  have hm1 : s.words.length ≤ 1048576 := hm
  refine a_enter Try.func87 rfl rfl (fun w0 M0 => ?_)
  refine a_seq ?_
  refine a_region ?_
  refine aops_cons rfl (w_box_v rfl rfl rfl ?_)
  refine aops_cons rfl (w_box_v rfl rfl rfl ?_)
  refine aops_cons rfl (w_pure rfl (p_assign rfl) ?_)
  refine aops_nil ?_
  refine a_seq ?_
  refine a_region ?_
  refine aops_cons rfl (w_pure rfl (p_field_v fo_30_0 rfl) ?_)
  refine aops_cons rfl (w_pure rfl (p_load_v ag_22 rfl (by rfl) noX) ?_)
  refine aops_cons rfl (w_pure rfl (p_field_v fo_30_0 rfl) ?_)
  refine aops_cons rfl (w_pure rfl (p_load_v ag_22 rfl (by rfl) noX) ?_)
  refine aops_cons rfl (w_callR rfl rfl rfl cl_41 (c_laws_rInts _ _ hn1 hm1) ?_)
  refine aops_cons rfl (w_pure rfl (p_move rfl) ?_)
  first | refine aops_split_d 10 rfl (fun h1 => ?_) (fun h2 => ?_) | refine aops_split 10 rfl (fun h1 => ?_) (fun h2 => ?_)
  · (try simp only [Bool.not_eq_true', Bool.not_eq_false', Bool.not_eq_true, Bool.not_eq_false, decide_eq_true_eq, decide_eq_false_iff_not, List.length_map, List.length_range] at h1)
    refine aops_guard_t rfl rfl rfl (w_pure rfl (p_field_v fo_30_1 rfl) ?_)
    refine aops_guard_t rfl rfl rfl (w_pure rfl (p_load_v ag_3 rfl (by rfl) noX) ?_)
    refine aops_guard_t rfl rfl rfl (w_pure rfl (p_field_v fo_30_1 rfl) ?_)
    refine aops_guard_t rfl rfl rfl (w_pure rfl (p_load_v ag_3 rfl (by rfl) noX) ?_)
    refine aops_guard_t rfl rfl rfl (w_pure rfl (p_eql rfl rfl) ?_)
    refine aops_cons rfl (w_pure rfl (p_pick_t rfl rfl) ?_)
    refine aops_cons rfl (w_pure rfl (p_move rfl) ?_)
    first | refine aops_split_d 17 rfl (fun h3 => ?_) (fun h4 => ?_) | refine aops_split 17 rfl (fun h3 => ?_) (fun h4 => ?_)
    · (try simp only [Bool.not_eq_true', Bool.not_eq_false', Bool.not_eq_true, Bool.not_eq_false, decide_eq_true_eq, decide_eq_false_iff_not, List.length_map, List.length_range] at h3)
      refine aops_guard_t rfl rfl rfl (w_pure rfl (p_field_v fo_30_2 rfl) ?_)
      refine aops_guard_t rfl rfl rfl (w_pure rfl (p_load_v ag_4 rfl (by rfl) noX) ?_)
      refine aops_guard_t rfl rfl rfl (w_pure rfl (p_field_v fo_30_2 rfl) ?_)
      refine aops_guard_t rfl rfl rfl (w_pure rfl (p_load_v ag_4 rfl (by rfl) noX) ?_)
      refine aops_guard_t rfl rfl rfl (w_pure rfl (p_eql_b um_4 rfl rfl) ?_)
      refine aops_cons rfl (w_pure rfl (p_pick_t rfl rfl) ?_)
      refine aops_cons rfl (w_pure rfl (p_move rfl) ?_)
      first | refine aops_split_d 24 rfl (fun h5 => ?_) (fun h6 => ?_) | refine aops_split 24 rfl (fun h5 => ?_) (fun h6 => ?_)
      · (try simp only [Bool.not_eq_true', Bool.not_eq_false', Bool.not_eq_true, Bool.not_eq_false, decide_eq_true_eq, decide_eq_false_iff_not, List.length_map, List.length_range] at h5)
        refine aops_guard_t rfl rfl rfl (w_pure rfl (p_field_v fo_30_3 rfl) ?_)
        refine aops_guard_t rfl rfl rfl (w_pure rfl (p_load_v ag_4 rfl (by rfl) noX) ?_)
        refine aops_guard_t rfl rfl rfl (w_pure rfl (p_field_v fo_30_3 rfl) ?_)
        refine aops_guard_t rfl rfl rfl (w_pure rfl (p_load_v ag_4 rfl (by rfl) noX) ?_)
        refine aops_guard_t rfl rfl rfl (w_pure rfl (p_eql_b um_4 rfl rfl) ?_)
        refine aops_cons rfl (w_pure rfl (p_pick_t rfl rfl) ?_)
        refine aops_cons rfl (w_pure rfl (p_assign rfl) ?_)
        refine aops_nil ?_
        refine a_ret ?_
        refine ret_ok (hands1 rfl (.tmp rfl)) (.nil _) ?_
        first | (refine ret_false ?_; rintro ⟨q1, q2, q3, q4⟩; simp_all; done) | (refine ret_b ?_; unfold SameR; simp_all; done)
      · (try simp only [Bool.not_eq_true', Bool.not_eq_false', Bool.not_eq_true, Bool.not_eq_false, decide_eq_true_eq, decide_eq_false_iff_not, List.length_map, List.length_range] at h6)
        refine g_pass' rfl rfl rfl rfl rfl ?_
        refine g_pass' rfl rfl rfl rfl rfl ?_
        refine g_pass' rfl rfl rfl rfl rfl ?_
        refine g_pass' rfl rfl rfl rfl rfl ?_
        refine g_pass' rfl rfl rfl rfl rfl ?_
        refine aops_cons rfl (w_pure rfl (p_pick_f rfl rfl) ?_)
        refine aops_cons rfl (w_pure rfl (p_assign rfl) ?_)
        refine aops_nil ?_
        refine a_ret ?_
        refine ret_ok (hands1 rfl (.tmp rfl)) (.nil _) ?_
        first | (refine ret_false ?_; rintro ⟨q1, q2, q3, q4⟩; simp_all; done) | (refine ret_b ?_; unfold SameR; simp_all; done)
    · (try simp only [Bool.not_eq_true', Bool.not_eq_false', Bool.not_eq_true, Bool.not_eq_false, decide_eq_true_eq, decide_eq_false_iff_not, List.length_map, List.length_range] at h4)
      refine g_pass' rfl rfl rfl rfl rfl ?_
      refine g_pass' rfl rfl rfl rfl rfl ?_
      refine g_pass' rfl rfl rfl rfl rfl ?_
      refine g_pass' rfl rfl rfl rfl rfl ?_
      refine g_pass' rfl rfl rfl rfl rfl ?_
      refine aops_cons rfl (w_pure rfl (p_pick_f rfl rfl) ?_)
      refine aops_cons rfl (w_pure rfl (p_move rfl) ?_)
      refine g_pass' rfl rfl rfl rfl rfl ?_
      refine g_pass' rfl rfl rfl rfl rfl ?_
      refine g_pass' rfl rfl rfl rfl rfl ?_
      refine g_pass' rfl rfl rfl rfl rfl ?_
      refine g_pass' rfl rfl rfl rfl rfl ?_
      refine aops_cons rfl (w_pure rfl (p_pick_f rfl rfl) ?_)
      refine aops_cons rfl (w_pure rfl (p_assign rfl) ?_)
      refine aops_nil ?_
      refine a_ret ?_
      refine ret_ok (hands1 rfl (.tmp rfl)) (.nil _) ?_
      first | (refine ret_false ?_; rintro ⟨q1, q2, q3, q4⟩; simp_all; done) | (refine ret_b ?_; unfold SameR; simp_all; done)
  · (try simp only [Bool.not_eq_true', Bool.not_eq_false', Bool.not_eq_true, Bool.not_eq_false, decide_eq_true_eq, decide_eq_false_iff_not, List.length_map, List.length_range] at h2)
    refine g_pass' rfl rfl rfl rfl rfl ?_
    refine g_pass' rfl rfl rfl rfl rfl ?_
    refine g_pass' rfl rfl rfl rfl rfl ?_
    refine g_pass' rfl rfl rfl rfl rfl ?_
    refine g_pass' rfl rfl rfl rfl rfl ?_
    refine aops_cons rfl (w_pure rfl (p_pick_f rfl rfl) ?_)
    refine aops_cons rfl (w_pure rfl (p_move rfl) ?_)
    refine g_pass' rfl rfl rfl rfl rfl ?_
    refine g_pass' rfl rfl rfl rfl rfl ?_
    refine g_pass' rfl rfl rfl rfl rfl ?_
    refine g_pass' rfl rfl rfl rfl rfl ?_
    refine g_pass' rfl rfl rfl rfl rfl ?_
    refine aops_cons rfl (w_pure rfl (p_pick_f rfl rfl) ?_)
    refine aops_cons rfl (w_pure rfl (p_move rfl) ?_)
    refine g_pass' rfl rfl rfl rfl rfl ?_
    refine g_pass' rfl rfl rfl rfl rfl ?_
    refine g_pass' rfl rfl rfl rfl rfl ?_
    refine g_pass' rfl rfl rfl rfl rfl ?_
    refine g_pass' rfl rfl rfl rfl rfl ?_
    refine aops_cons rfl (w_pure rfl (p_pick_f rfl rfl) ?_)
    refine aops_cons rfl (w_pure rfl (p_assign rfl) ?_)
    refine aops_nil ?_
    refine a_ret ?_
    refine ret_ok (hands1 rfl (.tmp rfl)) (.nil _) ?_
    first | (refine ret_false ?_; rintro ⟨q1, q2, q3, q4⟩; simp_all; done) | (refine ret_b ?_; unfold SameR; simp_all; done)

theorem c_laws_rContext (a c : Context) (hn : SmallC a) (hm : SmallC c) : ACalls Try.prog 44 [.agg (eContext a), .agg (eContext c)] [] (Ret (.bool (decide (SameC a c)))) := by
  refine a_enter Try.func44 rfl rfl (fun w0 M0 => ?_)
  refine a_seq ?_
  refine a_region ?_
  refine aops_cons rfl (w_box_v rfl rfl rfl ?_)
  refine aops_cons rfl (w_box_v rfl rfl rfl ?_)
  refine aops_cons rfl (w_pure rfl (p_assign rfl) ?_)
  refine aops_nil ?_
  refine a_seq ?_
  refine a_region ?_
  refine aops_cons rfl (w_pure rfl (p_field_v fo_32_0 rfl) ?_)
  refine aops_cons rfl (w_pure rfl (p_load_v ag_3 rfl (by rfl) noX) ?_)
  refine aops_cons rfl (w_pure rfl (p_field_v fo_32_0 rfl) ?_)
  refine aops_cons rfl (w_pure rfl (p_load_v ag_3 rfl (by rfl) noX) ?_)
  refine aops_cons rfl (w_pure rfl (p_eql rfl rfl) ?_)
  refine aops_cons rfl (w_pure rfl (p_move rfl) ?_)
  first | refine aops_split_d 10 rfl (fun h1 => ?_) (fun h2 => ?_) | refine aops_split 10 rfl (fun h1 => ?_) (fun h2 => ?_)
  · (try simp only [Bool.not_eq_true', Bool.not_eq_false', Bool.not_eq_true, Bool.not_eq_false, decide_eq_true_eq, decide_eq_false_iff_not, List.length_map, List.length_range] at h1)
    refine aops_guard_t rfl rfl rfl (w_pure rfl (p_field_v fo_32_1 rfl) ?_)
    refine aops_guard_t rfl rfl rfl (w_pure rfl (p_load_v_agg (cs' := [_, _, _, _]) ag_30 rfl (by rfl) (by rfl) noX) ?_)
    refine aops_guard_t rfl rfl rfl (w_pure rfl (p_field_v fo_32_1 rfl) ?_)
    refine aops_guard_t rfl rfl rfl (w_pure rfl (p_load_v_agg (cs' := [_, _, _, _]) ag_30 rfl (by rfl) (by rfl) noX) ?_)
    refine aops_guard_t rfl rfl rfl (w_callR rfl rfl rfl cl_87 (c_laws_rRegisters a.regs c.regs hn hm) ?_)
    refine aops_cons rfl (w_pure rfl (p_pick_t rfl rfl) ?_)
    refine aops_cons rfl (w_pure rfl (p_move rfl) ?_)
    first | refine aops_split_d 17 rfl (fun h3 => ?_) (fun h4 => ?_) | refine aops_split 17 rfl (fun h3 => ?_) (fun h4 => ?_)
    · (try simp only [Bool.not_eq_true', Bool.not_eq_false', Bool.not_eq_true, Bool.not_eq_false, decide_eq_true_eq, decide_eq_false_iff_not, List.length_map, List.length_range] at h3)
      refine aops_guard_t rfl rfl rfl (w_pure rfl (p_field_v fo_32_2 rfl) ?_)
      refine aops_guard_t rfl rfl rfl (w_pure rfl (p_load_v ag_3 rfl (by rfl) noX) ?_)
      refine aops_guard_t rfl rfl rfl (w_pure rfl (p_field_v fo_32_2 rfl) ?_)
      refine aops_guard_t rfl rfl rfl (w_pure rfl (p_load_v ag_3 rfl (by rfl) noX) ?_)
      refine aops_guard_t rfl rfl rfl (w_pure rfl (p_eql rfl rfl) ?_)
      refine aops_cons rfl (w_pure rfl (p_pick_t rfl rfl) ?_)
      refine aops_cons rfl (w_pure rfl (p_move rfl) ?_)
      first | refine aops_split_d 24 rfl (fun h5 => ?_) (fun h6 => ?_) | refine aops_split 24 rfl (fun h5 => ?_) (fun h6 => ?_)
      · (try simp only [Bool.not_eq_true', Bool.not_eq_false', Bool.not_eq_true, Bool.not_eq_false, decide_eq_true_eq, decide_eq_false_iff_not, List.length_map, List.length_range] at h5)
        refine aops_guard_t rfl rfl rfl (w_pure rfl (p_field_v fo_32_3 rfl) ?_)
        refine aops_guard_t rfl rfl rfl (w_pure rfl (p_load_v ag_3 rfl (by rfl) noX) ?_)
        refine aops_guard_t rfl rfl rfl (w_pure rfl (p_field_v fo_32_3 rfl) ?_)
        refine aops_guard_t rfl rfl rfl (w_pure rfl (p_load_v ag_3 rfl (by rfl) noX) ?_)
        refine aops_guard_t rfl rfl rfl (w_pure rfl (p_eql rfl rfl) ?_)
        refine aops_cons rfl (w_pure rfl (p_pick_t rfl rfl) ?_)
        refine aops_cons rfl (w_pure rfl (p_assign rfl) ?_)
        refine aops_nil ?_
        refine a_ret ?_
        refine ret_ok (hands1 rfl (.tmp rfl)) (.nil _) ?_
        first | (refine ret_false ?_; rintro ⟨q1, q2, q3, q4⟩; first | contradiction | (simp_all; done)) | (refine ret_b ?_; unfold SameC; simp_all; done)
      · (try simp only [Bool.not_eq_true', Bool.not_eq_false', Bool.not_eq_true, Bool.not_eq_false, decide_eq_true_eq, decide_eq_false_iff_not, List.length_map, List.length_range] at h6)
        refine g_pass' rfl rfl rfl rfl rfl ?_
        refine g_pass' rfl rfl rfl rfl rfl ?_
        refine g_pass' rfl rfl rfl rfl rfl ?_
        refine g_pass' rfl rfl rfl rfl rfl ?_
        refine g_pass' rfl rfl rfl rfl rfl ?_
        refine aops_cons rfl (w_pure rfl (p_pick_f rfl rfl) ?_)
        refine aops_cons rfl (w_pure rfl (p_assign rfl) ?_)
        refine aops_nil ?_
        refine a_ret ?_
        refine ret_ok (hands1 rfl (.tmp rfl)) (.nil _) ?_
        first | (refine ret_false ?_; rintro ⟨q1, q2, q3, q4⟩; first | contradiction | (simp_all; done)) | (refine ret_b ?_; unfold SameC; simp_all; done)
    · (try simp only [Bool.not_eq_true', Bool.not_eq_false', Bool.not_eq_true, Bool.not_eq_false, decide_eq_true_eq, decide_eq_false_iff_not, List.length_map, List.length_range] at h4)
      refine g_pass' rfl rfl rfl rfl rfl ?_
      refine g_pass' rfl rfl rfl rfl rfl ?_
      refine g_pass' rfl rfl rfl rfl rfl ?_
      refine g_pass' rfl rfl rfl rfl rfl ?_
      refine g_pass' rfl rfl rfl rfl rfl ?_
      refine aops_cons rfl (w_pure rfl (p_pick_f rfl rfl) ?_)
      refine aops_cons rfl (w_pure rfl (p_move rfl) ?_)
      refine g_pass' rfl rfl rfl rfl rfl ?_
      refine g_pass' rfl rfl rfl rfl rfl ?_
      refine g_pass' rfl rfl rfl rfl rfl ?_
      refine g_pass' rfl rfl rfl rfl rfl ?_
      refine g_pass' rfl rfl rfl rfl rfl ?_
      refine aops_cons rfl (w_pure rfl (p_pick_f rfl rfl) ?_)
      refine aops_cons rfl (w_pure rfl (p_assign rfl) ?_)
      refine aops_nil ?_
      refine a_ret ?_
      refine ret_ok (hands1 rfl (.tmp rfl)) (.nil _) ?_
      first | (refine ret_false ?_; rintro ⟨q1, q2, q3, q4⟩; first | contradiction | (simp_all; done)) | (refine ret_b ?_; unfold SameC; simp_all; done)
  · (try simp only [Bool.not_eq_true', Bool.not_eq_false', Bool.not_eq_true, Bool.not_eq_false, decide_eq_true_eq, decide_eq_false_iff_not, List.length_map, List.length_range] at h2)
    refine g_pass' rfl rfl rfl rfl rfl ?_
    refine g_pass' rfl rfl rfl rfl rfl ?_
    refine g_pass' rfl rfl rfl rfl rfl ?_
    refine g_pass' rfl rfl rfl rfl rfl ?_
    refine g_pass' rfl rfl rfl rfl rfl ?_
    refine aops_cons rfl (w_pure rfl (p_pick_f rfl rfl) ?_)
    refine aops_cons rfl (w_pure rfl (p_move rfl) ?_)
    refine g_pass' rfl rfl rfl rfl rfl ?_
    refine g_pass' rfl rfl rfl rfl rfl ?_
    refine g_pass' rfl rfl rfl rfl rfl ?_
    refine g_pass' rfl rfl rfl rfl rfl ?_
    refine g_pass' rfl rfl rfl rfl rfl ?_
    refine aops_cons rfl (w_pure rfl (p_pick_f rfl rfl) ?_)
    refine aops_cons rfl (w_pure rfl (p_move rfl) ?_)
    refine g_pass' rfl rfl rfl rfl rfl ?_
    refine g_pass' rfl rfl rfl rfl rfl ?_
    refine g_pass' rfl rfl rfl rfl rfl ?_
    refine g_pass' rfl rfl rfl rfl rfl ?_
    refine g_pass' rfl rfl rfl rfl rfl ?_
    refine aops_cons rfl (w_pure rfl (p_pick_f rfl rfl) ?_)
    refine aops_cons rfl (w_pure rfl (p_assign rfl) ?_)
    refine aops_nil ?_
    refine a_ret ?_
    refine ret_ok (hands1 rfl (.tmp rfl)) (.nil _) ?_
    first | (refine ret_false ?_; rintro ⟨q1, q2, q3, q4⟩; first | contradiction | (simp_all; done)) | (refine ret_b ?_; unfold SameC; simp_all; done)

theorem ce_laws_rInts (xs : List Int) (hn : xs.length ≤ 1048576) : ACalls Try.prog 41 [.sl (xs.map eInt), .sl (xs.map eInt)] [] (Ret (.bool true)) := by
  have := c_laws_rInts xs xs hn hn
  rwa [decide_eq_true rfl] at this

theorem ce_laws_rContext (c : Context) (hn : SmallC c) : ACalls Try.prog 44 [.agg (eContext c), .agg (eContext c)] [] (Ret (.bool true)) := by
  have := c_laws_rContext c c hn hn
  rwa [decide_eq_true (sameC_refl c)] at this

theorem c_laws_rTable (xs : List (List Int)) (hn : DeepL xs) : ACalls Try.prog 49 [.sl (xs.map eInts), .sl (xs.map eInts)] [] (Ret (.bool true)) := by
  have hn1 := hn.1
  refine a_enter Try.func49 rfl rfl (fun w0 M0 => ?_)
  refine a_seq ?_
  refine a_region ?_
  refine aops_cons rfl (w_pure rfl (p_assign rfl) ?_)
  refine aops_nil ?_
  refine a_seq ?_
  refine a_seq ?_
  refine a_region ?_
  refine aops_cons rfl (w_pure rfl (p_move rfl) ?_)
  refine aops_cons rfl (w_pure rfl (p_len sl_54 rfl rfl) ?_)
  refine aops_cons rfl (w_pure rfl (p_move rfl) ?_)
  refine aops_cons rfl (w_pure rfl (p_len sl_54 rfl rfl) ?_)
  refine aops_cons rfl (w_pure rfl (p_neq_same rfl rfl) ?_)
  refine aops_nil ?_
  refine a_cond_f rfl ?_
  refine a_skip ?_
  refine a_seq ?_
  refine a_seq ?_
  refine a_region ?_
  refine aops_cons rfl (w_pure rfl (p_assign rfl) ?_)
  refine aops_nil ?_
  refine a_block ?_
  refine a_loop (ι := Nat) (fun i => i ≤ xs.length) (fun i => [(5, .int .i64 (i : Int))]) (fun i => []) (fun i => xs.length - i) 0 (Nat.zero_le _) (by repeat (first | exact Knows.nil | refine Knows.cons (by rfl) ?_)) (by repeat (first | exact Picks.nil _ | exact Pick.here _ _ _ | apply Pick.next | apply Picks.cons)) ?_
  rintro i hi
  have hr := fun h : i < xs.length => hn.2 i h
  refine a_seq ?_
  refine a_seq ?_
  refine a_region ?_
  refine aops_cons rfl (w_pure rfl (p_move rfl) ?_)
  refine aops_cons rfl (w_pure rfl (p_move rfl) ?_)
  refine aops_cons rfl (w_pure rfl (p_len sl_54 rfl rfl) ?_)
  refine aops_cons rfl (w_pure rfl (p_lss rfl rfl) ?_)
  refine aops_nil ?_
  first | refine a_cond_d rfl (fun h1 => ?_) (fun h2 => ?_) | refine a_cond_n rfl (fun h1 => ?_) (fun h2 => ?_) | refine a_cond_nb rfl (fun h1 => ?_) (fun h2 => ?_) | refine a_cond rfl (fun h1 => ?_) (fun h2 => ?_)
  · (try simp only [Bool.not_eq_true', Bool.not_eq_false', Bool.not_eq_true, Bool.not_eq_false, decide_eq_true_eq, decide_eq_false_iff_not, List.length_map, List.length_range] at h1)
    refine a_skip ?_
    refine a_seq ?_
    refine a_block ?_
    refine a_seq ?_
    refine a_draw [] (by kernel_rfl) ?_
    show ADraw _ _ _ _ _ _ 10 _ _ _ _
    refine d_take 0 rfl (by kernel_rfl) (by kernel_rfl) (by kernel_rfl) rfl (p_move rfl) ?_
    refine d_take 1 rfl (by kernel_rfl) (by kernel_rfl) (by kernel_rfl) rfl (p_move rfl) ?_
    refine d_take 2 rfl (by kernel_rfl) (by kernel_rfl) (by kernel_rfl) rfl (p_index_sl _ rfl rfl rfl (rowD eInts xs ([] : List Int) (by omega)) es_54) ?_
    refine d_load 3 rfl (by kernel_rfl) (by kernel_rfl) (by kernel_rfl) rfl (p_load_v ag_22 rfl (by rfl) noX) ?_
    refine d_take 4 rfl (by kernel_rfl) (by kernel_rfl) (by kernel_rfl) rfl (p_move rfl) ?_
    refine d_take 5 rfl (by kernel_rfl) (by kernel_rfl) (by kernel_rfl) rfl (p_move rfl) ?_
    refine d_take 6 rfl (by kernel_rfl) (by kernel_rfl) (by kernel_rfl) rfl (p_index_sl _ rfl rfl rfl (rowD eInts xs ([] : List Int) (by omega)) es_54) ?_
    refine d_load 7 rfl (by kernel_rfl) (by kernel_rfl) (by kernel_rfl) rfl (p_load_v ag_22 rfl (by rfl) noX) ?_
    refine draw_all [8] (by kernel_rfl) (by simp) ?_
    refine all_cons rfl rfl ?_ ?_
    · skip
      refine w_callR rfl rfl rfl cl_41 (ce_laws_rInts (xs.getD i []) (hr (by omega))) ?_
      refine d_take 9 rfl (by kernel_rfl) (by kernel_rfl) (by kernel_rfl) rfl (p_not rfl) ?_
      refine draw_done (by kernel_rfl) ?_
      refine a_cond_f rfl ?_
      refine a_skip ?_
      refine a_region ?_
      refine aops_cons rfl (w_pure rfl (p_move rfl) ?_)
      refine aops_cons rfl (w_pure rfl (p_add' rfl rfl ⟨by omega, by omega⟩) ?_)
      refine aops_cons rfl (w_pure rfl (p_assign rfl) ?_)
      refine aops_nil ?_
      refine ⟨(i + 1), _, ?_, ?_, (by repeat (first | exact Knows.nil | refine Knows.cons (by rfl) ?_)), (by repeat (first | exact Back.refl _ _ | refine Back.cons (by rfl) ?_)), (by repeat (first | exact Picks.nil _ | exact Pick.here _ _ _ | apply Pick.next | apply Picks.cons))⟩
      · omega
      · (try dsimp only); omega
    exact all_nil
  · (try simp only [Bool.not_eq_true', Bool.not_eq_false', Bool.not_eq_true, Bool.not_eq_false, decide_eq_true_eq, decide_eq_false_iff_not, List.length_map, List.length_range] at h2)
    refine a_exit ?_
    refine a_seq ?_
    refine a_region ?_
    refine aops_cons rfl (w_pure rfl (p_assign rfl) ?_)
    refine aops_nil ?_
    refine a_ret ?_
    refine ret_ok (hands1 rfl (.tmp rfl)) (.nil _) ?_
    first | exact ⟨rfl, rfl⟩ | (exfalso; omega)

theorem c_laws_rBig (bs : List Int) (hn : bs.length ≤ 9223372036854775807) : ACalls Try.prog 39 [.sl (bs.map eByte)] [] (Ret (.bool (decide (65536 < bs.length)))) := by
  refine a_enter Try.func39 rfl rfl (fun w0 M0 => ?_)
  refine a_seq ?_
  refine a_region ?_
  refine aops_cons rfl (w_pure rfl (p_assign rfl) ?_)
  refine aops_nil ?_
  refine a_seq ?_
  refine a_region ?_
  refine aops_cons rfl (w_pure rfl (p_move rfl) ?_)
  refine aops_cons rfl (w_pure rfl (p_len sl_59 rfl rfl) ?_)
  refine aops_cons rfl (w_pure rfl (p_gtr rfl rfl) ?_)
  refine aops_cons rfl (w_pure rfl (p_assign rfl) ?_)
  refine aops_nil ?_
  refine a_ret ?_
  refine ret_ok (hands1 rfl (.tmp rfl)) (.nil _) ?_
  refine ret_dec ?_; simp only [List.length_map]; omega

end Go.Proofs.Ytejlhpmmgjfllaa
