/-
  The walks of this part: each theorem is the contract of one function. Condition: none but those that it names.
-/
import Derived.Test.YtmdhojgkhbihaaaMailEd
import Derived.Test.YtmdhojgkhbihaaaMailEF
import Derived.Test.YtmdhojgkhbihaaaMailA
import Derived.Test.YtmdhojgkhbihaaaMailB
import Derived.Test.YtmdhojgkhbihaaaMailC
import Derived.Test.YtmdhojgkhbihaaaMailD
namespace Go.Proofs.Ytmdhojgkhbihaaa
open Go Go.Fw Go.Hv
attribute [local irreducible] awp Aops Aop ADraw ADrawAll ACalls
set_option maxRecDepth 4000
set_option linter.unusedSimpArgs false
set_option linter.unusedVariables false

theorem ck_spec_SendMail (xs : List Mail) (hn : xs.length ≤ 1048576) (m : Mail) : ACalls Try.prog 9 [.sl (xs.map eMail), .agg (eMail m)] [] (fun r st => ∃ (b : Nat) (ys : List Mail) (k : Bool), r = .tup [.own 3 b 0 ys.length, .bool k] ∧ ys.length ≤ 20 ∧ st = [(b, .arr 26 3 (ys.map eMail))]) := by
  refine a_enter Try.func9 rfl rfl (fun w0 M0 => ?_)
  refine a_seq ?_
  refine a_region ?_
  refine aops_cons rfl (w_box_v rfl rfl rfl ?_)
  refine aops_cons rfl (w_pure rfl (p_assign rfl) ?_)
  refine aops_cons rfl (w_pure rfl (p_assign rfl) ?_)
  refine aops_nil ?_
  refine a_seq ?_
  refine a_seq ?_
  refine a_region ?_
  refine aops_cons rfl (w_pure rfl (p_move rfl) ?_)
  refine aops_cons rfl (w_callR rfl rfl rfl cl_48 (c_spec_l12Good _ (by first | omega | (have q1 := ‹IsBox xs›.2; have q2 := sendOne_len xs m; omega))) ?_)
  refine aops_cons rfl (w_pure rfl (p_not rfl) ?_)
  refine aops_cons rfl (w_pure rfl (p_move rfl) ?_)
  first | refine aops_split_d 9 rfl (fun h1 => ?_) (fun h2 => ?_) | refine aops_split 9 rfl (fun h1 => ?_) (fun h2 => ?_)
  · (try simp only [Bool.not_eq_true', Bool.not_eq_false', Bool.not_eq_true, Bool.not_eq_false, decide_eq_true_eq, decide_eq_false_iff_not, List.length_map, List.length_range] at h1)
    refine g_pass' rfl rfl rfl rfl rfl ?_
    refine g_pass' rfl rfl rfl rfl rfl ?_
    refine g_pass' rfl rfl rfl rfl rfl ?_
    refine g_pass' rfl rfl rfl rfl rfl ?_
    refine g_pass' rfl rfl rfl rfl rfl ?_
    refine aops_cons rfl (w_pure rfl (p_pick_t rfl rfl) ?_)
    refine aops_nil ?_
    refine a_cond_t rfl ?_
    refine a_seq ?_
    refine a_region ?_
    refine aops_cons rfl (w_litM eMail [] rfl el_24 rfl rfl rfl rfl rfl fun b1 => ?_)
    refine aops_cons rfl (w_pure rfl (p_assign rfl) ?_)
    refine aops_cons rfl (w_pure rfl (p_assign rfl) ?_)
    refine aops_nil ?_
    refine a_ret ?_
    refine ret_ok (hands2 rfl (.tmp rfl) (.tmp rfl)) (st' := [(b1, _)]) (.cons (by repeat (first | exact Pick.here _ _ _ | apply Pick.next)) (.nil _)) ?_
    first | exact ⟨_, [], _, rfl, Nat.zero_le _, rfl⟩ | exact ⟨_, sendOne xs m, _, by rw [List.length_map], (‹IsBox (sendOne xs m)›).2, rfl⟩
  · (try simp only [Bool.not_eq_true', Bool.not_eq_false', Bool.not_eq_true, Bool.not_eq_false, decide_eq_true_eq, decide_eq_false_iff_not, List.length_map, List.length_range] at h2)
    refine aops_guard_t rfl rfl rfl (w_pure rfl (p_move rfl) ?_)
    refine aops_guard_t rfl rfl rfl (w_pure rfl (p_load_v_all ag_26 rfl (by rfl) noX) ?_)
    refine aops_guard_t rfl rfl rfl (w_callR rfl rfl rfl cl_49 (c_spec_l12Send _ (by omega) _) ?_)
    refine aops_guard_t rfl rfl rfl (w_callR rfl rfl rfl cl_48 (c_spec_l12Good _ (by first | omega | (have q1 := ‹IsBox xs›.2; have q2 := sendOne_len xs m; omega))) ?_)
    refine aops_guard_t rfl rfl rfl (w_pure rfl (p_not rfl) ?_)
    refine aops_cons rfl (w_pure rfl (p_pick_f rfl rfl) ?_)
    refine aops_nil ?_
    first | refine a_cond_d rfl (fun h3 => ?_) (fun h4 => ?_) | refine a_cond_n rfl (fun h3 => ?_) (fun h4 => ?_) | refine a_cond_nb rfl (fun h3 => ?_) (fun h4 => ?_) | refine a_cond rfl (fun h3 => ?_) (fun h4 => ?_)
    · (try simp only [Bool.not_eq_true', Bool.not_eq_false', Bool.not_eq_true, Bool.not_eq_false, decide_eq_true_eq, decide_eq_false_iff_not, List.length_map, List.length_range] at h3)
      refine a_seq ?_
      refine a_region ?_
      refine aops_cons rfl (w_litM eMail [] rfl el_24 rfl rfl rfl rfl rfl fun b2 => ?_)
      refine aops_cons rfl (w_pure rfl (p_assign rfl) ?_)
      refine aops_cons rfl (w_pure rfl (p_assign rfl) ?_)
      refine aops_nil ?_
      refine a_ret ?_
      refine ret_ok (hands2 rfl (.tmp rfl) (.tmp rfl)) (st' := [(b2, _)]) (.cons (by repeat (first | exact Pick.here _ _ _ | apply Pick.next)) (.nil _)) ?_
      first | exact ⟨_, [], _, rfl, Nat.zero_le _, rfl⟩ | exact ⟨_, sendOne xs m, _, by rw [List.length_map], (‹IsBox (sendOne xs m)›).2, rfl⟩
    · (try simp only [Bool.not_eq_true', Bool.not_eq_false', Bool.not_eq_true, Bool.not_eq_false, decide_eq_true_eq, decide_eq_false_iff_not, List.length_map, List.length_range] at h4)
      refine a_skip ?_
      refine a_seq ?_
      refine a_region ?_
      refine aops_cons rfl (w_pure rfl (p_move rfl) ?_)
      refine aops_cons rfl (w_pure rfl (p_load_v_all ag_26 rfl (by rfl) noX) ?_)
      refine aops_cons rfl (w_call rfl rfl rfl cl_49 (co_spec_l12Send xs (by omega) m) ?_)
      rintro _ _ ⟨b3, rfl, rfl⟩
      refine aops_cons rfl (w_pure rfl (p_assign rfl) ?_)
      refine aops_cons rfl (w_pure rfl (p_assign rfl) ?_)
      refine aops_nil ?_
      refine a_ret ?_
      refine ret_ok (hands2 rfl (.tmp rfl) (.tmp rfl)) (st' := [(b3, _)]) (.cons (by repeat (first | exact Pick.here _ _ _ | apply Pick.next)) (.nil _)) ?_
      first | exact ⟨_, [], _, rfl, Nat.zero_le _, rfl⟩ | exact ⟨_, sendOne xs m, _, by rw [List.length_map], (‹IsBox (sendOne xs m)›).2, rfl⟩

theorem c_spec_l1Cur_next (q : Nat) (bs : List Int) (hb : Bytes bs) (a s : Int) (h0 : 0 ≤ a) (h1 : a ≤ 999999999000)  : ACalls Try.prog 73 [.ptr q 0] [(q, curE bs a s)] (fun r st => ∃ m a' s', r = .int .i64 m ∧ (0 ≤ m ∧ m ≤ 255) ∧ a ≤ a' ∧ a' ≤ a + 1 ∧ st = [(q, curE bs a' s')]) := by
  refine a_enter Try.func73 rfl rfl (fun w0 M0 => ?_)
  refine a_seq ?_
  refine a_region ?_
  refine aops_cons rfl (w_pure rfl (p_assign rfl) ?_)
  refine aops_nil ?_
  refine a_seq ?_
  refine a_region ?_
  refine aops_cons rfl (w_pure rfl (p_assign rfl) ?_)
  refine aops_nil ?_
  refine a_seq ?_
  refine a_seq ?_
  refine a_draw [] (by kernel_rfl) ?_
  show ADraw _ _ _ _ _ _ 10 _ _ _ _
  refine d_take 0 rfl (by kernel_rfl) (by kernel_rfl) (by kernel_rfl) rfl (p_move rfl) ?_
  refine d_take 1 rfl (by kernel_rfl) (by kernel_rfl) (by kernel_rfl) rfl (p_nil rfl) ?_
  refine d_take 2 rfl (by kernel_rfl) (by kernel_rfl) (by kernel_rfl) rfl (p_field_box fo_67_1 rfl) ?_
  refine d_load 3 rfl (by kernel_rfl) (by kernel_rfl) (by kernel_rfl) rfl (p_load_box ag_3 rfl (by repeat (first | exact Pick.here _ _ _ | apply Pick.next)) (by rfl) noX) ?_
  refine d_take 4 rfl (by kernel_rfl) (by kernel_rfl) (by kernel_rfl) rfl (p_move rfl) ?_
  refine d_take 5 rfl (by kernel_rfl) (by kernel_rfl) (by kernel_rfl) rfl (p_nil rfl) ?_
  refine d_take 6 rfl (by kernel_rfl) (by kernel_rfl) (by kernel_rfl) rfl (p_field_box fo_67_0 rfl) ?_
  refine d_load 7 rfl (by kernel_rfl) (by kernel_rfl) (by kernel_rfl) rfl (p_load_box ag_22 rfl (by repeat (first | exact Pick.here _ _ _ | apply Pick.next)) (by rfl) noX) ?_
  refine d_take 8 rfl (by kernel_rfl) (by kernel_rfl) (by kernel_rfl) rfl (p_len sl_22 rfl rfl) ?_
  refine d_take 9 rfl (by kernel_rfl) (by kernel_rfl) (by kernel_rfl) rfl (p_lss rfl rfl) ?_
  refine draw_done (by kernel_rfl) ?_
  first | refine a_cond_d rfl (fun h1 => ?_) (fun h2 => ?_) | refine a_cond_n rfl (fun h1 => ?_) (fun h2 => ?_) | refine a_cond_nb rfl (fun h1 => ?_) (fun h2 => ?_) | refine a_cond rfl (fun h1 => ?_) (fun h2 => ?_)
  · (try simp only [Bool.not_eq_true', Bool.not_eq_false', Bool.not_eq_true, Bool.not_eq_false, decide_eq_true_eq, decide_eq_false_iff_not, List.length_map, List.length_range] at h1)
    refine a_draw [] (by kernel_rfl) ?_
    show ADraw _ _ _ _ _ _ 12 _ _ _ _
    refine d_take 0 rfl (by kernel_rfl) (by kernel_rfl) (by kernel_rfl) rfl (p_move rfl) ?_
    refine d_take 1 rfl (by kernel_rfl) (by kernel_rfl) (by kernel_rfl) rfl (p_nil rfl) ?_
    refine d_take 2 rfl (by kernel_rfl) (by kernel_rfl) (by kernel_rfl) rfl (p_field_box fo_67_0 rfl) ?_
    refine d_load 3 rfl (by kernel_rfl) (by kernel_rfl) (by kernel_rfl) rfl (p_load_box ag_22 rfl (by repeat (first | exact Pick.here _ _ _ | apply Pick.next)) (by rfl) noX) ?_
    refine d_take 4 rfl (by kernel_rfl) (by kernel_rfl) (by kernel_rfl) rfl (p_move rfl) ?_
    refine d_take 5 rfl (by kernel_rfl) (by kernel_rfl) (by kernel_rfl) rfl (p_nil rfl) ?_
    refine d_take 6 rfl (by kernel_rfl) (by kernel_rfl) (by kernel_rfl) rfl (p_field_box fo_67_1 rfl) ?_
    refine d_load 7 rfl (by kernel_rfl) (by kernel_rfl) (by kernel_rfl) rfl (p_load_box ag_3 rfl (by repeat (first | exact Pick.here _ _ _ | apply Pick.next)) (by rfl) noX) ?_
    refine d_take 8 rfl (by kernel_rfl) (by kernel_rfl) (by kernel_rfl) rfl (p_index_sl a.toNat rfl rfl (by omega) (rowD _ _ (0 : Int) (by omega)) es_22) ?_
    refine d_load 9 rfl (by kernel_rfl) (by kernel_rfl) (by kernel_rfl) rfl (p_load_v ag_5 rfl (by rfl) noX) ?_
    refine d_take 10 rfl (by kernel_rfl) (by kernel_rfl) (by kernel_rfl) rfl (p_convert ui_5 um_3 rfl) ?_
    refine d_take 11 rfl (by kernel_rfl) (by kernel_rfl) (by kernel_rfl) rfl (p_assign rfl) ?_
    refine draw_done (by kernel_rfl) ?_
    refine a_seq ?_
    refine a_region ?_
    refine aops_cons rfl (w_pure rfl (p_move rfl) ?_)
    refine aops_cons rfl (w_pure rfl (p_nil rfl) ?_)
    refine aops_cons rfl (w_pure rfl (p_field_box fo_67_1 rfl) ?_)
    refine aops_cons rfl (w_pure rfl (p_load_box ag_3 rfl (by repeat (first | exact Pick.here _ _ _ | apply Pick.next)) (by rfl) noX) ?_)
    refine aops_cons rfl (w_pure rfl (p_add' rfl rfl ⟨by omega, by omega⟩) ?_)
    refine aops_cons rfl (w_pure rfl (p_nil rfl) ?_)
    refine aops_cons rfl (w_pure rfl (p_field_box fo_67_1 rfl) ?_)
    refine aops_cons rfl (w_store (cells' := [_, _, _]) rfl rfl rfl (by repeat (first | exact Pick.here _ _ _ | apply Pick.next)) cn_3 (by rfl) (by rfl) (by rfl) trivial ?_)
    refine aops_nil ?_
    refine a_seq ?_
    refine a_region ?_
    refine aops_cons rfl (w_pure rfl (p_move rfl) ?_)
    refine aops_cons rfl (w_pure rfl (p_move rfl) ?_)
    refine aops_cons rfl (w_pure rfl (p_nil rfl) ?_)
    refine aops_cons rfl (w_pure rfl (p_field_box fo_67_2 rfl) ?_)
    refine aops_cons rfl (w_pure rfl (p_load_box ag_65 rfl (by repeat (first | exact Pick.here _ _ _ | apply Pick.next)) (by rfl) noX) ?_)
    refine aops_cons rfl (w_pure rfl (p_mul rfl rfl) ?_)
    refine aops_cons rfl (w_pure rfl (p_move rfl) ?_)
    refine aops_cons rfl (w_pure rfl (p_convert ui_3 um_65 rfl) ?_)
    refine aops_cons rfl (w_pure rfl (p_add rfl rfl) ?_)
    refine aops_cons rfl (w_pure rfl (p_add rfl rfl) ?_)
    refine aops_cons rfl (w_pure rfl (p_nil rfl) ?_)
    refine aops_cons rfl (w_pure rfl (p_field_box fo_67_2 rfl) ?_)
    refine aops_cons rfl (w_store (cells' := [_, _, _]) rfl rfl rfl (by repeat (first | exact Pick.here _ _ _ | apply Pick.next)) cn_65 (by rfl) (by rfl) (by rfl) trivial ?_)
    refine aops_nil ?_
    refine a_seq ?_
    refine a_seq ?_
    refine a_draw [] (by kernel_rfl) ?_
    show ADraw _ _ _ _ _ _ 10 _ _ _ _
    refine d_take 0 rfl (by kernel_rfl) (by kernel_rfl) (by kernel_rfl) rfl (p_move rfl) ?_
    refine d_take 1 rfl (by kernel_rfl) (by kernel_rfl) (by kernel_rfl) rfl (p_nil rfl) ?_
    refine d_take 2 rfl (by kernel_rfl) (by kernel_rfl) (by kernel_rfl) rfl (p_field_box fo_67_1 rfl) ?_
    refine d_load 3 rfl (by kernel_rfl) (by kernel_rfl) (by kernel_rfl) rfl (p_load_box ag_3 rfl (by repeat (first | exact Pick.here _ _ _ | apply Pick.next)) (by rfl) noX) ?_
    refine d_take 4 rfl (by kernel_rfl) (by kernel_rfl) (by kernel_rfl) rfl (p_move rfl) ?_
    refine d_take 5 rfl (by kernel_rfl) (by kernel_rfl) (by kernel_rfl) rfl (p_nil rfl) ?_
    refine d_take 6 rfl (by kernel_rfl) (by kernel_rfl) (by kernel_rfl) rfl (p_field_box fo_67_0 rfl) ?_
    refine d_load 7 rfl (by kernel_rfl) (by kernel_rfl) (by kernel_rfl) rfl (p_load_box ag_22 rfl (by repeat (first | exact Pick.here _ _ _ | apply Pick.next)) (by rfl) noX) ?_
    refine d_take 8 rfl (by kernel_rfl) (by kernel_rfl) (by kernel_rfl) rfl (p_len sl_22 rfl rfl) ?_
    refine d_take 9 rfl (by kernel_rfl) (by kernel_rfl) (by kernel_rfl) rfl (p_leq rfl rfl) ?_
    refine draw_done (by kernel_rfl) ?_
    first | refine a_cond_d rfl (fun h3 => ?_) (fun h4 => ?_) | refine a_cond_n rfl (fun h3 => ?_) (fun h4 => ?_) | refine a_cond_nb rfl (fun h3 => ?_) (fun h4 => ?_) | refine a_cond rfl (fun h3 => ?_) (fun h4 => ?_)
    · (try simp only [Bool.not_eq_true', Bool.not_eq_false', Bool.not_eq_true, Bool.not_eq_false, decide_eq_true_eq, decide_eq_false_iff_not, List.length_map, List.length_range] at h3)
      refine a_seq ?_
      refine a_region ?_
      refine aops_cons rfl (w_pure rfl (p_move rfl) ?_)
      refine aops_cons rfl (w_pure rfl (p_assign rfl) ?_)
      refine aops_nil ?_
      refine a_ret ?_
      refine ret_ok (hands1 rfl (.tmp rfl)) (st' := [(q, _)]) (.cons (by repeat (first | exact Pick.here _ _ _ | apply Pick.next)) (.nil _)) ?_
      first | exact ⟨_, _, _, rfl, (by first | exact wrap_rng (hb.at (by omega)) | exact and_rng _ | exact ⟨by decide, by decide⟩), by omega, by omega, rfl⟩
    · (try simp only [Bool.not_eq_true', Bool.not_eq_false', Bool.not_eq_true, Bool.not_eq_false, decide_eq_true_eq, decide_eq_false_iff_not, List.length_map, List.length_range] at h4)
      refine a_skip ?_
      refine a_seq ?_
      refine a_region ?_
      refine aops_cons rfl (w_pure rfl (p_move rfl) ?_)
      refine aops_cons rfl (w_pure rfl (p_nil rfl) ?_)
      refine aops_cons rfl (w_pure rfl (p_field_box fo_67_2 rfl) ?_)
      refine aops_cons rfl (w_pure rfl (p_load_box ag_65 rfl (by repeat (first | exact Pick.here _ _ _ | apply Pick.next)) (by rfl) noX) ?_)
      refine aops_cons rfl (w_pure rfl (p_shr rfl rfl (by omega)) ?_)
      refine aops_cons rfl (w_pure rfl (p_bits .and (by decide) rfl rfl) ?_)
      refine aops_cons rfl (w_pure rfl (p_convert ui_65 um_3 rfl) ?_)
      refine aops_cons rfl (w_pure rfl (p_assign rfl) ?_)
      refine aops_nil ?_
      refine a_ret ?_
      refine ret_ok (hands1 rfl (.tmp rfl)) (st' := [(q, _)]) (.cons (by repeat (first | exact Pick.here _ _ _ | apply Pick.next)) (.nil _)) ?_
      first | exact ⟨_, _, _, rfl, (by first | exact wrap_rng (hb.at (by omega)) | exact and_rng _ | exact ⟨by decide, by decide⟩), by omega, by omega, rfl⟩
  · (try simp only [Bool.not_eq_true', Bool.not_eq_false', Bool.not_eq_true, Bool.not_eq_false, decide_eq_true_eq, decide_eq_false_iff_not, List.length_map, List.length_range] at h2)
    refine a_skip ?_
    refine a_seq ?_
    refine a_region ?_
    refine aops_cons rfl (w_pure rfl (p_move rfl) ?_)
    refine aops_cons rfl (w_pure rfl (p_nil rfl) ?_)
    refine aops_cons rfl (w_pure rfl (p_field_box fo_67_1 rfl) ?_)
    refine aops_cons rfl (w_pure rfl (p_load_box ag_3 rfl (by repeat (first | exact Pick.here _ _ _ | apply Pick.next)) (by rfl) noX) ?_)
    refine aops_cons rfl (w_pure rfl (p_add' rfl rfl ⟨by omega, by omega⟩) ?_)
    refine aops_cons rfl (w_pure rfl (p_nil rfl) ?_)
    refine aops_cons rfl (w_pure rfl (p_field_box fo_67_1 rfl) ?_)
    refine aops_cons rfl (w_store (cells' := [_, _, _]) rfl rfl rfl (by repeat (first | exact Pick.here _ _ _ | apply Pick.next)) cn_3 (by rfl) (by rfl) (by rfl) trivial ?_)
    refine aops_nil ?_
    refine a_seq ?_
    refine a_region ?_
    refine aops_cons rfl (w_pure rfl (p_move rfl) ?_)
    refine aops_cons rfl (w_pure rfl (p_move rfl) ?_)
    refine aops_cons rfl (w_pure rfl (p_nil rfl) ?_)
    refine aops_cons rfl (w_pure rfl (p_field_box fo_67_2 rfl) ?_)
    refine aops_cons rfl (w_pure rfl (p_load_box ag_65 rfl (by repeat (first | exact Pick.here _ _ _ | apply Pick.next)) (by rfl) noX) ?_)
    refine aops_cons rfl (w_pure rfl (p_mul rfl rfl) ?_)
    refine aops_cons rfl (w_pure rfl (p_move rfl) ?_)
    refine aops_cons rfl (w_pure rfl (p_convert ui_3 um_65 rfl) ?_)
    refine aops_cons rfl (w_pure rfl (p_add rfl rfl) ?_)
    refine aops_cons rfl (w_pure rfl (p_add rfl rfl) ?_)
    refine aops_cons rfl (w_pure rfl (p_nil rfl) ?_)
    refine aops_cons rfl (w_pure rfl (p_field_box fo_67_2 rfl) ?_)
    refine aops_cons rfl (w_store (cells' := [_, _, _]) rfl rfl rfl (by repeat (first | exact Pick.here _ _ _ | apply Pick.next)) cn_65 (by rfl) (by rfl) (by rfl) trivial ?_)
    refine aops_nil ?_
    refine a_seq ?_
    refine a_seq ?_
    refine a_draw [] (by kernel_rfl) ?_
    show ADraw _ _ _ _ _ _ 10 _ _ _ _
    refine d_take 0 rfl (by kernel_rfl) (by kernel_rfl) (by kernel_rfl) rfl (p_move rfl) ?_
    refine d_take 1 rfl (by kernel_rfl) (by kernel_rfl) (by kernel_rfl) rfl (p_nil rfl) ?_
    refine d_take 2 rfl (by kernel_rfl) (by kernel_rfl) (by kernel_rfl) rfl (p_field_box fo_67_1 rfl) ?_
    refine d_load 3 rfl (by kernel_rfl) (by kernel_rfl) (by kernel_rfl) rfl (p_load_box ag_3 rfl (by repeat (first | exact Pick.here _ _ _ | apply Pick.next)) (by rfl) noX) ?_
    refine d_take 4 rfl (by kernel_rfl) (by kernel_rfl) (by kernel_rfl) rfl (p_move rfl) ?_
    refine d_take 5 rfl (by kernel_rfl) (by kernel_rfl) (by kernel_rfl) rfl (p_nil rfl) ?_
    refine d_take 6 rfl (by kernel_rfl) (by kernel_rfl) (by kernel_rfl) rfl (p_field_box fo_67_0 rfl) ?_
    refine d_load 7 rfl (by kernel_rfl) (by kernel_rfl) (by kernel_rfl) rfl (p_load_box ag_22 rfl (by repeat (first | exact Pick.here _ _ _ | apply Pick.next)) (by rfl) noX) ?_
    refine d_take 8 rfl (by kernel_rfl) (by kernel_rfl) (by kernel_rfl) rfl (p_len sl_22 rfl rfl) ?_
    refine d_take 9 rfl (by kernel_rfl) (by kernel_rfl) (by kernel_rfl) rfl (p_leq rfl rfl) ?_
    refine draw_done (by kernel_rfl) ?_
    first | refine a_cond_d rfl (fun h5 => ?_) (fun h6 => ?_) | refine a_cond_n rfl (fun h5 => ?_) (fun h6 => ?_) | refine a_cond_nb rfl (fun h5 => ?_) (fun h6 => ?_) | refine a_cond rfl (fun h5 => ?_) (fun h6 => ?_)
    · (try simp only [Bool.not_eq_true', Bool.not_eq_false', Bool.not_eq_true, Bool.not_eq_false, decide_eq_true_eq, decide_eq_false_iff_not, List.length_map, List.length_range] at h5)
      refine a_seq ?_
      refine a_region ?_
      refine aops_cons rfl (w_pure rfl (p_move rfl) ?_)
      refine aops_cons rfl (w_pure rfl (p_assign rfl) ?_)
      refine aops_nil ?_
      refine a_ret ?_
      refine ret_ok (hands1 rfl (.tmp rfl)) (st' := [(q, _)]) (.cons (by repeat (first | exact Pick.here _ _ _ | apply Pick.next)) (.nil _)) ?_
      first | exact ⟨_, _, _, rfl, (by first | exact wrap_rng (hb.at (by omega)) | exact and_rng _ | exact ⟨by decide, by decide⟩), by omega, by omega, rfl⟩
    · (try simp only [Bool.not_eq_true', Bool.not_eq_false', Bool.not_eq_true, Bool.not_eq_false, decide_eq_true_eq, decide_eq_false_iff_not, List.length_map, List.length_range] at h6)
      refine a_skip ?_
      refine a_seq ?_
      refine a_region ?_
      refine aops_cons rfl (w_pure rfl (p_move rfl) ?_)
      refine aops_cons rfl (w_pure rfl (p_nil rfl) ?_)
      refine aops_cons rfl (w_pure rfl (p_field_box fo_67_2 rfl) ?_)
      refine aops_cons rfl (w_pure rfl (p_load_box ag_65 rfl (by repeat (first | exact Pick.here _ _ _ | apply Pick.next)) (by rfl) noX) ?_)
      refine aops_cons rfl (w_pure rfl (p_shr rfl rfl (by omega)) ?_)
      refine aops_cons rfl (w_pure rfl (p_bits .and (by decide) rfl rfl) ?_)
      refine aops_cons rfl (w_pure rfl (p_convert ui_65 um_3 rfl) ?_)
      refine aops_cons rfl (w_pure rfl (p_assign rfl) ?_)
      refine aops_nil ?_
      refine a_ret ?_
      refine ret_ok (hands1 rfl (.tmp rfl)) (st' := [(q, _)]) (.cons (by repeat (first | exact Pick.here _ _ _ | apply Pick.next)) (.nil _)) ?_
      first | exact ⟨_, _, _, rfl, (by first | exact wrap_rng (hb.at (by omega)) | exact and_rng _ | exact ⟨by decide, by decide⟩), by omega, by omega, rfl⟩

theorem c_spec_l1Cur_pick (q : Nat) (bs : List Int) (hb : Bytes bs) (a s : Int) (h0 : 0 ≤ a) (h1 : a ≤ 999999998000) (n : Int) (hn : n ≤ 1000000) : ACalls Try.prog 45 [.ptr q 0, .int .i64 n] [(q, curE bs a s)] (fun r st => ∃ m a' s', r = .int .i64 m ∧ (0 ≤ m ∧ (m < n ∨ m = 0)) ∧ a ≤ a' ∧ a' ≤ a + 2 ∧ st = [(q, curE bs a' s')]) := by
  refine a_enter Try.func45 rfl rfl (fun w0 M0 => ?_)
  refine a_seq ?_
  refine a_region ?_
  refine aops_cons rfl (w_pure rfl (p_assign rfl) ?_)
  refine aops_nil ?_
  refine a_seq ?_
  refine a_seq ?_
  refine a_region ?_
  refine aops_cons rfl (w_pure rfl (p_move rfl) ?_)
  refine aops_cons rfl (w_pure rfl (p_leq rfl rfl) ?_)
  refine aops_nil ?_
  first | refine a_cond_d rfl (fun h1 => ?_) (fun h2 => ?_) | refine a_cond_n rfl (fun h1 => ?_) (fun h2 => ?_) | refine a_cond_nb rfl (fun h1 => ?_) (fun h2 => ?_) | refine a_cond rfl (fun h1 => ?_) (fun h2 => ?_)
  · (try simp only [Bool.not_eq_true', Bool.not_eq_false', Bool.not_eq_true, Bool.not_eq_false, decide_eq_true_eq, decide_eq_false_iff_not, List.length_map, List.length_range] at h1)
    refine a_seq ?_
    refine a_region ?_
    refine aops_cons rfl (w_pure rfl (p_assign rfl) ?_)
    refine aops_nil ?_
    refine a_ret ?_
    refine ret_ok (hands1 rfl (.tmp rfl)) (st' := [(q, _)]) (.cons (by repeat (first | exact Pick.here _ _ _ | apply Pick.next)) (.nil _)) ?_
    first | exact ⟨_, _, _, rfl, ⟨by decide, .inr rfl⟩, by omega, by omega, rfl⟩ | exact ⟨_, _, _, rfl, ⟨Int.emod_nonneg _ (by omega), .inl (Int.emod_lt_of_pos _ (by omega))⟩, by omega, by omega, rfl⟩
  · (try simp only [Bool.not_eq_true', Bool.not_eq_false', Bool.not_eq_true, Bool.not_eq_false, decide_eq_true_eq, decide_eq_false_iff_not, List.length_map, List.length_range] at h2)
    refine a_skip ?_
    refine a_seq ?_
    refine a_region ?_
    refine aops_cons rfl (w_pure rfl (p_move rfl) ?_)
    refine aops_cons rfl (w_callM0 rfl rfl rfl cl_73 (.cons (by repeat (first | exact Pick.here _ _ _ | apply Pick.next)) (.nil _)) (c_spec_l1Cur_next _ _ hb _ _ (by omega) (by omega) ) trivial ?_)
    rintro _ _ ⟨m1, a1, s1, rfl, hm1, ha1, hc1, rfl⟩
    (try simp only [List.length_map] at hm1)
    refine aops_cons rfl (w_pure rfl (p_assign rfl) ?_)
    refine aops_nil ?_
    refine a_seq ?_
    refine a_seq ?_
    refine a_region ?_
    refine aops_cons rfl (w_pure rfl (p_move rfl) ?_)
    refine aops_cons rfl (w_pure rfl (p_gtr rfl rfl) ?_)
    refine aops_nil ?_
    first | refine a_cond_d rfl (fun h3 => ?_) (fun h4 => ?_) | refine a_cond_n rfl (fun h3 => ?_) (fun h4 => ?_) | refine a_cond_nb rfl (fun h3 => ?_) (fun h4 => ?_) | refine a_cond rfl (fun h3 => ?_) (fun h4 => ?_)
    · (try simp only [Bool.not_eq_true', Bool.not_eq_false', Bool.not_eq_true, Bool.not_eq_false, decide_eq_true_eq, decide_eq_false_iff_not, List.length_map, List.length_range] at h3)
      refine a_region ?_
      refine aops_cons rfl (w_pure rfl (p_move rfl) ?_)
      refine aops_cons rfl (w_pure rfl (p_mul' rfl rfl ⟨by omega, by omega⟩) ?_)
      refine aops_cons rfl (w_pure rfl (p_move rfl) ?_)
      refine aops_cons rfl (w_callM0 rfl rfl rfl cl_73 (.cons (by repeat (first | exact Pick.here _ _ _ | apply Pick.next)) (.nil _)) (c_spec_l1Cur_next _ _ hb _ _ (by omega) (by omega) ) trivial ?_)
      rintro _ _ ⟨m2, a2, s2, rfl, hm2, ha2, hc2, rfl⟩
      (try simp only [List.length_map] at hm2)
      refine aops_cons rfl (w_pure rfl (p_add' rfl rfl ⟨by omega, by omega⟩) ?_)
      refine aops_cons rfl (w_pure rfl (p_assign rfl) ?_)
      refine aops_nil ?_
      refine a_seq ?_
      refine a_region ?_
      refine aops_cons rfl (w_pure rfl (p_move rfl) ?_)
      refine aops_cons rfl (w_pure rfl (p_move rfl) ?_)
      refine aops_cons rfl (w_pure rfl (p_rem' rfl rfl (by omega) (by omega)) ?_)
      refine aops_cons rfl (w_pure rfl (p_assign rfl) ?_)
      refine aops_nil ?_
      refine a_ret ?_
      refine ret_ok (hands1 rfl (.tmp rfl)) (st' := [(q, _)]) (.cons (by repeat (first | exact Pick.here _ _ _ | apply Pick.next)) (.nil _)) ?_
      first | exact ⟨_, _, _, rfl, ⟨by decide, .inr rfl⟩, by omega, by omega, rfl⟩ | exact ⟨_, _, _, rfl, ⟨Int.emod_nonneg _ (by omega), .inl (Int.emod_lt_of_pos _ (by omega))⟩, by omega, by omega, rfl⟩
    · (try simp only [Bool.not_eq_true', Bool.not_eq_false', Bool.not_eq_true, Bool.not_eq_false, decide_eq_true_eq, decide_eq_false_iff_not, List.length_map, List.length_range] at h4)
      refine a_skip ?_
      refine a_seq ?_
      refine a_region ?_
      refine aops_cons rfl (w_pure rfl (p_move rfl) ?_)
      refine aops_cons rfl (w_pure rfl (p_move rfl) ?_)
      refine aops_cons rfl (w_pure rfl (p_rem' rfl rfl (by omega) (by omega)) ?_)
      refine aops_cons rfl (w_pure rfl (p_assign rfl) ?_)
      refine aops_nil ?_
      refine a_ret ?_
      refine ret_ok (hands1 rfl (.tmp rfl)) (st' := [(q, _)]) (.cons (by repeat (first | exact Pick.here _ _ _ | apply Pick.next)) (.nil _)) ?_
      first | exact ⟨_, _, _, rfl, ⟨by decide, .inr rfl⟩, by omega, by omega, rfl⟩ | exact ⟨_, _, _, rfl, ⟨Int.emod_nonneg _ (by omega), .inl (Int.emod_lt_of_pos _ (by omega))⟩, by omega, by omega, rfl⟩

theorem c_spec_l1Cur_one (q : Nat) (bs : List Int) (hb : Bytes bs) (a s : Int) (h0 : 0 ≤ a) (h1 : a ≤ 999999998000) (n : Int) (hn : n ≤ 1000000) : ACalls Try.prog 44 [.ptr q 0, .int .i64 n] [(q, curE bs a s)] (fun r st => ∃ b a' s', r = .bool b ∧ a ≤ a' ∧ a' ≤ a + 2 ∧ st = [(q, curE bs a' s')]) := by
  refine a_enter Try.func44 rfl rfl (fun w0 M0 => ?_)
  refine a_seq ?_
  refine a_region ?_
  refine aops_cons rfl (w_pure rfl (p_assign rfl) ?_)
  refine aops_nil ?_
  refine a_seq ?_
  refine a_region ?_
  refine aops_cons rfl (w_pure rfl (p_move rfl) ?_)
  refine aops_cons rfl (w_pure rfl (p_move rfl) ?_)
  refine aops_cons rfl (w_callM0 rfl rfl rfl cl_45 (.cons (by repeat (first | exact Pick.here _ _ _ | apply Pick.next)) (.nil _)) (c_spec_l1Cur_pick _ _ hb _ _ (by omega) (by omega) _ (by first | omega | (simp; done) | (simp; omega))) trivial ?_)
  rintro _ _ ⟨m1, a1, s1, rfl, hm1, ha1, hc1, rfl⟩
  (try simp only [List.length_map] at hm1)
  refine aops_cons rfl (w_pure rfl (p_eql rfl rfl) ?_)
  refine aops_cons rfl (w_pure rfl (p_assign rfl) ?_)
  refine aops_nil ?_
  refine a_ret ?_
  refine ret_ok (hands1 rfl (.tmp rfl)) (st' := [(q, _)]) (.cons (by repeat (first | exact Pick.here _ _ _ | apply Pick.next)) (.nil _)) ?_
  exact ⟨_, _, _, rfl, by omega, by omega, rfl⟩

theorem c_spec_l1Cur_among (q : Nat) (bs : List Int) (hb : Bytes bs) (a s : Int) (h0 : 0 ≤ a) (h1 : a ≤ 999999998000) (xs : List Int) (hx : 0 < xs.length ∧ xs.length ≤ 1000) (lo hi : Int) (hr : ∀ x ∈ xs, lo ≤ x ∧ x ≤ hi) : ACalls Try.prog 61 [.ptr q 0, .sl (xs.map eInt)] [(q, curE bs a s)] (fun r st => ∃ m a' s', r = .int .i64 m ∧ (lo ≤ m ∧ m ≤ hi) ∧ a ≤ a' ∧ a' ≤ a + 2 ∧ st = [(q, curE bs a' s')]) := by
  refine a_enter Try.func61 rfl rfl (fun w0 M0 => ?_)
  refine a_seq ?_
  refine a_region ?_
  refine aops_cons rfl (w_pure rfl (p_assign rfl) ?_)
  refine aops_nil ?_
  refine a_seq ?_
  refine a_region ?_
  refine aops_cons rfl (w_pure rfl (p_move rfl) ?_)
  refine aops_cons rfl (w_pure rfl (p_move rfl) ?_)
  refine aops_cons rfl (w_pure rfl (p_move rfl) ?_)
  refine aops_cons rfl (w_pure rfl (p_len sl_45 rfl rfl) ?_)
  refine aops_cons rfl (w_callM0 rfl rfl rfl cl_45 (.cons (by repeat (first | exact Pick.here _ _ _ | apply Pick.next)) (.nil _)) (c_spec_l1Cur_pick _ _ hb _ _ (by omega) (by omega) _ (by first | omega | (simp; done) | (simp; omega))) trivial ?_)
  rintro _ _ ⟨m1, a1, s1, rfl, hm1, ha1, hc1, rfl⟩
  (try simp only [List.length_map] at hm1)
  refine aops_cons rfl (w_pure rfl (p_index_sl (m1.toNat) rfl rfl (by omega) (rowD _ _ (0 : Int) (by omega)) es_45) ?_)
  refine aops_cons rfl (w_pure rfl (p_load_v ag_3 rfl (by rfl) noX) ?_)
  refine aops_cons rfl (w_pure rfl (p_assign rfl) ?_)
  refine aops_nil ?_
  refine a_ret ?_
  refine ret_ok (hands1 rfl (.tmp rfl)) (st' := [(q, _)]) (.cons (by repeat (first | exact Pick.here _ _ _ | apply Pick.next)) (.nil _)) ?_
  exact ⟨_, _, _, rfl, getD_mem (p := fun x => lo ≤ x ∧ x ≤ hi) hr (by omega), by omega, by omega, rfl⟩

theorem c_spec_l1Cur_mail (q : Nat) (bs : List Int) (hb : Bytes bs) (a s : Int) (h0 : 0 ≤ a) (h1 : a ≤ 999999988000)  : ACalls Try.prog 46 [.ptr q 0] [(q, curE bs a s)] (fun r st => ∃ (v : Mail) (a' : Int) (s' : Int), r = .agg (eMail v) ∧ a ≤ a' ∧ a' ≤ a + 12 ∧ st = [(q, curE bs a' s')]) := by
  refine a_enter Try.func46 rfl rfl (fun w0 M0 => ?_)
  refine a_seq ?_
  refine a_region ?_
  refine aops_cons rfl (w_alloc rfl z_26 fun b1 => ?_)
  refine aops_nil ?_
  refine a_seq ?_
  refine a_region ?_
  refine aops_cons rfl (w_pure rfl (p_move rfl) ?_)
  refine aops_cons rfl (w_callM0 rfl rfl rfl cl_45 (.cons (by repeat (first | exact Pick.here _ _ _ | apply Pick.next)) (.nil _)) (c_spec_l1Cur_pick _ _ hb _ _ (by omega) (by omega) _ (by first | omega | (simp; done) | (simp; omega))) trivial ?_)
  rintro _ _ ⟨m1, a1, s1, rfl, hm1, ha1, hc1, rfl⟩
  (try simp only [List.length_map] at hm1)
  refine aops_cons rfl (w_pure rfl (p_move rfl) ?_)
  refine aops_cons rfl (w_callM0 rfl rfl rfl cl_45 (.cons (by repeat (first | exact Pick.here _ _ _ | apply Pick.next)) (.nil _)) (c_spec_l1Cur_pick _ _ hb _ _ (by omega) (by omega) _ (by first | omega | (simp; done) | (simp; omega))) trivial ?_)
  rintro _ _ ⟨m2, a2, s2, rfl, hm2, ha2, hc2, rfl⟩
  (try simp only [List.length_map] at hm2)
  refine aops_cons rfl (w_pure rfl (p_move rfl) ?_)
  refine aops_cons rfl (w_lit_vM eInt [_, _, _, _] rfl el_45 rfl rfl rfl rfl rfl ?_)
  refine aops_cons rfl (w_callM0 rfl rfl rfl cl_61 (.cons (by repeat (first | exact Pick.here _ _ _ | apply Pick.next)) (.nil _)) (c_spec_l1Cur_among _ _ hb _ _ (by omega) (by omega) _ (by first | (simp; done) | (simp; omega)) (0) 3 (by first | (intro x hx; simp only [List.mem_cons, List.not_mem_nil, or_false] at hx; omega) | (intro x hx; have hx := List.mem_of_mem_take hx; simp only [List.mem_cons, List.not_mem_nil, or_false] at hx; omega))) trivial ?_)
  rintro _ _ ⟨m3, a3, s3, rfl, hm3, ha3, hc3, rfl⟩
  (try simp only [List.length_map] at hm3)
  refine aops_cons rfl (w_pure rfl (p_build (cells := [_, _, _]) z_26 pl_26 rfl rfl) ?_)
  refine aops_cons rfl (w_alloc rfl z_26 fun b2 => ?_)
  refine aops_cons rfl (w_store (cells' := [_, _, _]) rfl rfl rfl (by repeat (first | exact Pick.here _ _ _ | apply Pick.next)) cn_26 (by rfl) (by rfl) (by rfl) trivial ?_)
  refine aops_nil ?_
  refine a_seq ?_
  refine a_seq ?_
  refine a_region ?_
  refine aops_cons rfl (w_pure rfl (p_move rfl) ?_)
  refine aops_cons rfl (w_callM0 rfl rfl rfl cl_45 (.cons (by repeat (first | exact Pick.here _ _ _ | apply Pick.next)) (.nil _)) (c_spec_l1Cur_pick _ _ hb _ _ (by omega) (by omega) _ (by first | omega | (simp; done) | (simp; omega))) trivial ?_)
  rintro _ _ ⟨m4, a4, s4, rfl, hm4, ha4, hc4, rfl⟩
  (try simp only [List.length_map] at hm4)
  refine aops_nil ?_
  refine a_block ?_
  refine a_seq ?_
  refine a_region ?_
  refine aops_cons rfl (w_pure rfl (p_eql rfl rfl) ?_)
  refine aops_cons rfl (w_pure rfl (p_assign rfl) ?_)
  refine aops_nil ?_
  first | refine a_cond_d rfl (fun h1 => ?_) (fun h2 => ?_) | refine a_cond_n rfl (fun h1 => ?_) (fun h2 => ?_) | refine a_cond_nb rfl (fun h1 => ?_) (fun h2 => ?_) | refine a_cond rfl (fun h1 => ?_) (fun h2 => ?_)
  · (try simp only [Bool.not_eq_true', Bool.not_eq_false', Bool.not_eq_true, Bool.not_eq_false, decide_eq_true_eq, decide_eq_false_iff_not, List.length_map, List.length_range] at h1)
    refine a_region ?_
    refine aops_cons rfl (w_pure rfl (p_move rfl) ?_)
    refine aops_cons rfl (w_lit_vM eInt [_, _] rfl el_45 rfl rfl rfl rfl rfl ?_)
    refine aops_cons rfl (w_callM0 rfl rfl rfl cl_61 (.cons (by repeat (first | exact Pick.here _ _ _ | apply Pick.next)) (.nil _)) (c_spec_l1Cur_among _ _ hb _ _ (by omega) (by omega) _ (by first | (simp; done) | (simp; omega)) (-1) 4 (by first | (intro x hx; simp only [List.mem_cons, List.not_mem_nil, or_false] at hx; omega) | (intro x hx; have hx := List.mem_of_mem_take hx; simp only [List.mem_cons, List.not_mem_nil, or_false] at hx; omega))) trivial ?_)
    rintro _ _ ⟨m5, a5, s5, rfl, hm5, ha5, hc5, rfl⟩
    (try simp only [List.length_map] at hm5)
    refine aops_cons rfl (w_pure rfl (p_field_box fo_26_0 rfl) ?_)
    refine aops_cons rfl (w_store (cells' := [_, _, _]) rfl rfl rfl (by repeat (first | exact Pick.here _ _ _ | apply Pick.next)) cn_3 (by rfl) (by rfl) (by rfl) trivial ?_)
    refine aops_nil ?_
    refine a_seq ?_
    refine a_region ?_
    refine aops_cons rfl (w_pure rfl (p_load_box_all ag_26 rfl (by repeat (first | exact Pick.here _ _ _ | apply Pick.next)) (by rfl) noX) ?_)
    refine aops_cons rfl (w_store (cells' := [_, _, _]) rfl rfl rfl (by repeat (first | exact Pick.here _ _ _ | apply Pick.next)) cn_26 (by rfl) (by rfl) (by rfl) trivial ?_)
    refine aops_nil ?_
    refine a_ret ?_
    refine ret_ok (hands1 rfl (.cell ag_26 rfl (by repeat (first | exact Pick.here _ _ _ | apply Pick.next)) (by rfl))) (st' := [(q, _)]) (.cons (by repeat (first | exact Pick.here _ _ _ | apply Pick.next)) (.nil _)) ?_
    exact ⟨⟨_, _, _⟩, _, _, rfl, by omega, by omega, rfl⟩
  · (try simp only [Bool.not_eq_true', Bool.not_eq_false', Bool.not_eq_true, Bool.not_eq_false, decide_eq_true_eq, decide_eq_false_iff_not, List.length_map, List.length_range] at h2)
    refine a_seq ?_
    refine a_region ?_
    refine aops_cons rfl (w_pure rfl (p_eql rfl rfl) ?_)
    refine aops_cons rfl (w_pure rfl (p_assign rfl) ?_)
    refine aops_nil ?_
    first | refine a_cond_d rfl (fun h3 => ?_) (fun h4 => ?_) | refine a_cond_n rfl (fun h3 => ?_) (fun h4 => ?_) | refine a_cond_nb rfl (fun h3 => ?_) (fun h4 => ?_) | refine a_cond rfl (fun h3 => ?_) (fun h4 => ?_)
    · (try simp only [Bool.not_eq_true', Bool.not_eq_false', Bool.not_eq_true, Bool.not_eq_false, decide_eq_true_eq, decide_eq_false_iff_not, List.length_map, List.length_range] at h3)
      refine a_region ?_
      refine aops_cons rfl (w_pure rfl (p_move rfl) ?_)
      refine aops_cons rfl (w_lit_vM eInt [_, _] rfl el_45 rfl rfl rfl rfl rfl ?_)
      refine aops_cons rfl (w_callM0 rfl rfl rfl cl_61 (.cons (by repeat (first | exact Pick.here _ _ _ | apply Pick.next)) (.nil _)) (c_spec_l1Cur_among _ _ hb _ _ (by omega) (by omega) _ (by first | (simp; done) | (simp; omega)) (-1) 4 (by first | (intro x hx; simp only [List.mem_cons, List.not_mem_nil, or_false] at hx; omega) | (intro x hx; have hx := List.mem_of_mem_take hx; simp only [List.mem_cons, List.not_mem_nil, or_false] at hx; omega))) trivial ?_)
      rintro _ _ ⟨m5, a5, s5, rfl, hm5, ha5, hc5, rfl⟩
      (try simp only [List.length_map] at hm5)
      refine aops_cons rfl (w_pure rfl (p_field_box fo_26_1 rfl) ?_)
      refine aops_cons rfl (w_store (cells' := [_, _, _]) rfl rfl rfl (by repeat (first | exact Pick.here _ _ _ | apply Pick.next)) cn_3 (by rfl) (by rfl) (by rfl) trivial ?_)
      refine aops_nil ?_
      refine a_seq ?_
      refine a_region ?_
      refine aops_cons rfl (w_pure rfl (p_load_box_all ag_26 rfl (by repeat (first | exact Pick.here _ _ _ | apply Pick.next)) (by rfl) noX) ?_)
      refine aops_cons rfl (w_store (cells' := [_, _, _]) rfl rfl rfl (by repeat (first | exact Pick.here _ _ _ | apply Pick.next)) cn_26 (by rfl) (by rfl) (by rfl) trivial ?_)
      refine aops_nil ?_
      refine a_ret ?_
      refine ret_ok (hands1 rfl (.cell ag_26 rfl (by repeat (first | exact Pick.here _ _ _ | apply Pick.next)) (by rfl))) (st' := [(q, _)]) (.cons (by repeat (first | exact Pick.here _ _ _ | apply Pick.next)) (.nil _)) ?_
      exact ⟨⟨_, _, _⟩, _, _, rfl, by omega, by omega, rfl⟩
    · (try simp only [Bool.not_eq_true', Bool.not_eq_false', Bool.not_eq_true, Bool.not_eq_false, decide_eq_true_eq, decide_eq_false_iff_not, List.length_map, List.length_range] at h4)
      refine a_seq ?_
      refine a_region ?_
      refine aops_cons rfl (w_pure rfl (p_eql rfl rfl) ?_)
      refine aops_cons rfl (w_pure rfl (p_assign rfl) ?_)
      refine aops_nil ?_
      first | refine a_cond_d rfl (fun h5 => ?_) (fun h6 => ?_) | refine a_cond_n rfl (fun h5 => ?_) (fun h6 => ?_) | refine a_cond_nb rfl (fun h5 => ?_) (fun h6 => ?_) | refine a_cond rfl (fun h5 => ?_) (fun h6 => ?_)
      · (try simp only [Bool.not_eq_true', Bool.not_eq_false', Bool.not_eq_true, Bool.not_eq_false, decide_eq_true_eq, decide_eq_false_iff_not, List.length_map, List.length_range] at h5)
        refine a_region ?_
        refine aops_cons rfl (w_pure rfl (p_move rfl) ?_)
        refine aops_cons rfl (w_lit_vM eInt [_, _] rfl el_45 rfl rfl rfl rfl rfl ?_)
        refine aops_cons rfl (w_callM0 rfl rfl rfl cl_61 (.cons (by repeat (first | exact Pick.here _ _ _ | apply Pick.next)) (.nil _)) (c_spec_l1Cur_among _ _ hb _ _ (by omega) (by omega) _ (by first | (simp; done) | (simp; omega)) (-1) 4 (by first | (intro x hx; simp only [List.mem_cons, List.not_mem_nil, or_false] at hx; omega) | (intro x hx; have hx := List.mem_of_mem_take hx; simp only [List.mem_cons, List.not_mem_nil, or_false] at hx; omega))) trivial ?_)
        rintro _ _ ⟨m5, a5, s5, rfl, hm5, ha5, hc5, rfl⟩
        (try simp only [List.length_map] at hm5)
        refine aops_cons rfl (w_pure rfl (p_field_box fo_26_2 rfl) ?_)
        refine aops_cons rfl (w_store (cells' := [_, _, _]) rfl rfl rfl (by repeat (first | exact Pick.here _ _ _ | apply Pick.next)) cn_3 (by rfl) (by rfl) (by rfl) trivial ?_)
        refine aops_nil ?_
        refine a_seq ?_
        refine a_region ?_
        refine aops_cons rfl (w_pure rfl (p_load_box_all ag_26 rfl (by repeat (first | exact Pick.here _ _ _ | apply Pick.next)) (by rfl) noX) ?_)
        refine aops_cons rfl (w_store (cells' := [_, _, _]) rfl rfl rfl (by repeat (first | exact Pick.here _ _ _ | apply Pick.next)) cn_26 (by rfl) (by rfl) (by rfl) trivial ?_)
        refine aops_nil ?_
        refine a_ret ?_
        refine ret_ok (hands1 rfl (.cell ag_26 rfl (by repeat (first | exact Pick.here _ _ _ | apply Pick.next)) (by rfl))) (st' := [(q, _)]) (.cons (by repeat (first | exact Pick.here _ _ _ | apply Pick.next)) (.nil _)) ?_
        exact ⟨⟨_, _, _⟩, _, _, rfl, by omega, by omega, rfl⟩
      · (try simp only [Bool.not_eq_true', Bool.not_eq_false', Bool.not_eq_true, Bool.not_eq_false, decide_eq_true_eq, decide_eq_false_iff_not, List.length_map, List.length_range] at h6)
        refine a_skip ?_
        refine a_seq ?_
        refine a_region ?_
        refine aops_cons rfl (w_pure rfl (p_load_box_all ag_26 rfl (by repeat (first | exact Pick.here _ _ _ | apply Pick.next)) (by rfl) noX) ?_)
        refine aops_cons rfl (w_store (cells' := [_, _, _]) rfl rfl rfl (by repeat (first | exact Pick.here _ _ _ | apply Pick.next)) cn_26 (by rfl) (by rfl) (by rfl) trivial ?_)
        refine aops_nil ?_
        refine a_ret ?_
        refine ret_ok (hands1 rfl (.cell ag_26 rfl (by repeat (first | exact Pick.here _ _ _ | apply Pick.next)) (by rfl))) (st' := [(q, _)]) (.cons (by repeat (first | exact Pick.here _ _ _ | apply Pick.next)) (.nil _)) ?_
        exact ⟨⟨_, _, _⟩, _, _, rfl, by omega, by omega, rfl⟩

theorem c_spec_l1Cur_box (q : Nat) (bs : List Int) (hb : Bytes bs) (a s : Int) (h0 : 0 ≤ a) (h1 : a ≤ 999999750000)  : ACalls Try.prog 43 [.ptr q 0] [(q, curE bs a s)] (fun r st => ∃ (b : Nat) (xs : List Mail) (a' : Int) (s' : Int), r = .own 3 b 0 xs.length ∧ xs.length ≤ 22 ∧ a ≤ a' ∧ a' ≤ a + 250 ∧ st = [(q, curE bs a' s'), (b, .arr 26 3 (xs.map eMail))]) := by
  refine a_enter Try.func43 rfl rfl (fun w0 M0 => ?_)
  refine a_seq ?_
  refine a_region ?_
  refine aops_cons rfl (w_pure rfl (p_assign rfl) ?_)
  refine aops_nil ?_
  refine a_seq ?_
  refine a_region ?_
  refine aops_cons rfl (w_litM eMail [] rfl el_24 rfl rfl rfl rfl rfl fun b1 => ?_)
  refine aops_cons rfl (w_pure rfl (p_assign rfl) ?_)
  refine aops_nil ?_
  refine a_seq ?_
  refine a_seq ?_
  refine a_region ?_
  refine aops_cons rfl (w_pure rfl (p_move rfl) ?_)
  refine aops_cons rfl (w_callM0 rfl rfl rfl cl_45 (.cons (by repeat (first | exact Pick.here _ _ _ | apply Pick.next)) (.nil _)) (c_spec_l1Cur_pick _ _ hb _ _ (by omega) (by omega) _ (by first | omega | (simp; done) | (simp; omega))) trivial ?_)
  rintro _ _ ⟨m1, a1, s1, rfl, hm1, ha1, hc1, rfl⟩
  (try simp only [List.length_map] at hm1)
  refine aops_cons rfl (w_pure rfl (p_assign rfl) ?_)
  refine aops_nil ?_
  refine a_block ?_
  refine a_loop (ι := Int × Nat × List Mail × Int × Int) (fun ⟨n, b, xs, ka, ks⟩ => xs.length ≤ 20 ∧ (0 ≤ n ∧ n ≤ 9) ∧ a ≤ ka ∧ ka + 12 * n ≤ a + 2 + 108) (fun ⟨n, b, xs, ka, ks⟩ => [(3, .own 3 b 0 xs.length), (4, .int .i64 n)]) (fun ⟨n, b, xs, ka, ks⟩ => [(q, curE bs ka ks), (b, .arr 26 3 (xs.map eMail))]) (fun ⟨n, b, xs, ka, ks⟩ => n.toNat) (m1, b1, [], a1, s1) ⟨Nat.zero_le _, by omega, by omega, by omega⟩ (by repeat (first | exact Knows.nil | refine Knows.cons (by rfl) ?_)) (by repeat (first | exact Picks.nil _ | exact Pick.here _ _ _ | apply Pick.next | apply Picks.cons)) ?_
  rintro ⟨n, b, xs, ka, ks⟩ ⟨hk1, hk2, hk3, hk4⟩
  skip
  refine a_seq ?_
  refine a_seq ?_
  refine a_region ?_
  refine aops_cons rfl (w_pure rfl (p_move rfl) ?_)
  refine aops_cons rfl (w_pure rfl (p_gtr rfl rfl) ?_)
  refine aops_nil ?_
  first | refine a_cond_d rfl (fun h1 => ?_) (fun h2 => ?_) | refine a_cond_n rfl (fun h1 => ?_) (fun h2 => ?_) | refine a_cond_nb rfl (fun h1 => ?_) (fun h2 => ?_) | refine a_cond rfl (fun h1 => ?_) (fun h2 => ?_)
  · (try simp only [Bool.not_eq_true', Bool.not_eq_false', Bool.not_eq_true, Bool.not_eq_false, decide_eq_true_eq, decide_eq_false_iff_not, List.length_map, List.length_range] at h1)
    refine a_skip ?_
    refine a_seq ?_
    refine a_block ?_
    refine a_seq ?_
    refine a_region ?_
    refine aops_cons rfl (w_pure rfl (p_move rfl) ?_)
    refine aops_cons rfl (w_pure rfl (p_move rfl) ?_)
    refine aops_cons rfl (w_callM0 rfl rfl rfl cl_46 (.cons (by repeat (first | exact Pick.here _ _ _ | apply Pick.next)) (.nil _)) (c_spec_l1Cur_mail _ _ hb _ _ (by omega) (by omega) ) trivial ?_)
    rintro _ _ ⟨v2, a2, s2, rfl, ha2, hc2, rfl⟩
    skip
    refine aops_cons rfl (w_callL rfl rfl rfl cl_9 (.cons (.own (by repeat (first | exact List.Mem.head _ | apply List.Mem.tail)) (by first | (simp; done) | (simp; assumption) | (simp; omega) | (simp [mkL]; done))) (.cons (.refl _) .nil)) (ck_spec_SendMail xs (by omega) _) ?_)
    rintro _ _ ⟨b2, ys3, k3, rfl, hy3, rfl⟩
    refine ⟨(closed_tup (all_cons' (closed_own _ _ _ _) (all_cons' (closed_bool _) all_nil'))), (closedS_cons (closedAll _ _ _ _ cl_eMail) closedS_nil), ?_⟩
    skip
    refine aops_cons rfl (w_pure rfl (p_move rfl) ?_)
    refine aops_cons rfl (w_pure rfl (p_extract rfl rfl) ?_)
    refine aops_cons rfl (w_pure rfl (p_extract rfl rfl) ?_)
    refine aops_cons rfl (w_pure rfl (p_assign rfl) ?_)
    refine aops_cons rfl (w_pure rfl (p_assign rfl) ?_)
    refine aops_nil ?_
    refine a_seq ?_
    refine a_region ?_
    refine aops_cons rfl (w_pure rfl (p_move rfl) ?_)
    refine aops_nil ?_
    first | refine a_cond_d rfl (fun h3 => ?_) (fun h4 => ?_) | refine a_cond_n rfl (fun h3 => ?_) (fun h4 => ?_) | refine a_cond_nb rfl (fun h3 => ?_) (fun h4 => ?_) | refine a_cond rfl (fun h3 => ?_) (fun h4 => ?_)
    · (try simp only [Bool.not_eq_true', Bool.not_eq_false', Bool.not_eq_true, Bool.not_eq_false, decide_eq_true_eq, decide_eq_false_iff_not, List.length_map, List.length_range] at h3)
      refine a_region ?_
      refine aops_cons rfl (w_pure rfl (p_move rfl) ?_)
      refine aops_cons rfl (w_pure rfl (p_assign rfl) ?_)
      refine aops_nil ?_
      refine a_region ?_
      refine aops_cons rfl (w_pure rfl (p_move rfl) ?_)
      refine aops_cons rfl (w_pure rfl (p_sub' rfl rfl ⟨by omega, by omega⟩) ?_)
      refine aops_cons rfl (w_pure rfl (p_assign rfl) ?_)
      refine aops_nil ?_
      refine ⟨(_, _, _, _, _), _, ?_, ?_, (by repeat (first | exact Knows.nil | refine Knows.cons (by rfl) ?_)), (by repeat (first | exact Back.refl _ _ | refine Back.cons (by rfl) ?_)), (by repeat (first | exact Picks.nil _ | exact Pick.here _ _ _ | apply Pick.next | apply Picks.cons))⟩
      · refine ⟨by assumption, by omega, by omega, by omega⟩
      · (try dsimp only); omega
    · (try simp only [Bool.not_eq_true', Bool.not_eq_false', Bool.not_eq_true, Bool.not_eq_false, decide_eq_true_eq, decide_eq_false_iff_not, List.length_map, List.length_range] at h4)
      refine a_skip ?_
      refine a_region ?_
      refine aops_cons rfl (w_pure rfl (p_move rfl) ?_)
      refine aops_cons rfl (w_pure rfl (p_sub' rfl rfl ⟨by omega, by omega⟩) ?_)
      refine aops_cons rfl (w_pure rfl (p_assign rfl) ?_)
      refine aops_nil ?_
      refine ⟨(_, _, _, _, _), _, ?_, ?_, (by repeat (first | exact Knows.nil | refine Knows.cons (by rfl) ?_)), (by repeat (first | exact Back.refl _ _ | refine Back.cons (by rfl) ?_)), (by repeat (first | exact Picks.nil _ | exact Pick.here _ _ _ | apply Pick.next | apply Picks.cons))⟩
      · refine ⟨by assumption, by omega, by omega, by omega⟩
      · (try dsimp only); omega
  · (try simp only [Bool.not_eq_true', Bool.not_eq_false', Bool.not_eq_true, Bool.not_eq_false, decide_eq_true_eq, decide_eq_false_iff_not, List.length_map, List.length_range] at h2)
    refine a_exit ?_
    refine a_seq ?_
    refine a_seq ?_
    refine a_region ?_
    refine aops_cons rfl (w_pure rfl (p_move rfl) ?_)
    refine aops_cons rfl (w_callM0 rfl rfl rfl cl_45 (.cons (by repeat (first | exact Pick.here _ _ _ | apply Pick.next)) (.nil _)) (c_spec_l1Cur_pick _ _ hb _ _ (by omega) (by omega) _ (by first | omega | (simp; done) | (simp; omega))) trivial ?_)
    rintro _ _ ⟨m2, a2, s2, rfl, hm2, ha2, hc2, rfl⟩
    (try simp only [List.length_map] at hm2)
    refine aops_nil ?_
    refine a_block ?_
    refine a_seq ?_
    refine a_region ?_
    refine aops_cons rfl (w_pure rfl (p_eql rfl rfl) ?_)
    refine aops_cons rfl (w_pure rfl (p_assign rfl) ?_)
    refine aops_nil ?_
    first | refine a_cond_d rfl (fun h5 => ?_) (fun h6 => ?_) | refine a_cond_n rfl (fun h5 => ?_) (fun h6 => ?_) | refine a_cond_nb rfl (fun h5 => ?_) (fun h6 => ?_) | refine a_cond rfl (fun h5 => ?_) (fun h6 => ?_)
    · (try simp only [Bool.not_eq_true', Bool.not_eq_false', Bool.not_eq_true, Bool.not_eq_false, decide_eq_true_eq, decide_eq_false_iff_not, List.length_map, List.length_range] at h5)
      refine a_region ?_
      refine aops_cons rfl (w_pure rfl (p_move rfl) ?_)
      refine aops_cons rfl (w_pure rfl (p_move rfl) ?_)
      refine aops_cons rfl (w_callM0 rfl rfl rfl cl_46 (.cons (by repeat (first | exact Pick.here _ _ _ | apply Pick.next)) (.nil _)) (c_spec_l1Cur_mail _ _ hb _ _ (by omega) (by omega) ) trivial ?_)
      rintro _ _ ⟨v3, a3, s3, rfl, ha3, hc3, rfl⟩
      skip
      refine aops_cons rfl (w_lit_vM eMail [⟨_, _, _⟩] rfl el_24 rfl rfl rfl rfl rfl ?_)
      refine aops_cons rfl (w_appendM eMail rfl el_24 rfl rfl (by repeat (first | exact Pick.here _ _ _ | apply Pick.next)) rfl (.sl _) (fun _ => rfl) (fun _ => rfl) (by simp; omega) (by simp; omega) trivial fun b3 => ?_)
      refine aops_cons rfl (w_pure rfl (p_assign rfl) ?_)
      refine aops_nil ?_
      refine a_seq ?_
      refine a_region ?_
      refine aops_cons rfl (w_pure rfl (p_move rfl) ?_)
      refine aops_cons rfl (w_pure rfl (p_assign rfl) ?_)
      refine aops_nil ?_
      refine a_ret ?_
      refine ret_ok (hands1 rfl (.tmp rfl)) (st' := [(q, _), (b3, _)]) (.cons (by repeat (first | exact Pick.here _ _ _ | apply Pick.next)) (.cons (by repeat (first | exact Pick.here _ _ _ | apply Pick.next)) (.nil _))) ?_
      exact ⟨_, _, _, _, rfl, (by first | omega | (simp; omega)), by omega, by omega, rfl⟩
    · (try simp only [Bool.not_eq_true', Bool.not_eq_false', Bool.not_eq_true, Bool.not_eq_false, decide_eq_true_eq, decide_eq_false_iff_not, List.length_map, List.length_range] at h6)
      refine a_seq ?_
      refine a_region ?_
      refine aops_cons rfl (w_pure rfl (p_eql rfl rfl) ?_)
      refine aops_cons rfl (w_pure rfl (p_assign rfl) ?_)
      refine aops_nil ?_
      first | refine a_cond_d rfl (fun h7 => ?_) (fun h8 => ?_) | refine a_cond_n rfl (fun h7 => ?_) (fun h8 => ?_) | refine a_cond_nb rfl (fun h7 => ?_) (fun h8 => ?_) | refine a_cond rfl (fun h7 => ?_) (fun h8 => ?_)
      · (try simp only [Bool.not_eq_true', Bool.not_eq_false', Bool.not_eq_true, Bool.not_eq_false, decide_eq_true_eq, decide_eq_false_iff_not, List.length_map, List.length_range] at h7)
        refine a_seq ?_
        refine a_region ?_
        refine aops_cons rfl (w_litM eMail [] rfl el_24 rfl rfl rfl rfl rfl fun b4 => ?_)
        refine aops_cons rfl (w_pure rfl (p_assign rfl) ?_)
        refine aops_nil ?_
        refine a_seq ?_
        refine a_region ?_
        refine aops_cons rfl (w_pure rfl (p_assign rfl) ?_)
        refine aops_nil ?_
        refine a_block ?_
        refine a_loop (ι := Int × Nat × List Mail × Int × Int) (fun ⟨n, b, ys, ka, ks⟩ => (ys.length : Int) = n ∧ (0 ≤ n ∧ n ≤ 21) ∧ a ≤ ka ∧ ka ≤ a + 140 + 2 * n) (fun ⟨n, b, ys, ka, ks⟩ => [(3, .own 3 b 0 ys.length), (7, .int .i64 n)]) (fun ⟨n, b, ys, ka, ks⟩ => [(q, curE bs ka ks), (b, .arr 26 3 (ys.map eMail))]) (fun ⟨n, b, ys, ka, ks⟩ => (22 - n).toNat) (0, b4, [], a2, s2) ⟨by simp, by omega, by omega, by omega⟩ (by repeat (first | exact Knows.nil | refine Knows.cons (by rfl) ?_)) (by repeat (first | exact Picks.nil _ | exact Pick.here _ _ _ | apply Pick.next | apply Picks.cons)) ?_
        rintro ⟨n, c, ys, ja, js⟩ ⟨hj1, hj2, hj3, hj4⟩
        skip
        refine a_seq ?_
        refine a_seq ?_
        refine a_region ?_
        refine aops_cons rfl (w_pure rfl (p_move rfl) ?_)
        refine aops_cons rfl (w_pure rfl (p_move rfl) ?_)
        refine aops_cons rfl (w_callM0 rfl rfl rfl cl_45 (.cons (by repeat (first | exact Pick.here _ _ _ | apply Pick.next)) (.nil _)) (c_spec_l1Cur_pick _ _ hb _ _ (by omega) (by omega) _ (by first | omega | (simp; done) | (simp; omega))) trivial ?_)
        rintro _ _ ⟨m3, a3, s3, rfl, hm3, ha3, hc3, rfl⟩
        (try simp only [List.length_map] at hm3)
        refine aops_cons rfl (w_pure rfl (p_add' rfl rfl ⟨by omega, by omega⟩) ?_)
        refine aops_cons rfl (w_pure rfl (p_lss rfl rfl) ?_)
        refine aops_nil ?_
        first | refine a_cond_d rfl (fun h9 => ?_) (fun h10 => ?_) | refine a_cond_n rfl (fun h9 => ?_) (fun h10 => ?_) | refine a_cond_nb rfl (fun h9 => ?_) (fun h10 => ?_) | refine a_cond rfl (fun h9 => ?_) (fun h10 => ?_)
        · (try simp only [Bool.not_eq_true', Bool.not_eq_false', Bool.not_eq_true, Bool.not_eq_false, decide_eq_true_eq, decide_eq_false_iff_not, List.length_map, List.length_range] at h9)
          refine a_skip ?_
          refine a_seq ?_
          refine a_block ?_
          refine a_region ?_
          refine aops_cons rfl (w_pure rfl (p_move rfl) ?_)
          refine aops_cons rfl (w_pure rfl (p_move rfl) ?_)
          refine aops_cons rfl (w_pure rfl (p_rem' rfl rfl (by omega) (by omega)) ?_)
          refine aops_cons rfl (w_pure rfl (p_move rfl) ?_)
          refine aops_cons rfl (w_pure rfl (p_quo' rfl rfl (by omega) (by omega) (by omega)) ?_)
          refine aops_cons rfl (w_pure rfl (p_rem' rfl rfl (by omega) (by omega)) ?_)
          refine aops_cons rfl (w_pure rfl (p_move rfl) ?_)
          refine aops_cons rfl (w_pure rfl (p_quo' rfl rfl (by omega) (by omega) (by omega)) ?_)
          refine aops_cons rfl (w_pure rfl (p_build (cells := [_, _, _]) z_26 pl_26 rfl rfl) ?_)
          refine aops_cons rfl (w_lit_vM eMail [⟨_, _, _⟩] rfl el_24 rfl rfl rfl rfl rfl ?_)
          refine aops_cons rfl (w_appendM eMail rfl el_24 rfl rfl (by repeat (first | exact Pick.here _ _ _ | apply Pick.next)) rfl (.sl _) (fun _ => rfl) (fun _ => rfl) (by simp; omega) (by simp; omega) trivial fun b5 => ?_)
          refine aops_cons rfl (w_pure rfl (p_assign rfl) ?_)
          refine aops_nil ?_
          refine a_region ?_
          refine aops_cons rfl (w_pure rfl (p_move rfl) ?_)
          refine aops_cons rfl (w_pure rfl (p_add' rfl rfl ⟨by omega, by omega⟩) ?_)
          refine aops_cons rfl (w_pure rfl (p_assign rfl) ?_)
          refine aops_nil ?_
          refine ⟨(_, _, _, _, _), _, ?_, ?_, (by repeat (first | exact Knows.nil | refine Knows.cons (by rfl) ?_)), (by repeat (first | exact Back.refl _ _ | refine Back.cons (by rfl) ?_)), (by repeat (first | exact Picks.nil _ | exact Pick.here _ _ _ | apply Pick.next | apply Picks.cons))⟩
          · refine ⟨by first | omega | (simp; omega), by omega, by omega, by omega⟩
          · (try dsimp only); omega
        · (try simp only [Bool.not_eq_true', Bool.not_eq_false', Bool.not_eq_true, Bool.not_eq_false, decide_eq_true_eq, decide_eq_false_iff_not, List.length_map, List.length_range] at h10)
          refine a_exit ?_
          refine a_seq ?_
          refine a_region ?_
          refine aops_cons rfl (w_pure rfl (p_move rfl) ?_)
          refine aops_cons rfl (w_pure rfl (p_assign rfl) ?_)
          refine aops_nil ?_
          refine a_ret ?_
          refine ret_ok (hands1 rfl (.tmp rfl)) (st' := [(q, _), (c, _)]) (.cons (by repeat (first | exact Pick.here _ _ _ | apply Pick.next)) (.cons (by repeat (first | exact Pick.here _ _ _ | apply Pick.next)) (.nil _))) ?_
          exact ⟨_, _, _, _, rfl, (by first | omega | (simp; omega)), by omega, by omega, rfl⟩
      · (try simp only [Bool.not_eq_true', Bool.not_eq_false', Bool.not_eq_true, Bool.not_eq_false, decide_eq_true_eq, decide_eq_false_iff_not, List.length_map, List.length_range] at h8)
        refine a_skip ?_
        refine a_seq ?_
        refine a_region ?_
        refine aops_cons rfl (w_pure rfl (p_move rfl) ?_)
        refine aops_cons rfl (w_pure rfl (p_assign rfl) ?_)
        refine aops_nil ?_
        refine a_ret ?_
        refine ret_ok (hands1 rfl (.tmp rfl)) (st' := [(q, _), (b, _)]) (.cons (by repeat (first | exact Pick.here _ _ _ | apply Pick.next)) (.cons (by repeat (first | exact Pick.here _ _ _ | apply Pick.next)) (.nil _))) ?_
        exact ⟨_, _, _, _, rfl, (by first | omega | (simp; omega)), by omega, by omega, rfl⟩

theorem c_spec_l1Cur_cpu12 (q : Nat) (bs : List Int) (hb : Bytes bs) (a s : Int) (h0 : 0 ≤ a) (h1 : a ≤ 999999996000)  : ACalls Try.prog 54 [.ptr q 0] [(q, curE bs a s)] (fun r st => ∃ m a' s', r = .int .i64 m ∧ a ≤ a' ∧ a' ≤ a + 4 ∧ st = [(q, curE bs a' s')]) := by
  refine a_enter Try.func54 rfl rfl (fun w0 M0 => ?_)
  refine a_seq ?_
  refine a_region ?_
  refine aops_cons rfl (w_pure rfl (p_assign rfl) ?_)
  refine aops_nil ?_
  refine a_seq ?_
  refine a_region ?_
  refine aops_cons rfl (w_pure rfl (p_move rfl) ?_)
  refine aops_cons rfl (w_lit_vM eInt [_, _, _, _, _, _] rfl el_45 rfl rfl rfl rfl rfl ?_)
  refine aops_cons rfl (w_pure rfl (p_move rfl) ?_)
  refine aops_cons rfl (w_callM0 rfl rfl rfl cl_45 (.cons (by repeat (first | exact Pick.here _ _ _ | apply Pick.next)) (.nil _)) (c_spec_l1Cur_pick _ _ hb _ _ (by omega) (by omega) _ (by first | omega | (simp; done) | (simp; omega))) trivial ?_)
  rintro _ _ ⟨m1, a1, s1, rfl, hm1, ha1, hc1, rfl⟩
  (try simp only [List.length_map] at hm1)
  refine aops_cons rfl (w_pure rfl (p_quo' rfl rfl (by omega) (by omega) (by omega)) ?_)
  refine aops_cons rfl (w_pure rfl (p_add' rfl rfl ⟨by omega, by omega⟩) ?_)
  refine aops_cons rfl (w_pure rfl (p_take eInt es_45 rfl rfl (by omega) (by first | (simp; omega) | omega) (fun _ => rfl)) ?_)
  refine aops_cons rfl (w_callM0 rfl rfl rfl cl_61 (.cons (by repeat (first | exact Pick.here _ _ _ | apply Pick.next)) (.nil _)) (c_spec_l1Cur_among _ _ hb _ _ (by omega) (by omega) _ (by first | (simp; done) | (simp; omega)) (-1) 4 (by first | (intro x hx; simp only [List.mem_cons, List.not_mem_nil, or_false] at hx; omega) | (intro x hx; have hx := List.mem_of_mem_take hx; simp only [List.mem_cons, List.not_mem_nil, or_false] at hx; omega))) trivial ?_)
  rintro _ _ ⟨m2, a2, s2, rfl, hm2, ha2, hc2, rfl⟩
  (try simp only [List.length_map] at hm2)
  refine aops_cons rfl (w_pure rfl (p_assign rfl) ?_)
  refine aops_nil ?_
  refine a_ret ?_
  refine ret_ok (hands1 rfl (.tmp rfl)) (st' := [(q, _)]) (.cons (by repeat (first | exact Pick.here _ _ _ | apply Pick.next)) (.nil _)) ?_
  exact ⟨_, _, _, rfl, by omega, by omega, rfl⟩

theorem c_spec_l1Cur_irq12 (q : Nat) (bs : List Int) (hb : Bytes bs) (a s : Int) (h0 : 0 ≤ a) (h1 : a ≤ 999999996000)  : ACalls Try.prog 59 [.ptr q 0] [(q, curE bs a s)] (fun r st => ∃ m a' s', r = .int .i64 m ∧ a ≤ a' ∧ a' ≤ a + 4 ∧ st = [(q, curE bs a' s')]) := by
  refine a_enter Try.func59 rfl rfl (fun w0 M0 => ?_)
  refine a_seq ?_
  refine a_region ?_
  refine aops_cons rfl (w_pure rfl (p_assign rfl) ?_)
  refine aops_nil ?_
  refine a_seq ?_
  refine a_region ?_
  refine aops_cons rfl (w_pure rfl (p_move rfl) ?_)
  refine aops_cons rfl (w_lit_vM eInt [_, _, _, _, _] rfl el_45 rfl rfl rfl rfl rfl ?_)
  refine aops_cons rfl (w_pure rfl (p_move rfl) ?_)
  refine aops_cons rfl (w_callM0 rfl rfl rfl cl_45 (.cons (by repeat (first | exact Pick.here _ _ _ | apply Pick.next)) (.nil _)) (c_spec_l1Cur_pick _ _ hb _ _ (by omega) (by omega) _ (by first | omega | (simp; done) | (simp; omega))) trivial ?_)
  rintro _ _ ⟨m1, a1, s1, rfl, hm1, ha1, hc1, rfl⟩
  (try simp only [List.length_map] at hm1)
  refine aops_cons rfl (w_pure rfl (p_quo' rfl rfl (by omega) (by omega) (by omega)) ?_)
  refine aops_cons rfl (w_pure rfl (p_add' rfl rfl ⟨by omega, by omega⟩) ?_)
  refine aops_cons rfl (w_pure rfl (p_take eInt es_45 rfl rfl (by omega) (by first | (simp; omega) | omega) (fun _ => rfl)) ?_)
  refine aops_cons rfl (w_callM0 rfl rfl rfl cl_61 (.cons (by repeat (first | exact Pick.here _ _ _ | apply Pick.next)) (.nil _)) (c_spec_l1Cur_among _ _ hb _ _ (by omega) (by omega) _ (by first | (simp; done) | (simp; omega)) (-1) 4 (by first | (intro x hx; simp only [List.mem_cons, List.not_mem_nil, or_false] at hx; omega) | (intro x hx; have hx := List.mem_of_mem_take hx; simp only [List.mem_cons, List.not_mem_nil, or_false] at hx; omega))) trivial ?_)
  rintro _ _ ⟨m2, a2, s2, rfl, hm2, ha2, hc2, rfl⟩
  (try simp only [List.length_map] at hm2)
  refine aops_cons rfl (w_pure rfl (p_assign rfl) ?_)
  refine aops_nil ?_
  refine a_ret ?_
  refine ret_ok (hands1 rfl (.tmp rfl)) (st' := [(q, _)]) (.cons (by repeat (first | exact Pick.here _ _ _ | apply Pick.next)) (.nil _)) ?_
  exact ⟨_, _, _, rfl, by omega, by omega, rfl⟩

theorem co_spec_DrawIsBox (bs : List Int) (hb : Bytes bs) : ACalls Try.prog 65 [.sl (bs.map eByte)] [] (fun r st => ∃ (b : Nat) (xs : List Mail), r = .own 3 b 0 xs.length ∧ xs.length ≤ 22 ∧ st = [(b, .arr 26 3 (xs.map eMail))]) := by
  refine a_enter Try.func65 rfl rfl (fun w0 M0 => ?_)
  refine a_seq ?_
  refine a_region ?_
  refine aops_cons rfl (w_pure rfl (p_assign rfl) ?_)
  refine aops_nil ?_
  refine a_seq ?_
  refine a_region ?_
  refine aops_cons rfl (w_pure rfl (p_move rfl) ?_)
  refine aops_cons rfl (w_pure rfl (p_build (cells := [_, _, _]) z_67 pl_67 rfl rfl) ?_)
  refine aops_cons rfl (w_box rfl rfl rfl fun b1 => ?_)
  refine aops_cons rfl (w_pure rfl (p_assign rfl) ?_)
  refine aops_nil ?_
  refine a_seq ?_
  refine a_region ?_
  refine aops_cons rfl (w_pure rfl (p_move rfl) ?_)
  refine aops_cons rfl (w_callM0 rfl rfl rfl cl_43 (.cons (by repeat (first | exact Pick.here _ _ _ | apply Pick.next)) (.nil _)) (c_spec_l1Cur_box _ _ hb _ _ (by omega) (by omega) ) trivial ?_)
  rintro _ _ ⟨b2, xs1, a1, s1, rfl, hx1, ha1, hc1, rfl⟩
  skip
  refine aops_cons rfl (w_pure rfl (p_assign rfl) ?_)
  refine aops_nil ?_
  refine a_ret ?_
  refine ret_ok (hands1 rfl (.tmp rfl)) (st' := [(b2, _)]) (.cons (by repeat (first | exact Pick.here _ _ _ | apply Pick.next)) (.nil _)) ?_
  exact ⟨_, _, rfl, hx1, rfl⟩

theorem c_spec_DrawIsBox (bs : List Int) (hb : Bytes bs) : ACalls Try.prog 65 [.sl (bs.map eByte)] [] (fun r st => (∃ (xs : List Mail), r = .sl (xs.map eMail) ∧ xs.length ≤ 22) ∧ st = []) :=
  freezeE (co_spec_DrawIsBox bs hb) (by rintro _ _ ⟨b, xs, rfl, hx, rfl⟩; exact ⟨_, (.own (by repeat (first | exact List.Mem.head _ | apply List.Mem.tail)) (List.length_map _)), xs, rfl, hx⟩)

theorem c_spec_DrawDeliverAll (bs : List Int) (hb : Bytes bs) : ACalls Try.prog 24 [.sl (bs.map eByte)] [] (fun r st => (∃ (xs : List Mail), r = .sl (xs.map eMail) ∧ xs.length ≤ 22) ∧ st = []) := by
  refine a_enter Try.func24 rfl rfl (fun w0 M0 => ?_)
  refine a_seq ?_
  refine a_region ?_
  refine aops_cons rfl (w_pure rfl (p_assign rfl) ?_)
  refine aops_nil ?_
  refine a_seq ?_
  refine a_region ?_
  refine aops_cons rfl (w_pure rfl (p_move rfl) ?_)
  refine aops_cons rfl (w_call rfl rfl rfl cl_65 (c_spec_DrawIsBox bs hb) ?_)
  rintro _ _ ⟨⟨xs1, rfl, hx1⟩, rfl⟩
  skip
  refine aops_cons rfl (w_pure rfl (p_assign rfl) ?_)
  refine aops_nil ?_
  refine a_ret ?_
  refine ret_ok (hands1 rfl (.tmp rfl)) (.nil _) ?_
  exact ⟨⟨_, rfl, hx1⟩, rfl⟩



theorem co_spec_DrawSendMail (bs : List Int) (hb : Bytes bs) : ACalls Try.prog 7 [.sl (bs.map eByte)] [] (fun r st => ∃ (b : Nat) (xs : List Mail) (v : Mail), r = .tup [.own 3 b 0 xs.length, .agg (eMail v)] ∧ xs.length ≤ 22 ∧ st = [(b, .arr 26 3 (xs.map eMail))]) := by
  refine a_enter Try.func7 rfl rfl (fun w0 M0 => ?_)
  refine a_seq ?_
  refine a_region ?_
  refine aops_cons rfl (w_pure rfl (p_assign rfl) ?_)
  refine aops_cons rfl (w_alloc rfl z_26 fun b1 => ?_)
  refine aops_nil ?_
  refine a_seq ?_
  refine a_region ?_
  refine aops_cons rfl (w_pure rfl (p_move rfl) ?_)
  refine aops_cons rfl (w_pure rfl (p_build (cells := [_, _, _]) z_67 pl_67 rfl rfl) ?_)
  refine aops_cons rfl (w_box rfl rfl rfl fun b2 => ?_)
  refine aops_cons rfl (w_pure rfl (p_assign rfl) ?_)
  refine aops_nil ?_
  refine a_seq ?_
  refine a_region ?_
  refine aops_cons rfl (w_pure rfl (p_move rfl) ?_)
  refine aops_cons rfl (w_callM0 rfl rfl rfl cl_43 (.cons (by repeat (first | exact Pick.here _ _ _ | apply Pick.next)) (.nil _)) (c_spec_l1Cur_box _ _ hb _ _ (by omega) (by omega) ) trivial ?_)
  rintro _ _ ⟨b3, xs1, a1, s1, rfl, hx1, ha1, hc1, rfl⟩
  skip
  refine aops_cons rfl (w_pure rfl (p_assign rfl) ?_)
  refine aops_nil ?_
  refine a_seq ?_
  refine a_seq ?_
  refine a_region ?_
  refine aops_cons rfl (w_pure rfl (p_move rfl) ?_)
  refine aops_cons rfl (w_pure rfl (p_len sl_24 rfl rfl) ?_)
  refine aops_cons rfl (w_pure rfl (p_gtr rfl rfl) ?_)
  refine aops_cons rfl (w_pure rfl (p_move rfl) ?_)
  first | refine aops_split_d 14 rfl (fun h1 => ?_) (fun h2 => ?_) | refine aops_split 14 rfl (fun h1 => ?_) (fun h2 => ?_)
  · (try simp only [Bool.not_eq_true', Bool.not_eq_false', Bool.not_eq_true, Bool.not_eq_false, decide_eq_true_eq, decide_eq_false_iff_not, List.length_map, List.length_range] at h1)
    refine aops_guard_t rfl rfl rfl (w_pure rfl (p_move rfl) ?_)
    refine aops_guard_t rfl rfl rfl (w_callM0 rfl rfl rfl cl_44 (.cons (by repeat (first | exact Pick.here _ _ _ | apply Pick.next)) (.nil _)) (c_spec_l1Cur_one _ _ hb _ _ (by omega) (by omega) _ (by omega)) trivial ?_)
    rintro _ _ ⟨o2, a2, s2, rfl, ha2, hc2, rfl⟩
    skip
    refine aops_cons rfl (w_pure rfl (p_pick_t rfl rfl) ?_)
    refine aops_nil ?_
    first | refine a_cond_d rfl (fun h3 => ?_) (fun h4 => ?_) | refine a_cond_n rfl (fun h3 => ?_) (fun h4 => ?_) | refine a_cond_nb rfl (fun h3 => ?_) (fun h4 => ?_) | refine a_cond rfl (fun h3 => ?_) (fun h4 => ?_)
    · (try simp only [Bool.not_eq_true', Bool.not_eq_false', Bool.not_eq_true, Bool.not_eq_false, decide_eq_true_eq, decide_eq_false_iff_not, List.length_map, List.length_range] at h3)
      refine a_seq ?_
      refine a_draw [b2, b1] (by kernel_rfl) ?_
      show ADraw _ _ _ _ _ _ 10 _ _ _ _
      refine d_take 0 rfl (by kernel_rfl) (by kernel_rfl) (by kernel_rfl) rfl (p_move rfl) ?_
      refine d_take 1 rfl (by kernel_rfl) (by kernel_rfl) (by kernel_rfl) rfl (p_move rfl) ?_
      refine d_take 2 rfl (by kernel_rfl) (by kernel_rfl) (by kernel_rfl) rfl (p_move rfl) ?_
      refine d_take 3 rfl (by kernel_rfl) (by kernel_rfl) (by kernel_rfl) rfl (p_move rfl) ?_
      refine d_take 4 rfl (by kernel_rfl) (by kernel_rfl) (by kernel_rfl) rfl (p_len sl_24 rfl rfl) ?_
      refine draw_all [5] (by kernel_rfl) (by simp) ?_
      refine all_cons rfl rfl ?_ ?_
      · skip
        refine w_callM0 rfl rfl rfl cl_45 (.cons (by repeat (first | exact Pick.here _ _ _ | apply Pick.next)) (.nil _)) (c_spec_l1Cur_pick _ _ hb _ _ (by omega) (by omega) _ (by first | omega | (simp; done) | (simp; omega))) (by first | (simp [InTs, keys]; done) | trivial) ?_
        rintro _ _ ⟨m3, a3, s3, rfl, hm3, ha3, hc3, rfl⟩
        (try simp only [List.length_map] at hm3)
        refine d_take 6 rfl (by kernel_rfl) (by kernel_rfl) (by kernel_rfl) rfl (p_index_own0 m3.toNat rfl rfl (by simp at *; omega) (by simp at *; omega) es_24) ?_
        refine d_take 8 rfl (by kernel_rfl) (by kernel_rfl) (by kernel_rfl) rfl (p_assign rfl) ?_
        refine draw_all [7] (by kernel_rfl) (by simp) ?_
        refine all_cons rfl rfl ?_ ?_
        · skip
          refine w_pure rfl (p_load_e_all ag_26 rfl (by repeat (first | exact Pick.here _ _ _ | apply Pick.next)) (rowD _ _ zMail (by omega)) noX) ?_
          refine draw_all [9] (by kernel_rfl) (by simp) ?_
          refine all_cons rfl rfl ?_ ?_
          · skip
            refine w_store (cells' := [_, _, _]) rfl rfl rfl (by repeat (first | exact Pick.here _ _ _ | apply Pick.next)) cn_26 (by rfl) (by rfl) (by rfl) (by first | (refine .inl ?_; simp; done) | (refine .inr ?_; simp [keys]; done)) ?_
            refine draw_done (by kernel_rfl) ?_
            refine a_ret ?_
            refine ret_ok (hands2 rfl (.tmp rfl) (.cell ag_26 rfl (by repeat (first | exact Pick.here _ _ _ | apply Pick.next)) (by rfl))) (st' := [(b3, _)]) (.cons (by repeat (first | exact Pick.here _ _ _ | apply Pick.next)) (.nil _)) ?_
            exact ⟨_, _, ⟨_, _, _⟩, rfl, hx1, rfl⟩
          exact all_nil
        exact all_nil
      exact all_nil
    · (try simp only [Bool.not_eq_true', Bool.not_eq_false', Bool.not_eq_true, Bool.not_eq_false, decide_eq_true_eq, decide_eq_false_iff_not, List.length_map, List.length_range] at h4)
      refine a_skip ?_
      refine a_seq ?_
      refine a_region ?_
      refine aops_cons rfl (w_pure rfl (p_move rfl) ?_)
      refine aops_cons rfl (w_pure rfl (p_move rfl) ?_)
      refine aops_cons rfl (w_callM0 rfl rfl rfl cl_46 (.cons (by repeat (first | exact Pick.here _ _ _ | apply Pick.next)) (.nil _)) (c_spec_l1Cur_mail _ _ hb _ _ (by omega) (by omega) ) trivial ?_)
      rintro _ _ ⟨v3, a3, s3, rfl, ha3, hc3, rfl⟩
      skip
      refine aops_cons rfl (w_pure rfl (p_assign rfl) ?_)
      refine aops_cons rfl (w_store (cells' := [_, _, _]) rfl rfl rfl (by repeat (first | exact Pick.here _ _ _ | apply Pick.next)) cn_26 (by rfl) (by rfl) (by rfl) trivial ?_)
      refine aops_nil ?_
      refine a_ret ?_
      refine ret_ok (hands2 rfl (.tmp rfl) (.cell ag_26 rfl (by repeat (first | exact Pick.here _ _ _ | apply Pick.next)) (by rfl))) (st' := [(b3, _)]) (.cons (by repeat (first | exact Pick.here _ _ _ | apply Pick.next)) (.nil _)) ?_
      exact ⟨_, _, ⟨_, _, _⟩, rfl, hx1, rfl⟩
  · (try simp only [Bool.not_eq_true', Bool.not_eq_false', Bool.not_eq_true, Bool.not_eq_false, decide_eq_true_eq, decide_eq_false_iff_not, List.length_map, List.length_range] at h2)
    refine g_pass' rfl rfl rfl rfl rfl ?_
    refine g_pass' rfl rfl rfl rfl rfl ?_
    refine aops_cons rfl (w_pure rfl (p_pick_f rfl rfl) ?_)
    refine aops_nil ?_
    refine a_cond_f rfl ?_
    refine a_skip ?_
    refine a_seq ?_
    refine a_region ?_
    refine aops_cons rfl (w_pure rfl (p_move rfl) ?_)
    refine aops_cons rfl (w_pure rfl (p_move rfl) ?_)
    refine aops_cons rfl (w_callM0 rfl rfl rfl cl_46 (.cons (by repeat (first | exact Pick.here _ _ _ | apply Pick.next)) (.nil _)) (c_spec_l1Cur_mail _ _ hb _ _ (by omega) (by omega) ) trivial ?_)
    rintro _ _ ⟨v2, a2, s2, rfl, ha2, hc2, rfl⟩
    skip
    refine aops_cons rfl (w_pure rfl (p_assign rfl) ?_)
    refine aops_cons rfl (w_store (cells' := [_, _, _]) rfl rfl rfl (by repeat (first | exact Pick.here _ _ _ | apply Pick.next)) cn_26 (by rfl) (by rfl) (by rfl) trivial ?_)
    refine aops_nil ?_
    refine a_ret ?_
    refine ret_ok (hands2 rfl (.tmp rfl) (.cell ag_26 rfl (by repeat (first | exact Pick.here _ _ _ | apply Pick.next)) (by rfl))) (st' := [(b3, _)]) (.cons (by repeat (first | exact Pick.here _ _ _ | apply Pick.next)) (.nil _)) ?_
    exact ⟨_, _, ⟨_, _, _⟩, rfl, hx1, rfl⟩

theorem c_spec_DrawSendMail (bs : List Int) (hb : Bytes bs) : ACalls Try.prog 7 [.sl (bs.map eByte)] [] (fun r st => (∃ (xs : List Mail) (v : Mail), r = .tup [.sl (xs.map eMail), .agg (eMail v)] ∧ xs.length ≤ 22) ∧ st = []) :=
  freezeE (co_spec_DrawSendMail bs hb) (by rintro _ _ ⟨b, xs, v, rfl, hx, rfl⟩; exact ⟨_, (.tup (.cons (.own (by repeat (first | exact List.Mem.head _ | apply List.Mem.tail)) (List.length_map _)) (.cons (.refl _) .nil))), xs, v, rfl, hx⟩)

theorem co_spec_DrawTakeMail (bs : List Int) (hb : Bytes bs) : ACalls Try.prog 14 [.sl (bs.map eByte)] [] (fun r st => ∃ (b : Nat) (xs : List Mail) (m : Int), r = .tup [.own 3 b 0 xs.length, .int .i64 m] ∧ xs.length ≤ 22 ∧ st = [(b, .arr 26 3 (xs.map eMail))]) := by
  refine a_enter Try.func14 rfl rfl (fun w0 M0 => ?_)
  refine a_seq ?_
  refine a_region ?_
  refine aops_cons rfl (w_pure rfl (p_assign rfl) ?_)
  refine aops_cons rfl (w_pure rfl (p_assign rfl) ?_)
  refine aops_nil ?_
  refine a_seq ?_
  refine a_region ?_
  refine aops_cons rfl (w_pure rfl (p_move rfl) ?_)
  refine aops_cons rfl (w_pure rfl (p_build (cells := [_, _, _]) z_67 pl_67 rfl rfl) ?_)
  refine aops_cons rfl (w_box rfl rfl rfl fun b1 => ?_)
  refine aops_cons rfl (w_pure rfl (p_assign rfl) ?_)
  refine aops_nil ?_
  refine a_seq ?_
  refine a_region ?_
  refine aops_cons rfl (w_pure rfl (p_move rfl) ?_)
  refine aops_cons rfl (w_callM0 rfl rfl rfl cl_43 (.cons (by repeat (first | exact Pick.here _ _ _ | apply Pick.next)) (.nil _)) (c_spec_l1Cur_box _ _ hb _ _ (by omega) (by omega) ) trivial ?_)
  rintro _ _ ⟨b2, xs1, a1, s1, rfl, hx1, ha1, hc1, rfl⟩
  skip
  refine aops_cons rfl (w_pure rfl (p_assign rfl) ?_)
  refine aops_nil ?_
  refine a_seq ?_
  refine a_region ?_
  refine aops_cons rfl (w_pure rfl (p_move rfl) ?_)
  refine aops_cons rfl (w_pure rfl (p_move rfl) ?_)
  refine aops_cons rfl (w_callM0 rfl rfl rfl cl_54 (.cons (by repeat (first | exact Pick.here _ _ _ | apply Pick.next)) (.nil _)) (c_spec_l1Cur_cpu12 _ _ hb _ _ (by omega) (by omega) ) trivial ?_)
  rintro _ _ ⟨m2, a2, s2, rfl, ha2, hc2, rfl⟩
  skip
  refine aops_cons rfl (w_pure rfl (p_assign rfl) ?_)
  refine aops_cons rfl (w_pure rfl (p_assign rfl) ?_)
  refine aops_nil ?_
  refine a_ret ?_
  refine ret_ok (hands2 rfl (.tmp rfl) (.tmp rfl)) (st' := [(b2, _)]) (.cons (by repeat (first | exact Pick.here _ _ _ | apply Pick.next)) (.nil _)) ?_
  exact ⟨_, _, _, rfl, hx1, rfl⟩

theorem c_spec_DrawTakeMail (bs : List Int) (hb : Bytes bs) : ACalls Try.prog 14 [.sl (bs.map eByte)] [] (fun r st => (∃ (xs : List Mail) (m : Int), r = .tup [.sl (xs.map eMail), .int .i64 m] ∧ xs.length ≤ 22) ∧ st = []) :=
  freezeE (co_spec_DrawTakeMail bs hb) (by rintro _ _ ⟨b, xs, m, rfl, hx, rfl⟩; exact ⟨_, (.tup (.cons (.own (by repeat (first | exact List.Mem.head _ | apply List.Mem.tail)) (List.length_map _)) (.cons (.refl _) .nil))), xs, m, rfl, hx⟩)

theorem c_spec_DrawMailFor (bs : List Int) (hb : Bytes bs) : ACalls Try.prog 33 [.sl (bs.map eByte)] [] (fun r st => (∃ (xs : List Mail) (m : Int), r = .tup [.sl (xs.map eMail), .int .i64 m] ∧ xs.length ≤ 22) ∧ st = []) := by
  refine a_enter Try.func33 rfl rfl (fun w0 M0 => ?_)
  refine a_seq ?_
  refine a_region ?_
  refine aops_cons rfl (w_pure rfl (p_assign rfl) ?_)
  refine aops_cons rfl (w_pure rfl (p_assign rfl) ?_)
  refine aops_nil ?_
  refine a_seq ?_
  refine a_region ?_
  refine aops_cons rfl (w_pure rfl (p_move rfl) ?_)
  refine aops_cons rfl (w_call rfl rfl rfl cl_14 (c_spec_DrawTakeMail bs hb) ?_)
  rintro _ _ ⟨⟨xs1, m1, rfl, hx1⟩, rfl⟩
  skip
  refine aops_cons rfl (w_pure rfl (p_extract rfl rfl) ?_)
  refine aops_cons rfl (w_pure rfl (p_extract rfl rfl) ?_)
  refine aops_cons rfl (w_pure rfl (p_assign rfl) ?_)
  refine aops_cons rfl (w_pure rfl (p_assign rfl) ?_)
  refine aops_nil ?_
  refine a_ret ?_
  refine ret_ok (hands2 rfl (.tmp rfl) (.tmp rfl)) (.nil _) ?_
  exact ⟨⟨_, _, rfl, hx1⟩, rfl⟩

theorem c_spec_DrawOfflineCpu (bs : List Int) (hb : Bytes bs) : ACalls Try.prog 30 [.sl (bs.map eByte)] [] (fun r st => (∃ (xs : List Mail) (m : Int), r = .tup [.sl (xs.map eMail), .int .i64 m] ∧ xs.length ≤ 22) ∧ st = []) := by
  refine a_enter Try.func30 rfl rfl (fun w0 M0 => ?_)
  refine a_seq ?_
  refine a_region ?_
  refine aops_cons rfl (w_pure rfl (p_assign rfl) ?_)
  refine aops_cons rfl (w_pure rfl (p_assign rfl) ?_)
  refine aops_nil ?_
  refine a_seq ?_
  refine a_region ?_
  refine aops_cons rfl (w_pure rfl (p_move rfl) ?_)
  refine aops_cons rfl (w_call rfl rfl rfl cl_14 (c_spec_DrawTakeMail bs hb) ?_)
  rintro _ _ ⟨⟨xs1, m1, rfl, hx1⟩, rfl⟩
  skip
  refine aops_cons rfl (w_pure rfl (p_extract rfl rfl) ?_)
  refine aops_cons rfl (w_pure rfl (p_extract rfl rfl) ?_)
  refine aops_cons rfl (w_pure rfl (p_assign rfl) ?_)
  refine aops_cons rfl (w_pure rfl (p_assign rfl) ?_)
  refine aops_nil ?_
  refine a_ret ?_
  refine ret_ok (hands2 rfl (.tmp rfl) (.tmp rfl)) (.nil _) ?_
  exact ⟨⟨_, _, rfl, hx1⟩, rfl⟩

theorem co_spec_DrawSendToOthers (bs : List Int) (hb : Bytes bs) : ACalls Try.prog 17 [.sl (bs.map eByte)] [] (fun r st => ∃ (b : Nat) (xs : List Mail) (f : Int) (q : Int), r = .tup [.own 3 b 0 xs.length, .int .i64 f, .int .i64 q] ∧ xs.length ≤ 22 ∧ st = [(b, .arr 26 3 (xs.map eMail))]) := by
  refine a_enter Try.func17 rfl rfl (fun w0 M0 => ?_)
  refine a_seq ?_
  refine a_region ?_
  refine aops_cons rfl (w_pure rfl (p_assign rfl) ?_)
  refine aops_cons rfl (w_pure rfl (p_assign rfl) ?_)
  refine aops_cons rfl (w_pure rfl (p_assign rfl) ?_)
  refine aops_nil ?_
  refine a_seq ?_
  refine a_region ?_
  refine aops_cons rfl (w_pure rfl (p_move rfl) ?_)
  refine aops_cons rfl (w_pure rfl (p_build (cells := [_, _, _]) z_67 pl_67 rfl rfl) ?_)
  refine aops_cons rfl (w_box rfl rfl rfl fun b1 => ?_)
  refine aops_cons rfl (w_pure rfl (p_assign rfl) ?_)
  refine aops_nil ?_
  refine a_seq ?_
  refine a_region ?_
  refine aops_cons rfl (w_pure rfl (p_move rfl) ?_)
  refine aops_cons rfl (w_callM0 rfl rfl rfl cl_43 (.cons (by repeat (first | exact Pick.here _ _ _ | apply Pick.next)) (.nil _)) (c_spec_l1Cur_box _ _ hb _ _ (by omega) (by omega) ) trivial ?_)
  rintro _ _ ⟨b2, xs1, a1, s1, rfl, hx1, ha1, hc1, rfl⟩
  skip
  refine aops_cons rfl (w_pure rfl (p_assign rfl) ?_)
  refine aops_nil ?_
  refine a_seq ?_
  refine a_region ?_
  refine aops_cons rfl (w_pure rfl (p_move rfl) ?_)
  refine aops_cons rfl (w_pure rfl (p_move rfl) ?_)
  refine aops_cons rfl (w_callM0 rfl rfl rfl cl_54 (.cons (by repeat (first | exact Pick.here _ _ _ | apply Pick.next)) (.nil _)) (c_spec_l1Cur_cpu12 _ _ hb _ _ (by omega) (by omega) ) trivial ?_)
  rintro _ _ ⟨m2, a2, s2, rfl, ha2, hc2, rfl⟩
  skip
  refine aops_cons rfl (w_pure rfl (p_move rfl) ?_)
  refine aops_cons rfl (w_callM0 rfl rfl rfl cl_59 (.cons (by repeat (first | exact Pick.here _ _ _ | apply Pick.next)) (.nil _)) (c_spec_l1Cur_irq12 _ _ hb _ _ (by omega) (by omega) ) trivial ?_)
  rintro _ _ ⟨m3, a3, s3, rfl, ha3, hc3, rfl⟩
  skip
  refine aops_cons rfl (w_pure rfl (p_assign rfl) ?_)
  refine aops_cons rfl (w_pure rfl (p_assign rfl) ?_)
  refine aops_cons rfl (w_pure rfl (p_assign rfl) ?_)
  refine aops_nil ?_
  refine a_ret ?_
  refine ret_ok (hands3 rfl (.tmp rfl) (.tmp rfl) (.tmp rfl)) (st' := [(b2, _)]) (.cons (by repeat (first | exact Pick.here _ _ _ | apply Pick.next)) (.nil _)) ?_
  exact ⟨_, _, _, _, rfl, hx1, rfl⟩

theorem c_spec_DrawSendToOthers (bs : List Int) (hb : Bytes bs) : ACalls Try.prog 17 [.sl (bs.map eByte)] [] (fun r st => (∃ (xs : List Mail) (f : Int) (q : Int), r = .tup [.sl (xs.map eMail), .int .i64 f, .int .i64 q] ∧ xs.length ≤ 22) ∧ st = []) :=
  freezeE (co_spec_DrawSendToOthers bs hb) (by rintro _ _ ⟨b, xs, f, q, rfl, hx, rfl⟩; exact ⟨_, (.tup (.cons (.own (by repeat (first | exact List.Mem.head _ | apply List.Mem.tail)) (List.length_map _)) (.cons (.refl _) (.cons (.refl _) .nil)))), xs, f, q, rfl, hx⟩)

theorem co_spec_DrawSendToSet (bs : List Int) (hb : Bytes bs) : ACalls Try.prog 20 [.sl (bs.map eByte)] [] (fun r st => ∃ (b : Nat) (xs : List Mail) (f : Int) (s : Int) (q : Int), r = .tup [.own 3 b 0 xs.length, .int .i64 f, .int .i64 s, .int .i64 q] ∧ xs.length ≤ 22 ∧ st = [(b, .arr 26 3 (xs.map eMail))]) := by
  refine a_enter Try.func20 rfl rfl (fun w0 M0 => ?_)
  refine a_seq ?_
  refine a_region ?_
  refine aops_cons rfl (w_pure rfl (p_assign rfl) ?_)
  refine aops_cons rfl (w_pure rfl (p_assign rfl) ?_)
  refine aops_cons rfl (w_pure rfl (p_assign rfl) ?_)
  refine aops_cons rfl (w_pure rfl (p_assign rfl) ?_)
  refine aops_nil ?_
  refine a_seq ?_
  refine a_region ?_
  refine aops_cons rfl (w_pure rfl (p_move rfl) ?_)
  refine aops_cons rfl (w_pure rfl (p_build (cells := [_, _, _]) z_67 pl_67 rfl rfl) ?_)
  refine aops_cons rfl (w_box rfl rfl rfl fun b1 => ?_)
  refine aops_cons rfl (w_pure rfl (p_assign rfl) ?_)
  refine aops_nil ?_
  refine a_seq ?_
  refine a_region ?_
  refine aops_cons rfl (w_pure rfl (p_move rfl) ?_)
  refine aops_cons rfl (w_callM0 rfl rfl rfl cl_43 (.cons (by repeat (first | exact Pick.here _ _ _ | apply Pick.next)) (.nil _)) (c_spec_l1Cur_box _ _ hb _ _ (by omega) (by omega) ) trivial ?_)
  rintro _ _ ⟨b2, xs1, a1, s1, rfl, hx1, ha1, hc1, rfl⟩
  skip
  refine aops_cons rfl (w_pure rfl (p_assign rfl) ?_)
  refine aops_nil ?_
  refine a_seq ?_
  refine a_region ?_
  refine aops_cons rfl (w_pure rfl (p_move rfl) ?_)
  refine aops_cons rfl (w_pure rfl (p_move rfl) ?_)
  refine aops_cons rfl (w_callM0 rfl rfl rfl cl_54 (.cons (by repeat (first | exact Pick.here _ _ _ | apply Pick.next)) (.nil _)) (c_spec_l1Cur_cpu12 _ _ hb _ _ (by omega) (by omega) ) trivial ?_)
  rintro _ _ ⟨m2, a2, s2, rfl, ha2, hc2, rfl⟩
  skip
  refine aops_cons rfl (w_pure rfl (p_move rfl) ?_)
  refine aops_cons rfl (w_lit_vM eInt [_, _, _, _, _, _, _] rfl el_45 rfl rfl rfl rfl rfl ?_)
  refine aops_cons rfl (w_pure rfl (p_move rfl) ?_)
  refine aops_cons rfl (w_callM0 rfl rfl rfl cl_45 (.cons (by repeat (first | exact Pick.here _ _ _ | apply Pick.next)) (.nil _)) (c_spec_l1Cur_pick _ _ hb _ _ (by omega) (by omega) _ (by first | omega | (simp; done) | (simp; omega))) trivial ?_)
  rintro _ _ ⟨m3, a3, s3, rfl, hm3, ha3, hc3, rfl⟩
  (try simp only [List.length_map] at hm3)
  refine aops_cons rfl (w_pure rfl (p_quo' rfl rfl (by omega) (by omega) (by omega)) ?_)
  refine aops_cons rfl (w_pure rfl (p_add' rfl rfl ⟨by omega, by omega⟩) ?_)
  refine aops_cons rfl (w_pure rfl (p_take eInt es_45 rfl rfl (by omega) (by first | (simp; omega) | omega) (fun _ => rfl)) ?_)
  refine aops_cons rfl (w_callM0 rfl rfl rfl cl_61 (.cons (by repeat (first | exact Pick.here _ _ _ | apply Pick.next)) (.nil _)) (c_spec_l1Cur_among _ _ hb _ _ (by omega) (by omega) _ (by first | (simp; done) | (simp; omega)) (-1) 16 (by first | (intro x hx; simp only [List.mem_cons, List.not_mem_nil, or_false] at hx; omega) | (intro x hx; have hx := List.mem_of_mem_take hx; simp only [List.mem_cons, List.not_mem_nil, or_false] at hx; omega))) trivial ?_)
  rintro _ _ ⟨m4, a4, s4, rfl, hm4, ha4, hc4, rfl⟩
  (try simp only [List.length_map] at hm4)
  refine aops_cons rfl (w_pure rfl (p_move rfl) ?_)
  refine aops_cons rfl (w_callM0 rfl rfl rfl cl_59 (.cons (by repeat (first | exact Pick.here _ _ _ | apply Pick.next)) (.nil _)) (c_spec_l1Cur_irq12 _ _ hb _ _ (by omega) (by omega) ) trivial ?_)
  rintro _ _ ⟨m5, a5, s5, rfl, ha5, hc5, rfl⟩
  skip
  refine aops_cons rfl (w_pure rfl (p_assign rfl) ?_)
  refine aops_cons rfl (w_pure rfl (p_assign rfl) ?_)
  refine aops_cons rfl (w_pure rfl (p_assign rfl) ?_)
  refine aops_cons rfl (w_pure rfl (p_assign rfl) ?_)
  refine aops_nil ?_
  refine a_ret ?_
  refine ret_ok (hands4 rfl (.tmp rfl) (.tmp rfl) (.tmp rfl) (.tmp rfl)) (st' := [(b2, _)]) (.cons (by repeat (first | exact Pick.here _ _ _ | apply Pick.next)) (.nil _)) ?_
  exact ⟨_, _, _, _, _, rfl, hx1, rfl⟩

theorem c_spec_DrawSendToSet (bs : List Int) (hb : Bytes bs) : ACalls Try.prog 20 [.sl (bs.map eByte)] [] (fun r st => (∃ (xs : List Mail) (f : Int) (s : Int) (q : Int), r = .tup [.sl (xs.map eMail), .int .i64 f, .int .i64 s, .int .i64 q] ∧ xs.length ≤ 22) ∧ st = []) :=
  freezeE (co_spec_DrawSendToSet bs hb) (by rintro _ _ ⟨b, xs, f, s, q, rfl, hx, rfl⟩; exact ⟨_, (.tup (.cons (.own (by repeat (first | exact List.Mem.head _ | apply List.Mem.tail)) (List.length_map _)) (.cons (.refl _) (.cons (.refl _) (.cons (.refl _) .nil))))), xs, f, s, q, rfl, hx⟩)

theorem cf_impl_SendMail (xs : List Mail) (hn : xs.length ≤ 1048576) (m : Mail) (hA : GoodSend xs m) : ACalls Try.prog 8 [.sl (xs.map eMail), .agg (eMail m)] [] (Ret (.tup [.sl ((sendOne xs m).map eMail), .bool true])) :=
  (cy_impl_SendMail xs hn m hA).freeze (by rintro _ _ ⟨b, rfl, rfl⟩; exact (.tup (.cons (.own (by repeat (first | exact List.Mem.head _ | apply List.Mem.tail)) (List.length_map _)) (.cons (.refl _) .nil))))

theorem cf_spec_MailFor (xs : List Mail) (hn : xs.length ≤ 1048576) (c : Int) (hA : GoodFor xs c) : ACalls Try.prog 34 [.sl (xs.map eMail), .int .i64 c] [] (Ret (.tup [.sl ((forL xs c).map eInt), .bool true])) :=
  (cy_spec_MailFor xs hn c hA).freeze (by rintro _ _ ⟨b, rfl, rfl⟩; exact (.tup (.cons (.own (by repeat (first | exact List.Mem.head _ | apply List.Mem.tail)) (List.length_map _)) (.cons (.refl _) .nil))))

theorem cf_impl_MailFor (xs : List Mail) (hn : xs.length ≤ 1048576) (c : Int) (hA : GoodFor xs c) : ACalls Try.prog 23 [.sl (xs.map eMail), .int .i64 c] [] (Ret (.tup [.sl ((forL xs c).map eInt), .bool true])) :=
  (cy_impl_MailFor xs hn c hA).freeze (by rintro _ _ ⟨b, rfl, rfl⟩; exact (.tup (.cons (.own (by repeat (first | exact List.Mem.head _ | apply List.Mem.tail)) (List.length_map _)) (.cons (.refl _) .nil))))

theorem cv_spec_SendMail (xs : List Mail) (hn : xs.length ≤ 1048576) (m : Mail) : ACalls Try.prog 9 [.sl (xs.map eMail), .agg (eMail m)] [] (Ret (.tup [.sl ((pickM (GoodSend xs m) (sendOne xs m)).map eMail), .bool (decide (GoodSend xs m))])) := by
  by_cases hA : GoodSend xs m
  · rw [pickM_y hA, decide_eq_true hA]
    exact cy_spec_SendMail xs hn m hA
  · rw [pickM_n hA, decide_eq_false hA]
    exact (cn_spec_SendMail xs hn m hA).freeze (by rintro _ _ ⟨rfl, rfl⟩; first | exact (.tup (.cons .nil (.cons (.refl _) .nil))) | exact (.tup (.cons (.refl _) (.cons (.refl _) .nil))))

theorem cv_impl_SendMail (xs : List Mail) (hn : xs.length ≤ 1048576) (m : Mail) : ACalls Try.prog 8 [.sl (xs.map eMail), .agg (eMail m)] [] (Ret (.tup [.sl ((pickM (GoodSend xs m) (sendOne xs m)).map eMail), .bool (decide (GoodSend xs m))])) := by
  by_cases hA : GoodSend xs m
  · rw [pickM_y hA, decide_eq_true hA]
    exact cf_impl_SendMail xs hn m hA
  · rw [pickM_n hA, decide_eq_false hA]
    exact (cn_impl_SendMail xs hn m hA).freeze (by rintro _ _ ⟨rfl, rfl⟩; first | exact (.tup (.cons .nil (.cons (.refl _) .nil))) | exact (.tup (.cons (.refl _) (.cons (.refl _) .nil))))

theorem cv_spec_TakeMail (xs : List Mail) (hn : xs.length ≤ 1048576) (c : Int) : ACalls Try.prog 16 [.sl (xs.map eMail), .int .i64 c] [] (Ret (.tup [.sl ((pickM (GoodTake xs c) (takeL xs c)).map eMail), .agg (eMail (pick1 (GoodTake xs c) (takeM xs c))), .bool (decide (GoodTake xs c))])) := by
  by_cases hA : GoodTake xs c
  · rw [pickM_y hA, pick1_y hA, decide_eq_true hA]
    exact cy_spec_TakeMail xs hn c hA
  · rw [pickM_n hA, pick1_n hA, decide_eq_false hA]
    exact (cn_spec_TakeMail xs hn c hA).freeze (by rintro _ _ ⟨rfl, rfl⟩; first | exact (.tup (.cons .nil (.cons (.refl _) (.cons (.refl _) .nil)))) | exact (.tup (.cons (.refl _) (.cons (.refl _) (.cons (.refl _) .nil)))))

theorem cv_impl_TakeMail (xs : List Mail) (hn : xs.length ≤ 1048576) (c : Int) : ACalls Try.prog 15 [.sl (xs.map eMail), .int .i64 c] [] (Ret (.tup [.sl ((pickM (GoodTake xs c) (takeL xs c)).map eMail), .agg (eMail (pick1 (GoodTake xs c) (takeM xs c))), .bool (decide (GoodTake xs c))])) := by
  by_cases hA : GoodTake xs c
  · rw [pickM_y hA, pick1_y hA, decide_eq_true hA]
    exact cf_impl_TakeMail xs hn c hA
  · rw [pickM_n hA, pick1_n hA, decide_eq_false hA]
    exact (cn_impl_TakeMail xs hn c hA).freeze (by rintro _ _ ⟨rfl, rfl⟩; first | exact (.tup (.cons .nil (.cons (.refl _) (.cons (.refl _) .nil)))) | exact (.tup (.cons (.refl _) (.cons (.refl _) (.cons (.refl _) .nil)))))

theorem cv_spec_MailFor (xs : List Mail) (hn : xs.length ≤ 1048576) (c : Int) : ACalls Try.prog 34 [.sl (xs.map eMail), .int .i64 c] [] (Ret (.tup [.sl ((pickL (GoodFor xs c) (forL xs c)).map eInt), .bool (decide (GoodFor xs c))])) := by
  by_cases hA : GoodFor xs c
  · rw [pickL_y hA, decide_eq_true hA]
    exact cf_spec_MailFor xs hn c hA
  · rw [pickL_n hA, decide_eq_false hA]
    exact (cn_spec_MailFor xs hn c hA).freeze (by rintro _ _ ⟨rfl, rfl⟩; first | exact (.tup (.cons .nil (.cons (.refl _) .nil))) | exact (.tup (.cons (.refl _) (.cons (.refl _) .nil))))

theorem cv_impl_MailFor (xs : List Mail) (hn : xs.length ≤ 1048576) (c : Int) : ACalls Try.prog 23 [.sl (xs.map eMail), .int .i64 c] [] (Ret (.tup [.sl ((pickL (GoodFor xs c) (forL xs c)).map eInt), .bool (decide (GoodFor xs c))])) := by
  by_cases hA : GoodFor xs c
  · rw [pickL_y hA, decide_eq_true hA]
    exact cf_impl_MailFor xs hn c hA
  · rw [pickL_n hA, decide_eq_false hA]
    exact (cn_impl_MailFor xs hn c hA).freeze (by rintro _ _ ⟨rfl, rfl⟩; first | exact (.tup (.cons .nil (.cons (.refl _) .nil))) | exact (.tup (.cons (.refl _) (.cons (.refl _) .nil))))

theorem cv_spec_SendToOthers (xs : List Mail) (hn : xs.length ≤ 1048576) (f q : Int) : ACalls Try.prog 19 [.sl (xs.map eMail), .int .i64 f, .int .i64 q] [] (Ret (.tup [.sl ((pickM (GoodOth xs f q) (ssTo xs f (oth f) q 4)).map eMail), .bool (decide (GoodOth xs f q))])) := by
  by_cases hA : GoodOth xs f q
  · rw [pickM_y hA, decide_eq_true hA]
    exact cy_spec_SendToOthers xs hn f q hA
  · rw [pickM_n hA, decide_eq_false hA]
    exact (cn_spec_SendToOthers xs hn f q hA).freeze (by rintro _ _ ⟨rfl, rfl⟩; first | exact (.tup (.cons .nil (.cons (.refl _) .nil))) | exact (.tup (.cons (.refl _) (.cons (.refl _) .nil))))

theorem cv_impl_SendToOthers (xs : List Mail) (hn : xs.length ≤ 1048576) (f q : Int) : ACalls Try.prog 18 [.sl (xs.map eMail), .int .i64 f, .int .i64 q] [] (Ret (.tup [.sl ((pickM (GoodOth xs f q) (ssTo xs f (oth f) q 4)).map eMail), .bool (decide (GoodOth xs f q))])) := by
  by_cases hA : GoodOth xs f q
  · rw [pickM_y hA, decide_eq_true hA]
    exact cf_impl_SendToOthers xs hn f q hA
  · rw [pickM_n hA, decide_eq_false hA]
    exact (cn_impl_SendToOthers xs hn f q hA).freeze (by rintro _ _ ⟨rfl, rfl⟩; first | exact (.tup (.cons .nil (.cons (.refl _) .nil))) | exact (.tup (.cons (.refl _) (.cons (.refl _) .nil))))

theorem cv_spec_SendToSet (xs : List Mail) (hn : xs.length ≤ 1048576) (f s q : Int) : ACalls Try.prog 22 [.sl (xs.map eMail), .int .i64 f, .int .i64 s, .int .i64 q] [] (Ret (.tup [.sl ((pickM (GoodSet xs f s q) (ssTo xs f s q 4)).map eMail), .int .i64 (pickI (GoodSet xs f s q) (setCount xs f s q)), .bool (decide (GoodSet xs f s q))])) := by
  by_cases hA : GoodSet xs f s q
  · rw [pickM_y hA, pickI_y hA, decide_eq_true hA]
    exact cy_spec_SendToSet xs hn f s q hA
  · rw [pickM_n hA, pickI_n hA, decide_eq_false hA]
    exact (cn_spec_SendToSet xs hn f s q hA).freeze (by rintro _ _ ⟨rfl, rfl⟩; first | exact (.tup (.cons .nil (.cons (.refl _) (.cons (.refl _) .nil)))) | exact (.tup (.cons (.refl _) (.cons (.refl _) (.cons (.refl _) .nil)))))

theorem cv_impl_SendToSet (xs : List Mail) (hn : xs.length ≤ 1048576) (f s q : Int) : ACalls Try.prog 21 [.sl (xs.map eMail), .int .i64 f, .int .i64 s, .int .i64 q] [] (Ret (.tup [.sl ((pickM (GoodSet xs f s q) (ssTo xs f s q 4)).map eMail), .int .i64 (pickI (GoodSet xs f s q) (setCount xs f s q)), .bool (decide (GoodSet xs f s q))])) := by
  by_cases hA : GoodSet xs f s q
  · rw [pickM_y hA, pickI_y hA, decide_eq_true hA]
    exact cf_impl_SendToSet xs hn f s q hA
  · rw [pickM_n hA, pickI_n hA, decide_eq_false hA]
    exact (cn_impl_SendToSet xs hn f s q hA).freeze (by rintro _ _ ⟨rfl, rfl⟩; first | exact (.tup (.cons .nil (.cons (.refl _) (.cons (.refl _) .nil)))) | exact (.tup (.cons (.refl _) (.cons (.refl _) (.cons (.refl _) .nil)))))

theorem cv_spec_OfflineCpu (xs : List Mail) (hn : xs.length ≤ 1048576) (c : Int) : ACalls Try.prog 32 [.sl (xs.map eMail), .int .i64 c] [] (Ret (.tup [.sl ((pickM (GoodFor xs c) (offL xs c)).map eMail), .int .i64 (pickI (GoodFor xs c) (offCount xs c)), .bool (decide (GoodFor xs c))])) := by
  by_cases hA : GoodFor xs c
  · rw [pickM_y hA, pickI_y hA, decide_eq_true hA]
    exact cy_spec_OfflineCpu xs hn c hA
  · rw [pickM_n hA, pickI_n hA, decide_eq_false hA]
    exact (cn_spec_OfflineCpu xs hn c hA).freeze (by rintro _ _ ⟨rfl, rfl⟩; first | exact (.tup (.cons .nil (.cons (.refl _) (.cons (.refl _) .nil)))) | exact (.tup (.cons (.refl _) (.cons (.refl _) (.cons (.refl _) .nil)))))

theorem cv_impl_OfflineCpu (xs : List Mail) (hn : xs.length ≤ 1048576) (c : Int) : ACalls Try.prog 31 [.sl (xs.map eMail), .int .i64 c] [] (Ret (.tup [.sl ((pickM (GoodFor xs c) (offL xs c)).map eMail), .int .i64 (pickI (GoodFor xs c) (offCount xs c)), .bool (decide (GoodFor xs c))])) := by
  by_cases hA : GoodFor xs c
  · rw [pickM_y hA, pickI_y hA, decide_eq_true hA]
    exact cf_impl_OfflineCpu xs hn c hA
  · rw [pickM_n hA, pickI_n hA, decide_eq_false hA]
    exact (cn_impl_OfflineCpu xs hn c hA).freeze (by rintro _ _ ⟨rfl, rfl⟩; first | exact (.tup (.cons .nil (.cons (.refl _) (.cons (.refl _) .nil)))) | exact (.tup (.cons (.refl _) (.cons (.refl _) (.cons (.refl _) .nil)))))

theorem ct_impl_IsBox (xs : List Mail) (hn : xs.length ≤ 1048576) (hA : IsBox xs) : ACalls Try.prog 13 [.sl (xs.map eMail)] [] (Ret (.bool true)) := by
  have := c_impl_IsBox xs hn
  rwa [decide_eq_true hA] at this

theorem c_laws_rInts (xs : List Int) (hn : xs.length ≤ 1048576) : ACalls Try.prog 35 [.sl (xs.map eInt), .sl (xs.map eInt)] [] (Ret (.bool true)) := by
  refine a_enter Try.func35 rfl rfl (fun w0 M0 => ?_)
  refine a_seq ?_
  refine a_region ?_
  refine aops_cons rfl (w_pure rfl (p_assign rfl) ?_)
  refine aops_nil ?_
  refine a_seq ?_
  refine a_seq ?_
  refine a_region ?_
  refine aops_cons rfl (w_pure rfl (p_move rfl) ?_)
  refine aops_cons rfl (w_pure rfl (p_len sl_45 rfl rfl) ?_)
  refine aops_cons rfl (w_pure rfl (p_move rfl) ?_)
  refine aops_cons rfl (w_pure rfl (p_len sl_45 rfl rfl) ?_)
  refine aops_cons rfl (w_pure rfl (p_neq_same rfl rfl) ?_)
  refine aops_nil ?_
  refine a_cond_f rfl ?_
  refine a_skip ?_
  refine a_seq ?_
  refine a_seq ?_
  refine a_region ?_
  refine aops_cons rfl (w_pure rfl (p_assign rfl) ?_)
  refine aops_nil ?_
  refine a_block ?_
  refine a_loop (ι := Nat) (fun i => i ≤ xs.length) (fun i => [(5, .int .i64 (i : Int))]) (fun i => []) (fun i => xs.length - i) 0 (Nat.zero_le _) (by repeat (first | exact Knows.nil | refine Knows.cons (by rfl) ?_)) (by repeat (first | exact Picks.nil _ | exact Pick.here _ _ _ | apply Pick.next | apply Picks.cons)) ?_
  rintro i hi
  skip
  refine a_seq ?_
  refine a_seq ?_
  refine a_region ?_
  refine aops_cons rfl (w_pure rfl (p_move rfl) ?_)
  refine aops_cons rfl (w_pure rfl (p_move rfl) ?_)
  refine aops_cons rfl (w_pure rfl (p_len sl_45 rfl rfl) ?_)
  refine aops_cons rfl (w_pure rfl (p_lss rfl rfl) ?_)
  refine aops_nil ?_
  first | refine a_cond_d rfl (fun h1 => ?_) (fun h2 => ?_) | refine a_cond_n rfl (fun h1 => ?_) (fun h2 => ?_) | refine a_cond_nb rfl (fun h1 => ?_) (fun h2 => ?_) | refine a_cond rfl (fun h1 => ?_) (fun h2 => ?_)
  · (try simp only [Bool.not_eq_true', Bool.not_eq_false', Bool.not_eq_true, Bool.not_eq_false, decide_eq_true_eq, decide_eq_false_iff_not, List.length_map, List.length_range] at h1)
    refine a_skip ?_
    refine a_seq ?_
    refine a_block ?_
    refine a_seq ?_
    refine a_draw [] (by kernel_rfl) ?_
    show ADraw _ _ _ _ _ _ 9 _ _ _ _
    refine d_take 0 rfl (by kernel_rfl) (by kernel_rfl) (by kernel_rfl) rfl (p_move rfl) ?_
    refine d_take 1 rfl (by kernel_rfl) (by kernel_rfl) (by kernel_rfl) rfl (p_move rfl) ?_
    refine d_take 2 rfl (by kernel_rfl) (by kernel_rfl) (by kernel_rfl) rfl (p_index_sl _ rfl rfl rfl (rowD _ _ (0 : Int) (by omega)) es_45) ?_
    refine d_load 3 rfl (by kernel_rfl) (by kernel_rfl) (by kernel_rfl) rfl (p_load_v ag_3 rfl (by rfl) noX) ?_
    refine d_take 4 rfl (by kernel_rfl) (by kernel_rfl) (by kernel_rfl) rfl (p_move rfl) ?_
    refine d_take 5 rfl (by kernel_rfl) (by kernel_rfl) (by kernel_rfl) rfl (p_move rfl) ?_
    refine d_take 6 rfl (by kernel_rfl) (by kernel_rfl) (by kernel_rfl) rfl (p_index_sl _ rfl rfl rfl (rowD _ _ (0 : Int) (by omega)) es_45) ?_
    refine d_load 7 rfl (by kernel_rfl) (by kernel_rfl) (by kernel_rfl) rfl (p_load_v ag_3 rfl (by rfl) noX) ?_
    refine d_take 8 rfl (by kernel_rfl) (by kernel_rfl) (by kernel_rfl) rfl (p_neq_same rfl rfl) ?_
    refine draw_done (by kernel_rfl) ?_
    refine a_cond_f rfl ?_
    refine a_skip ?_
    refine a_region ?_
    refine aops_cons rfl (w_pure rfl (p_move rfl) ?_)
    refine aops_cons rfl (w_pure rfl (p_add' rfl rfl ⟨by omega, by omega⟩) ?_)
    refine aops_cons rfl (w_pure rfl (p_assign rfl) ?_)
    refine aops_nil ?_
    refine ⟨(i + 1), _, ?_, ?_, (by repeat (first | exact Knows.nil | refine Knows.cons (by rfl) ?_)), (by repeat (first | exact Back.refl _ _ | refine Back.cons (by rfl) ?_)), (by repeat (first | exact Picks.nil _ | exact Pick.here _ _ _ | apply Pick.next | apply Picks.cons))⟩
    · omega
    · (try dsimp only); omega
  · (try simp only [Bool.not_eq_true', Bool.not_eq_false', Bool.not_eq_true, Bool.not_eq_false, decide_eq_true_eq, decide_eq_false_iff_not, List.length_map, List.length_range] at h2)
    refine a_exit ?_
    refine a_seq ?_
    refine a_region ?_
    refine aops_cons rfl (w_pure rfl (p_assign rfl) ?_)
    refine aops_nil ?_
    refine a_ret ?_
    refine ret_ok (hands1 rfl (.tmp rfl)) (.nil _) ?_
    first | exact ⟨rfl, rfl⟩ | (exfalso; omega)

theorem c_laws_rMails (xs : List Mail) (hn : xs.length ≤ 1048576) : ACalls Try.prog 10 [.sl (xs.map eMail), .sl (xs.map eMail)] [] (Ret (.bool true)) := by
  refine a_enter Try.func10 rfl rfl (fun w0 M0 => ?_)
  refine a_seq ?_
  refine a_region ?_
  refine aops_cons rfl (w_pure rfl (p_assign rfl) ?_)
  refine aops_nil ?_
  refine a_seq ?_
  refine a_seq ?_
  refine a_region ?_
  refine aops_cons rfl (w_pure rfl (p_move rfl) ?_)
  refine aops_cons rfl (w_pure rfl (p_len sl_24 rfl rfl) ?_)
  refine aops_cons rfl (w_pure rfl (p_move rfl) ?_)
  refine aops_cons rfl (w_pure rfl (p_len sl_24 rfl rfl) ?_)
  refine aops_cons rfl (w_pure rfl (p_neq_same rfl rfl) ?_)
  refine aops_nil ?_
  refine a_cond_f rfl ?_
  refine a_skip ?_
  refine a_seq ?_
  refine a_seq ?_
  refine a_region ?_
  refine aops_cons rfl (w_pure rfl (p_assign rfl) ?_)
  refine aops_nil ?_
  refine a_block ?_
  refine a_loop (ι := Nat) (fun i => i ≤ xs.length) (fun i => [(5, .int .i64 (i : Int))]) (fun i => []) (fun i => xs.length - i) 0 (Nat.zero_le _) (by repeat (first | exact Knows.nil | refine Knows.cons (by rfl) ?_)) (by repeat (first | exact Picks.nil _ | exact Pick.here _ _ _ | apply Pick.next | apply Picks.cons)) ?_
  rintro i hi
  skip
  refine a_seq ?_
  refine a_seq ?_
  refine a_region ?_
  refine aops_cons rfl (w_pure rfl (p_move rfl) ?_)
  refine aops_cons rfl (w_pure rfl (p_move rfl) ?_)
  refine aops_cons rfl (w_pure rfl (p_len sl_24 rfl rfl) ?_)
  refine aops_cons rfl (w_pure rfl (p_lss rfl rfl) ?_)
  refine aops_nil ?_
  first | refine a_cond_d rfl (fun h1 => ?_) (fun h2 => ?_) | refine a_cond_n rfl (fun h1 => ?_) (fun h2 => ?_) | refine a_cond_nb rfl (fun h1 => ?_) (fun h2 => ?_) | refine a_cond rfl (fun h1 => ?_) (fun h2 => ?_)
  · (try simp only [Bool.not_eq_true', Bool.not_eq_false', Bool.not_eq_true, Bool.not_eq_false, decide_eq_true_eq, decide_eq_false_iff_not, List.length_map, List.length_range] at h1)
    refine a_skip ?_
    refine a_seq ?_
    refine a_block ?_
    refine a_seq ?_
    refine a_draw [] (by kernel_rfl) ?_
    show ADraw _ _ _ _ _ _ 9 _ _ _ _
    refine d_take 0 rfl (by kernel_rfl) (by kernel_rfl) (by kernel_rfl) rfl (p_move rfl) ?_
    refine d_take 1 rfl (by kernel_rfl) (by kernel_rfl) (by kernel_rfl) rfl (p_move rfl) ?_
    refine d_take 2 rfl (by kernel_rfl) (by kernel_rfl) (by kernel_rfl) rfl (p_index_sl _ rfl rfl rfl (rowD _ _ zMail (by omega)) es_24) ?_
    refine d_load 3 rfl (by kernel_rfl) (by kernel_rfl) (by kernel_rfl) rfl (p_load_v_all ag_26 rfl (by rfl) noX) ?_
    refine d_take 4 rfl (by kernel_rfl) (by kernel_rfl) (by kernel_rfl) rfl (p_move rfl) ?_
    refine d_take 5 rfl (by kernel_rfl) (by kernel_rfl) (by kernel_rfl) rfl (p_move rfl) ?_
    refine d_take 6 rfl (by kernel_rfl) (by kernel_rfl) (by kernel_rfl) rfl (p_index_sl _ rfl rfl rfl (rowD _ _ zMail (by omega)) es_24) ?_
    refine d_load 7 rfl (by kernel_rfl) (by kernel_rfl) (by kernel_rfl) rfl (p_load_v_all ag_26 rfl (by rfl) noX) ?_
    refine d_take 8 rfl (by kernel_rfl) (by kernel_rfl) (by kernel_rfl) rfl (p_neq_s eqs_26 rfl rfl (eqC_mail' rfl)) ?_
    refine draw_done (by kernel_rfl) ?_
    refine a_cond_f rfl ?_
    refine a_skip ?_
    refine a_region ?_
    refine aops_cons rfl (w_pure rfl (p_move rfl) ?_)
    refine aops_cons rfl (w_pure rfl (p_add' rfl rfl ⟨by omega, by omega⟩) ?_)
    refine aops_cons rfl (w_pure rfl (p_assign rfl) ?_)
    refine aops_nil ?_
    refine ⟨(i + 1), _, ?_, ?_, (by repeat (first | exact Knows.nil | refine Knows.cons (by rfl) ?_)), (by repeat (first | exact Back.refl _ _ | refine Back.cons (by rfl) ?_)), (by repeat (first | exact Picks.nil _ | exact Pick.here _ _ _ | apply Pick.next | apply Picks.cons))⟩
    · omega
    · (try dsimp only); omega
  · (try simp only [Bool.not_eq_true', Bool.not_eq_false', Bool.not_eq_true, Bool.not_eq_false, decide_eq_true_eq, decide_eq_false_iff_not, List.length_map, List.length_range] at h2)
    refine a_exit ?_
    refine a_seq ?_
    refine a_region ?_
    refine aops_cons rfl (w_pure rfl (p_assign rfl) ?_)
    refine aops_nil ?_
    refine a_ret ?_
    refine ret_ok (hands1 rfl (.tmp rfl)) (.nil _) ?_
    first | exact ⟨rfl, rfl⟩ | (exfalso; omega)

theorem ce_laws_rMails (xs ys : List Mail) (hn : ys.length ≤ 1048576) (h : xs = ys) : ACalls Try.prog 10 [.sl (xs.map eMail), .sl (ys.map eMail)] [] (Ret (.bool true)) := by
  subst h
  exact c_laws_rMails xs hn

theorem c_laws_rBig (bs : List Int) (hn : bs.length ≤ 9223372036854775807) : ACalls Try.prog 6 [.sl (bs.map eByte)] [] (Ret (.bool (decide (65536 < bs.length)))) := by
  refine a_enter Try.func6 rfl rfl (fun w0 M0 => ?_)
  refine a_seq ?_
  refine a_region ?_
  refine aops_cons rfl (w_pure rfl (p_assign rfl) ?_)
  refine aops_nil ?_
  refine a_seq ?_
  refine a_region ?_
  refine aops_cons rfl (w_pure rfl (p_move rfl) ?_)
  refine aops_cons rfl (w_pure rfl (p_len sl_22 rfl rfl) ?_)
  refine aops_cons rfl (w_pure rfl (p_gtr rfl rfl) ?_)
  refine aops_cons rfl (w_pure rfl (p_assign rfl) ?_)
  refine aops_nil ?_
  refine a_ret ?_
  refine ret_ok (hands1 rfl (.tmp rfl)) (.nil _) ?_
  refine ret_dec ?_; simp only [List.length_map]; omega

set_option maxHeartbeats 4000000 in
theorem c_laws_FnMail (bs : List Int) (_hc : (∀ x ∈ bs, 0 ≤ x ∧ x ≤ 255) ∧ bs.length ≤ maxLen) : ACalls Try.prog 3 [.sl (bs.map eByte)] [] (Ret (.bool true)) := by
  have hm : bs.length ≤ 9223372036854775807 := _hc.2
  refine a_enter Try.func3 rfl rfl (fun w0 M0 => ?_)
  refine a_seq ?_
  refine a_region ?_
  refine aops_cons rfl (w_pure rfl (p_assign rfl) ?_)
  refine aops_nil ?_
  refine a_seq ?_
  refine a_seq ?_
  refine a_region ?_
  refine aops_cons rfl (w_pure rfl (p_move rfl) ?_)
  refine aops_cons rfl (w_callR rfl rfl rfl cl_6 (c_laws_rBig _ (by omega)) ?_)
  refine aops_nil ?_
  first | refine a_cond_d rfl (fun h1 => ?_) (fun h2 => ?_) | refine a_cond_n rfl (fun h1 => ?_) (fun h2 => ?_) | refine a_cond_nb rfl (fun h1 => ?_) (fun h2 => ?_) | refine a_cond rfl (fun h1 => ?_) (fun h2 => ?_)
  · (try simp only [Bool.not_eq_true', Bool.not_eq_false', Bool.not_eq_true, Bool.not_eq_false, decide_eq_true_eq, decide_eq_false_iff_not, List.length_map, List.length_range] at h1)
    refine a_seq ?_
    refine a_region ?_
    refine aops_cons rfl (w_pure rfl (p_assign rfl) ?_)
    refine aops_nil ?_
    refine a_ret ?_
    refine ret_ok (hands1 rfl (.tmp rfl)) (.nil _) ?_
    first | exact ⟨rfl, rfl⟩ | (exfalso; omega)
  · (try simp only [Bool.not_eq_true', Bool.not_eq_false', Bool.not_eq_true, Bool.not_eq_false, decide_eq_true_eq, decide_eq_false_iff_not, List.length_map, List.length_range] at h2)
    refine a_skip ?_
    refine a_seq ?_
    have hb : Bytes bs := ⟨by omega, _hc.1⟩
    refine a_region ?_
    refine aops_cons rfl (w_pure rfl (p_move rfl) ?_)
    refine aops_cons rfl (w_call rfl rfl rfl cl_7 (c_spec_DrawSendMail bs hb) ?_)
    rintro _ _ ⟨⟨xs1, v1, rfl, hx1⟩, rfl⟩
    skip
    refine aops_cons rfl (w_pure rfl (p_move rfl) ?_)
    refine aops_cons rfl (w_pure rfl (p_extract rfl rfl) ?_)
    refine aops_cons rfl (w_pure rfl (p_extract rfl rfl) ?_)
    refine aops_cons rfl (w_alloc rfl z_26 fun b1 => ?_)
    refine aops_cons rfl (w_pure rfl (p_assign rfl) ?_)
    refine aops_cons rfl (w_store (cells' := [_, _, _]) rfl rfl rfl (by repeat (first | exact Pick.here _ _ _ | apply Pick.next)) cn_26 (by rfl) (by rfl) (by rfl) trivial ?_)
    refine aops_nil ?_
    refine a_seq ?_
    refine a_region ?_
    refine aops_cons rfl (w_pure rfl (p_move rfl) ?_)
    refine aops_cons rfl (w_pure rfl (p_load_box_all ag_26 rfl (by repeat (first | exact Pick.here _ _ _ | apply Pick.next)) (by rfl) noX) ?_)
    refine aops_cons rfl (w_callR rfl rfl rfl cl_8 (cv_impl_SendMail xs1 (by omega) v1) ?_)
    refine aops_cons rfl (w_pure rfl (p_move rfl) ?_)
    refine aops_cons rfl (w_pure rfl (p_extract rfl rfl) ?_)
    refine aops_cons rfl (w_pure rfl (p_extract rfl rfl) ?_)
    refine aops_cons rfl (w_pure rfl (p_assign rfl) ?_)
    refine aops_cons rfl (w_pure rfl (p_assign rfl) ?_)
    refine aops_nil ?_
    refine a_seq ?_
    refine a_seq ?_
    refine a_region ?_
    refine aops_cons rfl (w_pure rfl (p_move rfl) ?_)
    refine aops_cons rfl (w_pure rfl (p_load_box_all ag_26 rfl (by repeat (first | exact Pick.here _ _ _ | apply Pick.next)) (by rfl) noX) ?_)
    refine aops_cons rfl (w_callR rfl rfl rfl cl_9 (cv_spec_SendMail xs1 (by omega) v1) ?_)
    refine aops_cons rfl (w_pure rfl (p_move rfl) ?_)
    refine aops_cons rfl (w_pure rfl (p_extract rfl rfl) ?_)
    refine aops_cons rfl (w_pure rfl (p_extract rfl rfl) ?_)
    refine aops_cons rfl (w_pure rfl (p_assign rfl) ?_)
    refine aops_cons rfl (w_pure rfl (p_assign rfl) ?_)
    refine aops_nil ?_
    refine a_seq ?_
    refine a_draw [] (by kernel_rfl) ?_
    show ADraw _ _ _ _ _ _ 16 _ _ _ _
    refine d_take 0 rfl (by kernel_rfl) (by kernel_rfl) (by kernel_rfl) rfl (p_move rfl) ?_
    refine d_take 1 rfl (by kernel_rfl) (by kernel_rfl) (by kernel_rfl) rfl (p_move rfl) ?_
    refine d_take 2 rfl (by kernel_rfl) (by kernel_rfl) (by kernel_rfl) rfl (p_neq_bsame um_4 rfl rfl) ?_
    refine d_take 3 rfl (by kernel_rfl) (by kernel_rfl) (by kernel_rfl) rfl (p_move rfl) ?_
    refine d_take_t 4 rfl (by kernel_rfl) (by kernel_rfl) (by kernel_rfl) rfl rfl rfl (p_move rfl) ?_
    refine d_take_t 5 rfl (by kernel_rfl) (by kernel_rfl) (by kernel_rfl) rfl rfl rfl (p_move rfl) ?_
    refine draw_all [6] (by kernel_rfl) (by simp) ?_
    refine all_cons_t rfl rfl rfl rfl ?_ ?_
    · skip
      refine w_callR rfl rfl rfl cl_10 (c_laws_rMails (pickM (GoodSend xs1 v1) (sendOne xs1 v1)) (pickM_small (fun h => small_send h))) ?_
      refine d_take_t 7 rfl (by kernel_rfl) (by kernel_rfl) (by kernel_rfl) rfl rfl rfl (p_not rfl) ?_
      refine d_take 8 rfl (by kernel_rfl) (by kernel_rfl) (by kernel_rfl) rfl (p_pick_f rfl rfl) ?_
      refine d_take 9 rfl (by kernel_rfl) (by kernel_rfl) (by kernel_rfl) rfl (p_move rfl) ?_
      refine draw_all [10, 12] (by kernel_rfl) (by simp) ?_
      refine all_cons_t rfl rfl rfl rfl ?_ ?_
      · skip
        refine w_pure rfl (p_load_box_all ag_26 rfl (by repeat (first | exact Pick.here _ _ _ | apply Pick.next)) (by rfl) noX) ?_
        refine draw_all [11, 12] (by kernel_rfl) (by simp) ?_
        refine all_cons_t rfl rfl rfl rfl ?_ ?_
        · skip
          refine w_callR rfl rfl rfl cl_11 (c_impl_IsMail v1) ?_
          refine draw_all [12] (by kernel_rfl) (by simp) ?_
          refine all_cons_t rfl rfl rfl rfl ?_ ?_
          · skip
            refine w_pure rfl (p_load_box_all ag_26 rfl (by repeat (first | exact Pick.here _ _ _ | apply Pick.next)) (by rfl) noX) ?_
            refine draw_all [13] (by kernel_rfl) (by simp) ?_
            refine all_cons_t rfl rfl rfl rfl ?_ ?_
            · skip
              refine w_callR rfl rfl rfl cl_12 (c_spec_IsMail v1) ?_
              refine d_take_t 14 rfl (by kernel_rfl) (by kernel_rfl) (by kernel_rfl) rfl rfl rfl (p_neq_bsame um_4 rfl rfl) ?_
              refine d_take 15 rfl (by kernel_rfl) (by kernel_rfl) (by kernel_rfl) rfl (p_pick_f rfl rfl) ?_
              refine draw_done (by kernel_rfl) ?_
              refine a_cond_f rfl ?_
              refine a_skip ?_
              refine a_seq_join (ι := Unit) (fun _ => True) (fun _ => []) (fun _ => []) (old := []) (by repeat (first | exact Picks.nil _ | exact Pick.here _ _ _ | apply Pick.next | apply Picks.cons)) ?_ ?_
              · skip
                refine a_seq ?_
                refine a_region ?_
                refine aops_cons rfl (w_pure rfl (p_move rfl) ?_)
                refine aops_nil ?_
                first | refine a_cond_d rfl (fun h3 => ?_) (fun h4 => ?_) | refine a_cond_n rfl (fun h3 => ?_) (fun h4 => ?_) | refine a_cond_nb rfl (fun h3 => ?_) (fun h4 => ?_) | refine a_cond rfl (fun h3 => ?_) (fun h4 => ?_)
                · (try simp only [Bool.not_eq_true', Bool.not_eq_false', Bool.not_eq_true, Bool.not_eq_false, decide_eq_true_eq, decide_eq_false_iff_not, List.length_map, List.length_range] at h3)
                  refine a_seq ?_
                  have hk : GoodSend xs1 v1 := (by assumption)
                  rw [pickM_y hk]
                  refine a_region ?_
                  refine aops_cons rfl (w_pure rfl (p_move rfl) ?_)
                  refine aops_cons rfl (w_pure rfl (p_load_box_all ag_26 rfl (by repeat (first | exact Pick.here _ _ _ | apply Pick.next)) (by rfl) noX) ?_)
                  refine aops_cons rfl (w_callR rfl rfl rfl cl_8 (cf_impl_SendMail (sendOne xs1 v1) (small_send hk) v1 (send_again hk).2.1) ?_)
                  refine aops_cons rfl (w_pure rfl (p_move rfl) ?_)
                  refine aops_cons rfl (w_pure rfl (p_extract rfl rfl) ?_)
                  refine aops_cons rfl (w_pure rfl (p_extract rfl rfl) ?_)
                  refine aops_cons rfl (w_pure rfl (p_assign rfl) ?_)
                  refine aops_cons rfl (w_pure rfl (p_assign rfl) ?_)
                  refine aops_nil ?_
                  refine a_seq ?_
                  refine a_region ?_
                  refine aops_cons rfl (w_pure rfl (p_move rfl) ?_)
                  refine aops_cons rfl (w_pure rfl (p_not rfl) ?_)
                  refine aops_cons rfl (w_pure rfl (p_move rfl) ?_)
                  refine aops_guard_t rfl rfl rfl (w_pure rfl (p_move rfl) ?_)
                  refine aops_guard_t rfl rfl rfl (w_pure rfl (p_move rfl) ?_)
                  refine aops_guard_t rfl rfl rfl (w_callR rfl rfl rfl cl_10 (ce_laws_rMails (sendOne (sendOne xs1 v1) v1) (sendOne xs1 v1) (small_send hk) (send_again hk).1) ?_)
                  refine aops_guard_t rfl rfl rfl (w_pure rfl (p_not rfl) ?_)
                  refine aops_cons rfl (w_pure rfl (p_pick_f rfl rfl) ?_)
                  refine aops_cons rfl (w_pure rfl (p_move rfl) ?_)
                  refine aops_guard_t rfl rfl rfl (w_pure rfl (p_move rfl) ?_)
                  refine aops_guard_t rfl rfl rfl (w_callR rfl rfl rfl cl_13 (ct_impl_IsBox (sendOne xs1 v1) (small_send hk) (send_again hk).2.2) ?_)
                  refine aops_guard_t rfl rfl rfl (w_pure rfl (p_not rfl) ?_)
                  refine aops_cons rfl (w_pure rfl (p_pick_f rfl rfl) ?_)
                  refine aops_nil ?_
                  refine a_cond_f rfl ?_
                  refine a_skip ?_
                  exact ⟨(), _, trivial, (by repeat (first | exact Knows.nil | refine Knows.cons (by rfl) ?_)), (by repeat (first | exact Back.refl _ _ | refine Back.cons (by rfl) ?_)), (by repeat (first | exact Picks.nil _ | exact Pick.here _ _ _ | apply Pick.next | apply Picks.cons))⟩
                · (try simp only [Bool.not_eq_true', Bool.not_eq_false', Bool.not_eq_true, Bool.not_eq_false, decide_eq_true_eq, decide_eq_false_iff_not, List.length_map, List.length_range] at h4)
                  refine a_skip ?_
                  exact ⟨(), _, trivial, (by repeat (first | exact Knows.nil | refine Knows.cons (by rfl) ?_)), (by repeat (first | exact Back.refl _ _ | refine Back.cons (by rfl) ?_)), (by repeat (first | exact Picks.nil _ | exact Pick.here _ _ _ | apply Pick.next | apply Picks.cons))⟩
              · rintro _ -
                refine a_seq ?_
                refine a_region ?_
                refine aops_cons rfl (w_pure rfl (p_move rfl) ?_)
                refine aops_cons rfl (w_call rfl rfl rfl cl_14 (c_spec_DrawTakeMail bs hb) ?_)
                rintro _ _ ⟨⟨xs2, m2, rfl, hx2⟩, rfl⟩
                skip
                refine aops_cons rfl (w_pure rfl (p_move rfl) ?_)
                refine aops_cons rfl (w_pure rfl (p_extract rfl rfl) ?_)
                refine aops_cons rfl (w_pure rfl (p_extract rfl rfl) ?_)
                refine aops_cons rfl (w_pure rfl (p_assign rfl) ?_)
                refine aops_cons rfl (w_pure rfl (p_assign rfl) ?_)
                refine aops_nil ?_
                refine a_seq ?_
                refine a_region ?_
                refine aops_cons rfl (w_pure rfl (p_move rfl) ?_)
                refine aops_cons rfl (w_pure rfl (p_move rfl) ?_)
                refine aops_cons rfl (w_callR rfl rfl rfl cl_15 (cv_impl_TakeMail xs2 (by omega) m2) ?_)
                refine aops_cons rfl (w_pure rfl (p_move rfl) ?_)
                refine aops_cons rfl (w_pure rfl (p_extract rfl rfl) ?_)
                refine aops_cons rfl (w_pure rfl (p_extract rfl rfl) ?_)
                refine aops_cons rfl (w_pure rfl (p_extract rfl rfl) ?_)
                refine aops_cons rfl (w_alloc rfl z_26 fun b2 => ?_)
                refine aops_cons rfl (w_pure rfl (p_assign rfl) ?_)
                refine aops_cons rfl (w_store (cells' := [_, _, _]) rfl rfl rfl (by repeat (first | exact Pick.here _ _ _ | apply Pick.next)) cn_26 (by rfl) (by rfl) (by rfl) trivial ?_)
                refine aops_cons rfl (w_pure rfl (p_assign rfl) ?_)
                refine aops_nil ?_
                refine a_seq ?_
                refine a_seq ?_
                refine a_region ?_
                refine aops_cons rfl (w_pure rfl (p_move rfl) ?_)
                refine aops_cons rfl (w_pure rfl (p_move rfl) ?_)
                refine aops_cons rfl (w_callR rfl rfl rfl cl_16 (cv_spec_TakeMail xs2 (by omega) m2) ?_)
                refine aops_cons rfl (w_pure rfl (p_move rfl) ?_)
                refine aops_cons rfl (w_pure rfl (p_extract rfl rfl) ?_)
                refine aops_cons rfl (w_pure rfl (p_extract rfl rfl) ?_)
                refine aops_cons rfl (w_pure rfl (p_extract rfl rfl) ?_)
                refine aops_cons rfl (w_alloc rfl z_26 fun b3 => ?_)
                refine aops_cons rfl (w_pure rfl (p_assign rfl) ?_)
                refine aops_cons rfl (w_store (cells' := [_, _, _]) rfl rfl rfl (by repeat (first | exact Pick.here _ _ _ | apply Pick.next)) cn_26 (by rfl) (by rfl) (by rfl) trivial ?_)
                refine aops_cons rfl (w_pure rfl (p_assign rfl) ?_)
                refine aops_nil ?_
                refine a_seq ?_
                refine a_region ?_
                refine aops_cons rfl (w_pure rfl (p_move rfl) ?_)
                refine aops_cons rfl (w_pure rfl (p_move rfl) ?_)
                refine aops_cons rfl (w_pure rfl (p_neq_bsame um_4 rfl rfl) ?_)
                refine aops_cons rfl (w_pure rfl (p_move rfl) ?_)
                refine aops_guard_t rfl rfl rfl (w_pure rfl (p_load_box_all ag_26 rfl (by repeat (first | exact Pick.here _ _ _ | apply Pick.next)) (by rfl) noX) ?_)
                refine aops_guard_t rfl rfl rfl (w_pure rfl (p_load_box_all ag_26 rfl (by repeat (first | exact Pick.here _ _ _ | apply Pick.next)) (by rfl) noX) ?_)
                refine aops_guard_t rfl rfl rfl (w_pure rfl (p_neq_s eqs_26 rfl rfl (eqC_mail' rfl)) ?_)
                refine aops_cons rfl (w_pure rfl (p_pick_f rfl rfl) ?_)
                refine aops_cons rfl (w_pure rfl (p_move rfl) ?_)
                refine aops_guard_t rfl rfl rfl (w_pure rfl (p_move rfl) ?_)
                refine aops_guard_t rfl rfl rfl (w_pure rfl (p_move rfl) ?_)
                refine aops_guard_t rfl rfl rfl (w_callR rfl rfl rfl cl_10 (c_laws_rMails (pickM (GoodTake xs2 m2) (takeL xs2 m2)) (pickM_small (fun h => by have := takeL_len xs2 m2; omega))) ?_)
                refine aops_guard_t rfl rfl rfl (w_pure rfl (p_not rfl) ?_)
                refine aops_cons rfl (w_pure rfl (p_pick_f rfl rfl) ?_)
                refine aops_nil ?_
                refine a_cond_f rfl ?_
                refine a_skip ?_
                refine a_seq_join (ι := Unit) (fun _ => True) (fun _ => []) (fun _ => []) (old := []) (by repeat (first | exact Picks.nil _ | exact Pick.here _ _ _ | apply Pick.next | apply Picks.cons)) ?_ ?_
                · skip
                  refine a_seq ?_
                  refine a_region ?_
                  refine aops_cons rfl (w_pure rfl (p_move rfl) ?_)
                  refine aops_nil ?_
                  first | refine a_cond_d rfl (fun h5 => ?_) (fun h6 => ?_) | refine a_cond_n rfl (fun h5 => ?_) (fun h6 => ?_) | refine a_cond_nb rfl (fun h5 => ?_) (fun h6 => ?_) | refine a_cond rfl (fun h5 => ?_) (fun h6 => ?_)
                  · (try simp only [Bool.not_eq_true', Bool.not_eq_false', Bool.not_eq_true, Bool.not_eq_false, decide_eq_true_eq, decide_eq_false_iff_not, List.length_map, List.length_range] at h5)
                    refine a_seq ?_
                    have hk : GoodTake xs2 m2 := (by assumption)
                    rw [pickM_y hk, pick1_y hk]
                    refine a_region ?_
                    refine aops_cons rfl (w_pure rfl (p_move rfl) ?_)
                    refine aops_cons rfl (w_pure rfl (p_load_box_all ag_26 rfl (by repeat (first | exact Pick.here _ _ _ | apply Pick.next)) (by rfl) noX) ?_)
                    refine aops_cons rfl (w_callR rfl rfl rfl cl_8 (cf_impl_SendMail (takeL xs2 m2) (by have := takeL_len xs2 m2; omega) (takeM xs2 m2) (take_back hk).1) ?_)
                    refine aops_cons rfl (w_pure rfl (p_move rfl) ?_)
                    refine aops_cons rfl (w_pure rfl (p_extract rfl rfl) ?_)
                    refine aops_cons rfl (w_pure rfl (p_extract rfl rfl) ?_)
                    refine aops_cons rfl (w_pure rfl (p_assign rfl) ?_)
                    refine aops_cons rfl (w_pure rfl (p_assign rfl) ?_)
                    refine aops_nil ?_
                    refine a_seq ?_
                    refine a_region ?_
                    refine aops_cons rfl (w_pure rfl (p_move rfl) ?_)
                    refine aops_cons rfl (w_pure rfl (p_not rfl) ?_)
                    refine aops_cons rfl (w_pure rfl (p_move rfl) ?_)
                    refine aops_guard_t rfl rfl rfl (w_pure rfl (p_move rfl) ?_)
                    refine aops_guard_t rfl rfl rfl (w_pure rfl (p_len sl_24 rfl rfl) ?_)
                    refine aops_guard_t rfl rfl rfl (w_pure rfl (p_move rfl) ?_)
                    refine aops_guard_t rfl rfl rfl (w_pure rfl (p_len sl_24 rfl rfl) ?_)
                    refine aops_guard_t rfl rfl rfl (w_pure rfl (p_neqF rfl rfl (by simp only [List.length_map]; rw [(take_back hk).2])) ?_)
                    refine aops_cons rfl (w_pure rfl (p_pick_f rfl rfl) ?_)
                    refine aops_cons rfl (w_pure rfl (p_move rfl) ?_)
                    refine aops_guard_t rfl rfl rfl (w_pure rfl (p_field_box fo_26_1 rfl) ?_)
                    refine aops_guard_t rfl rfl rfl (w_pure rfl (p_load_box ag_3 rfl (by repeat (first | exact Pick.here _ _ _ | apply Pick.next)) (by rfl) noX) ?_)
                    refine aops_guard_t rfl rfl rfl (w_pure rfl (p_move rfl) ?_)
                    refine aops_guard_t rfl rfl rfl (w_pure rfl (p_neqF rfl rfl (take_dst hk)) ?_)
                    refine aops_cons rfl (w_pure rfl (p_pick_f rfl rfl) ?_)
                    refine aops_nil ?_
                    refine a_cond_f rfl ?_
                    refine a_skip ?_
                    exact ⟨(), _, trivial, (by repeat (first | exact Knows.nil | refine Knows.cons (by rfl) ?_)), (by repeat (first | exact Back.refl _ _ | refine Back.cons (by rfl) ?_)), (by repeat (first | exact Picks.nil _ | exact Pick.here _ _ _ | apply Pick.next | apply Picks.cons))⟩
                  · (try simp only [Bool.not_eq_true', Bool.not_eq_false', Bool.not_eq_true, Bool.not_eq_false, decide_eq_true_eq, decide_eq_false_iff_not, List.length_map, List.length_range] at h6)
                    refine a_skip ?_
                    exact ⟨(), _, trivial, (by repeat (first | exact Knows.nil | refine Knows.cons (by rfl) ?_)), (by repeat (first | exact Back.refl _ _ | refine Back.cons (by rfl) ?_)), (by repeat (first | exact Picks.nil _ | exact Pick.here _ _ _ | apply Pick.next | apply Picks.cons))⟩
                · rintro _ -
                  refine a_seq ?_
                  refine a_region ?_
                  refine aops_cons rfl (w_pure rfl (p_move rfl) ?_)
                  refine aops_cons rfl (w_call rfl rfl rfl cl_17 (c_spec_DrawSendToOthers bs hb) ?_)
                  rintro _ _ ⟨⟨xs3, f3, q3, rfl, hx3⟩, rfl⟩
                  skip
                  refine aops_cons rfl (w_pure rfl (p_move rfl) ?_)
                  refine aops_cons rfl (w_pure rfl (p_extract rfl rfl) ?_)
                  refine aops_cons rfl (w_pure rfl (p_extract rfl rfl) ?_)
                  refine aops_cons rfl (w_pure rfl (p_extract rfl rfl) ?_)
                  refine aops_cons rfl (w_pure rfl (p_assign rfl) ?_)
                  refine aops_cons rfl (w_pure rfl (p_assign rfl) ?_)
                  refine aops_cons rfl (w_pure rfl (p_assign rfl) ?_)
                  refine aops_nil ?_
                  refine a_seq ?_
                  refine a_region ?_
                  refine aops_cons rfl (w_pure rfl (p_move rfl) ?_)
                  refine aops_cons rfl (w_pure rfl (p_move rfl) ?_)
                  refine aops_cons rfl (w_pure rfl (p_move rfl) ?_)
                  refine aops_cons rfl (w_callR rfl rfl rfl cl_18 (cv_impl_SendToOthers xs3 (by omega) f3 q3) ?_)
                  refine aops_cons rfl (w_pure rfl (p_move rfl) ?_)
                  refine aops_cons rfl (w_pure rfl (p_extract rfl rfl) ?_)
                  refine aops_cons rfl (w_pure rfl (p_extract rfl rfl) ?_)
                  refine aops_cons rfl (w_pure rfl (p_assign rfl) ?_)
                  refine aops_cons rfl (w_pure rfl (p_assign rfl) ?_)
                  refine aops_nil ?_
                  refine a_seq ?_
                  refine a_seq ?_
                  refine a_region ?_
                  refine aops_cons rfl (w_pure rfl (p_move rfl) ?_)
                  refine aops_cons rfl (w_pure rfl (p_move rfl) ?_)
                  refine aops_cons rfl (w_pure rfl (p_move rfl) ?_)
                  refine aops_cons rfl (w_callR rfl rfl rfl cl_19 (cv_spec_SendToOthers xs3 (by omega) f3 q3) ?_)
                  refine aops_cons rfl (w_pure rfl (p_move rfl) ?_)
                  refine aops_cons rfl (w_pure rfl (p_extract rfl rfl) ?_)
                  refine aops_cons rfl (w_pure rfl (p_extract rfl rfl) ?_)
                  refine aops_cons rfl (w_pure rfl (p_assign rfl) ?_)
                  refine aops_cons rfl (w_pure rfl (p_assign rfl) ?_)
                  refine aops_nil ?_
                  refine a_seq ?_
                  refine a_region ?_
                  refine aops_cons rfl (w_pure rfl (p_move rfl) ?_)
                  refine aops_cons rfl (w_pure rfl (p_move rfl) ?_)
                  refine aops_cons rfl (w_pure rfl (p_neq_bsame um_4 rfl rfl) ?_)
                  refine aops_cons rfl (w_pure rfl (p_move rfl) ?_)
                  refine aops_guard_t rfl rfl rfl (w_pure rfl (p_move rfl) ?_)
                  refine aops_guard_t rfl rfl rfl (w_pure rfl (p_move rfl) ?_)
                  refine aops_guard_t rfl rfl rfl (w_callR rfl rfl rfl cl_10 (c_laws_rMails (pickM (GoodOth xs3 f3 q3) (ssTo xs3 f3 (oth f3) q3 4)) (pickM_small (fun h => by have := ssTo_len xs3 f3 (oth f3) q3 4; omega))) ?_)
                  refine aops_guard_t rfl rfl rfl (w_pure rfl (p_not rfl) ?_)
                  refine aops_cons rfl (w_pure rfl (p_pick_f rfl rfl) ?_)
                  refine aops_nil ?_
                  refine a_cond_f rfl ?_
                  refine a_skip ?_
                  refine a_seq ?_
                  refine a_region ?_
                  refine aops_cons rfl (w_pure rfl (p_move rfl) ?_)
                  refine aops_cons rfl (w_call rfl rfl rfl cl_20 (c_spec_DrawSendToSet bs hb) ?_)
                  rintro _ _ ⟨⟨xs4, f4, s4, q4, rfl, hx4⟩, rfl⟩
                  skip
                  refine aops_cons rfl (w_pure rfl (p_move rfl) ?_)
                  refine aops_cons rfl (w_pure rfl (p_extract rfl rfl) ?_)
                  refine aops_cons rfl (w_pure rfl (p_extract rfl rfl) ?_)
                  refine aops_cons rfl (w_pure rfl (p_extract rfl rfl) ?_)
                  refine aops_cons rfl (w_pure rfl (p_extract rfl rfl) ?_)
                  refine aops_cons rfl (w_pure rfl (p_assign rfl) ?_)
                  refine aops_cons rfl (w_pure rfl (p_assign rfl) ?_)
                  refine aops_cons rfl (w_pure rfl (p_assign rfl) ?_)
                  refine aops_cons rfl (w_pure rfl (p_assign rfl) ?_)
                  refine aops_nil ?_
                  refine a_seq ?_
                  refine a_region ?_
                  refine aops_cons rfl (w_pure rfl (p_move rfl) ?_)
                  refine aops_cons rfl (w_pure rfl (p_move rfl) ?_)
                  refine aops_cons rfl (w_pure rfl (p_move rfl) ?_)
                  refine aops_cons rfl (w_pure rfl (p_move rfl) ?_)
                  refine aops_cons rfl (w_callR rfl rfl rfl cl_21 (cv_impl_SendToSet xs4 (by omega) f4 s4 q4) ?_)
                  refine aops_cons rfl (w_pure rfl (p_move rfl) ?_)
                  refine aops_cons rfl (w_pure rfl (p_extract rfl rfl) ?_)
                  refine aops_cons rfl (w_pure rfl (p_extract rfl rfl) ?_)
                  refine aops_cons rfl (w_pure rfl (p_extract rfl rfl) ?_)
                  refine aops_cons rfl (w_pure rfl (p_assign rfl) ?_)
                  refine aops_cons rfl (w_pure rfl (p_assign rfl) ?_)
                  refine aops_cons rfl (w_pure rfl (p_assign rfl) ?_)
                  refine aops_nil ?_
                  refine a_seq ?_
                  refine a_seq ?_
                  refine a_region ?_
                  refine aops_cons rfl (w_pure rfl (p_move rfl) ?_)
                  refine aops_cons rfl (w_pure rfl (p_move rfl) ?_)
                  refine aops_cons rfl (w_pure rfl (p_move rfl) ?_)
                  refine aops_cons rfl (w_pure rfl (p_move rfl) ?_)
                  refine aops_cons rfl (w_callR rfl rfl rfl cl_22 (cv_spec_SendToSet xs4 (by omega) f4 s4 q4) ?_)
                  refine aops_cons rfl (w_pure rfl (p_move rfl) ?_)
                  refine aops_cons rfl (w_pure rfl (p_extract rfl rfl) ?_)
                  refine aops_cons rfl (w_pure rfl (p_extract rfl rfl) ?_)
                  refine aops_cons rfl (w_pure rfl (p_extract rfl rfl) ?_)
                  refine aops_cons rfl (w_pure rfl (p_assign rfl) ?_)
                  refine aops_cons rfl (w_pure rfl (p_assign rfl) ?_)
                  refine aops_cons rfl (w_pure rfl (p_assign rfl) ?_)
                  refine aops_nil ?_
                  refine a_seq ?_
                  refine a_region ?_
                  refine aops_cons rfl (w_pure rfl (p_move rfl) ?_)
                  refine aops_cons rfl (w_pure rfl (p_move rfl) ?_)
                  refine aops_cons rfl (w_pure rfl (p_neq_bsame um_4 rfl rfl) ?_)
                  refine aops_cons rfl (w_pure rfl (p_move rfl) ?_)
                  refine aops_guard_t rfl rfl rfl (w_pure rfl (p_move rfl) ?_)
                  refine aops_guard_t rfl rfl rfl (w_pure rfl (p_move rfl) ?_)
                  refine aops_guard_t rfl rfl rfl (w_pure rfl (p_neq_same rfl rfl) ?_)
                  refine aops_cons rfl (w_pure rfl (p_pick_f rfl rfl) ?_)
                  refine aops_cons rfl (w_pure rfl (p_move rfl) ?_)
                  refine aops_guard_t rfl rfl rfl (w_pure rfl (p_move rfl) ?_)
                  refine aops_guard_t rfl rfl rfl (w_pure rfl (p_move rfl) ?_)
                  refine aops_guard_t rfl rfl rfl (w_callR rfl rfl rfl cl_10 (c_laws_rMails (pickM (GoodSet xs4 f4 s4 q4) (ssTo xs4 f4 s4 q4 4)) (pickM_small (fun h => by have := ssTo_len xs4 f4 s4 q4 4; omega))) ?_)
                  refine aops_guard_t rfl rfl rfl (w_pure rfl (p_not rfl) ?_)
                  refine aops_cons rfl (w_pure rfl (p_pick_f rfl rfl) ?_)
                  refine aops_nil ?_
                  refine a_cond_f rfl ?_
                  refine a_skip ?_
                  refine a_seq ?_
                  refine a_seq ?_
                  refine a_region ?_
                  refine aops_cons rfl (w_pure rfl (p_move rfl) ?_)
                  refine aops_nil ?_
                  first | refine a_cond_d rfl (fun h7 => ?_) (fun h8 => ?_) | refine a_cond_n rfl (fun h7 => ?_) (fun h8 => ?_) | refine a_cond_nb rfl (fun h7 => ?_) (fun h8 => ?_) | refine a_cond rfl (fun h7 => ?_) (fun h8 => ?_)
                  · (try simp only [Bool.not_eq_true', Bool.not_eq_false', Bool.not_eq_true, Bool.not_eq_false, decide_eq_true_eq, decide_eq_false_iff_not, List.length_map, List.length_range] at h7)
                    refine a_seq ?_
                    refine a_seq ?_
                    have hk : GoodSet xs4 f4 s4 q4 := (by assumption)
                    rw [pickM_y hk, pickI_y hk]
                    have hf4 := hk.2.1
                    refine a_region ?_
                    refine aops_cons rfl (w_pure rfl (p_assign rfl) ?_)
                    refine aops_nil ?_
                    refine a_block ?_
                    refine a_loop (ι := Nat) (fun i => i ≤ 4) (fun i => [(38, .int .i64 (i : Int))]) (fun i => []) (fun i => 4 - i) 0 (Nat.zero_le _) (by repeat (first | exact Knows.nil | refine Knows.cons (by rfl) ?_)) (by repeat (first | exact Picks.nil _ | exact Pick.here _ _ _ | apply Pick.next | apply Picks.cons)) ?_
                    rintro i hi
                    replace hi : i ≤ 4 := hi
                    refine a_seq ?_
                    refine a_seq ?_
                    refine a_region ?_
                    refine aops_cons rfl (w_pure rfl (p_move rfl) ?_)
                    refine aops_cons rfl (w_pure rfl (p_lss rfl rfl) ?_)
                    refine aops_nil ?_
                    first | refine a_cond_d rfl (fun h9 => ?_) (fun h10 => ?_) | refine a_cond_n rfl (fun h9 => ?_) (fun h10 => ?_) | refine a_cond_nb rfl (fun h9 => ?_) (fun h10 => ?_) | refine a_cond rfl (fun h9 => ?_) (fun h10 => ?_)
                    · (try simp only [Bool.not_eq_true', Bool.not_eq_false', Bool.not_eq_true, Bool.not_eq_false, decide_eq_true_eq, decide_eq_false_iff_not, List.length_map, List.length_range] at h9)
                      refine a_skip ?_
                      refine a_seq ?_
                      refine a_block ?_
                      refine a_seq ?_
                      refine a_region ?_
                      refine aops_cons rfl (w_pure rfl (p_move rfl) ?_)
                      refine aops_cons rfl (w_pure rfl (p_move rfl) ?_)
                      refine aops_cons rfl (w_callR rfl rfl rfl cl_23 (cf_impl_MailFor (ssTo xs4 f4 s4 q4 4) (by have := ssTo_len xs4 f4 s4 q4 4; omega) (i : Int) (set_for hk (by omega)).1) ?_)
                      refine aops_cons rfl (w_pure rfl (p_move rfl) ?_)
                      refine aops_cons rfl (w_pure rfl (p_extract rfl rfl) ?_)
                      refine aops_cons rfl (w_pure rfl (p_extract rfl rfl) ?_)
                      refine aops_cons rfl (w_pure rfl (p_assign rfl) ?_)
                      refine aops_cons rfl (w_pure rfl (p_assign rfl) ?_)
                      refine aops_nil ?_
                      refine a_seq ?_
                      refine a_region ?_
                      refine aops_cons rfl (w_pure rfl (p_move rfl) ?_)
                      refine aops_cons rfl (w_pure rfl (p_not rfl) ?_)
                      refine aops_cons rfl (w_pure rfl (p_move rfl) ?_)
                      refine aops_guard_t rfl rfl rfl (w_pure rfl (p_move rfl) ?_)
                      refine aops_guard_t rfl rfl rfl (w_pure rfl (p_move rfl) ?_)
                      refine aops_guard_t rfl rfl rfl (w_pure rfl (p_len sl_45 rfl rfl) ?_)
                      refine aops_guard_t rfl rfl rfl (w_pure rfl (p_geqF rfl rfl (by simp only [List.length_map, forL_len]; have := hk.2.2.2.1; omega)) ?_)
                      refine aops_cons rfl (w_pure rfl (p_pick_f rfl rfl) ?_)
                      refine aops_cons rfl (w_pure rfl (p_move rfl) ?_)
                      refine aops_guard_t rfl rfl rfl (w_pure rfl (p_move rfl) ?_)
                      refine aops_guard_t rfl rfl rfl (w_pure rfl (p_move rfl) ?_)
                      refine aops_guard_t rfl rfl rfl (w_pure rfl (p_convert ui_3 um_48 rfl) ?_)
                      refine aops_guard_t rfl rfl rfl (w_pure rfl (p_shr rfl rfl (by first | omega | (rw [u64_id (by omega) (by omega)]; omega))) ?_)
                      refine aops_guard_t rfl rfl rfl (w_pure rfl (p_bits .and (by decide) rfl rfl) ?_)
                      refine aops_guard_t rfl rfl rfl (w_pure rfl (p_eql rfl rfl) ?_)
                      refine aops_guard_t rfl rfl rfl (w_pure rfl (p_move rfl) ?_)
                      first | refine aops_split_d 245 rfl (fun h11 => ?_) (fun h12 => ?_) | refine aops_split 245 rfl (fun h11 => ?_) (fun h12 => ?_)
                      · (try simp only [Bool.not_eq_true', Bool.not_eq_false', Bool.not_eq_true, Bool.not_eq_false, decide_eq_true_eq, decide_eq_false_iff_not, List.length_map, List.length_range] at h11)
                        refine aops_guard_t rfl rfl rfl (w_pure rfl (p_move rfl) ?_)
                        refine aops_guard_t rfl rfl rfl (w_pure rfl (p_move rfl) ?_)
                        refine aops_guard_t rfl rfl rfl (w_pure rfl (p_index_sl q4.toNat rfl rfl (by have := hk.2.2.2.1; omega) (rowD _ _ (0 : Int) (by rw [forL_len]; have := hk.2.2.2.1; omega)) es_45) ?_)
                        refine aops_guard_t rfl rfl rfl (w_pure rfl (p_load_v ag_3 rfl (by rfl) noX) ?_)
                        refine aops_guard_t rfl rfl rfl (w_pure rfl (p_move rfl) ?_)
                        refine aops_guard_t rfl rfl rfl (w_pure rfl (p_convert ui_3 um_48 rfl) ?_)
                        refine aops_guard_t rfl rfl rfl (w_pure rfl (p_shr rfl rfl (by first | omega | (rw [u64_id (by omega) (by omega)]; omega))) ?_)
                        refine aops_guard_t rfl rfl rfl (w_pure rfl (p_bits .and (by decide) rfl rfl) ?_)
                        refine aops_guard_t rfl rfl rfl (w_pure rfl (p_neqF rfl rfl (by have hb := (set_for hk (t := i) (by omega)).2; rw [u64_id (by omega) (by omega)] at *; exact hb (by assumption))) ?_)
                        refine aops_guard_t rfl rfl rfl (w_pure rfl (p_pick_t rfl rfl) ?_)
                        refine aops_cons rfl (w_pure rfl (p_pick_f rfl rfl) ?_)
                        refine aops_nil ?_
                        refine a_cond_f rfl ?_
                        refine a_skip ?_
                        refine a_region ?_
                        refine aops_cons rfl (w_pure rfl (p_move rfl) ?_)
                        refine aops_cons rfl (w_pure rfl (p_add' rfl rfl ⟨by omega, by omega⟩) ?_)
                        refine aops_cons rfl (w_pure rfl (p_assign rfl) ?_)
                        refine aops_nil ?_
                        refine ⟨(i + 1), _, ?_, ?_, (by repeat (first | exact Knows.nil | refine Knows.cons (by rfl) ?_)), (by repeat (first | exact Back.refl _ _ | refine Back.cons (by rfl) ?_)), (by repeat (first | exact Picks.nil _ | exact Pick.here _ _ _ | apply Pick.next | apply Picks.cons))⟩
                        · omega
                        · (try dsimp only); omega
                      · (try simp only [Bool.not_eq_true', Bool.not_eq_false', Bool.not_eq_true, Bool.not_eq_false, decide_eq_true_eq, decide_eq_false_iff_not, List.length_map, List.length_range] at h12)
                        refine g_pass' rfl rfl rfl rfl rfl ?_
                        refine g_pass' rfl rfl rfl rfl rfl ?_
                        refine g_pass' rfl rfl rfl rfl rfl ?_
                        refine g_pass' rfl rfl rfl rfl rfl ?_
                        refine g_pass' rfl rfl rfl rfl rfl ?_
                        refine g_pass' rfl rfl rfl rfl rfl ?_
                        refine g_pass' rfl rfl rfl rfl rfl ?_
                        refine g_pass' rfl rfl rfl rfl rfl ?_
                        refine g_pass' rfl rfl rfl rfl rfl ?_
                        refine aops_guard_t rfl rfl rfl (w_pure rfl (p_pick_f rfl rfl) ?_)
                        refine aops_cons rfl (w_pure rfl (p_pick_f rfl rfl) ?_)
                        refine aops_nil ?_
                        refine a_cond_f rfl ?_
                        refine a_skip ?_
                        refine a_region ?_
                        refine aops_cons rfl (w_pure rfl (p_move rfl) ?_)
                        refine aops_cons rfl (w_pure rfl (p_add' rfl rfl ⟨by omega, by omega⟩) ?_)
                        refine aops_cons rfl (w_pure rfl (p_assign rfl) ?_)
                        refine aops_nil ?_
                        refine ⟨(i + 1), _, ?_, ?_, (by repeat (first | exact Knows.nil | refine Knows.cons (by rfl) ?_)), (by repeat (first | exact Back.refl _ _ | refine Back.cons (by rfl) ?_)), (by repeat (first | exact Picks.nil _ | exact Pick.here _ _ _ | apply Pick.next | apply Picks.cons))⟩
                        · omega
                        · (try dsimp only); omega
                    · (try simp only [Bool.not_eq_true', Bool.not_eq_false', Bool.not_eq_true, Bool.not_eq_false, decide_eq_true_eq, decide_eq_false_iff_not, List.length_map, List.length_range] at h10)
                      refine a_exit ?_
                      refine a_seq ?_
                      refine a_region ?_
                      refine aops_cons rfl (w_pure rfl (p_move rfl) ?_)
                      refine aops_cons rfl (w_pure rfl (p_len sl_24 rfl rfl) ?_)
                      refine aops_cons rfl (w_pure rfl (p_move rfl) ?_)
                      refine aops_cons rfl (w_pure rfl (p_len sl_24 rfl rfl) ?_)
                      refine aops_cons rfl (w_pure rfl (p_move rfl) ?_)
                      refine aops_cons rfl (w_pure rfl (p_add' rfl rfl ⟨by have := ssTo_len xs4 f4 s4 q4 4; simp only [List.length_map]; unfold setCount; omega, by have := ssTo_len xs4 f4 s4 q4 4; simp only [List.length_map]; unfold setCount; omega⟩) ?_)
                      refine aops_cons rfl (w_pure rfl (p_eqlT rfl rfl (by simp only [List.length_map]; unfold setCount; omega)) ?_)
                      refine aops_cons rfl (w_pure rfl (p_assign rfl) ?_)
                      refine aops_nil ?_
                      refine a_ret ?_
                      refine ret_ok (hands1 rfl (.tmp rfl)) (.nil _) ?_
                      first | exact ⟨rfl, rfl⟩ | (exfalso; omega)
                  · (try simp only [Bool.not_eq_true', Bool.not_eq_false', Bool.not_eq_true, Bool.not_eq_false, decide_eq_true_eq, decide_eq_false_iff_not, List.length_map, List.length_range] at h8)
                    refine a_skip ?_
                    refine a_seq ?_
                    refine a_region ?_
                    refine aops_cons rfl (w_pure rfl (p_assign rfl) ?_)
                    refine aops_nil ?_
                    refine a_ret ?_
                    refine ret_ok (hands1 rfl (.tmp rfl)) (.nil _) ?_
                    first | exact ⟨rfl, rfl⟩ | (exfalso; omega)
            exact all_nil
          exact all_nil
        refine all_cons_t rfl rfl rfl rfl ?_ ?_
        · skip
          refine w_pure rfl (p_load_box_all ag_26 rfl (by repeat (first | exact Pick.here _ _ _ | apply Pick.next)) (by rfl) noX) ?_
          refine draw_all [11] (by kernel_rfl) (by simp) ?_
          refine all_cons_t rfl rfl rfl rfl ?_ ?_
          · skip
            refine w_callR rfl rfl rfl cl_11 (c_impl_IsMail v1) ?_
            refine draw_all [13] (by kernel_rfl) (by simp) ?_
            refine all_cons_t rfl rfl rfl rfl ?_ ?_
            · skip
              refine w_callR rfl rfl rfl cl_12 (c_spec_IsMail v1) ?_
              refine d_take_t 14 rfl (by kernel_rfl) (by kernel_rfl) (by kernel_rfl) rfl rfl rfl (p_neq_bsame um_4 rfl rfl) ?_
              refine d_take 15 rfl (by kernel_rfl) (by kernel_rfl) (by kernel_rfl) rfl (p_pick_f rfl rfl) ?_
              refine draw_done (by kernel_rfl) ?_
              refine a_cond_f rfl ?_
              refine a_skip ?_
              refine a_seq_join (ι := Unit) (fun _ => True) (fun _ => []) (fun _ => []) (old := []) (by repeat (first | exact Picks.nil _ | exact Pick.here _ _ _ | apply Pick.next | apply Picks.cons)) ?_ ?_
              · skip
                refine a_seq ?_
                refine a_region ?_
                refine aops_cons rfl (w_pure rfl (p_move rfl) ?_)
                refine aops_nil ?_
                first | refine a_cond_d rfl (fun h13 => ?_) (fun h14 => ?_) | refine a_cond_n rfl (fun h13 => ?_) (fun h14 => ?_) | refine a_cond_nb rfl (fun h13 => ?_) (fun h14 => ?_) | refine a_cond rfl (fun h13 => ?_) (fun h14 => ?_)
                · (try simp only [Bool.not_eq_true', Bool.not_eq_false', Bool.not_eq_true, Bool.not_eq_false, decide_eq_true_eq, decide_eq_false_iff_not, List.length_map, List.length_range] at h13)
                  refine a_seq ?_
                  have hk : GoodSend xs1 v1 := (by assumption)
                  rw [pickM_y hk]
                  refine a_region ?_
                  refine aops_cons rfl (w_pure rfl (p_move rfl) ?_)
                  refine aops_cons rfl (w_pure rfl (p_load_box_all ag_26 rfl (by repeat (first | exact Pick.here _ _ _ | apply Pick.next)) (by rfl) noX) ?_)
                  refine aops_cons rfl (w_callR rfl rfl rfl cl_8 (cf_impl_SendMail (sendOne xs1 v1) (small_send hk) v1 (send_again hk).2.1) ?_)
                  refine aops_cons rfl (w_pure rfl (p_move rfl) ?_)
                  refine aops_cons rfl (w_pure rfl (p_extract rfl rfl) ?_)
                  refine aops_cons rfl (w_pure rfl (p_extract rfl rfl) ?_)
                  refine aops_cons rfl (w_pure rfl (p_assign rfl) ?_)
                  refine aops_cons rfl (w_pure rfl (p_assign rfl) ?_)
                  refine aops_nil ?_
                  refine a_seq ?_
                  refine a_region ?_
                  refine aops_cons rfl (w_pure rfl (p_move rfl) ?_)
                  refine aops_cons rfl (w_pure rfl (p_not rfl) ?_)
                  refine aops_cons rfl (w_pure rfl (p_move rfl) ?_)
                  refine aops_guard_t rfl rfl rfl (w_pure rfl (p_move rfl) ?_)
                  refine aops_guard_t rfl rfl rfl (w_pure rfl (p_move rfl) ?_)
                  refine aops_guard_t rfl rfl rfl (w_callR rfl rfl rfl cl_10 (ce_laws_rMails (sendOne (sendOne xs1 v1) v1) (sendOne xs1 v1) (small_send hk) (send_again hk).1) ?_)
                  refine aops_guard_t rfl rfl rfl (w_pure rfl (p_not rfl) ?_)
                  refine aops_cons rfl (w_pure rfl (p_pick_f rfl rfl) ?_)
                  refine aops_cons rfl (w_pure rfl (p_move rfl) ?_)
                  refine aops_guard_t rfl rfl rfl (w_pure rfl (p_move rfl) ?_)
                  refine aops_guard_t rfl rfl rfl (w_callR rfl rfl rfl cl_13 (ct_impl_IsBox (sendOne xs1 v1) (small_send hk) (send_again hk).2.2) ?_)
                  refine aops_guard_t rfl rfl rfl (w_pure rfl (p_not rfl) ?_)
                  refine aops_cons rfl (w_pure rfl (p_pick_f rfl rfl) ?_)
                  refine aops_nil ?_
                  refine a_cond_f rfl ?_
                  refine a_skip ?_
                  exact ⟨(), _, trivial, (by repeat (first | exact Knows.nil | refine Knows.cons (by rfl) ?_)), (by repeat (first | exact Back.refl _ _ | refine Back.cons (by rfl) ?_)), (by repeat (first | exact Picks.nil _ | exact Pick.here _ _ _ | apply Pick.next | apply Picks.cons))⟩
                · (try simp only [Bool.not_eq_true', Bool.not_eq_false', Bool.not_eq_true, Bool.not_eq_false, decide_eq_true_eq, decide_eq_false_iff_not, List.length_map, List.length_range] at h14)
                  refine a_skip ?_
                  exact ⟨(), _, trivial, (by repeat (first | exact Knows.nil | refine Knows.cons (by rfl) ?_)), (by repeat (first | exact Back.refl _ _ | refine Back.cons (by rfl) ?_)), (by repeat (first | exact Picks.nil _ | exact Pick.here _ _ _ | apply Pick.next | apply Picks.cons))⟩
              · rintro _ -
                refine a_seq ?_
                refine a_region ?_
                refine aops_cons rfl (w_pure rfl (p_move rfl) ?_)
                refine aops_cons rfl (w_call rfl rfl rfl cl_14 (c_spec_DrawTakeMail bs hb) ?_)
                rintro _ _ ⟨⟨xs2, m2, rfl, hx2⟩, rfl⟩
                skip
                refine aops_cons rfl (w_pure rfl (p_move rfl) ?_)
                refine aops_cons rfl (w_pure rfl (p_extract rfl rfl) ?_)
                refine aops_cons rfl (w_pure rfl (p_extract rfl rfl) ?_)
                refine aops_cons rfl (w_pure rfl (p_assign rfl) ?_)
                refine aops_cons rfl (w_pure rfl (p_assign rfl) ?_)
                refine aops_nil ?_
                refine a_seq ?_
                refine a_region ?_
                refine aops_cons rfl (w_pure rfl (p_move rfl) ?_)
                refine aops_cons rfl (w_pure rfl (p_move rfl) ?_)
                refine aops_cons rfl (w_callR rfl rfl rfl cl_15 (cv_impl_TakeMail xs2 (by omega) m2) ?_)
                refine aops_cons rfl (w_pure rfl (p_move rfl) ?_)
                refine aops_cons rfl (w_pure rfl (p_extract rfl rfl) ?_)
                refine aops_cons rfl (w_pure rfl (p_extract rfl rfl) ?_)
                refine aops_cons rfl (w_pure rfl (p_extract rfl rfl) ?_)
                refine aops_cons rfl (w_alloc rfl z_26 fun b4 => ?_)
                refine aops_cons rfl (w_pure rfl (p_assign rfl) ?_)
                refine aops_cons rfl (w_store (cells' := [_, _, _]) rfl rfl rfl (by repeat (first | exact Pick.here _ _ _ | apply Pick.next)) cn_26 (by rfl) (by rfl) (by rfl) trivial ?_)
                refine aops_cons rfl (w_pure rfl (p_assign rfl) ?_)
                refine aops_nil ?_
                refine a_seq ?_
                refine a_seq ?_
                refine a_region ?_
                refine aops_cons rfl (w_pure rfl (p_move rfl) ?_)
                refine aops_cons rfl (w_pure rfl (p_move rfl) ?_)
                refine aops_cons rfl (w_callR rfl rfl rfl cl_16 (cv_spec_TakeMail xs2 (by omega) m2) ?_)
                refine aops_cons rfl (w_pure rfl (p_move rfl) ?_)
                refine aops_cons rfl (w_pure rfl (p_extract rfl rfl) ?_)
                refine aops_cons rfl (w_pure rfl (p_extract rfl rfl) ?_)
                refine aops_cons rfl (w_pure rfl (p_extract rfl rfl) ?_)
                refine aops_cons rfl (w_alloc rfl z_26 fun b5 => ?_)
                refine aops_cons rfl (w_pure rfl (p_assign rfl) ?_)
                refine aops_cons rfl (w_store (cells' := [_, _, _]) rfl rfl rfl (by repeat (first | exact Pick.here _ _ _ | apply Pick.next)) cn_26 (by rfl) (by rfl) (by rfl) trivial ?_)
                refine aops_cons rfl (w_pure rfl (p_assign rfl) ?_)
                refine aops_nil ?_
                refine a_seq ?_
                refine a_region ?_
                refine aops_cons rfl (w_pure rfl (p_move rfl) ?_)
                refine aops_cons rfl (w_pure rfl (p_move rfl) ?_)
                refine aops_cons rfl (w_pure rfl (p_neq_bsame um_4 rfl rfl) ?_)
                refine aops_cons rfl (w_pure rfl (p_move rfl) ?_)
                refine aops_guard_t rfl rfl rfl (w_pure rfl (p_load_box_all ag_26 rfl (by repeat (first | exact Pick.here _ _ _ | apply Pick.next)) (by rfl) noX) ?_)
                refine aops_guard_t rfl rfl rfl (w_pure rfl (p_load_box_all ag_26 rfl (by repeat (first | exact Pick.here _ _ _ | apply Pick.next)) (by rfl) noX) ?_)
                refine aops_guard_t rfl rfl rfl (w_pure rfl (p_neq_s eqs_26 rfl rfl (eqC_mail' rfl)) ?_)
                refine aops_cons rfl (w_pure rfl (p_pick_f rfl rfl) ?_)
                refine aops_cons rfl (w_pure rfl (p_move rfl) ?_)
                refine aops_guard_t rfl rfl rfl (w_pure rfl (p_move rfl) ?_)
                refine aops_guard_t rfl rfl rfl (w_pure rfl (p_move rfl) ?_)
                refine aops_guard_t rfl rfl rfl (w_callR rfl rfl rfl cl_10 (c_laws_rMails (pickM (GoodTake xs2 m2) (takeL xs2 m2)) (pickM_small (fun h => by have := takeL_len xs2 m2; omega))) ?_)
                refine aops_guard_t rfl rfl rfl (w_pure rfl (p_not rfl) ?_)
                refine aops_cons rfl (w_pure rfl (p_pick_f rfl rfl) ?_)
                refine aops_nil ?_
                refine a_cond_f rfl ?_
                refine a_skip ?_
                refine a_seq_join (ι := Unit) (fun _ => True) (fun _ => []) (fun _ => []) (old := []) (by repeat (first | exact Picks.nil _ | exact Pick.here _ _ _ | apply Pick.next | apply Picks.cons)) ?_ ?_
                · skip
                  refine a_seq ?_
                  refine a_region ?_
                  refine aops_cons rfl (w_pure rfl (p_move rfl) ?_)
                  refine aops_nil ?_
                  first | refine a_cond_d rfl (fun h15 => ?_) (fun h16 => ?_) | refine a_cond_n rfl (fun h15 => ?_) (fun h16 => ?_) | refine a_cond_nb rfl (fun h15 => ?_) (fun h16 => ?_) | refine a_cond rfl (fun h15 => ?_) (fun h16 => ?_)
                  · (try simp only [Bool.not_eq_true', Bool.not_eq_false', Bool.not_eq_true, Bool.not_eq_false, decide_eq_true_eq, decide_eq_false_iff_not, List.length_map, List.length_range] at h15)
                    refine a_seq ?_
                    have hk : GoodTake xs2 m2 := (by assumption)
                    rw [pickM_y hk, pick1_y hk]
                    refine a_region ?_
                    refine aops_cons rfl (w_pure rfl (p_move rfl) ?_)
                    refine aops_cons rfl (w_pure rfl (p_load_box_all ag_26 rfl (by repeat (first | exact Pick.here _ _ _ | apply Pick.next)) (by rfl) noX) ?_)
                    refine aops_cons rfl (w_callR rfl rfl rfl cl_8 (cf_impl_SendMail (takeL xs2 m2) (by have := takeL_len xs2 m2; omega) (takeM xs2 m2) (take_back hk).1) ?_)
                    refine aops_cons rfl (w_pure rfl (p_move rfl) ?_)
                    refine aops_cons rfl (w_pure rfl (p_extract rfl rfl) ?_)
                    refine aops_cons rfl (w_pure rfl (p_extract rfl rfl) ?_)
                    refine aops_cons rfl (w_pure rfl (p_assign rfl) ?_)
                    refine aops_cons rfl (w_pure rfl (p_assign rfl) ?_)
                    refine aops_nil ?_
                    refine a_seq ?_
                    refine a_region ?_
                    refine aops_cons rfl (w_pure rfl (p_move rfl) ?_)
                    refine aops_cons rfl (w_pure rfl (p_not rfl) ?_)
                    refine aops_cons rfl (w_pure rfl (p_move rfl) ?_)
                    refine aops_guard_t rfl rfl rfl (w_pure rfl (p_move rfl) ?_)
                    refine aops_guard_t rfl rfl rfl (w_pure rfl (p_len sl_24 rfl rfl) ?_)
                    refine aops_guard_t rfl rfl rfl (w_pure rfl (p_move rfl) ?_)
                    refine aops_guard_t rfl rfl rfl (w_pure rfl (p_len sl_24 rfl rfl) ?_)
                    refine aops_guard_t rfl rfl rfl (w_pure rfl (p_neqF rfl rfl (by simp only [List.length_map]; rw [(take_back hk).2])) ?_)
                    refine aops_cons rfl (w_pure rfl (p_pick_f rfl rfl) ?_)
                    refine aops_cons rfl (w_pure rfl (p_move rfl) ?_)
                    refine aops_guard_t rfl rfl rfl (w_pure rfl (p_field_box fo_26_1 rfl) ?_)
                    refine aops_guard_t rfl rfl rfl (w_pure rfl (p_load_box ag_3 rfl (by repeat (first | exact Pick.here _ _ _ | apply Pick.next)) (by rfl) noX) ?_)
                    refine aops_guard_t rfl rfl rfl (w_pure rfl (p_move rfl) ?_)
                    refine aops_guard_t rfl rfl rfl (w_pure rfl (p_neqF rfl rfl (take_dst hk)) ?_)
                    refine aops_cons rfl (w_pure rfl (p_pick_f rfl rfl) ?_)
                    refine aops_nil ?_
                    refine a_cond_f rfl ?_
                    refine a_skip ?_
                    exact ⟨(), _, trivial, (by repeat (first | exact Knows.nil | refine Knows.cons (by rfl) ?_)), (by repeat (first | exact Back.refl _ _ | refine Back.cons (by rfl) ?_)), (by repeat (first | exact Picks.nil _ | exact Pick.here _ _ _ | apply Pick.next | apply Picks.cons))⟩
                  · (try simp only [Bool.not_eq_true', Bool.not_eq_false', Bool.not_eq_true, Bool.not_eq_false, decide_eq_true_eq, decide_eq_false_iff_not, List.length_map, List.length_range] at h16)
                    refine a_skip ?_
                    exact ⟨(), _, trivial, (by repeat (first | exact Knows.nil | refine Knows.cons (by rfl) ?_)), (by repeat (first | exact Back.refl _ _ | refine Back.cons (by rfl) ?_)), (by repeat (first | exact Picks.nil _ | exact Pick.here _ _ _ | apply Pick.next | apply Picks.cons))⟩
                · rintro _ -
                  refine a_seq ?_
                  refine a_region ?_
                  refine aops_cons rfl (w_pure rfl (p_move rfl) ?_)
                  refine aops_cons rfl (w_call rfl rfl rfl cl_17 (c_spec_DrawSendToOthers bs hb) ?_)
                  rintro _ _ ⟨⟨xs3, f3, q3, rfl, hx3⟩, rfl⟩
                  skip
                  refine aops_cons rfl (w_pure rfl (p_move rfl) ?_)
                  refine aops_cons rfl (w_pure rfl (p_extract rfl rfl) ?_)
                  refine aops_cons rfl (w_pure rfl (p_extract rfl rfl) ?_)
                  refine aops_cons rfl (w_pure rfl (p_extract rfl rfl) ?_)
                  refine aops_cons rfl (w_pure rfl (p_assign rfl) ?_)
                  refine aops_cons rfl (w_pure rfl (p_assign rfl) ?_)
                  refine aops_cons rfl (w_pure rfl (p_assign rfl) ?_)
                  refine aops_nil ?_
                  refine a_seq ?_
                  refine a_region ?_
                  refine aops_cons rfl (w_pure rfl (p_move rfl) ?_)
                  refine aops_cons rfl (w_pure rfl (p_move rfl) ?_)
                  refine aops_cons rfl (w_pure rfl (p_move rfl) ?_)
                  refine aops_cons rfl (w_callR rfl rfl rfl cl_18 (cv_impl_SendToOthers xs3 (by omega) f3 q3) ?_)
                  refine aops_cons rfl (w_pure rfl (p_move rfl) ?_)
                  refine aops_cons rfl (w_pure rfl (p_extract rfl rfl) ?_)
                  refine aops_cons rfl (w_pure rfl (p_extract rfl rfl) ?_)
                  refine aops_cons rfl (w_pure rfl (p_assign rfl) ?_)
                  refine aops_cons rfl (w_pure rfl (p_assign rfl) ?_)
                  refine aops_nil ?_
                  refine a_seq ?_
                  refine a_seq ?_
                  refine a_region ?_
                  refine aops_cons rfl (w_pure rfl (p_move rfl) ?_)
                  refine aops_cons rfl (w_pure rfl (p_move rfl) ?_)
                  refine aops_cons rfl (w_pure rfl (p_move rfl) ?_)
                  refine aops_cons rfl (w_callR rfl rfl rfl cl_19 (cv_spec_SendToOthers xs3 (by omega) f3 q3) ?_)
                  refine aops_cons rfl (w_pure rfl (p_move rfl) ?_)
                  refine aops_cons rfl (w_pure rfl (p_extract rfl rfl) ?_)
                  refine aops_cons rfl (w_pure rfl (p_extract rfl rfl) ?_)
                  refine aops_cons rfl (w_pure rfl (p_assign rfl) ?_)
                  refine aops_cons rfl (w_pure rfl (p_assign rfl) ?_)
                  refine aops_nil ?_
                  refine a_seq ?_
                  refine a_region ?_
                  refine aops_cons rfl (w_pure rfl (p_move rfl) ?_)
                  refine aops_cons rfl (w_pure rfl (p_move rfl) ?_)
                  refine aops_cons rfl (w_pure rfl (p_neq_bsame um_4 rfl rfl) ?_)
                  refine aops_cons rfl (w_pure rfl (p_move rfl) ?_)
                  refine aops_guard_t rfl rfl rfl (w_pure rfl (p_move rfl) ?_)
                  refine aops_guard_t rfl rfl rfl (w_pure rfl (p_move rfl) ?_)
                  refine aops_guard_t rfl rfl rfl (w_callR rfl rfl rfl cl_10 (c_laws_rMails (pickM (GoodOth xs3 f3 q3) (ssTo xs3 f3 (oth f3) q3 4)) (pickM_small (fun h => by have := ssTo_len xs3 f3 (oth f3) q3 4; omega))) ?_)
                  refine aops_guard_t rfl rfl rfl (w_pure rfl (p_not rfl) ?_)
                  refine aops_cons rfl (w_pure rfl (p_pick_f rfl rfl) ?_)
                  refine aops_nil ?_
                  refine a_cond_f rfl ?_
                  refine a_skip ?_
                  refine a_seq ?_
                  refine a_region ?_
                  refine aops_cons rfl (w_pure rfl (p_move rfl) ?_)
                  refine aops_cons rfl (w_call rfl rfl rfl cl_20 (c_spec_DrawSendToSet bs hb) ?_)
                  rintro _ _ ⟨⟨xs4, f4, s4, q4, rfl, hx4⟩, rfl⟩
                  skip
                  refine aops_cons rfl (w_pure rfl (p_move rfl) ?_)
                  refine aops_cons rfl (w_pure rfl (p_extract rfl rfl) ?_)
                  refine aops_cons rfl (w_pure rfl (p_extract rfl rfl) ?_)
                  refine aops_cons rfl (w_pure rfl (p_extract rfl rfl) ?_)
                  refine aops_cons rfl (w_pure rfl (p_extract rfl rfl) ?_)
                  refine aops_cons rfl (w_pure rfl (p_assign rfl) ?_)
                  refine aops_cons rfl (w_pure rfl (p_assign rfl) ?_)
                  refine aops_cons rfl (w_pure rfl (p_assign rfl) ?_)
                  refine aops_cons rfl (w_pure rfl (p_assign rfl) ?_)
                  refine aops_nil ?_
                  refine a_seq ?_
                  refine a_region ?_
                  refine aops_cons rfl (w_pure rfl (p_move rfl) ?_)
                  refine aops_cons rfl (w_pure rfl (p_move rfl) ?_)
                  refine aops_cons rfl (w_pure rfl (p_move rfl) ?_)
                  refine aops_cons rfl (w_pure rfl (p_move rfl) ?_)
                  refine aops_cons rfl (w_callR rfl rfl rfl cl_21 (cv_impl_SendToSet xs4 (by omega) f4 s4 q4) ?_)
                  refine aops_cons rfl (w_pure rfl (p_move rfl) ?_)
                  refine aops_cons rfl (w_pure rfl (p_extract rfl rfl) ?_)
                  refine aops_cons rfl (w_pure rfl (p_extract rfl rfl) ?_)
                  refine aops_cons rfl (w_pure rfl (p_extract rfl rfl) ?_)
                  refine aops_cons rfl (w_pure rfl (p_assign rfl) ?_)
                  refine aops_cons rfl (w_pure rfl (p_assign rfl) ?_)
                  refine aops_cons rfl (w_pure rfl (p_assign rfl) ?_)
                  refine aops_nil ?_
                  refine a_seq ?_
                  refine a_seq ?_
                  refine a_region ?_
                  refine aops_cons rfl (w_pure rfl (p_move rfl) ?_)
                  refine aops_cons rfl (w_pure rfl (p_move rfl) ?_)
                  refine aops_cons rfl (w_pure rfl (p_move rfl) ?_)
                  refine aops_cons rfl (w_pure rfl (p_move rfl) ?_)
                  refine aops_cons rfl (w_callR rfl rfl rfl cl_22 (cv_spec_SendToSet xs4 (by omega) f4 s4 q4) ?_)
                  refine aops_cons rfl (w_pure rfl (p_move rfl) ?_)
                  refine aops_cons rfl (w_pure rfl (p_extract rfl rfl) ?_)
                  refine aops_cons rfl (w_pure rfl (p_extract rfl rfl) ?_)
                  refine aops_cons rfl (w_pure rfl (p_extract rfl rfl) ?_)
                  refine aops_cons rfl (w_pure rfl (p_assign rfl) ?_)
                  refine aops_cons rfl (w_pure rfl (p_assign rfl) ?_)
                  refine aops_cons rfl (w_pure rfl (p_assign rfl) ?_)
                  refine aops_nil ?_
                  refine a_seq ?_
                  refine a_region ?_
                  refine aops_cons rfl (w_pure rfl (p_move rfl) ?_)
                  refine aops_cons rfl (w_pure rfl (p_move rfl) ?_)
                  refine aops_cons rfl (w_pure rfl (p_neq_bsame um_4 rfl rfl) ?_)
                  refine aops_cons rfl (w_pure rfl (p_move rfl) ?_)
                  refine aops_guard_t rfl rfl rfl (w_pure rfl (p_move rfl) ?_)
                  refine aops_guard_t rfl rfl rfl (w_pure rfl (p_move rfl) ?_)
                  refine aops_guard_t rfl rfl rfl (w_pure rfl (p_neq_same rfl rfl) ?_)
                  refine aops_cons rfl (w_pure rfl (p_pick_f rfl rfl) ?_)
                  refine aops_cons rfl (w_pure rfl (p_move rfl) ?_)
                  refine aops_guard_t rfl rfl rfl (w_pure rfl (p_move rfl) ?_)
                  refine aops_guard_t rfl rfl rfl (w_pure rfl (p_move rfl) ?_)
                  refine aops_guard_t rfl rfl rfl (w_callR rfl rfl rfl cl_10 (c_laws_rMails (pickM (GoodSet xs4 f4 s4 q4) (ssTo xs4 f4 s4 q4 4)) (pickM_small (fun h => by have := ssTo_len xs4 f4 s4 q4 4; omega))) ?_)
                  refine aops_guard_t rfl rfl rfl (w_pure rfl (p_not rfl) ?_)
                  refine aops_cons rfl (w_pure rfl (p_pick_f rfl rfl) ?_)
                  refine aops_nil ?_
                  refine a_cond_f rfl ?_
                  refine a_skip ?_
                  refine a_seq ?_
                  refine a_seq ?_
                  refine a_region ?_
                  refine aops_cons rfl (w_pure rfl (p_move rfl) ?_)
                  refine aops_nil ?_
                  first | refine a_cond_d rfl (fun h17 => ?_) (fun h18 => ?_) | refine a_cond_n rfl (fun h17 => ?_) (fun h18 => ?_) | refine a_cond_nb rfl (fun h17 => ?_) (fun h18 => ?_) | refine a_cond rfl (fun h17 => ?_) (fun h18 => ?_)
                  · (try simp only [Bool.not_eq_true', Bool.not_eq_false', Bool.not_eq_true, Bool.not_eq_false, decide_eq_true_eq, decide_eq_false_iff_not, List.length_map, List.length_range] at h17)
                    refine a_seq ?_
                    refine a_seq ?_
                    have hk : GoodSet xs4 f4 s4 q4 := (by assumption)
                    rw [pickM_y hk, pickI_y hk]
                    have hf4 := hk.2.1
                    refine a_region ?_
                    refine aops_cons rfl (w_pure rfl (p_assign rfl) ?_)
                    refine aops_nil ?_
                    refine a_block ?_
                    refine a_loop (ι := Nat) (fun i => i ≤ 4) (fun i => [(38, .int .i64 (i : Int))]) (fun i => []) (fun i => 4 - i) 0 (Nat.zero_le _) (by repeat (first | exact Knows.nil | refine Knows.cons (by rfl) ?_)) (by repeat (first | exact Picks.nil _ | exact Pick.here _ _ _ | apply Pick.next | apply Picks.cons)) ?_
                    rintro i hi
                    replace hi : i ≤ 4 := hi
                    refine a_seq ?_
                    refine a_seq ?_
                    refine a_region ?_
                    refine aops_cons rfl (w_pure rfl (p_move rfl) ?_)
                    refine aops_cons rfl (w_pure rfl (p_lss rfl rfl) ?_)
                    refine aops_nil ?_
                    first | refine a_cond_d rfl (fun h19 => ?_) (fun h20 => ?_) | refine a_cond_n rfl (fun h19 => ?_) (fun h20 => ?_) | refine a_cond_nb rfl (fun h19 => ?_) (fun h20 => ?_) | refine a_cond rfl (fun h19 => ?_) (fun h20 => ?_)
                    · (try simp only [Bool.not_eq_true', Bool.not_eq_false', Bool.not_eq_true, Bool.not_eq_false, decide_eq_true_eq, decide_eq_false_iff_not, List.length_map, List.length_range] at h19)
                      refine a_skip ?_
                      refine a_seq ?_
                      refine a_block ?_
                      refine a_seq ?_
                      refine a_region ?_
                      refine aops_cons rfl (w_pure rfl (p_move rfl) ?_)
                      refine aops_cons rfl (w_pure rfl (p_move rfl) ?_)
                      refine aops_cons rfl (w_callR rfl rfl rfl cl_23 (cf_impl_MailFor (ssTo xs4 f4 s4 q4 4) (by have := ssTo_len xs4 f4 s4 q4 4; omega) (i : Int) (set_for hk (by omega)).1) ?_)
                      refine aops_cons rfl (w_pure rfl (p_move rfl) ?_)
                      refine aops_cons rfl (w_pure rfl (p_extract rfl rfl) ?_)
                      refine aops_cons rfl (w_pure rfl (p_extract rfl rfl) ?_)
                      refine aops_cons rfl (w_pure rfl (p_assign rfl) ?_)
                      refine aops_cons rfl (w_pure rfl (p_assign rfl) ?_)
                      refine aops_nil ?_
                      refine a_seq ?_
                      refine a_region ?_
                      refine aops_cons rfl (w_pure rfl (p_move rfl) ?_)
                      refine aops_cons rfl (w_pure rfl (p_not rfl) ?_)
                      refine aops_cons rfl (w_pure rfl (p_move rfl) ?_)
                      refine aops_guard_t rfl rfl rfl (w_pure rfl (p_move rfl) ?_)
                      refine aops_guard_t rfl rfl rfl (w_pure rfl (p_move rfl) ?_)
                      refine aops_guard_t rfl rfl rfl (w_pure rfl (p_len sl_45 rfl rfl) ?_)
                      refine aops_guard_t rfl rfl rfl (w_pure rfl (p_geqF rfl rfl (by simp only [List.length_map, forL_len]; have := hk.2.2.2.1; omega)) ?_)
                      refine aops_cons rfl (w_pure rfl (p_pick_f rfl rfl) ?_)
                      refine aops_cons rfl (w_pure rfl (p_move rfl) ?_)
                      refine aops_guard_t rfl rfl rfl (w_pure rfl (p_move rfl) ?_)
                      refine aops_guard_t rfl rfl rfl (w_pure rfl (p_move rfl) ?_)
                      refine aops_guard_t rfl rfl rfl (w_pure rfl (p_convert ui_3 um_48 rfl) ?_)
                      refine aops_guard_t rfl rfl rfl (w_pure rfl (p_shr rfl rfl (by first | omega | (rw [u64_id (by omega) (by omega)]; omega))) ?_)
                      refine aops_guard_t rfl rfl rfl (w_pure rfl (p_bits .and (by decide) rfl rfl) ?_)
                      refine aops_guard_t rfl rfl rfl (w_pure rfl (p_eql rfl rfl) ?_)
                      refine aops_guard_t rfl rfl rfl (w_pure rfl (p_move rfl) ?_)
                      first | refine aops_split_d 245 rfl (fun h21 => ?_) (fun h22 => ?_) | refine aops_split 245 rfl (fun h21 => ?_) (fun h22 => ?_)
                      · (try simp only [Bool.not_eq_true', Bool.not_eq_false', Bool.not_eq_true, Bool.not_eq_false, decide_eq_true_eq, decide_eq_false_iff_not, List.length_map, List.length_range] at h21)
                        refine aops_guard_t rfl rfl rfl (w_pure rfl (p_move rfl) ?_)
                        refine aops_guard_t rfl rfl rfl (w_pure rfl (p_move rfl) ?_)
                        refine aops_guard_t rfl rfl rfl (w_pure rfl (p_index_sl q4.toNat rfl rfl (by have := hk.2.2.2.1; omega) (rowD _ _ (0 : Int) (by rw [forL_len]; have := hk.2.2.2.1; omega)) es_45) ?_)
                        refine aops_guard_t rfl rfl rfl (w_pure rfl (p_load_v ag_3 rfl (by rfl) noX) ?_)
                        refine aops_guard_t rfl rfl rfl (w_pure rfl (p_move rfl) ?_)
                        refine aops_guard_t rfl rfl rfl (w_pure rfl (p_convert ui_3 um_48 rfl) ?_)
                        refine aops_guard_t rfl rfl rfl (w_pure rfl (p_shr rfl rfl (by first | omega | (rw [u64_id (by omega) (by omega)]; omega))) ?_)
                        refine aops_guard_t rfl rfl rfl (w_pure rfl (p_bits .and (by decide) rfl rfl) ?_)
                        refine aops_guard_t rfl rfl rfl (w_pure rfl (p_neqF rfl rfl (by have hb := (set_for hk (t := i) (by omega)).2; rw [u64_id (by omega) (by omega)] at *; exact hb (by assumption))) ?_)
                        refine aops_guard_t rfl rfl rfl (w_pure rfl (p_pick_t rfl rfl) ?_)
                        refine aops_cons rfl (w_pure rfl (p_pick_f rfl rfl) ?_)
                        refine aops_nil ?_
                        refine a_cond_f rfl ?_
                        refine a_skip ?_
                        refine a_region ?_
                        refine aops_cons rfl (w_pure rfl (p_move rfl) ?_)
                        refine aops_cons rfl (w_pure rfl (p_add' rfl rfl ⟨by omega, by omega⟩) ?_)
                        refine aops_cons rfl (w_pure rfl (p_assign rfl) ?_)
                        refine aops_nil ?_
                        refine ⟨(i + 1), _, ?_, ?_, (by repeat (first | exact Knows.nil | refine Knows.cons (by rfl) ?_)), (by repeat (first | exact Back.refl _ _ | refine Back.cons (by rfl) ?_)), (by repeat (first | exact Picks.nil _ | exact Pick.here _ _ _ | apply Pick.next | apply Picks.cons))⟩
                        · omega
                        · (try dsimp only); omega
                      · (try simp only [Bool.not_eq_true', Bool.not_eq_false', Bool.not_eq_true, Bool.not_eq_false, decide_eq_true_eq, decide_eq_false_iff_not, List.length_map, List.length_range] at h22)
                        refine g_pass' rfl rfl rfl rfl rfl ?_
                        refine g_pass' rfl rfl rfl rfl rfl ?_
                        refine g_pass' rfl rfl rfl rfl rfl ?_
                        refine g_pass' rfl rfl rfl rfl rfl ?_
                        refine g_pass' rfl rfl rfl rfl rfl ?_
                        refine g_pass' rfl rfl rfl rfl rfl ?_
                        refine g_pass' rfl rfl rfl rfl rfl ?_
                        refine g_pass' rfl rfl rfl rfl rfl ?_
                        refine g_pass' rfl rfl rfl rfl rfl ?_
                        refine aops_guard_t rfl rfl rfl (w_pure rfl (p_pick_f rfl rfl) ?_)
                        refine aops_cons rfl (w_pure rfl (p_pick_f rfl rfl) ?_)
                        refine aops_nil ?_
                        refine a_cond_f rfl ?_
                        refine a_skip ?_
                        refine a_region ?_
                        refine aops_cons rfl (w_pure rfl (p_move rfl) ?_)
                        refine aops_cons rfl (w_pure rfl (p_add' rfl rfl ⟨by omega, by omega⟩) ?_)
                        refine aops_cons rfl (w_pure rfl (p_assign rfl) ?_)
                        refine aops_nil ?_
                        refine ⟨(i + 1), _, ?_, ?_, (by repeat (first | exact Knows.nil | refine Knows.cons (by rfl) ?_)), (by repeat (first | exact Back.refl _ _ | refine Back.cons (by rfl) ?_)), (by repeat (first | exact Picks.nil _ | exact Pick.here _ _ _ | apply Pick.next | apply Picks.cons))⟩
                        · omega
                        · (try dsimp only); omega
                    · (try simp only [Bool.not_eq_true', Bool.not_eq_false', Bool.not_eq_true, Bool.not_eq_false, decide_eq_true_eq, decide_eq_false_iff_not, List.length_map, List.length_range] at h20)
                      refine a_exit ?_
                      refine a_seq ?_
                      refine a_region ?_
                      refine aops_cons rfl (w_pure rfl (p_move rfl) ?_)
                      refine aops_cons rfl (w_pure rfl (p_len sl_24 rfl rfl) ?_)
                      refine aops_cons rfl (w_pure rfl (p_move rfl) ?_)
                      refine aops_cons rfl (w_pure rfl (p_len sl_24 rfl rfl) ?_)
                      refine aops_cons rfl (w_pure rfl (p_move rfl) ?_)
                      refine aops_cons rfl (w_pure rfl (p_add' rfl rfl ⟨by have := ssTo_len xs4 f4 s4 q4 4; simp only [List.length_map]; unfold setCount; omega, by have := ssTo_len xs4 f4 s4 q4 4; simp only [List.length_map]; unfold setCount; omega⟩) ?_)
                      refine aops_cons rfl (w_pure rfl (p_eqlT rfl rfl (by simp only [List.length_map]; unfold setCount; omega)) ?_)
                      refine aops_cons rfl (w_pure rfl (p_assign rfl) ?_)
                      refine aops_nil ?_
                      refine a_ret ?_
                      refine ret_ok (hands1 rfl (.tmp rfl)) (.nil _) ?_
                      first | exact ⟨rfl, rfl⟩ | (exfalso; omega)
                  · (try simp only [Bool.not_eq_true', Bool.not_eq_false', Bool.not_eq_true, Bool.not_eq_false, decide_eq_true_eq, decide_eq_false_iff_not, List.length_map, List.length_range] at h18)
                    refine a_skip ?_
                    refine a_seq ?_
                    refine a_region ?_
                    refine aops_cons rfl (w_pure rfl (p_assign rfl) ?_)
                    refine aops_nil ?_
                    refine a_ret ?_
                    refine ret_ok (hands1 rfl (.tmp rfl)) (.nil _) ?_
                    first | exact ⟨rfl, rfl⟩ | (exfalso; omega)
            exact all_nil
          exact all_nil
        exact all_nil
      refine all_cons_t rfl rfl rfl rfl ?_ ?_
      · skip
        refine w_pure rfl (p_load_box_all ag_26 rfl (by repeat (first | exact Pick.here _ _ _ | apply Pick.next)) (by rfl) noX) ?_
        refine draw_all [10] (by kernel_rfl) (by simp) ?_
        refine all_cons_t rfl rfl rfl rfl ?_ ?_
        · skip
          refine w_pure rfl (p_load_box_all ag_26 rfl (by repeat (first | exact Pick.here _ _ _ | apply Pick.next)) (by rfl) noX) ?_
          refine draw_all [11] (by kernel_rfl) (by simp) ?_
          refine all_cons_t rfl rfl rfl rfl ?_ ?_
          · skip
            refine w_callR rfl rfl rfl cl_11 (c_impl_IsMail v1) ?_
            refine draw_all [13] (by kernel_rfl) (by simp) ?_
            refine all_cons_t rfl rfl rfl rfl ?_ ?_
            · skip
              refine w_callR rfl rfl rfl cl_12 (c_spec_IsMail v1) ?_
              refine d_take_t 14 rfl (by kernel_rfl) (by kernel_rfl) (by kernel_rfl) rfl rfl rfl (p_neq_bsame um_4 rfl rfl) ?_
              refine d_take 15 rfl (by kernel_rfl) (by kernel_rfl) (by kernel_rfl) rfl (p_pick_f rfl rfl) ?_
              refine draw_done (by kernel_rfl) ?_
              refine a_cond_f rfl ?_
              refine a_skip ?_
              refine a_seq_join (ι := Unit) (fun _ => True) (fun _ => []) (fun _ => []) (old := []) (by repeat (first | exact Picks.nil _ | exact Pick.here _ _ _ | apply Pick.next | apply Picks.cons)) ?_ ?_
              · skip
                refine a_seq ?_
                refine a_region ?_
                refine aops_cons rfl (w_pure rfl (p_move rfl) ?_)
                refine aops_nil ?_
                first | refine a_cond_d rfl (fun h23 => ?_) (fun h24 => ?_) | refine a_cond_n rfl (fun h23 => ?_) (fun h24 => ?_) | refine a_cond_nb rfl (fun h23 => ?_) (fun h24 => ?_) | refine a_cond rfl (fun h23 => ?_) (fun h24 => ?_)
                · (try simp only [Bool.not_eq_true', Bool.not_eq_false', Bool.not_eq_true, Bool.not_eq_false, decide_eq_true_eq, decide_eq_false_iff_not, List.length_map, List.length_range] at h23)
                  refine a_seq ?_
                  have hk : GoodSend xs1 v1 := (by assumption)
                  rw [pickM_y hk]
                  refine a_region ?_
                  refine aops_cons rfl (w_pure rfl (p_move rfl) ?_)
                  refine aops_cons rfl (w_pure rfl (p_load_box_all ag_26 rfl (by repeat (first | exact Pick.here _ _ _ | apply Pick.next)) (by rfl) noX) ?_)
                  refine aops_cons rfl (w_callR rfl rfl rfl cl_8 (cf_impl_SendMail (sendOne xs1 v1) (small_send hk) v1 (send_again hk).2.1) ?_)
                  refine aops_cons rfl (w_pure rfl (p_move rfl) ?_)
                  refine aops_cons rfl (w_pure rfl (p_extract rfl rfl) ?_)
                  refine aops_cons rfl (w_pure rfl (p_extract rfl rfl) ?_)
                  refine aops_cons rfl (w_pure rfl (p_assign rfl) ?_)
                  refine aops_cons rfl (w_pure rfl (p_assign rfl) ?_)
                  refine aops_nil ?_
                  refine a_seq ?_
                  refine a_region ?_
                  refine aops_cons rfl (w_pure rfl (p_move rfl) ?_)
                  refine aops_cons rfl (w_pure rfl (p_not rfl) ?_)
                  refine aops_cons rfl (w_pure rfl (p_move rfl) ?_)
                  refine aops_guard_t rfl rfl rfl (w_pure rfl (p_move rfl) ?_)
                  refine aops_guard_t rfl rfl rfl (w_pure rfl (p_move rfl) ?_)
                  refine aops_guard_t rfl rfl rfl (w_callR rfl rfl rfl cl_10 (ce_laws_rMails (sendOne (sendOne xs1 v1) v1) (sendOne xs1 v1) (small_send hk) (send_again hk).1) ?_)
                  refine aops_guard_t rfl rfl rfl (w_pure rfl (p_not rfl) ?_)
                  refine aops_cons rfl (w_pure rfl (p_pick_f rfl rfl) ?_)
                  refine aops_cons rfl (w_pure rfl (p_move rfl) ?_)
                  refine aops_guard_t rfl rfl rfl (w_pure rfl (p_move rfl) ?_)
                  refine aops_guard_t rfl rfl rfl (w_callR rfl rfl rfl cl_13 (ct_impl_IsBox (sendOne xs1 v1) (small_send hk) (send_again hk).2.2) ?_)
                  refine aops_guard_t rfl rfl rfl (w_pure rfl (p_not rfl) ?_)
                  refine aops_cons rfl (w_pure rfl (p_pick_f rfl rfl) ?_)
                  refine aops_nil ?_
                  refine a_cond_f rfl ?_
                  refine a_skip ?_
                  exact ⟨(), _, trivial, (by repeat (first | exact Knows.nil | refine Knows.cons (by rfl) ?_)), (by repeat (first | exact Back.refl _ _ | refine Back.cons (by rfl) ?_)), (by repeat (first | exact Picks.nil _ | exact Pick.here _ _ _ | apply Pick.next | apply Picks.cons))⟩
                · (try simp only [Bool.not_eq_true', Bool.not_eq_false', Bool.not_eq_true, Bool.not_eq_false, decide_eq_true_eq, decide_eq_false_iff_not, List.length_map, List.length_range] at h24)
                  refine a_skip ?_
                  exact ⟨(), _, trivial, (by repeat (first | exact Knows.nil | refine Knows.cons (by rfl) ?_)), (by repeat (first | exact Back.refl _ _ | refine Back.cons (by rfl) ?_)), (by repeat (first | exact Picks.nil _ | exact Pick.here _ _ _ | apply Pick.next | apply Picks.cons))⟩
              · rintro _ -
                refine a_seq ?_
                refine a_region ?_
                refine aops_cons rfl (w_pure rfl (p_move rfl) ?_)
                refine aops_cons rfl (w_call rfl rfl rfl cl_14 (c_spec_DrawTakeMail bs hb) ?_)
                rintro _ _ ⟨⟨xs2, m2, rfl, hx2⟩, rfl⟩
                skip
                refine aops_cons rfl (w_pure rfl (p_move rfl) ?_)
                refine aops_cons rfl (w_pure rfl (p_extract rfl rfl) ?_)
                refine aops_cons rfl (w_pure rfl (p_extract rfl rfl) ?_)
                refine aops_cons rfl (w_pure rfl (p_assign rfl) ?_)
                refine aops_cons rfl (w_pure rfl (p_assign rfl) ?_)
                refine aops_nil ?_
                refine a_seq ?_
                refine a_region ?_
                refine aops_cons rfl (w_pure rfl (p_move rfl) ?_)
                refine aops_cons rfl (w_pure rfl (p_move rfl) ?_)
                refine aops_cons rfl (w_callR rfl rfl rfl cl_15 (cv_impl_TakeMail xs2 (by omega) m2) ?_)
                refine aops_cons rfl (w_pure rfl (p_move rfl) ?_)
                refine aops_cons rfl (w_pure rfl (p_extract rfl rfl) ?_)
                refine aops_cons rfl (w_pure rfl (p_extract rfl rfl) ?_)
                refine aops_cons rfl (w_pure rfl (p_extract rfl rfl) ?_)
                refine aops_cons rfl (w_alloc rfl z_26 fun b6 => ?_)
                refine aops_cons rfl (w_pure rfl (p_assign rfl) ?_)
                refine aops_cons rfl (w_store (cells' := [_, _, _]) rfl rfl rfl (by repeat (first | exact Pick.here _ _ _ | apply Pick.next)) cn_26 (by rfl) (by rfl) (by rfl) trivial ?_)
                refine aops_cons rfl (w_pure rfl (p_assign rfl) ?_)
                refine aops_nil ?_
                refine a_seq ?_
                refine a_seq ?_
                refine a_region ?_
                refine aops_cons rfl (w_pure rfl (p_move rfl) ?_)
                refine aops_cons rfl (w_pure rfl (p_move rfl) ?_)
                refine aops_cons rfl (w_callR rfl rfl rfl cl_16 (cv_spec_TakeMail xs2 (by omega) m2) ?_)
                refine aops_cons rfl (w_pure rfl (p_move rfl) ?_)
                refine aops_cons rfl (w_pure rfl (p_extract rfl rfl) ?_)
                refine aops_cons rfl (w_pure rfl (p_extract rfl rfl) ?_)
                refine aops_cons rfl (w_pure rfl (p_extract rfl rfl) ?_)
                refine aops_cons rfl (w_alloc rfl z_26 fun b7 => ?_)
                refine aops_cons rfl (w_pure rfl (p_assign rfl) ?_)
                refine aops_cons rfl (w_store (cells' := [_, _, _]) rfl rfl rfl (by repeat (first | exact Pick.here _ _ _ | apply Pick.next)) cn_26 (by rfl) (by rfl) (by rfl) trivial ?_)
                refine aops_cons rfl (w_pure rfl (p_assign rfl) ?_)
                refine aops_nil ?_
                refine a_seq ?_
                refine a_region ?_
                refine aops_cons rfl (w_pure rfl (p_move rfl) ?_)
                refine aops_cons rfl (w_pure rfl (p_move rfl) ?_)
                refine aops_cons rfl (w_pure rfl (p_neq_bsame um_4 rfl rfl) ?_)
                refine aops_cons rfl (w_pure rfl (p_move rfl) ?_)
                refine aops_guard_t rfl rfl rfl (w_pure rfl (p_load_box_all ag_26 rfl (by repeat (first | exact Pick.here _ _ _ | apply Pick.next)) (by rfl) noX) ?_)
                refine aops_guard_t rfl rfl rfl (w_pure rfl (p_load_box_all ag_26 rfl (by repeat (first | exact Pick.here _ _ _ | apply Pick.next)) (by rfl) noX) ?_)
                refine aops_guard_t rfl rfl rfl (w_pure rfl (p_neq_s eqs_26 rfl rfl (eqC_mail' rfl)) ?_)
                refine aops_cons rfl (w_pure rfl (p_pick_f rfl rfl) ?_)
                refine aops_cons rfl (w_pure rfl (p_move rfl) ?_)
                refine aops_guard_t rfl rfl rfl (w_pure rfl (p_move rfl) ?_)
                refine aops_guard_t rfl rfl rfl (w_pure rfl (p_move rfl) ?_)
                refine aops_guard_t rfl rfl rfl (w_callR rfl rfl rfl cl_10 (c_laws_rMails (pickM (GoodTake xs2 m2) (takeL xs2 m2)) (pickM_small (fun h => by have := takeL_len xs2 m2; omega))) ?_)
                refine aops_guard_t rfl rfl rfl (w_pure rfl (p_not rfl) ?_)
                refine aops_cons rfl (w_pure rfl (p_pick_f rfl rfl) ?_)
                refine aops_nil ?_
                refine a_cond_f rfl ?_
                refine a_skip ?_
                refine a_seq_join (ι := Unit) (fun _ => True) (fun _ => []) (fun _ => []) (old := []) (by repeat (first | exact Picks.nil _ | exact Pick.here _ _ _ | apply Pick.next | apply Picks.cons)) ?_ ?_
                · skip
                  refine a_seq ?_
                  refine a_region ?_
                  refine aops_cons rfl (w_pure rfl (p_move rfl) ?_)
                  refine aops_nil ?_
                  first | refine a_cond_d rfl (fun h25 => ?_) (fun h26 => ?_) | refine a_cond_n rfl (fun h25 => ?_) (fun h26 => ?_) | refine a_cond_nb rfl (fun h25 => ?_) (fun h26 => ?_) | refine a_cond rfl (fun h25 => ?_) (fun h26 => ?_)
                  · (try simp only [Bool.not_eq_true', Bool.not_eq_false', Bool.not_eq_true, Bool.not_eq_false, decide_eq_true_eq, decide_eq_false_iff_not, List.length_map, List.length_range] at h25)
                    refine a_seq ?_
                    have hk : GoodTake xs2 m2 := (by assumption)
                    rw [pickM_y hk, pick1_y hk]
                    refine a_region ?_
                    refine aops_cons rfl (w_pure rfl (p_move rfl) ?_)
                    refine aops_cons rfl (w_pure rfl (p_load_box_all ag_26 rfl (by repeat (first | exact Pick.here _ _ _ | apply Pick.next)) (by rfl) noX) ?_)
                    refine aops_cons rfl (w_callR rfl rfl rfl cl_8 (cf_impl_SendMail (takeL xs2 m2) (by have := takeL_len xs2 m2; omega) (takeM xs2 m2) (take_back hk).1) ?_)
                    refine aops_cons rfl (w_pure rfl (p_move rfl) ?_)
                    refine aops_cons rfl (w_pure rfl (p_extract rfl rfl) ?_)
                    refine aops_cons rfl (w_pure rfl (p_extract rfl rfl) ?_)
                    refine aops_cons rfl (w_pure rfl (p_assign rfl) ?_)
                    refine aops_cons rfl (w_pure rfl (p_assign rfl) ?_)
                    refine aops_nil ?_
                    refine a_seq ?_
                    refine a_region ?_
                    refine aops_cons rfl (w_pure rfl (p_move rfl) ?_)
                    refine aops_cons rfl (w_pure rfl (p_not rfl) ?_)
                    refine aops_cons rfl (w_pure rfl (p_move rfl) ?_)
                    refine aops_guard_t rfl rfl rfl (w_pure rfl (p_move rfl) ?_)
                    refine aops_guard_t rfl rfl rfl (w_pure rfl (p_len sl_24 rfl rfl) ?_)
                    refine aops_guard_t rfl rfl rfl (w_pure rfl (p_move rfl) ?_)
                    refine aops_guard_t rfl rfl rfl (w_pure rfl (p_len sl_24 rfl rfl) ?_)
                    refine aops_guard_t rfl rfl rfl (w_pure rfl (p_neqF rfl rfl (by simp only [List.length_map]; rw [(take_back hk).2])) ?_)
                    refine aops_cons rfl (w_pure rfl (p_pick_f rfl rfl) ?_)
                    refine aops_cons rfl (w_pure rfl (p_move rfl) ?_)
                    refine aops_guard_t rfl rfl rfl (w_pure rfl (p_field_box fo_26_1 rfl) ?_)
                    refine aops_guard_t rfl rfl rfl (w_pure rfl (p_load_box ag_3 rfl (by repeat (first | exact Pick.here _ _ _ | apply Pick.next)) (by rfl) noX) ?_)
                    refine aops_guard_t rfl rfl rfl (w_pure rfl (p_move rfl) ?_)
                    refine aops_guard_t rfl rfl rfl (w_pure rfl (p_neqF rfl rfl (take_dst hk)) ?_)
                    refine aops_cons rfl (w_pure rfl (p_pick_f rfl rfl) ?_)
                    refine aops_nil ?_
                    refine a_cond_f rfl ?_
                    refine a_skip ?_
                    exact ⟨(), _, trivial, (by repeat (first | exact Knows.nil | refine Knows.cons (by rfl) ?_)), (by repeat (first | exact Back.refl _ _ | refine Back.cons (by rfl) ?_)), (by repeat (first | exact Picks.nil _ | exact Pick.here _ _ _ | apply Pick.next | apply Picks.cons))⟩
                  · (try simp only [Bool.not_eq_true', Bool.not_eq_false', Bool.not_eq_true, Bool.not_eq_false, decide_eq_true_eq, decide_eq_false_iff_not, List.length_map, List.length_range] at h26)
                    refine a_skip ?_
                    exact ⟨(), _, trivial, (by repeat (first | exact Knows.nil | refine Knows.cons (by rfl) ?_)), (by repeat (first | exact Back.refl _ _ | refine Back.cons (by rfl) ?_)), (by repeat (first | exact Picks.nil _ | exact Pick.here _ _ _ | apply Pick.next | apply Picks.cons))⟩
                · rintro _ -
                  refine a_seq ?_
                  refine a_region ?_
                  refine aops_cons rfl (w_pure rfl (p_move rfl) ?_)
                  refine aops_cons rfl (w_call rfl rfl rfl cl_17 (c_spec_DrawSendToOthers bs hb) ?_)
                  rintro _ _ ⟨⟨xs3, f3, q3, rfl, hx3⟩, rfl⟩
                  skip
                  refine aops_cons rfl (w_pure rfl (p_move rfl) ?_)
                  refine aops_cons rfl (w_pure rfl (p_extract rfl rfl) ?_)
                  refine aops_cons rfl (w_pure rfl (p_extract rfl rfl) ?_)
                  refine aops_cons rfl (w_pure rfl (p_extract rfl rfl) ?_)
                  refine aops_cons rfl (w_pure rfl (p_assign rfl) ?_)
                  refine aops_cons rfl (w_pure rfl (p_assign rfl) ?_)
                  refine aops_cons rfl (w_pure rfl (p_assign rfl) ?_)
                  refine aops_nil ?_
                  refine a_seq ?_
                  refine a_region ?_
                  refine aops_cons rfl (w_pure rfl (p_move rfl) ?_)
                  refine aops_cons rfl (w_pure rfl (p_move rfl) ?_)
                  refine aops_cons rfl (w_pure rfl (p_move rfl) ?_)
                  refine aops_cons rfl (w_callR rfl rfl rfl cl_18 (cv_impl_SendToOthers xs3 (by omega) f3 q3) ?_)
                  refine aops_cons rfl (w_pure rfl (p_move rfl) ?_)
                  refine aops_cons rfl (w_pure rfl (p_extract rfl rfl) ?_)
                  refine aops_cons rfl (w_pure rfl (p_extract rfl rfl) ?_)
                  refine aops_cons rfl (w_pure rfl (p_assign rfl) ?_)
                  refine aops_cons rfl (w_pure rfl (p_assign rfl) ?_)
                  refine aops_nil ?_
                  refine a_seq ?_
                  refine a_seq ?_
                  refine a_region ?_
                  refine aops_cons rfl (w_pure rfl (p_move rfl) ?_)
                  refine aops_cons rfl (w_pure rfl (p_move rfl) ?_)
                  refine aops_cons rfl (w_pure rfl (p_move rfl) ?_)
                  refine aops_cons rfl (w_callR rfl rfl rfl cl_19 (cv_spec_SendToOthers xs3 (by omega) f3 q3) ?_)
                  refine aops_cons rfl (w_pure rfl (p_move rfl) ?_)
                  refine aops_cons rfl (w_pure rfl (p_extract rfl rfl) ?_)
                  refine aops_cons rfl (w_pure rfl (p_extract rfl rfl) ?_)
                  refine aops_cons rfl (w_pure rfl (p_assign rfl) ?_)
                  refine aops_cons rfl (w_pure rfl (p_assign rfl) ?_)
                  refine aops_nil ?_
                  refine a_seq ?_
                  refine a_region ?_
                  refine aops_cons rfl (w_pure rfl (p_move rfl) ?_)
                  refine aops_cons rfl (w_pure rfl (p_move rfl) ?_)
                  refine aops_cons rfl (w_pure rfl (p_neq_bsame um_4 rfl rfl) ?_)
                  refine aops_cons rfl (w_pure rfl (p_move rfl) ?_)
                  refine aops_guard_t rfl rfl rfl (w_pure rfl (p_move rfl) ?_)
                  refine aops_guard_t rfl rfl rfl (w_pure rfl (p_move rfl) ?_)
                  refine aops_guard_t rfl rfl rfl (w_callR rfl rfl rfl cl_10 (c_laws_rMails (pickM (GoodOth xs3 f3 q3) (ssTo xs3 f3 (oth f3) q3 4)) (pickM_small (fun h => by have := ssTo_len xs3 f3 (oth f3) q3 4; omega))) ?_)
                  refine aops_guard_t rfl rfl rfl (w_pure rfl (p_not rfl) ?_)
                  refine aops_cons rfl (w_pure rfl (p_pick_f rfl rfl) ?_)
                  refine aops_nil ?_
                  refine a_cond_f rfl ?_
                  refine a_skip ?_
                  refine a_seq ?_
                  refine a_region ?_
                  refine aops_cons rfl (w_pure rfl (p_move rfl) ?_)
                  refine aops_cons rfl (w_call rfl rfl rfl cl_20 (c_spec_DrawSendToSet bs hb) ?_)
                  rintro _ _ ⟨⟨xs4, f4, s4, q4, rfl, hx4⟩, rfl⟩
                  skip
                  refine aops_cons rfl (w_pure rfl (p_move rfl) ?_)
                  refine aops_cons rfl (w_pure rfl (p_extract rfl rfl) ?_)
                  refine aops_cons rfl (w_pure rfl (p_extract rfl rfl) ?_)
                  refine aops_cons rfl (w_pure rfl (p_extract rfl rfl) ?_)
                  refine aops_cons rfl (w_pure rfl (p_extract rfl rfl) ?_)
                  refine aops_cons rfl (w_pure rfl (p_assign rfl) ?_)
                  refine aops_cons rfl (w_pure rfl (p_assign rfl) ?_)
                  refine aops_cons rfl (w_pure rfl (p_assign rfl) ?_)
                  refine aops_cons rfl (w_pure rfl (p_assign rfl) ?_)
                  refine aops_nil ?_
                  refine a_seq ?_
                  refine a_region ?_
                  refine aops_cons rfl (w_pure rfl (p_move rfl) ?_)
                  refine aops_cons rfl (w_pure rfl (p_move rfl) ?_)
                  refine aops_cons rfl (w_pure rfl (p_move rfl) ?_)
                  refine aops_cons rfl (w_pure rfl (p_move rfl) ?_)
                  refine aops_cons rfl (w_callR rfl rfl rfl cl_21 (cv_impl_SendToSet xs4 (by omega) f4 s4 q4) ?_)
                  refine aops_cons rfl (w_pure rfl (p_move rfl) ?_)
                  refine aops_cons rfl (w_pure rfl (p_extract rfl rfl) ?_)
                  refine aops_cons rfl (w_pure rfl (p_extract rfl rfl) ?_)
                  refine aops_cons rfl (w_pure rfl (p_extract rfl rfl) ?_)
                  refine aops_cons rfl (w_pure rfl (p_assign rfl) ?_)
                  refine aops_cons rfl (w_pure rfl (p_assign rfl) ?_)
                  refine aops_cons rfl (w_pure rfl (p_assign rfl) ?_)
                  refine aops_nil ?_
                  refine a_seq ?_
                  refine a_seq ?_
                  refine a_region ?_
                  refine aops_cons rfl (w_pure rfl (p_move rfl) ?_)
                  refine aops_cons rfl (w_pure rfl (p_move rfl) ?_)
                  refine aops_cons rfl (w_pure rfl (p_move rfl) ?_)
                  refine aops_cons rfl (w_pure rfl (p_move rfl) ?_)
                  refine aops_cons rfl (w_callR rfl rfl rfl cl_22 (cv_spec_SendToSet xs4 (by omega) f4 s4 q4) ?_)
                  refine aops_cons rfl (w_pure rfl (p_move rfl) ?_)
                  refine aops_cons rfl (w_pure rfl (p_extract rfl rfl) ?_)
                  refine aops_cons rfl (w_pure rfl (p_extract rfl rfl) ?_)
                  refine aops_cons rfl (w_pure rfl (p_extract rfl rfl) ?_)
                  refine aops_cons rfl (w_pure rfl (p_assign rfl) ?_)
                  refine aops_cons rfl (w_pure rfl (p_assign rfl) ?_)
                  refine aops_cons rfl (w_pure rfl (p_assign rfl) ?_)
                  refine aops_nil ?_
                  refine a_seq ?_
                  refine a_region ?_
                  refine aops_cons rfl (w_pure rfl (p_move rfl) ?_)
                  refine aops_cons rfl (w_pure rfl (p_move rfl) ?_)
                  refine aops_cons rfl (w_pure rfl (p_neq_bsame um_4 rfl rfl) ?_)
                  refine aops_cons rfl (w_pure rfl (p_move rfl) ?_)
                  refine aops_guard_t rfl rfl rfl (w_pure rfl (p_move rfl) ?_)
                  refine aops_guard_t rfl rfl rfl (w_pure rfl (p_move rfl) ?_)
                  refine aops_guard_t rfl rfl rfl (w_pure rfl (p_neq_same rfl rfl) ?_)
                  refine aops_cons rfl (w_pure rfl (p_pick_f rfl rfl) ?_)
                  refine aops_cons rfl (w_pure rfl (p_move rfl) ?_)
                  refine aops_guard_t rfl rfl rfl (w_pure rfl (p_move rfl) ?_)
                  refine aops_guard_t rfl rfl rfl (w_pure rfl (p_move rfl) ?_)
                  refine aops_guard_t rfl rfl rfl (w_callR rfl rfl rfl cl_10 (c_laws_rMails (pickM (GoodSet xs4 f4 s4 q4) (ssTo xs4 f4 s4 q4 4)) (pickM_small (fun h => by have := ssTo_len xs4 f4 s4 q4 4; omega))) ?_)
                  refine aops_guard_t rfl rfl rfl (w_pure rfl (p_not rfl) ?_)
                  refine aops_cons rfl (w_pure rfl (p_pick_f rfl rfl) ?_)
                  refine aops_nil ?_
                  refine a_cond_f rfl ?_
                  refine a_skip ?_
                  refine a_seq ?_
                  refine a_seq ?_
                  refine a_region ?_
                  refine aops_cons rfl (w_pure rfl (p_move rfl) ?_)
                  refine aops_nil ?_
                  first | refine a_cond_d rfl (fun h27 => ?_) (fun h28 => ?_) | refine a_cond_n rfl (fun h27 => ?_) (fun h28 => ?_) | refine a_cond_nb rfl (fun h27 => ?_) (fun h28 => ?_) | refine a_cond rfl (fun h27 => ?_) (fun h28 => ?_)
                  · (try simp only [Bool.not_eq_true', Bool.not_eq_false', Bool.not_eq_true, Bool.not_eq_false, decide_eq_true_eq, decide_eq_false_iff_not, List.length_map, List.length_range] at h27)
                    refine a_seq ?_
                    refine a_seq ?_
                    have hk : GoodSet xs4 f4 s4 q4 := (by assumption)
                    rw [pickM_y hk, pickI_y hk]
                    have hf4 := hk.2.1
                    refine a_region ?_
                    refine aops_cons rfl (w_pure rfl (p_assign rfl) ?_)
                    refine aops_nil ?_
                    refine a_block ?_
                    refine a_loop (ι := Nat) (fun i => i ≤ 4) (fun i => [(38, .int .i64 (i : Int))]) (fun i => []) (fun i => 4 - i) 0 (Nat.zero_le _) (by repeat (first | exact Knows.nil | refine Knows.cons (by rfl) ?_)) (by repeat (first | exact Picks.nil _ | exact Pick.here _ _ _ | apply Pick.next | apply Picks.cons)) ?_
                    rintro i hi
                    replace hi : i ≤ 4 := hi
                    refine a_seq ?_
                    refine a_seq ?_
                    refine a_region ?_
                    refine aops_cons rfl (w_pure rfl (p_move rfl) ?_)
                    refine aops_cons rfl (w_pure rfl (p_lss rfl rfl) ?_)
                    refine aops_nil ?_
                    first | refine a_cond_d rfl (fun h29 => ?_) (fun h30 => ?_) | refine a_cond_n rfl (fun h29 => ?_) (fun h30 => ?_) | refine a_cond_nb rfl (fun h29 => ?_) (fun h30 => ?_) | refine a_cond rfl (fun h29 => ?_) (fun h30 => ?_)
                    · (try simp only [Bool.not_eq_true', Bool.not_eq_false', Bool.not_eq_true, Bool.not_eq_false, decide_eq_true_eq, decide_eq_false_iff_not, List.length_map, List.length_range] at h29)
                      refine a_skip ?_
                      refine a_seq ?_
                      refine a_block ?_
                      refine a_seq ?_
                      refine a_region ?_
                      refine aops_cons rfl (w_pure rfl (p_move rfl) ?_)
                      refine aops_cons rfl (w_pure rfl (p_move rfl) ?_)
                      refine aops_cons rfl (w_callR rfl rfl rfl cl_23 (cf_impl_MailFor (ssTo xs4 f4 s4 q4 4) (by have := ssTo_len xs4 f4 s4 q4 4; omega) (i : Int) (set_for hk (by omega)).1) ?_)
                      refine aops_cons rfl (w_pure rfl (p_move rfl) ?_)
                      refine aops_cons rfl (w_pure rfl (p_extract rfl rfl) ?_)
                      refine aops_cons rfl (w_pure rfl (p_extract rfl rfl) ?_)
                      refine aops_cons rfl (w_pure rfl (p_assign rfl) ?_)
                      refine aops_cons rfl (w_pure rfl (p_assign rfl) ?_)
                      refine aops_nil ?_
                      refine a_seq ?_
                      refine a_region ?_
                      refine aops_cons rfl (w_pure rfl (p_move rfl) ?_)
                      refine aops_cons rfl (w_pure rfl (p_not rfl) ?_)
                      refine aops_cons rfl (w_pure rfl (p_move rfl) ?_)
                      refine aops_guard_t rfl rfl rfl (w_pure rfl (p_move rfl) ?_)
                      refine aops_guard_t rfl rfl rfl (w_pure rfl (p_move rfl) ?_)
                      refine aops_guard_t rfl rfl rfl (w_pure rfl (p_len sl_45 rfl rfl) ?_)
                      refine aops_guard_t rfl rfl rfl (w_pure rfl (p_geqF rfl rfl (by simp only [List.length_map, forL_len]; have := hk.2.2.2.1; omega)) ?_)
                      refine aops_cons rfl (w_pure rfl (p_pick_f rfl rfl) ?_)
                      refine aops_cons rfl (w_pure rfl (p_move rfl) ?_)
                      refine aops_guard_t rfl rfl rfl (w_pure rfl (p_move rfl) ?_)
                      refine aops_guard_t rfl rfl rfl (w_pure rfl (p_move rfl) ?_)
                      refine aops_guard_t rfl rfl rfl (w_pure rfl (p_convert ui_3 um_48 rfl) ?_)
                      refine aops_guard_t rfl rfl rfl (w_pure rfl (p_shr rfl rfl (by first | omega | (rw [u64_id (by omega) (by omega)]; omega))) ?_)
                      refine aops_guard_t rfl rfl rfl (w_pure rfl (p_bits .and (by decide) rfl rfl) ?_)
                      refine aops_guard_t rfl rfl rfl (w_pure rfl (p_eql rfl rfl) ?_)
                      refine aops_guard_t rfl rfl rfl (w_pure rfl (p_move rfl) ?_)
                      first | refine aops_split_d 245 rfl (fun h31 => ?_) (fun h32 => ?_) | refine aops_split 245 rfl (fun h31 => ?_) (fun h32 => ?_)
                      · (try simp only [Bool.not_eq_true', Bool.not_eq_false', Bool.not_eq_true, Bool.not_eq_false, decide_eq_true_eq, decide_eq_false_iff_not, List.length_map, List.length_range] at h31)
                        refine aops_guard_t rfl rfl rfl (w_pure rfl (p_move rfl) ?_)
                        refine aops_guard_t rfl rfl rfl (w_pure rfl (p_move rfl) ?_)
                        refine aops_guard_t rfl rfl rfl (w_pure rfl (p_index_sl q4.toNat rfl rfl (by have := hk.2.2.2.1; omega) (rowD _ _ (0 : Int) (by rw [forL_len]; have := hk.2.2.2.1; omega)) es_45) ?_)
                        refine aops_guard_t rfl rfl rfl (w_pure rfl (p_load_v ag_3 rfl (by rfl) noX) ?_)
                        refine aops_guard_t rfl rfl rfl (w_pure rfl (p_move rfl) ?_)
                        refine aops_guard_t rfl rfl rfl (w_pure rfl (p_convert ui_3 um_48 rfl) ?_)
                        refine aops_guard_t rfl rfl rfl (w_pure rfl (p_shr rfl rfl (by first | omega | (rw [u64_id (by omega) (by omega)]; omega))) ?_)
                        refine aops_guard_t rfl rfl rfl (w_pure rfl (p_bits .and (by decide) rfl rfl) ?_)
                        refine aops_guard_t rfl rfl rfl (w_pure rfl (p_neqF rfl rfl (by have hb := (set_for hk (t := i) (by omega)).2; rw [u64_id (by omega) (by omega)] at *; exact hb (by assumption))) ?_)
                        refine aops_guard_t rfl rfl rfl (w_pure rfl (p_pick_t rfl rfl) ?_)
                        refine aops_cons rfl (w_pure rfl (p_pick_f rfl rfl) ?_)
                        refine aops_nil ?_
                        refine a_cond_f rfl ?_
                        refine a_skip ?_
                        refine a_region ?_
                        refine aops_cons rfl (w_pure rfl (p_move rfl) ?_)
                        refine aops_cons rfl (w_pure rfl (p_add' rfl rfl ⟨by omega, by omega⟩) ?_)
                        refine aops_cons rfl (w_pure rfl (p_assign rfl) ?_)
                        refine aops_nil ?_
                        refine ⟨(i + 1), _, ?_, ?_, (by repeat (first | exact Knows.nil | refine Knows.cons (by rfl) ?_)), (by repeat (first | exact Back.refl _ _ | refine Back.cons (by rfl) ?_)), (by repeat (first | exact Picks.nil _ | exact Pick.here _ _ _ | apply Pick.next | apply Picks.cons))⟩
                        · omega
                        · (try dsimp only); omega
                      · (try simp only [Bool.not_eq_true', Bool.not_eq_false', Bool.not_eq_true, Bool.not_eq_false, decide_eq_true_eq, decide_eq_false_iff_not, List.length_map, List.length_range] at h32)
                        refine g_pass' rfl rfl rfl rfl rfl ?_
                        refine g_pass' rfl rfl rfl rfl rfl ?_
                        refine g_pass' rfl rfl rfl rfl rfl ?_
                        refine g_pass' rfl rfl rfl rfl rfl ?_
                        refine g_pass' rfl rfl rfl rfl rfl ?_
                        refine g_pass' rfl rfl rfl rfl rfl ?_
                        refine g_pass' rfl rfl rfl rfl rfl ?_
                        refine g_pass' rfl rfl rfl rfl rfl ?_
                        refine g_pass' rfl rfl rfl rfl rfl ?_
                        refine aops_guard_t rfl rfl rfl (w_pure rfl (p_pick_f rfl rfl) ?_)
                        refine aops_cons rfl (w_pure rfl (p_pick_f rfl rfl) ?_)
                        refine aops_nil ?_
                        refine a_cond_f rfl ?_
                        refine a_skip ?_
                        refine a_region ?_
                        refine aops_cons rfl (w_pure rfl (p_move rfl) ?_)
                        refine aops_cons rfl (w_pure rfl (p_add' rfl rfl ⟨by omega, by omega⟩) ?_)
                        refine aops_cons rfl (w_pure rfl (p_assign rfl) ?_)
                        refine aops_nil ?_
                        refine ⟨(i + 1), _, ?_, ?_, (by repeat (first | exact Knows.nil | refine Knows.cons (by rfl) ?_)), (by repeat (first | exact Back.refl _ _ | refine Back.cons (by rfl) ?_)), (by repeat (first | exact Picks.nil _ | exact Pick.here _ _ _ | apply Pick.next | apply Picks.cons))⟩
                        · omega
                        · (try dsimp only); omega
                    · (try simp only [Bool.not_eq_true', Bool.not_eq_false', Bool.not_eq_true, Bool.not_eq_false, decide_eq_true_eq, decide_eq_false_iff_not, List.length_map, List.length_range] at h30)
                      refine a_exit ?_
                      refine a_seq ?_
                      refine a_region ?_
                      refine aops_cons rfl (w_pure rfl (p_move rfl) ?_)
                      refine aops_cons rfl (w_pure rfl (p_len sl_24 rfl rfl) ?_)
                      refine aops_cons rfl (w_pure rfl (p_move rfl) ?_)
                      refine aops_cons rfl (w_pure rfl (p_len sl_24 rfl rfl) ?_)
                      refine aops_cons rfl (w_pure rfl (p_move rfl) ?_)
                      refine aops_cons rfl (w_pure rfl (p_add' rfl rfl ⟨by have := ssTo_len xs4 f4 s4 q4 4; simp only [List.length_map]; unfold setCount; omega, by have := ssTo_len xs4 f4 s4 q4 4; simp only [List.length_map]; unfold setCount; omega⟩) ?_)
                      refine aops_cons rfl (w_pure rfl (p_eqlT rfl rfl (by simp only [List.length_map]; unfold setCount; omega)) ?_)
                      refine aops_cons rfl (w_pure rfl (p_assign rfl) ?_)
                      refine aops_nil ?_
                      refine a_ret ?_
                      refine ret_ok (hands1 rfl (.tmp rfl)) (.nil _) ?_
                      first | exact ⟨rfl, rfl⟩ | (exfalso; omega)
                  · (try simp only [Bool.not_eq_true', Bool.not_eq_false', Bool.not_eq_true, Bool.not_eq_false, decide_eq_true_eq, decide_eq_false_iff_not, List.length_map, List.length_range] at h28)
                    refine a_skip ?_
                    refine a_seq ?_
                    refine a_region ?_
                    refine aops_cons rfl (w_pure rfl (p_assign rfl) ?_)
                    refine aops_nil ?_
                    refine a_ret ?_
                    refine ret_ok (hands1 rfl (.tmp rfl)) (.nil _) ?_
                    first | exact ⟨rfl, rfl⟩ | (exfalso; omega)
            exact all_nil
          exact all_nil
        exact all_nil
      exact all_nil
    exact all_nil

end Go.Proofs.Ytmdhojgkhbihaaa
