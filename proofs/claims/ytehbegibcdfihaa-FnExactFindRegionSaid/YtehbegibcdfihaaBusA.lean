/-
  The walks of this part: each theorem is the contract of one function. Condition: none but those that it names.
-/
import Derived.Test.YtehbegibcdfihaaBus
import Derived.Test.YtehbegibcdfihaaBusF
namespace Go.Proofs.Ytehbegibcdfihaa
open Go Go.Fw Go.Hv
attribute [local irreducible] awp Aops Aop ADraw ADrawAll ACalls
set_option maxRecDepth 4000
set_option linter.unusedSimpArgs false
set_option linter.unusedVariables false

theorem c_impl_inside (n lo hi : Int) : ACalls Try.prog 62 [.int .i64 n, .int .i64 lo, .int .i64 hi] [] (Ret (.bool (decide (lo ≤ n ∧ n ≤ hi)))) := by
  refine a_enter Try.func62 rfl rfl (fun w0 M0 => ?_)
  refine a_seq ?_
  refine a_region ?_
  refine aops_cons rfl (w_pure rfl (p_assign rfl) ?_)
  refine aops_nil ?_
  refine a_seq ?_
  refine a_region ?_
  refine aops_cons rfl (w_pure rfl (p_move rfl) ?_)
  refine aops_cons rfl (w_pure rfl (p_move rfl) ?_)
  refine aops_cons rfl (w_pure rfl (p_geq rfl rfl) ?_)
  refine aops_cons rfl (w_pure rfl (p_move rfl) ?_)
  first | refine aops_split_d 10 rfl (fun h1 => ?_) (fun h2 => ?_) | refine aops_split 10 rfl (fun h1 => ?_) (fun h2 => ?_)
  · try simp only [Bool.not_eq_true', Bool.not_eq_false', Bool.not_eq_true, Bool.not_eq_false, decide_eq_true_eq, decide_eq_false_iff_not, List.length_map] at h1
    refine aops_guard_t rfl rfl rfl (w_pure rfl (p_move rfl) ?_)
    refine aops_guard_t rfl rfl rfl (w_pure rfl (p_move rfl) ?_)
    refine aops_guard_t rfl rfl rfl (w_pure rfl (p_leq rfl rfl) ?_)
    refine aops_cons rfl (w_pure rfl (p_pick_t rfl rfl) ?_)
    refine aops_cons rfl (w_pure rfl (p_assign rfl) ?_)
    refine aops_nil ?_
    refine a_ret ?_
    refine ret_ok (hands1 rfl (.tmp rfl)) (.nil _) ?_
    first | (refine ret_dec ?_; exact Iff.rfl) | (refine ret_false ?_; omega) | (refine ret_true ?_; omega) | (refine ret_dec ?_; omega)
  · try simp only [Bool.not_eq_true', Bool.not_eq_false', Bool.not_eq_true, Bool.not_eq_false, decide_eq_true_eq, decide_eq_false_iff_not, List.length_map] at h2
    refine g_pass' rfl rfl rfl rfl rfl ?_
    refine g_pass' rfl rfl rfl rfl rfl ?_
    refine g_pass' rfl rfl rfl rfl rfl ?_
    refine aops_cons rfl (w_pure rfl (p_pick_f rfl rfl) ?_)
    refine aops_cons rfl (w_pure rfl (p_assign rfl) ?_)
    refine aops_nil ?_
    refine a_ret ?_
    refine ret_ok (hands1 rfl (.tmp rfl)) (.nil _) ?_
    first | (refine ret_dec ?_; exact Iff.rfl) | (refine ret_false ?_; omega) | (refine ret_true ?_; omega) | (refine ret_dec ?_; omega)

theorem c_spec_l1In (n lo hi : Int) : ACalls Try.prog 91 [.int .i64 n, .int .i64 lo, .int .i64 hi] [] (Ret (.bool (decide (lo ≤ n ∧ n ≤ hi)))) := by
  refine a_enter Try.func91 rfl rfl (fun w0 M0 => ?_)
  refine a_seq ?_
  refine a_region ?_
  refine aops_cons rfl (w_pure rfl (p_assign rfl) ?_)
  refine aops_nil ?_
  refine a_seq ?_
  refine a_region ?_
  refine aops_cons rfl (w_pure rfl (p_move rfl) ?_)
  refine aops_cons rfl (w_pure rfl (p_move rfl) ?_)
  refine aops_cons rfl (w_pure rfl (p_geq rfl rfl) ?_)
  refine aops_cons rfl (w_pure rfl (p_move rfl) ?_)
  first | refine aops_split_d 10 rfl (fun h1 => ?_) (fun h2 => ?_) | refine aops_split 10 rfl (fun h1 => ?_) (fun h2 => ?_)
  · try simp only [Bool.not_eq_true', Bool.not_eq_false', Bool.not_eq_true, Bool.not_eq_false, decide_eq_true_eq, decide_eq_false_iff_not, List.length_map] at h1
    refine aops_guard_t rfl rfl rfl (w_pure rfl (p_move rfl) ?_)
    refine aops_guard_t rfl rfl rfl (w_pure rfl (p_move rfl) ?_)
    refine aops_guard_t rfl rfl rfl (w_pure rfl (p_leq rfl rfl) ?_)
    refine aops_cons rfl (w_pure rfl (p_pick_t rfl rfl) ?_)
    refine aops_cons rfl (w_pure rfl (p_assign rfl) ?_)
    refine aops_nil ?_
    refine a_ret ?_
    refine ret_ok (hands1 rfl (.tmp rfl)) (.nil _) ?_
    first | (refine ret_dec ?_; exact Iff.rfl) | (refine ret_false ?_; omega) | (refine ret_true ?_; omega) | (refine ret_dec ?_; omega)
  · try simp only [Bool.not_eq_true', Bool.not_eq_false', Bool.not_eq_true, Bool.not_eq_false, decide_eq_true_eq, decide_eq_false_iff_not, List.length_map] at h2
    refine g_pass' rfl rfl rfl rfl rfl ?_
    refine g_pass' rfl rfl rfl rfl rfl ?_
    refine g_pass' rfl rfl rfl rfl rfl ?_
    refine aops_cons rfl (w_pure rfl (p_pick_f rfl rfl) ?_)
    refine aops_cons rfl (w_pure rfl (p_assign rfl) ?_)
    refine aops_nil ?_
    refine a_ret ?_
    refine ret_ok (hands1 rfl (.tmp rfl)) (.nil _) ?_
    first | (refine ret_dec ?_; exact Iff.rfl) | (refine ret_false ?_; omega) | (refine ret_true ?_; omega) | (refine ret_dec ?_; omega)

theorem c_spec_l17Address (n : Int) : ACalls Try.prog 65 [.int .i64 n] [] (Ret (.bool (decide (0 ≤ n ∧ n ≤ 65535)))) := by
  refine a_enter Try.func65 rfl rfl (fun w0 M0 => ?_)
  refine a_seq ?_
  refine a_region ?_
  refine aops_cons rfl (w_pure rfl (p_assign rfl) ?_)
  refine aops_nil ?_
  refine a_seq ?_
  refine a_region ?_
  refine aops_cons rfl (w_pure rfl (p_move rfl) ?_)
  refine aops_cons rfl (w_callR rfl rfl rfl cl_91 (c_spec_l1In ..) ?_)
  refine aops_cons rfl (w_pure rfl (p_assign rfl) ?_)
  refine aops_nil ?_
  refine a_ret ?_
  refine ret_ok (hands1 rfl (.tmp rfl)) (.nil _) ?_
  first | (refine ret_dec ?_; exact Iff.rfl) | (refine ret_false ?_; omega) | (refine ret_true ?_; omega) | (refine ret_dec ?_; omega)

theorem c_impl_isSize (n : Int) : ACalls Try.prog 61 [.int .i64 n] [] (Ret (.bool (decide (IsSize n)))) := by
  refine a_enter Try.func61 rfl rfl (fun w0 M0 => ?_)
  refine a_seq ?_
  refine a_region ?_
  refine aops_cons rfl (w_pure rfl (p_assign rfl) ?_)
  refine aops_nil ?_
  refine a_seq ?_
  refine a_region ?_
  refine aops_cons rfl (w_pure rfl (p_move rfl) ?_)
  refine aops_cons rfl (w_callR rfl rfl rfl cl_62 (c_impl_inside ..) ?_)
  refine aops_cons rfl (w_pure rfl (p_move rfl) ?_)
  first | refine aops_split_d 5 rfl (fun h1 => ?_) (fun h2 => ?_) | refine aops_split 5 rfl (fun h1 => ?_) (fun h2 => ?_)
  · try simp only [Bool.not_eq_true', Bool.not_eq_false', Bool.not_eq_true, Bool.not_eq_false, decide_eq_true_eq, decide_eq_false_iff_not, List.length_map] at h1
    refine aops_guard_t rfl rfl rfl (w_pure rfl (p_move rfl) ?_)
    refine aops_guard_t rfl rfl rfl (w_pure rfl (p_move rfl) ?_)
    refine aops_guard_t rfl rfl rfl (w_pure rfl (p_sub' rfl rfl ⟨by omega, by omega⟩) ?_)
    refine aops_guard_t rfl rfl rfl (w_pure rfl (p_bits .and (by decide) rfl rfl) ?_)
    refine aops_guard_t rfl rfl rfl (w_pure rfl (p_eql rfl rfl) ?_)
    refine aops_cons rfl (w_pure rfl (p_pick_t rfl rfl) ?_)
    refine aops_cons rfl (w_pure rfl (p_assign rfl) ?_)
    refine aops_nil ?_
    refine a_ret ?_
    refine ret_ok (hands1 rfl (.tmp rfl)) (.nil _) ?_
    first | (refine ret_false ?_; rintro ⟨q1, q2⟩; first | contradiction | omega) | (refine ret_dec ?_; exact ⟨fun h => ⟨by omega, h⟩, fun h => h.2⟩)
  · try simp only [Bool.not_eq_true', Bool.not_eq_false', Bool.not_eq_true, Bool.not_eq_false, decide_eq_true_eq, decide_eq_false_iff_not, List.length_map] at h2
    refine g_pass' rfl rfl rfl rfl rfl ?_
    refine g_pass' rfl rfl rfl rfl rfl ?_
    refine g_pass' rfl rfl rfl rfl rfl ?_
    refine g_pass' rfl rfl rfl rfl rfl ?_
    refine g_pass' rfl rfl rfl rfl rfl ?_
    refine aops_cons rfl (w_pure rfl (p_pick_f rfl rfl) ?_)
    refine aops_cons rfl (w_pure rfl (p_assign rfl) ?_)
    refine aops_nil ?_
    refine a_ret ?_
    refine ret_ok (hands1 rfl (.tmp rfl)) (.nil _) ?_
    first | (refine ret_false ?_; rintro ⟨q1, q2⟩; first | contradiction | omega) | (refine ret_dec ?_; exact ⟨fun h => ⟨by omega, h⟩, fun h => h.2⟩)

theorem c_spec_l17Size (n : Int) : ACalls Try.prog 96 [.int .i64 n] [] (Ret (.bool (decide (IsSize n)))) := by
  refine a_enter Try.func96 rfl rfl (fun w0 M0 => ?_)
  refine a_seq ?_
  refine a_region ?_
  refine aops_cons rfl (w_pure rfl (p_assign rfl) ?_)
  refine aops_nil ?_
  refine a_seq ?_
  refine a_region ?_
  refine aops_cons rfl (w_pure rfl (p_move rfl) ?_)
  refine aops_cons rfl (w_callR rfl rfl rfl cl_91 (c_spec_l1In ..) ?_)
  refine aops_cons rfl (w_pure rfl (p_move rfl) ?_)
  first | refine aops_split_d 5 rfl (fun h1 => ?_) (fun h2 => ?_) | refine aops_split 5 rfl (fun h1 => ?_) (fun h2 => ?_)
  · try simp only [Bool.not_eq_true', Bool.not_eq_false', Bool.not_eq_true, Bool.not_eq_false, decide_eq_true_eq, decide_eq_false_iff_not, List.length_map] at h1
    refine aops_guard_t rfl rfl rfl (w_pure rfl (p_move rfl) ?_)
    refine aops_guard_t rfl rfl rfl (w_pure rfl (p_move rfl) ?_)
    refine aops_guard_t rfl rfl rfl (w_pure rfl (p_sub' rfl rfl ⟨by omega, by omega⟩) ?_)
    refine aops_guard_t rfl rfl rfl (w_pure rfl (p_bits .and (by decide) rfl rfl) ?_)
    refine aops_guard_t rfl rfl rfl (w_pure rfl (p_eql rfl rfl) ?_)
    refine aops_cons rfl (w_pure rfl (p_pick_t rfl rfl) ?_)
    refine aops_cons rfl (w_pure rfl (p_assign rfl) ?_)
    refine aops_nil ?_
    refine a_ret ?_
    refine ret_ok (hands1 rfl (.tmp rfl)) (.nil _) ?_
    first | (refine ret_false ?_; rintro ⟨q1, q2⟩; first | contradiction | omega) | (refine ret_dec ?_; exact ⟨fun h => ⟨by omega, h⟩, fun h => h.2⟩)
  · try simp only [Bool.not_eq_true', Bool.not_eq_false', Bool.not_eq_true, Bool.not_eq_false, decide_eq_true_eq, decide_eq_false_iff_not, List.length_map] at h2
    refine g_pass' rfl rfl rfl rfl rfl ?_
    refine g_pass' rfl rfl rfl rfl rfl ?_
    refine g_pass' rfl rfl rfl rfl rfl ?_
    refine g_pass' rfl rfl rfl rfl rfl ?_
    refine g_pass' rfl rfl rfl rfl rfl ?_
    refine aops_cons rfl (w_pure rfl (p_pick_f rfl rfl) ?_)
    refine aops_cons rfl (w_pure rfl (p_assign rfl) ?_)
    refine aops_nil ?_
    refine a_ret ?_
    refine ret_ok (hands1 rfl (.tmp rfl)) (.nil _) ?_
    first | (refine ret_false ?_; rintro ⟨q1, q2⟩; first | contradiction | omega) | (refine ret_dec ?_; exact ⟨fun h => ⟨by omega, h⟩, fun h => h.2⟩)

theorem c_impl_IsRegion (r : Region) : ACalls Try.prog 12 [.agg (eRegion r)] [] (Ret (.bool (decide (IsRegion r)))) := by
  refine a_enter Try.func12 rfl rfl (fun w0 M0 => ?_)
  refine a_seq ?_
  refine a_region ?_
  refine aops_cons rfl (w_box_v rfl rfl rfl ?_)
  refine aops_cons rfl (w_pure rfl (p_assign rfl) ?_)
  refine aops_nil ?_
  refine a_seq ?_
  refine a_region ?_
  refine aops_cons rfl (w_pure rfl (p_field_v fo_25_1 rfl) ?_)
  refine aops_cons rfl (w_pure rfl (p_load_v ag_3 rfl (by rfl) noX) ?_)
  refine aops_cons rfl (w_callR rfl rfl rfl cl_61 (c_impl_isSize ..) ?_)
  refine aops_cons rfl (w_pure rfl (p_move rfl) ?_)
  first | refine aops_split_d 6 rfl (fun h1 => ?_) (fun h2 => ?_) | refine aops_split 6 rfl (fun h1 => ?_) (fun h2 => ?_)
  · try simp only [Bool.not_eq_true', Bool.not_eq_false', Bool.not_eq_true, Bool.not_eq_false, decide_eq_true_eq, decide_eq_false_iff_not, List.length_map] at h1
    refine aops_guard_t rfl rfl rfl (w_pure rfl (p_field_v fo_25_0 rfl) ?_)
    refine aops_guard_t rfl rfl rfl (w_pure rfl (p_load_v ag_3 rfl (by rfl) noX) ?_)
    refine aops_guard_t rfl rfl rfl (w_pure rfl (p_field_v fo_25_1 rfl) ?_)
    refine aops_guard_t rfl rfl rfl (w_pure rfl (p_load_v ag_3 rfl (by rfl) noX) ?_)
    have hz := ‹IsSize r.size›; rcases ‹IsSize r.size› with ⟨⟨z1, z2⟩, z3⟩
    refine aops_guard_t rfl rfl rfl (w_pure rfl (p_sub' rfl rfl ⟨by omega, by omega⟩) ?_)
    refine aops_guard_t rfl rfl rfl (w_callR rfl rfl rfl cl_62 (c_impl_inside ..) ?_)
    refine aops_cons rfl (w_pure rfl (p_pick_t rfl rfl) ?_)
    skip
    refine aops_cons rfl (w_pure rfl (p_move rfl) ?_)
    first | refine aops_split_d 14 rfl (fun h3 => ?_) (fun h4 => ?_) | refine aops_split 14 rfl (fun h3 => ?_) (fun h4 => ?_)
    · try simp only [Bool.not_eq_true', Bool.not_eq_false', Bool.not_eq_true, Bool.not_eq_false, decide_eq_true_eq, decide_eq_false_iff_not, List.length_map] at h3
      refine aops_guard_t rfl rfl rfl (w_pure rfl (p_field_v fo_25_0 rfl) ?_)
      refine aops_guard_t rfl rfl rfl (w_pure rfl (p_load_v ag_3 rfl (by rfl) noX) ?_)
      refine aops_guard_t rfl rfl rfl (w_pure rfl (p_field_v fo_25_1 rfl) ?_)
      refine aops_guard_t rfl rfl rfl (w_pure rfl (p_load_v ag_3 rfl (by rfl) noX) ?_)
      refine aops_guard_t rfl rfl rfl (w_pure rfl (p_rem' rfl rfl (by omega) (by omega)) ?_)
      refine aops_guard_t rfl rfl rfl (w_pure rfl (p_eql rfl rfl) ?_)
      refine aops_cons rfl (w_pure rfl (p_pick_t rfl rfl) ?_)
      refine aops_cons rfl (w_pure rfl (p_move rfl) ?_)
      first | refine aops_split_d 22 rfl (fun h5 => ?_) (fun h6 => ?_) | refine aops_split 22 rfl (fun h5 => ?_) (fun h6 => ?_)
      · try simp only [Bool.not_eq_true', Bool.not_eq_false', Bool.not_eq_true, Bool.not_eq_false, decide_eq_true_eq, decide_eq_false_iff_not, List.length_map] at h5
        refine aops_guard_t rfl rfl rfl (w_pure rfl (p_field_v fo_25_2 rfl) ?_)
        refine aops_guard_t rfl rfl rfl (w_pure rfl (p_load_v ag_3 rfl (by rfl) noX) ?_)
        refine aops_guard_t rfl rfl rfl (w_callR rfl rfl rfl cl_62 (c_impl_inside ..) ?_)
        refine aops_cons rfl (w_pure rfl (p_pick_t rfl rfl) ?_)
        refine aops_cons rfl (w_pure rfl (p_move rfl) ?_)
        first | refine aops_split_d 27 rfl (fun h7 => ?_) (fun h8 => ?_) | refine aops_split 27 rfl (fun h7 => ?_) (fun h8 => ?_)
        · try simp only [Bool.not_eq_true', Bool.not_eq_false', Bool.not_eq_true, Bool.not_eq_false, decide_eq_true_eq, decide_eq_false_iff_not, List.length_map] at h7
          refine aops_guard_t rfl rfl rfl (w_pure rfl (p_field_v fo_25_3 rfl) ?_)
          refine aops_guard_t rfl rfl rfl (w_pure rfl (p_load_v ag_3 rfl (by rfl) noX) ?_)
          refine aops_guard_t rfl rfl rfl (w_callR rfl rfl rfl cl_62 (c_impl_inside ..) ?_)
          refine aops_cons rfl (w_pure rfl (p_pick_t rfl rfl) ?_)
          refine aops_cons rfl (w_pure rfl (p_assign rfl) ?_)
          refine aops_nil ?_
          refine a_ret ?_
          refine ret_ok (hands1 rfl (.tmp rfl)) (.nil _) ?_
          first | (refine ret_false ?_; rintro ⟨q1, q2, q3, q4, q5⟩; first | contradiction | (rcases q1 with ⟨⟨z1, z2⟩, z3⟩; omega) | exact absurd q3 ‹_›) | (refine ret_dec ⟨fun h => isRegion_i r ‹_› (by omega) (by omega) ‹_› (by omega) (by omega), fun h => by rcases h with ⟨q1, q2, q3, q4, q5⟩; exact q5⟩)
        · try simp only [Bool.not_eq_true', Bool.not_eq_false', Bool.not_eq_true, Bool.not_eq_false, decide_eq_true_eq, decide_eq_false_iff_not, List.length_map] at h8
          refine g_pass' rfl rfl rfl rfl rfl ?_
          refine g_pass' rfl rfl rfl rfl rfl ?_
          refine g_pass' rfl rfl rfl rfl rfl ?_
          refine aops_cons rfl (w_pure rfl (p_pick_f rfl rfl) ?_)
          refine aops_cons rfl (w_pure rfl (p_assign rfl) ?_)
          refine aops_nil ?_
          refine a_ret ?_
          refine ret_ok (hands1 rfl (.tmp rfl)) (.nil _) ?_
          first | (refine ret_false ?_; rintro ⟨q1, q2, q3, q4, q5⟩; first | contradiction | (rcases q1 with ⟨⟨z1, z2⟩, z3⟩; omega) | exact absurd q3 ‹_›) | (refine ret_dec ⟨fun h => isRegion_i r ‹_› (by omega) (by omega) ‹_› (by omega) (by omega), fun h => by rcases h with ⟨q1, q2, q3, q4, q5⟩; exact q5⟩)
      · try simp only [Bool.not_eq_true', Bool.not_eq_false', Bool.not_eq_true, Bool.not_eq_false, decide_eq_true_eq, decide_eq_false_iff_not, List.length_map] at h6
        refine g_pass' rfl rfl rfl rfl rfl ?_
        refine g_pass' rfl rfl rfl rfl rfl ?_
        refine g_pass' rfl rfl rfl rfl rfl ?_
        refine aops_cons rfl (w_pure rfl (p_pick_f rfl rfl) ?_)
        refine aops_cons rfl (w_pure rfl (p_move rfl) ?_)
        refine g_pass' rfl rfl rfl rfl rfl ?_
        refine g_pass' rfl rfl rfl rfl rfl ?_
        refine g_pass' rfl rfl rfl rfl rfl ?_
        refine aops_cons rfl (w_pure rfl (p_pick_f rfl rfl) ?_)
        refine aops_cons rfl (w_pure rfl (p_assign rfl) ?_)
        refine aops_nil ?_
        refine a_ret ?_
        refine ret_ok (hands1 rfl (.tmp rfl)) (.nil _) ?_
        first | (refine ret_false ?_; rintro ⟨q1, q2, q3, q4, q5⟩; first | contradiction | (rcases q1 with ⟨⟨z1, z2⟩, z3⟩; omega) | exact absurd q3 ‹_›) | (refine ret_dec ⟨fun h => isRegion_i r ‹_› (by omega) (by omega) ‹_› (by omega) (by omega), fun h => by rcases h with ⟨q1, q2, q3, q4, q5⟩; exact q5⟩)
    · try simp only [Bool.not_eq_true', Bool.not_eq_false', Bool.not_eq_true, Bool.not_eq_false, decide_eq_true_eq, decide_eq_false_iff_not, List.length_map] at h4
      refine g_pass' rfl rfl rfl rfl rfl ?_
      refine g_pass' rfl rfl rfl rfl rfl ?_
      refine g_pass' rfl rfl rfl rfl rfl ?_
      refine g_pass' rfl rfl rfl rfl rfl ?_
      refine g_pass' rfl rfl rfl rfl rfl ?_
      refine g_pass' rfl rfl rfl rfl rfl ?_
      refine aops_cons rfl (w_pure rfl (p_pick_f rfl rfl) ?_)
      refine aops_cons rfl (w_pure rfl (p_move rfl) ?_)
      refine g_pass' rfl rfl rfl rfl rfl ?_
      refine g_pass' rfl rfl rfl rfl rfl ?_
      refine g_pass' rfl rfl rfl rfl rfl ?_
      refine aops_cons rfl (w_pure rfl (p_pick_f rfl rfl) ?_)
      refine aops_cons rfl (w_pure rfl (p_move rfl) ?_)
      refine g_pass' rfl rfl rfl rfl rfl ?_
      refine g_pass' rfl rfl rfl rfl rfl ?_
      refine g_pass' rfl rfl rfl rfl rfl ?_
      refine aops_cons rfl (w_pure rfl (p_pick_f rfl rfl) ?_)
      refine aops_cons rfl (w_pure rfl (p_assign rfl) ?_)
      refine aops_nil ?_
      refine a_ret ?_
      refine ret_ok (hands1 rfl (.tmp rfl)) (.nil _) ?_
      first | (refine ret_false ?_; rintro ⟨q1, q2, q3, q4, q5⟩; first | contradiction | (rcases q1 with ⟨⟨z1, z2⟩, z3⟩; omega) | exact absurd q3 ‹_›) | (refine ret_dec ⟨fun h => isRegion_i r ‹_› (by omega) (by omega) ‹_› (by omega) (by omega), fun h => by rcases h with ⟨q1, q2, q3, q4, q5⟩; exact q5⟩)
  · try simp only [Bool.not_eq_true', Bool.not_eq_false', Bool.not_eq_true, Bool.not_eq_false, decide_eq_true_eq, decide_eq_false_iff_not, List.length_map] at h2
    refine g_pass' rfl rfl rfl rfl rfl ?_
    refine g_pass' rfl rfl rfl rfl rfl ?_
    refine g_pass' rfl rfl rfl rfl rfl ?_
    refine g_pass' rfl rfl rfl rfl rfl ?_
    refine g_pass' rfl rfl rfl rfl rfl ?_
    refine g_pass' rfl rfl rfl rfl rfl ?_
    refine aops_cons rfl (w_pure rfl (p_pick_f rfl rfl) ?_)
    skip
    refine aops_cons rfl (w_pure rfl (p_move rfl) ?_)
    refine g_pass' rfl rfl rfl rfl rfl ?_
    refine g_pass' rfl rfl rfl rfl rfl ?_
    refine g_pass' rfl rfl rfl rfl rfl ?_
    refine g_pass' rfl rfl rfl rfl rfl ?_
    refine g_pass' rfl rfl rfl rfl rfl ?_
    refine g_pass' rfl rfl rfl rfl rfl ?_
    refine aops_cons rfl (w_pure rfl (p_pick_f rfl rfl) ?_)
    refine aops_cons rfl (w_pure rfl (p_move rfl) ?_)
    refine g_pass' rfl rfl rfl rfl rfl ?_
    refine g_pass' rfl rfl rfl rfl rfl ?_
    refine g_pass' rfl rfl rfl rfl rfl ?_
    refine aops_cons rfl (w_pure rfl (p_pick_f rfl rfl) ?_)
    refine aops_cons rfl (w_pure rfl (p_move rfl) ?_)
    refine g_pass' rfl rfl rfl rfl rfl ?_
    refine g_pass' rfl rfl rfl rfl rfl ?_
    refine g_pass' rfl rfl rfl rfl rfl ?_
    refine aops_cons rfl (w_pure rfl (p_pick_f rfl rfl) ?_)
    refine aops_cons rfl (w_pure rfl (p_assign rfl) ?_)
    refine aops_nil ?_
    refine a_ret ?_
    refine ret_ok (hands1 rfl (.tmp rfl)) (.nil _) ?_
    first | (refine ret_false ?_; rintro ⟨q1, q2, q3, q4, q5⟩; first | contradiction | (rcases q1 with ⟨⟨z1, z2⟩, z3⟩; omega) | exact absurd q3 ‹_›) | (refine ret_dec ⟨fun h => isRegion_i r ‹_› (by omega) (by omega) ‹_› (by omega) (by omega), fun h => by rcases h with ⟨q1, q2, q3, q4, q5⟩; exact q5⟩)

theorem c_spec_l17One (r : Region) : ACalls Try.prog 60 [.agg (eRegion r)] [] (Ret (.bool (decide (IsRegion r)))) := by
  refine a_enter Try.func60 rfl rfl (fun w0 M0 => ?_)
  refine a_seq ?_
  refine a_region ?_
  refine aops_cons rfl (w_box_v rfl rfl rfl ?_)
  refine aops_cons rfl (w_pure rfl (p_assign rfl) ?_)
  refine aops_nil ?_
  refine a_seq ?_
  refine a_region ?_
  refine aops_cons rfl (w_pure rfl (p_field_v fo_25_1 rfl) ?_)
  refine aops_cons rfl (w_pure rfl (p_load_v ag_3 rfl (by rfl) noX) ?_)
  refine aops_cons rfl (w_callR rfl rfl rfl cl_96 (c_spec_l17Size ..) ?_)
  refine aops_cons rfl (w_pure rfl (p_move rfl) ?_)
  first | refine aops_split_d 6 rfl (fun h1 => ?_) (fun h2 => ?_) | refine aops_split 6 rfl (fun h1 => ?_) (fun h2 => ?_)
  · try simp only [Bool.not_eq_true', Bool.not_eq_false', Bool.not_eq_true, Bool.not_eq_false, decide_eq_true_eq, decide_eq_false_iff_not, List.length_map] at h1
    refine aops_guard_t rfl rfl rfl (w_pure rfl (p_field_v fo_25_0 rfl) ?_)
    refine aops_guard_t rfl rfl rfl (w_pure rfl (p_load_v ag_3 rfl (by rfl) noX) ?_)
    refine aops_guard_t rfl rfl rfl (w_callR rfl rfl rfl cl_65 (c_spec_l17Address ..) ?_)
    refine aops_cons rfl (w_pure rfl (p_pick_t rfl rfl) ?_)
    skip
    refine aops_cons rfl (w_pure rfl (p_move rfl) ?_)
    first | refine aops_split_d 11 rfl (fun h3 => ?_) (fun h4 => ?_) | refine aops_split 11 rfl (fun h3 => ?_) (fun h4 => ?_)
    · try simp only [Bool.not_eq_true', Bool.not_eq_false', Bool.not_eq_true, Bool.not_eq_false, decide_eq_true_eq, decide_eq_false_iff_not, List.length_map] at h3
      refine aops_guard_t rfl rfl rfl (w_pure rfl (p_field_v fo_25_0 rfl) ?_)
      refine aops_guard_t rfl rfl rfl (w_pure rfl (p_load_v ag_3 rfl (by rfl) noX) ?_)
      have hz := ‹IsSize r.size›; rcases ‹IsSize r.size› with ⟨⟨z1, z2⟩, z3⟩
      refine aops_guard_t rfl rfl rfl (w_pure rfl (p_field_v fo_25_1 rfl) ?_)
      refine aops_guard_t rfl rfl rfl (w_pure rfl (p_load_v ag_3 rfl (by rfl) noX) ?_)
      refine aops_guard_t rfl rfl rfl (w_pure rfl (p_rem' rfl rfl (by omega) (by omega)) ?_)
      refine aops_guard_t rfl rfl rfl (w_pure rfl (p_eql rfl rfl) ?_)
      refine aops_cons rfl (w_pure rfl (p_pick_t rfl rfl) ?_)
      refine aops_cons rfl (w_pure rfl (p_move rfl) ?_)
      first | refine aops_split_d 19 rfl (fun h5 => ?_) (fun h6 => ?_) | refine aops_split 19 rfl (fun h5 => ?_) (fun h6 => ?_)
      · try simp only [Bool.not_eq_true', Bool.not_eq_false', Bool.not_eq_true, Bool.not_eq_false, decide_eq_true_eq, decide_eq_false_iff_not, List.length_map] at h5
        refine aops_guard_t rfl rfl rfl (w_pure rfl (p_field_v fo_25_2 rfl) ?_)
        refine aops_guard_t rfl rfl rfl (w_pure rfl (p_load_v ag_3 rfl (by rfl) noX) ?_)
        refine aops_guard_t rfl rfl rfl (w_callR rfl rfl rfl cl_91 (c_spec_l1In ..) ?_)
        refine aops_cons rfl (w_pure rfl (p_pick_t rfl rfl) ?_)
        refine aops_cons rfl (w_pure rfl (p_move rfl) ?_)
        first | refine aops_split_d 24 rfl (fun h7 => ?_) (fun h8 => ?_) | refine aops_split 24 rfl (fun h7 => ?_) (fun h8 => ?_)
        · try simp only [Bool.not_eq_true', Bool.not_eq_false', Bool.not_eq_true, Bool.not_eq_false, decide_eq_true_eq, decide_eq_false_iff_not, List.length_map] at h7
          refine aops_guard_t rfl rfl rfl (w_pure rfl (p_field_v fo_25_3 rfl) ?_)
          refine aops_guard_t rfl rfl rfl (w_pure rfl (p_load_v ag_3 rfl (by rfl) noX) ?_)
          refine aops_guard_t rfl rfl rfl (w_callR rfl rfl rfl cl_91 (c_spec_l1In ..) ?_)
          refine aops_cons rfl (w_pure rfl (p_pick_t rfl rfl) ?_)
          refine aops_cons rfl (w_pure rfl (p_assign rfl) ?_)
          refine aops_nil ?_
          refine a_ret ?_
          refine ret_ok (hands1 rfl (.tmp rfl)) (.nil _) ?_
          first | (refine ret_false ?_; rintro ⟨q1, q2, q3, q4, q5⟩; first | contradiction | (rcases q1 with ⟨⟨z1, z2⟩, z3⟩; omega) | exact absurd q3 ‹_›) | (refine ret_dec ⟨fun h => isRegion_i r ‹_› (by omega) (by omega) ‹_› (by omega) (by omega), fun h => by rcases h with ⟨q1, q2, q3, q4, q5⟩; exact q5⟩)
        · try simp only [Bool.not_eq_true', Bool.not_eq_false', Bool.not_eq_true, Bool.not_eq_false, decide_eq_true_eq, decide_eq_false_iff_not, List.length_map] at h8
          refine g_pass' rfl rfl rfl rfl rfl ?_
          refine g_pass' rfl rfl rfl rfl rfl ?_
          refine g_pass' rfl rfl rfl rfl rfl ?_
          refine aops_cons rfl (w_pure rfl (p_pick_f rfl rfl) ?_)
          refine aops_cons rfl (w_pure rfl (p_assign rfl) ?_)
          refine aops_nil ?_
          refine a_ret ?_
          refine ret_ok (hands1 rfl (.tmp rfl)) (.nil _) ?_
          first | (refine ret_false ?_; rintro ⟨q1, q2, q3, q4, q5⟩; first | contradiction | (rcases q1 with ⟨⟨z1, z2⟩, z3⟩; omega) | exact absurd q3 ‹_›) | (refine ret_dec ⟨fun h => isRegion_i r ‹_› (by omega) (by omega) ‹_› (by omega) (by omega), fun h => by rcases h with ⟨q1, q2, q3, q4, q5⟩; exact q5⟩)
      · try simp only [Bool.not_eq_true', Bool.not_eq_false', Bool.not_eq_true, Bool.not_eq_false, decide_eq_true_eq, decide_eq_false_iff_not, List.length_map] at h6
        refine g_pass' rfl rfl rfl rfl rfl ?_
        refine g_pass' rfl rfl rfl rfl rfl ?_
        refine g_pass' rfl rfl rfl rfl rfl ?_
        refine aops_cons rfl (w_pure rfl (p_pick_f rfl rfl) ?_)
        refine aops_cons rfl (w_pure rfl (p_move rfl) ?_)
        refine g_pass' rfl rfl rfl rfl rfl ?_
        refine g_pass' rfl rfl rfl rfl rfl ?_
        refine g_pass' rfl rfl rfl rfl rfl ?_
        refine aops_cons rfl (w_pure rfl (p_pick_f rfl rfl) ?_)
        refine aops_cons rfl (w_pure rfl (p_assign rfl) ?_)
        refine aops_nil ?_
        refine a_ret ?_
        refine ret_ok (hands1 rfl (.tmp rfl)) (.nil _) ?_
        first | (refine ret_false ?_; rintro ⟨q1, q2, q3, q4, q5⟩; first | contradiction | (rcases q1 with ⟨⟨z1, z2⟩, z3⟩; omega) | exact absurd q3 ‹_›) | (refine ret_dec ⟨fun h => isRegion_i r ‹_› (by omega) (by omega) ‹_› (by omega) (by omega), fun h => by rcases h with ⟨q1, q2, q3, q4, q5⟩; exact q5⟩)
    · try simp only [Bool.not_eq_true', Bool.not_eq_false', Bool.not_eq_true, Bool.not_eq_false, decide_eq_true_eq, decide_eq_false_iff_not, List.length_map] at h4
      refine g_pass' rfl rfl rfl rfl rfl ?_
      refine g_pass' rfl rfl rfl rfl rfl ?_
      refine g_pass' rfl rfl rfl rfl rfl ?_
      refine g_pass' rfl rfl rfl rfl rfl ?_
      refine g_pass' rfl rfl rfl rfl rfl ?_
      refine g_pass' rfl rfl rfl rfl rfl ?_
      refine aops_cons rfl (w_pure rfl (p_pick_f rfl rfl) ?_)
      refine aops_cons rfl (w_pure rfl (p_move rfl) ?_)
      refine g_pass' rfl rfl rfl rfl rfl ?_
      refine g_pass' rfl rfl rfl rfl rfl ?_
      refine g_pass' rfl rfl rfl rfl rfl ?_
      refine aops_cons rfl (w_pure rfl (p_pick_f rfl rfl) ?_)
      refine aops_cons rfl (w_pure rfl (p_move rfl) ?_)
      refine g_pass' rfl rfl rfl rfl rfl ?_
      refine g_pass' rfl rfl rfl rfl rfl ?_
      refine g_pass' rfl rfl rfl rfl rfl ?_
      refine aops_cons rfl (w_pure rfl (p_pick_f rfl rfl) ?_)
      refine aops_cons rfl (w_pure rfl (p_assign rfl) ?_)
      refine aops_nil ?_
      refine a_ret ?_
      refine ret_ok (hands1 rfl (.tmp rfl)) (.nil _) ?_
      first | (refine ret_false ?_; rintro ⟨q1, q2, q3, q4, q5⟩; first | contradiction | (rcases q1 with ⟨⟨z1, z2⟩, z3⟩; omega) | exact absurd q3 ‹_›) | (refine ret_dec ⟨fun h => isRegion_i r ‹_› (by omega) (by omega) ‹_› (by omega) (by omega), fun h => by rcases h with ⟨q1, q2, q3, q4, q5⟩; exact q5⟩)
  · try simp only [Bool.not_eq_true', Bool.not_eq_false', Bool.not_eq_true, Bool.not_eq_false, decide_eq_true_eq, decide_eq_false_iff_not, List.length_map] at h2
    refine g_pass' rfl rfl rfl rfl rfl ?_
    refine g_pass' rfl rfl rfl rfl rfl ?_
    refine g_pass' rfl rfl rfl rfl rfl ?_
    refine aops_cons rfl (w_pure rfl (p_pick_f rfl rfl) ?_)
    skip
    refine aops_cons rfl (w_pure rfl (p_move rfl) ?_)
    refine g_pass' rfl rfl rfl rfl rfl ?_
    refine g_pass' rfl rfl rfl rfl rfl ?_
    refine g_pass' rfl rfl rfl rfl rfl ?_
    refine g_pass' rfl rfl rfl rfl rfl ?_
    refine g_pass' rfl rfl rfl rfl rfl ?_
    refine g_pass' rfl rfl rfl rfl rfl ?_
    refine aops_cons rfl (w_pure rfl (p_pick_f rfl rfl) ?_)
    refine aops_cons rfl (w_pure rfl (p_move rfl) ?_)
    refine g_pass' rfl rfl rfl rfl rfl ?_
    refine g_pass' rfl rfl rfl rfl rfl ?_
    refine g_pass' rfl rfl rfl rfl rfl ?_
    refine aops_cons rfl (w_pure rfl (p_pick_f rfl rfl) ?_)
    refine aops_cons rfl (w_pure rfl (p_move rfl) ?_)
    refine g_pass' rfl rfl rfl rfl rfl ?_
    refine g_pass' rfl rfl rfl rfl rfl ?_
    refine g_pass' rfl rfl rfl rfl rfl ?_
    refine aops_cons rfl (w_pure rfl (p_pick_f rfl rfl) ?_)
    refine aops_cons rfl (w_pure rfl (p_assign rfl) ?_)
    refine aops_nil ?_
    refine a_ret ?_
    refine ret_ok (hands1 rfl (.tmp rfl)) (.nil _) ?_
    first | (refine ret_false ?_; rintro ⟨q1, q2, q3, q4, q5⟩; first | contradiction | (rcases q1 with ⟨⟨z1, z2⟩, z3⟩; omega) | exact absurd q3 ‹_›) | (refine ret_dec ⟨fun h => isRegion_i r ‹_› (by omega) (by omega) ‹_› (by omega) (by omega), fun h => by rcases h with ⟨q1, q2, q3, q4, q5⟩; exact q5⟩)

theorem c_spec_IsRegion (r : Region) : ACalls Try.prog 10 [.agg (eRegion r)] [] (Ret (.bool (decide (IsRegion r)))) := by
  refine a_enter Try.func10 rfl rfl (fun w0 M0 => ?_)
  refine a_seq ?_
  refine a_region ?_
  refine aops_cons rfl (w_box_v rfl rfl rfl ?_)
  refine aops_cons rfl (w_pure rfl (p_assign rfl) ?_)
  refine aops_nil ?_
  refine a_seq ?_
  refine a_region ?_
  refine aops_cons rfl (w_pure rfl (p_load_v_all ag_25 rfl (by rfl) noX) ?_)
  refine aops_cons rfl (w_callR rfl rfl rfl cl_60 (c_spec_l17One ..) ?_)
  refine aops_cons rfl (w_pure rfl (p_assign rfl) ?_)
  refine aops_nil ?_
  refine a_ret ?_
  refine ret_ok (hands1 rfl (.tmp rfl)) (.nil _) ?_
  exact ⟨rfl, rfl⟩

theorem c_laws_toRegion (c : Region) : ACalls Try.prog 11 [.agg (eRegion c)] [] (Ret (.agg (eRegion c))) := by
  refine a_enter Try.func11 rfl rfl (fun w0 M0 => ?_)
  refine a_seq ?_
  refine a_region ?_
  refine aops_cons rfl (w_box_v rfl rfl rfl ?_)
  refine aops_cons rfl (w_alloc rfl z_25 fun b1 => ?_)
  refine aops_nil ?_
  refine a_seq ?_
  refine a_region ?_
  refine aops_cons rfl (w_alloc rfl z_25 fun b2 => ?_)
  refine aops_nil ?_
  refine a_seq ?_
  refine a_region ?_
  refine aops_cons rfl (w_pure rfl (p_field_v fo_23_0 rfl) ?_)
  refine aops_cons rfl (w_pure rfl (p_load_v ag_3 rfl (by rfl) noX) ?_)
  refine aops_cons rfl (w_pure rfl (p_field_box fo_25_0 rfl) ?_)
  refine aops_cons rfl (w_store (cells' := [_, _, _, _]) rfl rfl rfl (by repeat (first | exact Pick.here _ _ _ | apply Pick.next)) cn_3 (by rfl) (by rfl) (by rfl) trivial ?_)
  refine aops_nil ?_
  refine a_seq ?_
  refine a_region ?_
  refine aops_cons rfl (w_pure rfl (p_field_v fo_23_1 rfl) ?_)
  refine aops_cons rfl (w_pure rfl (p_load_v ag_3 rfl (by rfl) noX) ?_)
  refine aops_cons rfl (w_pure rfl (p_field_box fo_25_1 rfl) ?_)
  refine aops_cons rfl (w_store (cells' := [_, _, _, _]) rfl rfl rfl (by repeat (first | exact Pick.here _ _ _ | apply Pick.next)) cn_3 (by rfl) (by rfl) (by rfl) trivial ?_)
  refine aops_nil ?_
  refine a_seq ?_
  refine a_region ?_
  refine aops_cons rfl (w_pure rfl (p_field_v fo_23_2 rfl) ?_)
  refine aops_cons rfl (w_pure rfl (p_load_v ag_3 rfl (by rfl) noX) ?_)
  refine aops_cons rfl (w_pure rfl (p_field_box fo_25_2 rfl) ?_)
  refine aops_cons rfl (w_store (cells' := [_, _, _, _]) rfl rfl rfl (by repeat (first | exact Pick.here _ _ _ | apply Pick.next)) cn_3 (by rfl) (by rfl) (by rfl) trivial ?_)
  refine aops_nil ?_
  refine a_seq ?_
  refine a_region ?_
  refine aops_cons rfl (w_pure rfl (p_field_v fo_23_3 rfl) ?_)
  refine aops_cons rfl (w_pure rfl (p_load_v ag_3 rfl (by rfl) noX) ?_)
  refine aops_cons rfl (w_pure rfl (p_field_box fo_25_3 rfl) ?_)
  refine aops_cons rfl (w_store (cells' := [_, _, _, _]) rfl rfl rfl (by repeat (first | exact Pick.here _ _ _ | apply Pick.next)) cn_3 (by rfl) (by rfl) (by rfl) trivial ?_)
  refine aops_nil ?_
  refine a_seq ?_
  refine a_region ?_
  refine aops_cons rfl (w_pure rfl (p_load_box_all ag_25 rfl (by repeat (first | exact Pick.here _ _ _ | apply Pick.next)) (by rfl) noX) ?_)
  refine aops_cons rfl (w_store (cells' := [_, _, _, _]) rfl rfl rfl (by repeat (first | exact Pick.here _ _ _ | apply Pick.next)) cn_25 (by rfl) (by rfl) (by rfl) trivial ?_)
  refine aops_nil ?_
  refine a_ret ?_
  refine ret_ok (hands1 rfl (.cell ag_25 rfl (by repeat (first | exact Pick.here _ _ _ | apply Pick.next)) (by rfl))) (.nil _) ?_
  exact ⟨rfl, rfl⟩

theorem c_laws_eqRegion (c : Region) : ACalls Try.prog 64 [.agg (eRegion c), .agg (eRegion c)] [] (Ret (.bool true)) := by
  refine a_enter Try.func64 rfl rfl (fun w0 M0 => ?_)
  refine a_seq ?_
  refine a_region ?_
  refine aops_cons rfl (w_box_v rfl rfl rfl ?_)
  refine aops_cons rfl (w_box_v rfl rfl rfl ?_)
  refine aops_cons rfl (w_pure rfl (p_assign rfl) ?_)
  refine aops_nil ?_
  refine a_seq ?_
  refine a_seq ?_
  refine a_region ?_
  refine aops_cons rfl (w_pure rfl (p_field_v fo_25_0 rfl) ?_)
  refine aops_cons rfl (w_pure rfl (p_load_v ag_3 rfl (by rfl) noX) ?_)
  refine aops_cons rfl (w_pure rfl (p_field_v fo_25_0 rfl) ?_)
  refine aops_cons rfl (w_pure rfl (p_load_v ag_3 rfl (by rfl) noX) ?_)
  refine aops_cons rfl (w_pure rfl (p_neq_same rfl rfl) ?_)
  refine aops_nil ?_
  refine a_cond_f rfl ?_
  refine a_skip ?_
  refine a_seq ?_
  refine a_seq ?_
  refine a_region ?_
  refine aops_cons rfl (w_pure rfl (p_field_v fo_25_1 rfl) ?_)
  refine aops_cons rfl (w_pure rfl (p_load_v ag_3 rfl (by rfl) noX) ?_)
  refine aops_cons rfl (w_pure rfl (p_field_v fo_25_1 rfl) ?_)
  refine aops_cons rfl (w_pure rfl (p_load_v ag_3 rfl (by rfl) noX) ?_)
  refine aops_cons rfl (w_pure rfl (p_neq_same rfl rfl) ?_)
  refine aops_nil ?_
  refine a_cond_f rfl ?_
  refine a_skip ?_
  refine a_seq ?_
  refine a_seq ?_
  refine a_region ?_
  refine aops_cons rfl (w_pure rfl (p_field_v fo_25_2 rfl) ?_)
  refine aops_cons rfl (w_pure rfl (p_load_v ag_3 rfl (by rfl) noX) ?_)
  refine aops_cons rfl (w_pure rfl (p_field_v fo_25_2 rfl) ?_)
  refine aops_cons rfl (w_pure rfl (p_load_v ag_3 rfl (by rfl) noX) ?_)
  refine aops_cons rfl (w_pure rfl (p_neq_same rfl rfl) ?_)
  refine aops_nil ?_
  refine a_cond_f rfl ?_
  refine a_skip ?_
  refine a_seq ?_
  refine a_seq ?_
  refine a_region ?_
  refine aops_cons rfl (w_pure rfl (p_field_v fo_25_3 rfl) ?_)
  refine aops_cons rfl (w_pure rfl (p_load_v ag_3 rfl (by rfl) noX) ?_)
  refine aops_cons rfl (w_pure rfl (p_field_v fo_25_3 rfl) ?_)
  refine aops_cons rfl (w_pure rfl (p_load_v ag_3 rfl (by rfl) noX) ?_)
  refine aops_cons rfl (w_pure rfl (p_neq_same rfl rfl) ?_)
  refine aops_nil ?_
  refine a_cond_f rfl ?_
  refine a_skip ?_
  refine a_seq ?_
  refine a_region ?_
  refine aops_cons rfl (w_pure rfl (p_assign rfl) ?_)
  refine aops_nil ?_
  refine a_ret ?_
  refine ret_ok (hands1 rfl (.tmp rfl)) (.nil _) ?_
  exact ⟨rfl, rfl⟩

theorem c_laws_szRegionS (xs : List Region) (hn : xs.length ≤ 9223372036854775807) (left : Int) (l0 : 0 ≤ left) (l1 : left ≤ 1048576) : ACalls Try.prog 13 [.sl (xs.map eRegion), .int .i64 left] [] (Ret (.int .i64 (if left - (xs.length : Int) < 0 then -1 else left - xs.length))) := by
  refine a_enter Try.func13 rfl rfl (fun w0 M0 => ?_)
  refine a_seq ?_
  refine a_region ?_
  refine aops_cons rfl (w_pure rfl (p_assign rfl) ?_)
  refine aops_nil ?_
  refine a_seq ?_
  refine a_region ?_
  refine aops_cons rfl (w_pure rfl (p_move rfl) ?_)
  refine aops_cons rfl (w_pure rfl (p_move rfl) ?_)
  refine aops_cons rfl (w_pure rfl (p_len sl_28 rfl rfl) ?_)
  refine aops_cons rfl (w_pure rfl (p_sub' rfl rfl ⟨by simp only [List.length_map]; omega, by simp only [List.length_map]; omega⟩) ?_)
  refine aops_cons rfl (w_pure rfl (p_assign rfl) ?_)
  refine aops_nil ?_
  refine a_seq ?_
  refine a_seq ?_
  refine a_region ?_
  refine aops_cons rfl (w_pure rfl (p_move rfl) ?_)
  refine aops_cons rfl (w_pure rfl (p_lss rfl rfl) ?_)
  refine aops_nil ?_
  first | refine a_cond_d rfl (fun h1 => ?_) (fun h2 => ?_) | refine a_cond_n rfl (fun h1 => ?_) (fun h2 => ?_) | refine a_cond_nb rfl (fun h1 => ?_) (fun h2 => ?_) | refine a_cond rfl (fun h1 => ?_) (fun h2 => ?_)
  · try simp only [Bool.not_eq_true', Bool.not_eq_false', Bool.not_eq_true, Bool.not_eq_false, decide_eq_true_eq, decide_eq_false_iff_not, List.length_map] at h1
    refine a_seq ?_
    refine a_region ?_
    refine aops_cons rfl (w_pure rfl (p_assign rfl) ?_)
    refine aops_nil ?_
    refine a_ret ?_
    refine ret_ok (hands1 rfl (.tmp rfl)) (.nil _) ?_
    exact ⟨by first | (rw [if_pos (by omega)]) | (rw [if_neg (by omega)]; simp), rfl⟩
  · try simp only [Bool.not_eq_true', Bool.not_eq_false', Bool.not_eq_true, Bool.not_eq_false, decide_eq_true_eq, decide_eq_false_iff_not, List.length_map] at h2
    refine a_skip ?_
    refine a_seq ?_
    refine a_region ?_
    refine aops_cons rfl (w_pure rfl (p_move rfl) ?_)
    refine aops_cons rfl (w_pure rfl (p_assign rfl) ?_)
    refine aops_nil ?_
    refine a_ret ?_
    refine ret_ok (hands1 rfl (.tmp rfl)) (.nil _) ?_
    exact ⟨by first | (rw [if_pos (by omega)]) | (rw [if_neg (by omega)]; simp), rfl⟩

theorem co_laws_toRegionS (xs : List Region) (hn : xs.length ≤ 1048576) : ACalls Try.prog 15 [.sl (xs.map eRegion)] [] (RetOwn 25 4 (xs.map eRegion)) := by
  refine a_enter Try.func15 rfl rfl (fun w0 M0 => ?_)
  refine a_seq ?_
  refine a_region ?_
  refine aops_cons rfl (w_pure rfl (p_assign rfl) ?_)
  refine aops_nil ?_
  refine a_seq ?_
  refine a_region ?_
  refine aops_cons rfl (w_pure rfl (p_move rfl) ?_)
  refine aops_cons rfl (w_pure rfl (p_len sl_28 rfl rfl) ?_)
  refine aops_cons rfl (w_makeN eRegion zRegion xs.length rfl el_31 z_25 rfl rfl (by simp) (by omega) (by omega) fun b1 => ?_)
  refine aops_cons rfl (w_pure rfl (p_assign rfl) ?_)
  refine aops_nil ?_
  refine a_seq ?_
  refine a_seq ?_
  refine a_region ?_
  refine aops_cons rfl (w_pure rfl (p_assign rfl) ?_)
  refine aops_nil ?_
  refine a_block ?_
  refine a_loop (ι := Nat) (fun i => i ≤ xs.length) (fun i => [(4, .int .i64 (i : Int))]) (fun i => [(b1, .arr 25 4 ((fillTo zRegion xs i).map eRegion))]) (fun i => xs.length - i) 0 (Nat.zero_le _) (by repeat (first | exact Knows.nil | refine Knows.cons (by rfl) ?_)) (by repeat (first | exact Picks.nil _ | exact Pick.here _ _ _ | apply Pick.next | apply Picks.cons)) ?_
  rintro i hi
  skip
  refine a_seq ?_
  refine a_seq ?_
  refine a_region ?_
  refine aops_cons rfl (w_pure rfl (p_move rfl) ?_)
  refine aops_cons rfl (w_pure rfl (p_move rfl) ?_)
  refine aops_cons rfl (w_pure rfl (p_len sl_28 rfl rfl) ?_)
  refine aops_cons rfl (w_pure rfl (p_lss rfl rfl) ?_)
  refine aops_nil ?_
  first | refine a_cond_d rfl (fun h1 => ?_) (fun h2 => ?_) | refine a_cond_n rfl (fun h1 => ?_) (fun h2 => ?_) | refine a_cond_nb rfl (fun h1 => ?_) (fun h2 => ?_) | refine a_cond rfl (fun h1 => ?_) (fun h2 => ?_)
  · try simp only [Bool.not_eq_true', Bool.not_eq_false', Bool.not_eq_true, Bool.not_eq_false, decide_eq_true_eq, decide_eq_false_iff_not, List.length_map] at h1
    refine a_skip ?_
    refine a_seq ?_
    refine a_block ?_
    refine a_region ?_
    refine aops_cons rfl (w_pure rfl (p_move rfl) ?_)
    refine aops_cons rfl (w_pure rfl (p_move rfl) ?_)
    refine aops_cons rfl (w_pure rfl (p_move rfl) ?_)
    refine aops_cons rfl (w_pure rfl (p_move rfl) ?_)
    refine aops_cons rfl (w_pure rfl (p_index_sl _ rfl rfl rfl (rowD _ _ zRegion (by first | omega | (rw [fillTo_length _ _ hi]; omega))) es_28) ?_)
    refine aops_cons rfl (w_pure rfl (p_load_v_all ag_23 rfl (by rfl) noX) ?_)
    refine aops_cons rfl (w_callR rfl rfl rfl cl_11 (c_laws_toRegion ..) ?_)
    refine aops_cons rfl (w_pure rfl (p_index_own0 _ rfl rfl rfl (by first | omega | (rw [fillTo_length _ _ hi]; omega)) es_31) ?_)
    refine aops_cons rfl (w_store_eM eRegion (xs.getD i zRegion) rfl rfl rfl (by repeat (first | exact Pick.here _ _ _ | apply Pick.next)) (by first | omega | (rw [fillTo_length _ _ hi]; omega)) cn_25 (by rfl) (by rfl) (by rfl) trivial ?_)
    rw [fillTo_set _ _ (by omega)]
    refine aops_nil ?_
    refine a_region ?_
    refine aops_cons rfl (w_pure rfl (p_move rfl) ?_)
    refine aops_cons rfl (w_pure rfl (p_add' rfl rfl ⟨by omega, by omega⟩) ?_)
    refine aops_cons rfl (w_pure rfl (p_assign rfl) ?_)
    refine aops_nil ?_
    refine ⟨(i + 1), _, ?_, ?_, (by repeat (first | exact Knows.nil | refine Knows.cons (by rfl) ?_)), (by repeat (first | exact Back.refl _ _ | refine Back.cons (by rfl) ?_)), (by repeat (first | exact Picks.nil _ | exact Pick.here _ _ _ | apply Pick.next | apply Picks.cons))⟩
    · omega
    · (try dsimp only); omega
  · try simp only [Bool.not_eq_true', Bool.not_eq_false', Bool.not_eq_true, Bool.not_eq_false, decide_eq_true_eq, decide_eq_false_iff_not, List.length_map] at h2
    refine a_exit ?_
    refine a_seq ?_
    refine a_region ?_
    refine aops_cons rfl (w_pure rfl (p_move rfl) ?_)
    refine aops_cons rfl (w_pure rfl (p_assign rfl) ?_)
    refine aops_nil ?_
    refine a_ret ?_
    refine ret_ok (hands1 rfl (.tmp rfl)) (.cons (.here _ _ _) (.nil _)) ?_
    exact ⟨b1, by simp, by rw [fillTo_len _ _ (by omega)]⟩

theorem c_laws_toRegionS (xs : List Region) (hn : xs.length ≤ 1048576) : ACalls Try.prog 15 [.sl (xs.map eRegion)] [] (Ret (.sl (xs.map eRegion))) := (co_laws_toRegionS xs hn).freeze fun _ _ h => h.vw

theorem c_laws_eqRegionS (xs : List Region) (hn : xs.length ≤ 1048576) : ACalls Try.prog 17 [.sl (xs.map eRegion), .sl (xs.map eRegion)] [] (Ret (.bool true)) := by
  refine a_enter Try.func17 rfl rfl (fun w0 M0 => ?_)
  refine a_seq ?_
  refine a_region ?_
  refine aops_cons rfl (w_pure rfl (p_assign rfl) ?_)
  refine aops_nil ?_
  refine a_seq ?_
  refine a_seq ?_
  refine a_region ?_
  refine aops_cons rfl (w_pure rfl (p_move rfl) ?_)
  refine aops_cons rfl (w_pure rfl (p_len sl_31 rfl rfl) ?_)
  refine aops_cons rfl (w_pure rfl (p_move rfl) ?_)
  refine aops_cons rfl (w_pure rfl (p_len sl_31 rfl rfl) ?_)
  refine aops_cons rfl (w_pure rfl (p_neq_same rfl rfl) ?_)
  refine aops_nil ?_
  refine a_cond_f rfl ?_
  refine a_skip ?_
  refine a_seq ?_
  refine a_seq ?_
  refine a_region ?_
  refine aops_cons rfl (w_pure rfl (p_assign rfl) ?_)
  refine aops_nil ?_
  refine a_block ?_
  refine a_loop (ι := Nat) (fun i => i ≤ xs.length) (fun i => [(5, .int .i64 (i : Int))]) (fun i => []) (fun i => xs.length - i) 0 (Nat.zero_le _) (by repeat (first | exact Knows.nil | refine Knows.cons (by rfl) ?_)) (by repeat (first | exact Picks.nil _ | exact Pick.here _ _ _ | apply Pick.next | apply Picks.cons)) ?_
  rintro i hi
  skip
  refine a_seq ?_
  refine a_seq ?_
  refine a_region ?_
  refine aops_cons rfl (w_pure rfl (p_move rfl) ?_)
  refine aops_cons rfl (w_pure rfl (p_move rfl) ?_)
  refine aops_cons rfl (w_pure rfl (p_len sl_31 rfl rfl) ?_)
  refine aops_cons rfl (w_pure rfl (p_lss rfl rfl) ?_)
  refine aops_nil ?_
  first | refine a_cond_d rfl (fun h1 => ?_) (fun h2 => ?_) | refine a_cond_n rfl (fun h1 => ?_) (fun h2 => ?_) | refine a_cond_nb rfl (fun h1 => ?_) (fun h2 => ?_) | refine a_cond rfl (fun h1 => ?_) (fun h2 => ?_)
  · try simp only [Bool.not_eq_true', Bool.not_eq_false', Bool.not_eq_true, Bool.not_eq_false, decide_eq_true_eq, decide_eq_false_iff_not, List.length_map] at h1
    refine a_skip ?_
    refine a_seq ?_
    refine a_block ?_
    refine a_seq ?_
    refine a_draw [] (by kernel_rfl) ?_
    show ADraw _ _ _ _ _ _ 10 _ _ _ _
    refine d_take 0 rfl (by kernel_rfl) (by kernel_rfl) (by kernel_rfl) rfl (p_move rfl) ?_
    refine d_take 1 rfl (by kernel_rfl) (by kernel_rfl) (by kernel_rfl) rfl (p_move rfl) ?_
    refine d_take 2 rfl (by kernel_rfl) (by kernel_rfl) (by kernel_rfl) rfl (p_index_sl _ rfl rfl rfl (rowD _ _ zRegion (by omega)) es_31) ?_
    refine d_load 3 rfl (by kernel_rfl) (by kernel_rfl) (by kernel_rfl) rfl (p_load_v_all ag_25 rfl (by rfl) noX) ?_
    refine d_take 4 rfl (by kernel_rfl) (by kernel_rfl) (by kernel_rfl) rfl (p_move rfl) ?_
    refine d_take 5 rfl (by kernel_rfl) (by kernel_rfl) (by kernel_rfl) rfl (p_move rfl) ?_
    refine d_take 6 rfl (by kernel_rfl) (by kernel_rfl) (by kernel_rfl) rfl (p_index_sl _ rfl rfl rfl (rowD _ _ zRegion (by omega)) es_31) ?_
    refine d_load 7 rfl (by kernel_rfl) (by kernel_rfl) (by kernel_rfl) rfl (p_load_v_all ag_25 rfl (by rfl) noX) ?_
    refine draw_all [8] (by kernel_rfl) (by simp) ?_
    refine all_cons rfl rfl ?_ ?_
    · skip
      refine w_callR rfl rfl rfl cl_64 (c_laws_eqRegion ..) ?_
      refine d_take 9 rfl (by kernel_rfl) (by kernel_rfl) (by kernel_rfl) rfl (p_not rfl) ?_
      refine draw_done (by kernel_rfl) ?_
      refine a_cond_f rfl ?_
      refine a_skip ?_
      refine a_region ?_
      refine aops_cons rfl (w_pure rfl (p_move rfl) ?_)
      refine aops_cons rfl (w_pure rfl (p_add' rfl rfl ⟨by omega, by omega⟩) ?_)
      refine aops_cons rfl (w_pure rfl (p_assign rfl) ?_)
      refine aops_nil ?_
      refine ⟨(i + 1), _, ?_, ?_, (by repeat (first | exact Knows.nil | refine Knows.cons (by rfl) ?_)), (by repeat (first | exact Back.refl _ _ | refine Back.cons (by rfl) ?_)), (by repeat (first | exact Picks.nil _ | exact Pick.here _ _ _ | apply Pick.next | apply Picks.cons))⟩
      · omega
      · (try dsimp only); omega
    exact all_nil
  · try simp only [Bool.not_eq_true', Bool.not_eq_false', Bool.not_eq_true, Bool.not_eq_false, decide_eq_true_eq, decide_eq_false_iff_not, List.length_map] at h2
    refine a_exit ?_
    refine a_seq ?_
    refine a_region ?_
    refine aops_cons rfl (w_pure rfl (p_assign rfl) ?_)
    refine aops_nil ?_
    refine a_ret ?_
    refine ret_ok (hands1 rfl (.tmp rfl)) (.nil _) ?_
    exact ⟨rfl, rfl⟩

theorem c_spec_l17Good (xs : List Region) (hn : xs.length ≤ 1048576) : ACalls Try.prog 63 [.sl (xs.map eRegion)] [] (Ret (.bool (decide (IsMap xs)))) := by
  refine a_enter Try.func63 rfl rfl (fun w0 M0 => ?_)
  refine a_seq ?_
  refine a_region ?_
  refine aops_cons rfl (w_pure rfl (p_assign rfl) ?_)
  refine aops_nil ?_
  refine a_seq ?_
  refine a_seq ?_
  refine a_region ?_
  refine aops_cons rfl (w_pure rfl (p_assign rfl) ?_)
  refine aops_nil ?_
  refine a_block ?_
  refine a_loop (ι := Nat) (fun i => i ≤ xs.length ∧ ∀ j, j < i → GoodAt xs j) (fun i => [(3, .int .i64 (i : Int))]) (fun i => []) (fun i => xs.length - i) 0 ⟨Nat.zero_le _, below_zero⟩ (by repeat (first | exact Knows.nil | refine Knows.cons (by rfl) ?_)) (by repeat (first | exact Picks.nil _ | exact Pick.here _ _ _ | apply Pick.next | apply Picks.cons)) ?_
  rintro i ⟨hi, hI⟩
  skip
  refine a_seq ?_
  refine a_seq ?_
  refine a_region ?_
  refine aops_cons rfl (w_pure rfl (p_move rfl) ?_)
  refine aops_cons rfl (w_pure rfl (p_move rfl) ?_)
  refine aops_cons rfl (w_pure rfl (p_len sl_31 rfl rfl) ?_)
  refine aops_cons rfl (w_pure rfl (p_lss rfl rfl) ?_)
  refine aops_nil ?_
  first | refine a_cond_d rfl (fun h1 => ?_) (fun h2 => ?_) | refine a_cond_n rfl (fun h1 => ?_) (fun h2 => ?_) | refine a_cond_nb rfl (fun h1 => ?_) (fun h2 => ?_) | refine a_cond rfl (fun h1 => ?_) (fun h2 => ?_)
  · try simp only [Bool.not_eq_true', Bool.not_eq_false', Bool.not_eq_true, Bool.not_eq_false, decide_eq_true_eq, decide_eq_false_iff_not, List.length_map] at h1
    refine a_skip ?_
    refine a_seq ?_
    refine a_block ?_
    refine a_seq ?_
    refine a_draw [] (by kernel_rfl) ?_
    show ADraw _ _ _ _ _ _ 31 _ _ _ _
    refine d_take 0 rfl (by kernel_rfl) (by kernel_rfl) (by kernel_rfl) rfl (p_move rfl) ?_
    refine d_take 1 rfl (by kernel_rfl) (by kernel_rfl) (by kernel_rfl) rfl (p_move rfl) ?_
    refine d_take 2 rfl (by kernel_rfl) (by kernel_rfl) (by kernel_rfl) rfl (p_index_sl _ rfl rfl rfl (rowD _ _ zRegion (by omega)) es_31) ?_
    refine d_load 3 rfl (by kernel_rfl) (by kernel_rfl) (by kernel_rfl) rfl (p_load_v_all ag_25 rfl (by rfl) noX) ?_
    refine draw_all [4] (by kernel_rfl) (by simp) ?_
    refine all_cons rfl rfl ?_ ?_
    · skip
      refine w_callR rfl rfl rfl cl_60 (c_spec_l17One ..) ?_
      refine d_take 5 rfl (by kernel_rfl) (by kernel_rfl) (by kernel_rfl) rfl (p_not rfl) ?_
      refine d_take 6 rfl (by kernel_rfl) (by kernel_rfl) (by kernel_rfl) rfl (p_move rfl) ?_
      first | refine d_split_d 16 rfl (fun h3 => ?_) (fun h4 => ?_) | refine draw_split 16 rfl (fun h3 => ?_) (fun h4 => ?_)
      · try simp only [Bool.not_eq_true', Bool.not_eq_false', Bool.not_eq_true, Bool.not_eq_false, decide_eq_true_eq, decide_eq_false_iff_not, List.length_map] at h3
        refine d_pass' 7 rfl (by kernel_rfl) (by kernel_rfl) (by kernel_rfl) rfl rfl rfl ?_
        refine d_pass' 8 rfl (by kernel_rfl) (by kernel_rfl) (by kernel_rfl) rfl rfl rfl ?_
        refine d_pass' 9 rfl (by kernel_rfl) (by kernel_rfl) (by kernel_rfl) rfl rfl rfl ?_
        refine d_pass_u 10 rfl (by kernel_rfl) (by kernel_rfl) (by kernel_rfl) rfl rfl rfl ?_
        refine d_pass_u 11 rfl (by kernel_rfl) (by kernel_rfl) (by kernel_rfl) rfl rfl rfl ?_
        refine d_pass_u 12 rfl (by kernel_rfl) (by kernel_rfl) (by kernel_rfl) rfl rfl rfl ?_
        refine d_pass_u 13 rfl (by kernel_rfl) (by kernel_rfl) (by kernel_rfl) rfl rfl rfl ?_
        refine d_pass_u 14 rfl (by kernel_rfl) (by kernel_rfl) (by kernel_rfl) rfl rfl rfl ?_
        refine d_pass_u 15 rfl (by kernel_rfl) (by kernel_rfl) (by kernel_rfl) rfl rfl rfl ?_
        refine d_pass_u 16 rfl (by kernel_rfl) (by kernel_rfl) (by kernel_rfl) rfl rfl rfl ?_
        refine d_pass_u 17 rfl (by kernel_rfl) (by kernel_rfl) (by kernel_rfl) rfl rfl rfl ?_
        refine d_pass_u 18 rfl (by kernel_rfl) (by kernel_rfl) (by kernel_rfl) rfl rfl rfl ?_
        refine d_pass_u 19 rfl (by kernel_rfl) (by kernel_rfl) (by kernel_rfl) rfl rfl rfl ?_
        refine d_pass_u 20 rfl (by kernel_rfl) (by kernel_rfl) (by kernel_rfl) rfl rfl rfl ?_
        refine d_pass_u 21 rfl (by kernel_rfl) (by kernel_rfl) (by kernel_rfl) rfl rfl rfl ?_
        refine d_pass_u 22 rfl (by kernel_rfl) (by kernel_rfl) (by kernel_rfl) rfl rfl rfl ?_
        refine d_pass_u 23 rfl (by kernel_rfl) (by kernel_rfl) (by kernel_rfl) rfl rfl rfl ?_
        refine d_pass_u 24 rfl (by kernel_rfl) (by kernel_rfl) (by kernel_rfl) rfl rfl rfl ?_
        refine d_pass_u 25 rfl (by kernel_rfl) (by kernel_rfl) (by kernel_rfl) rfl rfl rfl ?_
        refine d_pass_u 26 rfl (by kernel_rfl) (by kernel_rfl) (by kernel_rfl) rfl rfl rfl ?_
        refine d_pass_u 27 rfl (by kernel_rfl) (by kernel_rfl) (by kernel_rfl) rfl rfl rfl ?_
        refine d_pass_u 28 rfl (by kernel_rfl) (by kernel_rfl) (by kernel_rfl) rfl rfl rfl ?_
        refine d_pass' 29 rfl (by kernel_rfl) (by kernel_rfl) (by kernel_rfl) rfl rfl rfl ?_
        refine d_take 30 rfl (by kernel_rfl) (by kernel_rfl) (by kernel_rfl) rfl (p_pick_t rfl rfl) ?_
        refine draw_done (by kernel_rfl) ?_
        refine a_cond_t rfl ?_
        refine a_seq ?_
        refine a_region ?_
        refine aops_cons rfl (w_pure rfl (p_assign rfl) ?_)
        refine aops_nil ?_
        refine a_ret ?_
        refine ret_ok (hands1 rfl (.tmp rfl)) (.nil _) ?_
        first | (refine ret_false ?_; rintro ⟨q1, q2⟩; exact absurd (q1 i (by omega)) (by unfold GoodAt; intro q3; first | exact absurd q3.1 ‹_› | exact q3.2 (And.intro (by omega) (by simpa using ‹_›)))) | (refine ret_dec ?_; simp only [List.length_map]; exact ⟨fun h => ⟨below_all hI ‹_›, by omega⟩, fun h => by have := h.2; omega⟩)
      · try simp only [Bool.not_eq_true', Bool.not_eq_false', Bool.not_eq_true, Bool.not_eq_false, decide_eq_true_eq, decide_eq_false_iff_not, List.length_map] at h4
        refine d_take_t 7 rfl (by kernel_rfl) (by kernel_rfl) (by kernel_rfl) rfl rfl rfl (p_move rfl) ?_
        refine d_take_t 8 rfl (by kernel_rfl) (by kernel_rfl) (by kernel_rfl) rfl rfl rfl (p_gtr rfl rfl) ?_
        refine d_take_t 9 rfl (by kernel_rfl) (by kernel_rfl) (by kernel_rfl) rfl rfl rfl (p_move rfl) ?_
        first | refine d_split_d 19 rfl (fun h5 => ?_) (fun h6 => ?_) | refine draw_split 19 rfl (fun h5 => ?_) (fun h6 => ?_)
        · try simp only [Bool.not_eq_true', Bool.not_eq_false', Bool.not_eq_true, Bool.not_eq_false, decide_eq_true_eq, decide_eq_false_iff_not, List.length_map] at h5
          refine d_take_t 10 rfl (by kernel_rfl) (by kernel_rfl) (by kernel_rfl) rfl rfl rfl (p_move rfl) ?_
          refine d_take_t 11 rfl (by kernel_rfl) (by kernel_rfl) (by kernel_rfl) rfl rfl rfl (p_move rfl) ?_
          refine d_take_t 12 rfl (by kernel_rfl) (by kernel_rfl) (by kernel_rfl) rfl rfl rfl (p_sub' rfl rfl ⟨by omega, by omega⟩) ?_
          refine d_take_t 13 rfl (by kernel_rfl) (by kernel_rfl) (by kernel_rfl) rfl rfl rfl (p_index_sl (i - 1) rfl rfl (by omega) (rowD _ _ zRegion (by omega)) es_31) ?_
          refine d_take_t 14 rfl (by kernel_rfl) (by kernel_rfl) (by kernel_rfl) rfl rfl rfl (p_field_v fo_25_0 rfl) ?_
          refine d_take_t 16 rfl (by kernel_rfl) (by kernel_rfl) (by kernel_rfl) rfl rfl rfl (p_move rfl) ?_
          refine d_take_t 17 rfl (by kernel_rfl) (by kernel_rfl) (by kernel_rfl) rfl rfl rfl (p_move rfl) ?_
          refine d_take_t 18 rfl (by kernel_rfl) (by kernel_rfl) (by kernel_rfl) rfl rfl rfl (p_sub' rfl rfl ⟨by omega, by omega⟩) ?_
          refine d_take_t 19 rfl (by kernel_rfl) (by kernel_rfl) (by kernel_rfl) rfl rfl rfl (p_index_sl (i - 1) rfl rfl (by omega) (rowD _ _ zRegion (by omega)) es_31) ?_
          refine d_take_t 20 rfl (by kernel_rfl) (by kernel_rfl) (by kernel_rfl) rfl rfl rfl (p_field_v fo_25_1 rfl) ?_
          refine d_take_t 23 rfl (by kernel_rfl) (by kernel_rfl) (by kernel_rfl) rfl rfl rfl (p_move rfl) ?_
          refine d_take_t 24 rfl (by kernel_rfl) (by kernel_rfl) (by kernel_rfl) rfl rfl rfl (p_move rfl) ?_
          refine d_take_t 25 rfl (by kernel_rfl) (by kernel_rfl) (by kernel_rfl) rfl rfl rfl (p_index_sl _ rfl rfl rfl (rowD _ _ zRegion (by omega)) es_31) ?_
          refine d_take_t 26 rfl (by kernel_rfl) (by kernel_rfl) (by kernel_rfl) rfl rfl rfl (p_field_v fo_25_0 rfl) ?_
          refine draw_all [15, 21, 27] (by kernel_rfl) (by simp) ?_
          refine all_cons_t rfl rfl rfl rfl ?_ ?_
          · skip
            refine w_pure rfl (p_load_v ag_3 rfl (by rfl) noX) ?_
            refine draw_all [21, 27] (by kernel_rfl) (by simp) ?_
            refine all_cons_t rfl rfl rfl rfl ?_ ?_
            · skip
              refine w_pure rfl (p_load_v ag_3 rfl (by rfl) noX) ?_
              refine d_take_t 22 rfl (by kernel_rfl) (by kernel_rfl) (by kernel_rfl) rfl rfl rfl (p_add rfl rfl) ?_
              refine draw_all [27] (by kernel_rfl) (by simp) ?_
              refine all_cons_t rfl rfl rfl rfl ?_ ?_
              · skip
                refine w_pure rfl (p_load_v ag_3 rfl (by rfl) noX) ?_
                refine d_take_t 28 rfl (by kernel_rfl) (by kernel_rfl) (by kernel_rfl) rfl rfl rfl (p_gtr rfl rfl) ?_
                refine d_take_t 29 rfl (by kernel_rfl) (by kernel_rfl) (by kernel_rfl) rfl rfl rfl (p_pick_t rfl rfl) ?_
                refine d_take 30 rfl (by kernel_rfl) (by kernel_rfl) (by kernel_rfl) rfl (p_pick_f rfl rfl) ?_
                refine draw_done (by kernel_rfl) ?_
                first | refine a_cond_d rfl (fun h7 => ?_) (fun h8 => ?_) | refine a_cond_n rfl (fun h7 => ?_) (fun h8 => ?_) | refine a_cond_nb rfl (fun h7 => ?_) (fun h8 => ?_) | refine a_cond rfl (fun h7 => ?_) (fun h8 => ?_)
                · try simp only [Bool.not_eq_true', Bool.not_eq_false', Bool.not_eq_true, Bool.not_eq_false, decide_eq_true_eq, decide_eq_false_iff_not, List.length_map] at h7
                  refine a_seq ?_
                  refine a_region ?_
                  refine aops_cons rfl (w_pure rfl (p_assign rfl) ?_)
                  refine aops_nil ?_
                  refine a_ret ?_
                  refine ret_ok (hands1 rfl (.tmp rfl)) (.nil _) ?_
                  first | (refine ret_false ?_; rintro ⟨q1, q2⟩; exact absurd (q1 i (by omega)) (by unfold GoodAt; intro q3; first | exact absurd q3.1 ‹_› | exact q3.2 (And.intro (by omega) (by simpa using ‹_›)))) | (refine ret_dec ?_; simp only [List.length_map]; exact ⟨fun h => ⟨below_all hI ‹_›, by omega⟩, fun h => by have := h.2; omega⟩)
                · try simp only [Bool.not_eq_true', Bool.not_eq_false', Bool.not_eq_true, Bool.not_eq_false, decide_eq_true_eq, decide_eq_false_iff_not, List.length_map] at h8
                  refine a_skip ?_
                  refine a_region ?_
                  refine aops_cons rfl (w_pure rfl (p_move rfl) ?_)
                  refine aops_cons rfl (w_pure rfl (p_add' rfl rfl ⟨by omega, by omega⟩) ?_)
                  refine aops_cons rfl (w_pure rfl (p_assign rfl) ?_)
                  refine aops_nil ?_
                  refine ⟨(i + 1), _, ?_, ?_, (by repeat (first | exact Knows.nil | refine Knows.cons (by rfl) ?_)), (by repeat (first | exact Back.refl _ _ | refine Back.cons (by rfl) ?_)), (by repeat (first | exact Picks.nil _ | exact Pick.here _ _ _ | apply Pick.next | apply Picks.cons))⟩
                  · exact ⟨by omega, below_succ hI ⟨‹_›, by unfold Over; omega⟩⟩
                  · (try dsimp only); omega
              exact all_nil
            refine all_cons_t rfl rfl rfl rfl ?_ ?_
            · skip
              refine w_pure rfl (p_load_v ag_3 rfl (by rfl) noX) ?_
              refine draw_all [21] (by kernel_rfl) (by simp) ?_
              refine all_cons_t rfl rfl rfl rfl ?_ ?_
              · skip
                refine w_pure rfl (p_load_v ag_3 rfl (by rfl) noX) ?_
                refine d_take_t 22 rfl (by kernel_rfl) (by kernel_rfl) (by kernel_rfl) rfl rfl rfl (p_add rfl rfl) ?_
                refine d_take_t 28 rfl (by kernel_rfl) (by kernel_rfl) (by kernel_rfl) rfl rfl rfl (p_gtr rfl rfl) ?_
                refine d_take_t 29 rfl (by kernel_rfl) (by kernel_rfl) (by kernel_rfl) rfl rfl rfl (p_pick_t rfl rfl) ?_
                refine d_take 30 rfl (by kernel_rfl) (by kernel_rfl) (by kernel_rfl) rfl (p_pick_f rfl rfl) ?_
                refine draw_done (by kernel_rfl) ?_
                first | refine a_cond_d rfl (fun h9 => ?_) (fun h10 => ?_) | refine a_cond_n rfl (fun h9 => ?_) (fun h10 => ?_) | refine a_cond_nb rfl (fun h9 => ?_) (fun h10 => ?_) | refine a_cond rfl (fun h9 => ?_) (fun h10 => ?_)
                · try simp only [Bool.not_eq_true', Bool.not_eq_false', Bool.not_eq_true, Bool.not_eq_false, decide_eq_true_eq, decide_eq_false_iff_not, List.length_map] at h9
                  refine a_seq ?_
                  refine a_region ?_
                  refine aops_cons rfl (w_pure rfl (p_assign rfl) ?_)
                  refine aops_nil ?_
                  refine a_ret ?_
                  refine ret_ok (hands1 rfl (.tmp rfl)) (.nil _) ?_
                  first | (refine ret_false ?_; rintro ⟨q1, q2⟩; exact absurd (q1 i (by omega)) (by unfold GoodAt; intro q3; first | exact absurd q3.1 ‹_› | exact q3.2 (And.intro (by omega) (by simpa using ‹_›)))) | (refine ret_dec ?_; simp only [List.length_map]; exact ⟨fun h => ⟨below_all hI ‹_›, by omega⟩, fun h => by have := h.2; omega⟩)
                · try simp only [Bool.not_eq_true', Bool.not_eq_false', Bool.not_eq_true, Bool.not_eq_false, decide_eq_true_eq, decide_eq_false_iff_not, List.length_map] at h10
                  refine a_skip ?_
                  refine a_region ?_
                  refine aops_cons rfl (w_pure rfl (p_move rfl) ?_)
                  refine aops_cons rfl (w_pure rfl (p_add' rfl rfl ⟨by omega, by omega⟩) ?_)
                  refine aops_cons rfl (w_pure rfl (p_assign rfl) ?_)
                  refine aops_nil ?_
                  refine ⟨(i + 1), _, ?_, ?_, (by repeat (first | exact Knows.nil | refine Knows.cons (by rfl) ?_)), (by repeat (first | exact Back.refl _ _ | refine Back.cons (by rfl) ?_)), (by repeat (first | exact Picks.nil _ | exact Pick.here _ _ _ | apply Pick.next | apply Picks.cons))⟩
                  · exact ⟨by omega, below_succ hI ⟨‹_›, by unfold Over; omega⟩⟩
                  · (try dsimp only); omega
              exact all_nil
            exact all_nil
          refine all_cons_t rfl rfl rfl rfl ?_ ?_
          · skip
            refine w_pure rfl (p_load_v ag_3 rfl (by rfl) noX) ?_
            refine draw_all [15, 27] (by kernel_rfl) (by simp) ?_
            refine all_cons_t rfl rfl rfl rfl ?_ ?_
            · skip
              refine w_pure rfl (p_load_v ag_3 rfl (by rfl) noX) ?_
              refine d_take_t 22 rfl (by kernel_rfl) (by kernel_rfl) (by kernel_rfl) rfl rfl rfl (p_add rfl rfl) ?_
              refine draw_all [27] (by kernel_rfl) (by simp) ?_
              refine all_cons_t rfl rfl rfl rfl ?_ ?_
              · skip
                refine w_pure rfl (p_load_v ag_3 rfl (by rfl) noX) ?_
                refine d_take_t 28 rfl (by kernel_rfl) (by kernel_rfl) (by kernel_rfl) rfl rfl rfl (p_gtr rfl rfl) ?_
                refine d_take_t 29 rfl (by kernel_rfl) (by kernel_rfl) (by kernel_rfl) rfl rfl rfl (p_pick_t rfl rfl) ?_
                refine d_take 30 rfl (by kernel_rfl) (by kernel_rfl) (by kernel_rfl) rfl (p_pick_f rfl rfl) ?_
                refine draw_done (by kernel_rfl) ?_
                first | refine a_cond_d rfl (fun h11 => ?_) (fun h12 => ?_) | refine a_cond_n rfl (fun h11 => ?_) (fun h12 => ?_) | refine a_cond_nb rfl (fun h11 => ?_) (fun h12 => ?_) | refine a_cond rfl (fun h11 => ?_) (fun h12 => ?_)
                · try simp only [Bool.not_eq_true', Bool.not_eq_false', Bool.not_eq_true, Bool.not_eq_false, decide_eq_true_eq, decide_eq_false_iff_not, List.length_map] at h11
                  refine a_seq ?_
                  refine a_region ?_
                  refine aops_cons rfl (w_pure rfl (p_assign rfl) ?_)
                  refine aops_nil ?_
                  refine a_ret ?_
                  refine ret_ok (hands1 rfl (.tmp rfl)) (.nil _) ?_
                  first | (refine ret_false ?_; rintro ⟨q1, q2⟩; exact absurd (q1 i (by omega)) (by unfold GoodAt; intro q3; first | exact absurd q3.1 ‹_› | exact q3.2 (And.intro (by omega) (by simpa using ‹_›)))) | (refine ret_dec ?_; simp only [List.length_map]; exact ⟨fun h => ⟨below_all hI ‹_›, by omega⟩, fun h => by have := h.2; omega⟩)
                · try simp only [Bool.not_eq_true', Bool.not_eq_false', Bool.not_eq_true, Bool.not_eq_false, decide_eq_true_eq, decide_eq_false_iff_not, List.length_map] at h12
                  refine a_skip ?_
                  refine a_region ?_
                  refine aops_cons rfl (w_pure rfl (p_move rfl) ?_)
                  refine aops_cons rfl (w_pure rfl (p_add' rfl rfl ⟨by omega, by omega⟩) ?_)
                  refine aops_cons rfl (w_pure rfl (p_assign rfl) ?_)
                  refine aops_nil ?_
                  refine ⟨(i + 1), _, ?_, ?_, (by repeat (first | exact Knows.nil | refine Knows.cons (by rfl) ?_)), (by repeat (first | exact Back.refl _ _ | refine Back.cons (by rfl) ?_)), (by repeat (first | exact Picks.nil _ | exact Pick.here _ _ _ | apply Pick.next | apply Picks.cons))⟩
                  · exact ⟨by omega, below_succ hI ⟨‹_›, by unfold Over; omega⟩⟩
                  · (try dsimp only); omega
              exact all_nil
            refine all_cons_t rfl rfl rfl rfl ?_ ?_
            · skip
              refine w_pure rfl (p_load_v ag_3 rfl (by rfl) noX) ?_
              refine draw_all [15] (by kernel_rfl) (by simp) ?_
              refine all_cons_t rfl rfl rfl rfl ?_ ?_
              · skip
                refine w_pure rfl (p_load_v ag_3 rfl (by rfl) noX) ?_
                refine d_take_t 22 rfl (by kernel_rfl) (by kernel_rfl) (by kernel_rfl) rfl rfl rfl (p_add rfl rfl) ?_
                refine d_take_t 28 rfl (by kernel_rfl) (by kernel_rfl) (by kernel_rfl) rfl rfl rfl (p_gtr rfl rfl) ?_
                refine d_take_t 29 rfl (by kernel_rfl) (by kernel_rfl) (by kernel_rfl) rfl rfl rfl (p_pick_t rfl rfl) ?_
                refine d_take 30 rfl (by kernel_rfl) (by kernel_rfl) (by kernel_rfl) rfl (p_pick_f rfl rfl) ?_
                refine draw_done (by kernel_rfl) ?_
                first | refine a_cond_d rfl (fun h13 => ?_) (fun h14 => ?_) | refine a_cond_n rfl (fun h13 => ?_) (fun h14 => ?_) | refine a_cond_nb rfl (fun h13 => ?_) (fun h14 => ?_) | refine a_cond rfl (fun h13 => ?_) (fun h14 => ?_)
                · try simp only [Bool.not_eq_true', Bool.not_eq_false', Bool.not_eq_true, Bool.not_eq_false, decide_eq_true_eq, decide_eq_false_iff_not, List.length_map] at h13
                  refine a_seq ?_
                  refine a_region ?_
                  refine aops_cons rfl (w_pure rfl (p_assign rfl) ?_)
                  refine aops_nil ?_
                  refine a_ret ?_
                  refine ret_ok (hands1 rfl (.tmp rfl)) (.nil _) ?_
                  first | (refine ret_false ?_; rintro ⟨q1, q2⟩; exact absurd (q1 i (by omega)) (by unfold GoodAt; intro q3; first | exact absurd q3.1 ‹_› | exact q3.2 (And.intro (by omega) (by simpa using ‹_›)))) | (refine ret_dec ?_; simp only [List.length_map]; exact ⟨fun h => ⟨below_all hI ‹_›, by omega⟩, fun h => by have := h.2; omega⟩)
                · try simp only [Bool.not_eq_true', Bool.not_eq_false', Bool.not_eq_true, Bool.not_eq_false, decide_eq_true_eq, decide_eq_false_iff_not, List.length_map] at h14
                  refine a_skip ?_
                  refine a_region ?_
                  refine aops_cons rfl (w_pure rfl (p_move rfl) ?_)
                  refine aops_cons rfl (w_pure rfl (p_add' rfl rfl ⟨by omega, by omega⟩) ?_)
                  refine aops_cons rfl (w_pure rfl (p_assign rfl) ?_)
                  refine aops_nil ?_
                  refine ⟨(i + 1), _, ?_, ?_, (by repeat (first | exact Knows.nil | refine Knows.cons (by rfl) ?_)), (by repeat (first | exact Back.refl _ _ | refine Back.cons (by rfl) ?_)), (by repeat (first | exact Picks.nil _ | exact Pick.here _ _ _ | apply Pick.next | apply Picks.cons))⟩
                  · exact ⟨by omega, below_succ hI ⟨‹_›, by unfold Over; omega⟩⟩
                  · (try dsimp only); omega
              exact all_nil
            exact all_nil
          refine all_cons_t rfl rfl rfl rfl ?_ ?_
          · skip
            refine w_pure rfl (p_load_v ag_3 rfl (by rfl) noX) ?_
            refine draw_all [15, 21] (by kernel_rfl) (by simp) ?_
            refine all_cons_t rfl rfl rfl rfl ?_ ?_
            · skip
              refine w_pure rfl (p_load_v ag_3 rfl (by rfl) noX) ?_
              refine draw_all [21] (by kernel_rfl) (by simp) ?_
              refine all_cons_t rfl rfl rfl rfl ?_ ?_
              · skip
                refine w_pure rfl (p_load_v ag_3 rfl (by rfl) noX) ?_
                refine d_take_t 22 rfl (by kernel_rfl) (by kernel_rfl) (by kernel_rfl) rfl rfl rfl (p_add rfl rfl) ?_
                refine d_take_t 28 rfl (by kernel_rfl) (by kernel_rfl) (by kernel_rfl) rfl rfl rfl (p_gtr rfl rfl) ?_
                refine d_take_t 29 rfl (by kernel_rfl) (by kernel_rfl) (by kernel_rfl) rfl rfl rfl (p_pick_t rfl rfl) ?_
                refine d_take 30 rfl (by kernel_rfl) (by kernel_rfl) (by kernel_rfl) rfl (p_pick_f rfl rfl) ?_
                refine draw_done (by kernel_rfl) ?_
                first | refine a_cond_d rfl (fun h15 => ?_) (fun h16 => ?_) | refine a_cond_n rfl (fun h15 => ?_) (fun h16 => ?_) | refine a_cond_nb rfl (fun h15 => ?_) (fun h16 => ?_) | refine a_cond rfl (fun h15 => ?_) (fun h16 => ?_)
                · try simp only [Bool.not_eq_true', Bool.not_eq_false', Bool.not_eq_true, Bool.not_eq_false, decide_eq_true_eq, decide_eq_false_iff_not, List.length_map] at h15
                  refine a_seq ?_
                  refine a_region ?_
                  refine aops_cons rfl (w_pure rfl (p_assign rfl) ?_)
                  refine aops_nil ?_
                  refine a_ret ?_
                  refine ret_ok (hands1 rfl (.tmp rfl)) (.nil _) ?_
                  first | (refine ret_false ?_; rintro ⟨q1, q2⟩; exact absurd (q1 i (by omega)) (by unfold GoodAt; intro q3; first | exact absurd q3.1 ‹_› | exact q3.2 (And.intro (by omega) (by simpa using ‹_›)))) | (refine ret_dec ?_; simp only [List.length_map]; exact ⟨fun h => ⟨below_all hI ‹_›, by omega⟩, fun h => by have := h.2; omega⟩)
                · try simp only [Bool.not_eq_true', Bool.not_eq_false', Bool.not_eq_true, Bool.not_eq_false, decide_eq_true_eq, decide_eq_false_iff_not, List.length_map] at h16
                  refine a_skip ?_
                  refine a_region ?_
                  refine aops_cons rfl (w_pure rfl (p_move rfl) ?_)
                  refine aops_cons rfl (w_pure rfl (p_add' rfl rfl ⟨by omega, by omega⟩) ?_)
                  refine aops_cons rfl (w_pure rfl (p_assign rfl) ?_)
                  refine aops_nil ?_
                  refine ⟨(i + 1), _, ?_, ?_, (by repeat (first | exact Knows.nil | refine Knows.cons (by rfl) ?_)), (by repeat (first | exact Back.refl _ _ | refine Back.cons (by rfl) ?_)), (by repeat (first | exact Picks.nil _ | exact Pick.here _ _ _ | apply Pick.next | apply Picks.cons))⟩
                  · exact ⟨by omega, below_succ hI ⟨‹_›, by unfold Over; omega⟩⟩
                  · (try dsimp only); omega
              exact all_nil
            refine all_cons_t rfl rfl rfl rfl ?_ ?_
            · skip
              refine w_pure rfl (p_load_v ag_3 rfl (by rfl) noX) ?_
              refine draw_all [15] (by kernel_rfl) (by simp) ?_
              refine all_cons_t rfl rfl rfl rfl ?_ ?_
              · skip
                refine w_pure rfl (p_load_v ag_3 rfl (by rfl) noX) ?_
                refine d_take_t 22 rfl (by kernel_rfl) (by kernel_rfl) (by kernel_rfl) rfl rfl rfl (p_add rfl rfl) ?_
                refine d_take_t 28 rfl (by kernel_rfl) (by kernel_rfl) (by kernel_rfl) rfl rfl rfl (p_gtr rfl rfl) ?_
                refine d_take_t 29 rfl (by kernel_rfl) (by kernel_rfl) (by kernel_rfl) rfl rfl rfl (p_pick_t rfl rfl) ?_
                refine d_take 30 rfl (by kernel_rfl) (by kernel_rfl) (by kernel_rfl) rfl (p_pick_f rfl rfl) ?_
                refine draw_done (by kernel_rfl) ?_
                first | refine a_cond_d rfl (fun h17 => ?_) (fun h18 => ?_) | refine a_cond_n rfl (fun h17 => ?_) (fun h18 => ?_) | refine a_cond_nb rfl (fun h17 => ?_) (fun h18 => ?_) | refine a_cond rfl (fun h17 => ?_) (fun h18 => ?_)
                · try simp only [Bool.not_eq_true', Bool.not_eq_false', Bool.not_eq_true, Bool.not_eq_false, decide_eq_true_eq, decide_eq_false_iff_not, List.length_map] at h17
                  refine a_seq ?_
                  refine a_region ?_
                  refine aops_cons rfl (w_pure rfl (p_assign rfl) ?_)
                  refine aops_nil ?_
                  refine a_ret ?_
                  refine ret_ok (hands1 rfl (.tmp rfl)) (.nil _) ?_
                  first | (refine ret_false ?_; rintro ⟨q1, q2⟩; exact absurd (q1 i (by omega)) (by unfold GoodAt; intro q3; first | exact absurd q3.1 ‹_› | exact q3.2 (And.intro (by omega) (by simpa using ‹_›)))) | (refine ret_dec ?_; simp only [List.length_map]; exact ⟨fun h => ⟨below_all hI ‹_›, by omega⟩, fun h => by have := h.2; omega⟩)
                · try simp only [Bool.not_eq_true', Bool.not_eq_false', Bool.not_eq_true, Bool.not_eq_false, decide_eq_true_eq, decide_eq_false_iff_not, List.length_map] at h18
                  refine a_skip ?_
                  refine a_region ?_
                  refine aops_cons rfl (w_pure rfl (p_move rfl) ?_)
                  refine aops_cons rfl (w_pure rfl (p_add' rfl rfl ⟨by omega, by omega⟩) ?_)
                  refine aops_cons rfl (w_pure rfl (p_assign rfl) ?_)
                  refine aops_nil ?_
                  refine ⟨(i + 1), _, ?_, ?_, (by repeat (first | exact Knows.nil | refine Knows.cons (by rfl) ?_)), (by repeat (first | exact Back.refl _ _ | refine Back.cons (by rfl) ?_)), (by repeat (first | exact Picks.nil _ | exact Pick.here _ _ _ | apply Pick.next | apply Picks.cons))⟩
                  · exact ⟨by omega, below_succ hI ⟨‹_›, by unfold Over; omega⟩⟩
                  · (try dsimp only); omega
              exact all_nil
            exact all_nil
          exact all_nil
        · try simp only [Bool.not_eq_true', Bool.not_eq_false', Bool.not_eq_true, Bool.not_eq_false, decide_eq_true_eq, decide_eq_false_iff_not, List.length_map] at h6
          refine d_pass' 10 rfl (by kernel_rfl) (by kernel_rfl) (by kernel_rfl) rfl rfl rfl ?_
          refine d_pass' 11 rfl (by kernel_rfl) (by kernel_rfl) (by kernel_rfl) rfl rfl rfl ?_
          refine d_pass' 12 rfl (by kernel_rfl) (by kernel_rfl) (by kernel_rfl) rfl rfl rfl ?_
          refine d_pass' 13 rfl (by kernel_rfl) (by kernel_rfl) (by kernel_rfl) rfl rfl rfl ?_
          refine d_pass' 14 rfl (by kernel_rfl) (by kernel_rfl) (by kernel_rfl) rfl rfl rfl ?_
          refine d_pass' 15 rfl (by kernel_rfl) (by kernel_rfl) (by kernel_rfl) rfl rfl rfl ?_
          refine d_pass' 16 rfl (by kernel_rfl) (by kernel_rfl) (by kernel_rfl) rfl rfl rfl ?_
          refine d_pass' 17 rfl (by kernel_rfl) (by kernel_rfl) (by kernel_rfl) rfl rfl rfl ?_
          refine d_pass' 18 rfl (by kernel_rfl) (by kernel_rfl) (by kernel_rfl) rfl rfl rfl ?_
          refine d_pass' 19 rfl (by kernel_rfl) (by kernel_rfl) (by kernel_rfl) rfl rfl rfl ?_
          refine d_pass' 20 rfl (by kernel_rfl) (by kernel_rfl) (by kernel_rfl) rfl rfl rfl ?_
          refine d_pass' 21 rfl (by kernel_rfl) (by kernel_rfl) (by kernel_rfl) rfl rfl rfl ?_
          refine d_pass' 22 rfl (by kernel_rfl) (by kernel_rfl) (by kernel_rfl) rfl rfl rfl ?_
          refine d_pass' 23 rfl (by kernel_rfl) (by kernel_rfl) (by kernel_rfl) rfl rfl rfl ?_
          refine d_pass' 24 rfl (by kernel_rfl) (by kernel_rfl) (by kernel_rfl) rfl rfl rfl ?_
          refine d_pass' 25 rfl (by kernel_rfl) (by kernel_rfl) (by kernel_rfl) rfl rfl rfl ?_
          refine d_pass' 26 rfl (by kernel_rfl) (by kernel_rfl) (by kernel_rfl) rfl rfl rfl ?_
          refine d_pass' 27 rfl (by kernel_rfl) (by kernel_rfl) (by kernel_rfl) rfl rfl rfl ?_
          refine d_pass' 28 rfl (by kernel_rfl) (by kernel_rfl) (by kernel_rfl) rfl rfl rfl ?_
          refine d_take_t 29 rfl (by kernel_rfl) (by kernel_rfl) (by kernel_rfl) rfl rfl rfl (p_pick_f rfl rfl) ?_
          refine d_take 30 rfl (by kernel_rfl) (by kernel_rfl) (by kernel_rfl) rfl (p_pick_f rfl rfl) ?_
          refine draw_done (by kernel_rfl) ?_
          refine a_cond_f rfl ?_
          refine a_skip ?_
          refine a_region ?_
          refine aops_cons rfl (w_pure rfl (p_move rfl) ?_)
          refine aops_cons rfl (w_pure rfl (p_add' rfl rfl ⟨by omega, by omega⟩) ?_)
          refine aops_cons rfl (w_pure rfl (p_assign rfl) ?_)
          refine aops_nil ?_
          refine ⟨(i + 1), _, ?_, ?_, (by repeat (first | exact Knows.nil | refine Knows.cons (by rfl) ?_)), (by repeat (first | exact Back.refl _ _ | refine Back.cons (by rfl) ?_)), (by repeat (first | exact Picks.nil _ | exact Pick.here _ _ _ | apply Pick.next | apply Picks.cons))⟩
          · exact ⟨by omega, below_succ hI ⟨‹_›, by unfold Over; omega⟩⟩
          · (try dsimp only); omega
    exact all_nil
  · try simp only [Bool.not_eq_true', Bool.not_eq_false', Bool.not_eq_true, Bool.not_eq_false, decide_eq_true_eq, decide_eq_false_iff_not, List.length_map] at h2
    refine a_exit ?_
    refine a_seq ?_
    refine a_region ?_
    refine aops_cons rfl (w_pure rfl (p_move rfl) ?_)
    refine aops_cons rfl (w_pure rfl (p_len sl_31 rfl rfl) ?_)
    refine aops_cons rfl (w_pure rfl (p_leq rfl rfl) ?_)
    refine aops_cons rfl (w_pure rfl (p_assign rfl) ?_)
    refine aops_nil ?_
    refine a_ret ?_
    refine ret_ok (hands1 rfl (.tmp rfl)) (.nil _) ?_
    first | (refine ret_false ?_; rintro ⟨q1, q2⟩; exact absurd (q1 i (by omega)) (by unfold GoodAt; intro q3; first | exact absurd q3.1 ‹_› | exact q3.2 (And.intro (by omega) (by simpa using ‹_›)))) | (refine ret_dec ?_; simp only [List.length_map]; exact ⟨fun h => ⟨below_all hI ‹_›, by omega⟩, fun h => by have := h.2; omega⟩)

theorem c_impl_IsMap (xs : List Region) (hn : xs.length ≤ 1048576) : ACalls Try.prog 16 [.sl (xs.map eRegion)] [] (Ret (.bool (decide (IsMap xs)))) := by
  refine a_enter Try.func16 rfl rfl (fun w0 M0 => ?_)
  refine a_seq ?_
  refine a_region ?_
  refine aops_cons rfl (w_pure rfl (p_assign rfl) ?_)
  refine aops_nil ?_
  refine a_seq ?_
  refine a_seq ?_
  refine a_region ?_
  refine aops_cons rfl (w_pure rfl (p_move rfl) ?_)
  refine aops_cons rfl (w_pure rfl (p_len sl_31 rfl rfl) ?_)
  refine aops_cons rfl (w_pure rfl (p_move rfl) ?_)
  refine aops_nil ?_
  refine a_block ?_
  refine a_loop (ι := Nat) (fun i => i ≤ xs.length ∧ ∀ j, j < i → GoodAt xs j) (fun i => [(7, .int .i64 (i : Int))]) (fun i => []) (fun i => xs.length - i) 0 ⟨Nat.zero_le _, below_zero⟩ (by repeat (first | exact Knows.nil | refine Knows.cons (by rfl) ?_)) (by repeat (first | exact Picks.nil _ | exact Pick.here _ _ _ | apply Pick.next | apply Picks.cons)) ?_
  rintro i ⟨hi, hI⟩
  skip
  refine a_seq ?_
  refine a_region ?_
  refine aops_cons rfl (w_pure rfl (p_lss rfl rfl) ?_)
  refine aops_nil ?_
  refine a_seq ?_
  first | refine a_cond_d rfl (fun h1 => ?_) (fun h2 => ?_) | refine a_cond_n rfl (fun h1 => ?_) (fun h2 => ?_) | refine a_cond_nb rfl (fun h1 => ?_) (fun h2 => ?_) | refine a_cond rfl (fun h1 => ?_) (fun h2 => ?_)
  · try simp only [Bool.not_eq_true', Bool.not_eq_false', Bool.not_eq_true, Bool.not_eq_false, decide_eq_true_eq, decide_eq_false_iff_not, List.length_map] at h1
    refine a_skip ?_
    refine a_seq ?_
    refine a_block ?_
    refine a_seq ?_
    refine a_region ?_
    refine aops_cons rfl (w_pure rfl (p_move rfl) ?_)
    refine aops_cons rfl (w_pure rfl (p_index_sl _ rfl rfl rfl (rowD _ _ zRegion (by omega)) es_31) ?_)
    refine aops_cons rfl (w_pure rfl (p_load_v_all ag_25 rfl (by rfl) noX) ?_)
    refine aops_cons rfl (w_alloc rfl z_25 fun b1 => ?_)
    refine aops_cons rfl (w_pure rfl (p_assign rfl) ?_)
    refine aops_cons rfl (w_store (cells' := [_, _, _, _]) rfl rfl rfl (by repeat (first | exact Pick.here _ _ _ | apply Pick.next)) cn_25 (by rfl) (by rfl) (by rfl) trivial ?_)
    refine aops_nil ?_
    refine a_seq ?_
    refine a_draw [] (by kernel_rfl) ?_
    show ADraw _ _ _ _ _ _ 25 _ _ _ _
    refine d_load 0 rfl (by kernel_rfl) (by kernel_rfl) (by kernel_rfl) rfl (p_load_box_all ag_25 rfl (by repeat (first | exact Pick.here _ _ _ | apply Pick.next)) (by rfl) noX) ?_
    refine draw_all [1] (by kernel_rfl) (by simp) ?_
    refine all_cons rfl rfl ?_ ?_
    · skip
      refine w_callR rfl rfl rfl cl_12 (c_impl_IsRegion ..) ?_
      refine d_take 2 rfl (by kernel_rfl) (by kernel_rfl) (by kernel_rfl) rfl (p_not rfl) ?_
      refine d_take 3 rfl (by kernel_rfl) (by kernel_rfl) (by kernel_rfl) rfl (p_move rfl) ?_
      first | refine d_split_d 15 rfl (fun h3 => ?_) (fun h4 => ?_) | refine draw_split 15 rfl (fun h3 => ?_) (fun h4 => ?_)
      · try simp only [Bool.not_eq_true', Bool.not_eq_false', Bool.not_eq_true, Bool.not_eq_false, decide_eq_true_eq, decide_eq_false_iff_not, List.length_map] at h3
        refine d_pass' 4 rfl (by kernel_rfl) (by kernel_rfl) (by kernel_rfl) rfl rfl rfl ?_
        refine d_pass' 5 rfl (by kernel_rfl) (by kernel_rfl) (by kernel_rfl) rfl rfl rfl ?_
        refine d_pass' 6 rfl (by kernel_rfl) (by kernel_rfl) (by kernel_rfl) rfl rfl rfl ?_
        refine d_pass_u 7 rfl (by kernel_rfl) (by kernel_rfl) (by kernel_rfl) rfl rfl rfl ?_
        refine d_pass_u 8 rfl (by kernel_rfl) (by kernel_rfl) (by kernel_rfl) rfl rfl rfl ?_
        refine d_pass_u 9 rfl (by kernel_rfl) (by kernel_rfl) (by kernel_rfl) rfl rfl rfl ?_
        refine d_pass_u 10 rfl (by kernel_rfl) (by kernel_rfl) (by kernel_rfl) rfl rfl rfl ?_
        refine d_pass_u 11 rfl (by kernel_rfl) (by kernel_rfl) (by kernel_rfl) rfl rfl rfl ?_
        refine d_pass_u 12 rfl (by kernel_rfl) (by kernel_rfl) (by kernel_rfl) rfl rfl rfl ?_
        refine d_pass_u 13 rfl (by kernel_rfl) (by kernel_rfl) (by kernel_rfl) rfl rfl rfl ?_
        refine d_pass_u 14 rfl (by kernel_rfl) (by kernel_rfl) (by kernel_rfl) rfl rfl rfl ?_
        refine d_pass_u 15 rfl (by kernel_rfl) (by kernel_rfl) (by kernel_rfl) rfl rfl rfl ?_
        refine d_pass_u 16 rfl (by kernel_rfl) (by kernel_rfl) (by kernel_rfl) rfl rfl rfl ?_
        refine d_pass_u 17 rfl (by kernel_rfl) (by kernel_rfl) (by kernel_rfl) rfl rfl rfl ?_
        refine d_pass_u 18 rfl (by kernel_rfl) (by kernel_rfl) (by kernel_rfl) rfl rfl rfl ?_
        refine d_pass_u 19 rfl (by kernel_rfl) (by kernel_rfl) (by kernel_rfl) rfl rfl rfl ?_
        refine d_pass_u 20 rfl (by kernel_rfl) (by kernel_rfl) (by kernel_rfl) rfl rfl rfl ?_
        refine d_pass_u 21 rfl (by kernel_rfl) (by kernel_rfl) (by kernel_rfl) rfl rfl rfl ?_
        refine d_pass_u 22 rfl (by kernel_rfl) (by kernel_rfl) (by kernel_rfl) rfl rfl rfl ?_
        refine d_pass' 23 rfl (by kernel_rfl) (by kernel_rfl) (by kernel_rfl) rfl rfl rfl ?_
        refine d_take 24 rfl (by kernel_rfl) (by kernel_rfl) (by kernel_rfl) rfl (p_pick_t rfl rfl) ?_
        refine draw_done (by kernel_rfl) ?_
        refine a_cond_t rfl ?_
        refine a_seq ?_
        refine a_region ?_
        refine aops_cons rfl (w_pure rfl (p_assign rfl) ?_)
        refine aops_nil ?_
        refine a_ret ?_
        refine ret_ok (hands1 rfl (.tmp rfl)) (.nil _) ?_
        first | (refine ret_false ?_; rintro ⟨q1, q2⟩; exact absurd (q1 i (by omega)) (by unfold GoodAt; intro q3; first | exact absurd q3.1 ‹_› | exact q3.2 (And.intro (by omega) (by simpa using ‹_›)))) | (refine ret_dec ?_; simp only [List.length_map]; exact ⟨fun h => ⟨below_all hI ‹_›, by omega⟩, fun h => by have := h.2; omega⟩)
      · try simp only [Bool.not_eq_true', Bool.not_eq_false', Bool.not_eq_true, Bool.not_eq_false, decide_eq_true_eq, decide_eq_false_iff_not, List.length_map] at h4
        refine d_take_t 4 rfl (by kernel_rfl) (by kernel_rfl) (by kernel_rfl) rfl rfl rfl (p_move rfl) ?_
        refine d_take_t 5 rfl (by kernel_rfl) (by kernel_rfl) (by kernel_rfl) rfl rfl rfl (p_gtr rfl rfl) ?_
        refine d_take_t 6 rfl (by kernel_rfl) (by kernel_rfl) (by kernel_rfl) rfl rfl rfl (p_move rfl) ?_
        first | refine d_split_d 18 rfl (fun h5 => ?_) (fun h6 => ?_) | refine draw_split 18 rfl (fun h5 => ?_) (fun h6 => ?_)
        · try simp only [Bool.not_eq_true', Bool.not_eq_false', Bool.not_eq_true, Bool.not_eq_false, decide_eq_true_eq, decide_eq_false_iff_not, List.length_map] at h5
          refine d_take_t 7 rfl (by kernel_rfl) (by kernel_rfl) (by kernel_rfl) rfl rfl rfl (p_move rfl) ?_
          refine d_take_t 8 rfl (by kernel_rfl) (by kernel_rfl) (by kernel_rfl) rfl rfl rfl (p_move rfl) ?_
          refine d_take_t 9 rfl (by kernel_rfl) (by kernel_rfl) (by kernel_rfl) rfl rfl rfl (p_sub' rfl rfl ⟨by omega, by omega⟩) ?_
          refine d_take_t 10 rfl (by kernel_rfl) (by kernel_rfl) (by kernel_rfl) rfl rfl rfl (p_index_sl (i - 1) rfl rfl (by omega) (rowD _ _ zRegion (by omega)) es_31) ?_
          refine d_take_t 11 rfl (by kernel_rfl) (by kernel_rfl) (by kernel_rfl) rfl rfl rfl (p_field_v fo_25_0 rfl) ?_
          refine d_take_t 13 rfl (by kernel_rfl) (by kernel_rfl) (by kernel_rfl) rfl rfl rfl (p_move rfl) ?_
          refine d_take_t 14 rfl (by kernel_rfl) (by kernel_rfl) (by kernel_rfl) rfl rfl rfl (p_move rfl) ?_
          refine d_take_t 15 rfl (by kernel_rfl) (by kernel_rfl) (by kernel_rfl) rfl rfl rfl (p_sub' rfl rfl ⟨by omega, by omega⟩) ?_
          refine d_take_t 16 rfl (by kernel_rfl) (by kernel_rfl) (by kernel_rfl) rfl rfl rfl (p_index_sl (i - 1) rfl rfl (by omega) (rowD _ _ zRegion (by omega)) es_31) ?_
          refine d_take_t 17 rfl (by kernel_rfl) (by kernel_rfl) (by kernel_rfl) rfl rfl rfl (p_field_v fo_25_1 rfl) ?_
          refine d_take_t 20 rfl (by kernel_rfl) (by kernel_rfl) (by kernel_rfl) rfl rfl rfl (p_field_box fo_25_0 rfl) ?_
          refine draw_all [12, 18, 21] (by kernel_rfl) (by simp) ?_
          refine all_cons_t rfl rfl rfl rfl ?_ ?_
          · skip
            refine w_pure rfl (p_load_v ag_3 rfl (by rfl) noX) ?_
            refine draw_all [18, 21] (by kernel_rfl) (by simp) ?_
            refine all_cons_t rfl rfl rfl rfl ?_ ?_
            · skip
              refine w_pure rfl (p_load_v ag_3 rfl (by rfl) noX) ?_
              refine d_take_t 19 rfl (by kernel_rfl) (by kernel_rfl) (by kernel_rfl) rfl rfl rfl (p_add rfl rfl) ?_
              refine draw_all [21] (by kernel_rfl) (by simp) ?_
              refine all_cons_t rfl rfl rfl rfl ?_ ?_
              · skip
                refine w_pure rfl (p_load_box ag_3 rfl (by repeat (first | exact Pick.here _ _ _ | apply Pick.next)) (by rfl) noX) ?_
                refine d_take_t 22 rfl (by kernel_rfl) (by kernel_rfl) (by kernel_rfl) rfl rfl rfl (p_gtr rfl rfl) ?_
                refine d_take_t 23 rfl (by kernel_rfl) (by kernel_rfl) (by kernel_rfl) rfl rfl rfl (p_pick_t rfl rfl) ?_
                refine d_take 24 rfl (by kernel_rfl) (by kernel_rfl) (by kernel_rfl) rfl (p_pick_f rfl rfl) ?_
                refine draw_done (by kernel_rfl) ?_
                first | refine a_cond_d rfl (fun h7 => ?_) (fun h8 => ?_) | refine a_cond_n rfl (fun h7 => ?_) (fun h8 => ?_) | refine a_cond_nb rfl (fun h7 => ?_) (fun h8 => ?_) | refine a_cond rfl (fun h7 => ?_) (fun h8 => ?_)
                · try simp only [Bool.not_eq_true', Bool.not_eq_false', Bool.not_eq_true, Bool.not_eq_false, decide_eq_true_eq, decide_eq_false_iff_not, List.length_map] at h7
                  refine a_seq ?_
                  refine a_region ?_
                  refine aops_cons rfl (w_pure rfl (p_assign rfl) ?_)
                  refine aops_nil ?_
                  refine a_ret ?_
                  refine ret_ok (hands1 rfl (.tmp rfl)) (.nil _) ?_
                  first | (refine ret_false ?_; rintro ⟨q1, q2⟩; exact absurd (q1 i (by omega)) (by unfold GoodAt; intro q3; first | exact absurd q3.1 ‹_› | exact q3.2 (And.intro (by omega) (by simpa using ‹_›)))) | (refine ret_dec ?_; simp only [List.length_map]; exact ⟨fun h => ⟨below_all hI ‹_›, by omega⟩, fun h => by have := h.2; omega⟩)
                · try simp only [Bool.not_eq_true', Bool.not_eq_false', Bool.not_eq_true, Bool.not_eq_false, decide_eq_true_eq, decide_eq_false_iff_not, List.length_map] at h8
                  refine a_skip ?_
                  refine a_region ?_
                  refine aops_cons rfl (w_pure rfl (p_add' rfl rfl ⟨by omega, by omega⟩) ?_)
                  refine aops_cons rfl (w_pure rfl (p_move rfl) ?_)
                  refine aops_nil ?_
                  refine ⟨(i + 1), _, ?_, ?_, (by repeat (first | exact Knows.nil | refine Knows.cons (by rfl) ?_)), (by repeat (first | exact Back.refl _ _ | refine Back.cons (by rfl) ?_)), (by repeat (first | exact Picks.nil _ | exact Pick.here _ _ _ | apply Pick.next | apply Picks.cons))⟩
                  · exact ⟨by omega, below_succ hI ⟨‹_›, by unfold Over; omega⟩⟩
                  · (try dsimp only); omega
              exact all_nil
            refine all_cons_t rfl rfl rfl rfl ?_ ?_
            · skip
              refine w_pure rfl (p_load_box ag_3 rfl (by repeat (first | exact Pick.here _ _ _ | apply Pick.next)) (by rfl) noX) ?_
              refine draw_all [18] (by kernel_rfl) (by simp) ?_
              refine all_cons_t rfl rfl rfl rfl ?_ ?_
              · skip
                refine w_pure rfl (p_load_v ag_3 rfl (by rfl) noX) ?_
                refine d_take_t 19 rfl (by kernel_rfl) (by kernel_rfl) (by kernel_rfl) rfl rfl rfl (p_add rfl rfl) ?_
                refine d_take_t 22 rfl (by kernel_rfl) (by kernel_rfl) (by kernel_rfl) rfl rfl rfl (p_gtr rfl rfl) ?_
                refine d_take_t 23 rfl (by kernel_rfl) (by kernel_rfl) (by kernel_rfl) rfl rfl rfl (p_pick_t rfl rfl) ?_
                refine d_take 24 rfl (by kernel_rfl) (by kernel_rfl) (by kernel_rfl) rfl (p_pick_f rfl rfl) ?_
                refine draw_done (by kernel_rfl) ?_
                first | refine a_cond_d rfl (fun h9 => ?_) (fun h10 => ?_) | refine a_cond_n rfl (fun h9 => ?_) (fun h10 => ?_) | refine a_cond_nb rfl (fun h9 => ?_) (fun h10 => ?_) | refine a_cond rfl (fun h9 => ?_) (fun h10 => ?_)
                · try simp only [Bool.not_eq_true', Bool.not_eq_false', Bool.not_eq_true, Bool.not_eq_false, decide_eq_true_eq, decide_eq_false_iff_not, List.length_map] at h9
                  refine a_seq ?_
                  refine a_region ?_
                  refine aops_cons rfl (w_pure rfl (p_assign rfl) ?_)
                  refine aops_nil ?_
                  refine a_ret ?_
                  refine ret_ok (hands1 rfl (.tmp rfl)) (.nil _) ?_
                  first | (refine ret_false ?_; rintro ⟨q1, q2⟩; exact absurd (q1 i (by omega)) (by unfold GoodAt; intro q3; first | exact absurd q3.1 ‹_› | exact q3.2 (And.intro (by omega) (by simpa using ‹_›)))) | (refine ret_dec ?_; simp only [List.length_map]; exact ⟨fun h => ⟨below_all hI ‹_›, by omega⟩, fun h => by have := h.2; omega⟩)
                · try simp only [Bool.not_eq_true', Bool.not_eq_false', Bool.not_eq_true, Bool.not_eq_false, decide_eq_true_eq, decide_eq_false_iff_not, List.length_map] at h10
                  refine a_skip ?_
                  refine a_region ?_
                  refine aops_cons rfl (w_pure rfl (p_add' rfl rfl ⟨by omega, by omega⟩) ?_)
                  refine aops_cons rfl (w_pure rfl (p_move rfl) ?_)
                  refine aops_nil ?_
                  refine ⟨(i + 1), _, ?_, ?_, (by repeat (first | exact Knows.nil | refine Knows.cons (by rfl) ?_)), (by repeat (first | exact Back.refl _ _ | refine Back.cons (by rfl) ?_)), (by repeat (first | exact Picks.nil _ | exact Pick.here _ _ _ | apply Pick.next | apply Picks.cons))⟩
                  · exact ⟨by omega, below_succ hI ⟨‹_›, by unfold Over; omega⟩⟩
                  · (try dsimp only); omega
              exact all_nil
            exact all_nil
          refine all_cons_t rfl rfl rfl rfl ?_ ?_
          · skip
            refine w_pure rfl (p_load_v ag_3 rfl (by rfl) noX) ?_
            refine draw_all [12, 21] (by kernel_rfl) (by simp) ?_
            refine all_cons_t rfl rfl rfl rfl ?_ ?_
            · skip
              refine w_pure rfl (p_load_v ag_3 rfl (by rfl) noX) ?_
              refine d_take_t 19 rfl (by kernel_rfl) (by kernel_rfl) (by kernel_rfl) rfl rfl rfl (p_add rfl rfl) ?_
              refine draw_all [21] (by kernel_rfl) (by simp) ?_
              refine all_cons_t rfl rfl rfl rfl ?_ ?_
              · skip
                refine w_pure rfl (p_load_box ag_3 rfl (by repeat (first | exact Pick.here _ _ _ | apply Pick.next)) (by rfl) noX) ?_
                refine d_take_t 22 rfl (by kernel_rfl) (by kernel_rfl) (by kernel_rfl) rfl rfl rfl (p_gtr rfl rfl) ?_
                refine d_take_t 23 rfl (by kernel_rfl) (by kernel_rfl) (by kernel_rfl) rfl rfl rfl (p_pick_t rfl rfl) ?_
                refine d_take 24 rfl (by kernel_rfl) (by kernel_rfl) (by kernel_rfl) rfl (p_pick_f rfl rfl) ?_
                refine draw_done (by kernel_rfl) ?_
                first | refine a_cond_d rfl (fun h11 => ?_) (fun h12 => ?_) | refine a_cond_n rfl (fun h11 => ?_) (fun h12 => ?_) | refine a_cond_nb rfl (fun h11 => ?_) (fun h12 => ?_) | refine a_cond rfl (fun h11 => ?_) (fun h12 => ?_)
                · try simp only [Bool.not_eq_true', Bool.not_eq_false', Bool.not_eq_true, Bool.not_eq_false, decide_eq_true_eq, decide_eq_false_iff_not, List.length_map] at h11
                  refine a_seq ?_
                  refine a_region ?_
                  refine aops_cons rfl (w_pure rfl (p_assign rfl) ?_)
                  refine aops_nil ?_
                  refine a_ret ?_
                  refine ret_ok (hands1 rfl (.tmp rfl)) (.nil _) ?_
                  first | (refine ret_false ?_; rintro ⟨q1, q2⟩; exact absurd (q1 i (by omega)) (by unfold GoodAt; intro q3; first | exact absurd q3.1 ‹_› | exact q3.2 (And.intro (by omega) (by simpa using ‹_›)))) | (refine ret_dec ?_; simp only [List.length_map]; exact ⟨fun h => ⟨below_all hI ‹_›, by omega⟩, fun h => by have := h.2; omega⟩)
                · try simp only [Bool.not_eq_true', Bool.not_eq_false', Bool.not_eq_true, Bool.not_eq_false, decide_eq_true_eq, decide_eq_false_iff_not, List.length_map] at h12
                  refine a_skip ?_
                  refine a_region ?_
                  refine aops_cons rfl (w_pure rfl (p_add' rfl rfl ⟨by omega, by omega⟩) ?_)
                  refine aops_cons rfl (w_pure rfl (p_move rfl) ?_)
                  refine aops_nil ?_
                  refine ⟨(i + 1), _, ?_, ?_, (by repeat (first | exact Knows.nil | refine Knows.cons (by rfl) ?_)), (by repeat (first | exact Back.refl _ _ | refine Back.cons (by rfl) ?_)), (by repeat (first | exact Picks.nil _ | exact Pick.here _ _ _ | apply Pick.next | apply Picks.cons))⟩
                  · exact ⟨by omega, below_succ hI ⟨‹_›, by unfold Over; omega⟩⟩
                  · (try dsimp only); omega
              exact all_nil
            refine all_cons_t rfl rfl rfl rfl ?_ ?_
            · skip
              refine w_pure rfl (p_load_box ag_3 rfl (by repeat (first | exact Pick.here _ _ _ | apply Pick.next)) (by rfl) noX) ?_
              refine draw_all [12] (by kernel_rfl) (by simp) ?_
              refine all_cons_t rfl rfl rfl rfl ?_ ?_
              · skip
                refine w_pure rfl (p_load_v ag_3 rfl (by rfl) noX) ?_
                refine d_take_t 19 rfl (by kernel_rfl) (by kernel_rfl) (by kernel_rfl) rfl rfl rfl (p_add rfl rfl) ?_
                refine d_take_t 22 rfl (by kernel_rfl) (by kernel_rfl) (by kernel_rfl) rfl rfl rfl (p_gtr rfl rfl) ?_
                refine d_take_t 23 rfl (by kernel_rfl) (by kernel_rfl) (by kernel_rfl) rfl rfl rfl (p_pick_t rfl rfl) ?_
                refine d_take 24 rfl (by kernel_rfl) (by kernel_rfl) (by kernel_rfl) rfl (p_pick_f rfl rfl) ?_
                refine draw_done (by kernel_rfl) ?_
                first | refine a_cond_d rfl (fun h13 => ?_) (fun h14 => ?_) | refine a_cond_n rfl (fun h13 => ?_) (fun h14 => ?_) | refine a_cond_nb rfl (fun h13 => ?_) (fun h14 => ?_) | refine a_cond rfl (fun h13 => ?_) (fun h14 => ?_)
                · try simp only [Bool.not_eq_true', Bool.not_eq_false', Bool.not_eq_true, Bool.not_eq_false, decide_eq_true_eq, decide_eq_false_iff_not, List.length_map] at h13
                  refine a_seq ?_
                  refine a_region ?_
                  refine aops_cons rfl (w_pure rfl (p_assign rfl) ?_)
                  refine aops_nil ?_
                  refine a_ret ?_
                  refine ret_ok (hands1 rfl (.tmp rfl)) (.nil _) ?_
                  first | (refine ret_false ?_; rintro ⟨q1, q2⟩; exact absurd (q1 i (by omega)) (by unfold GoodAt; intro q3; first | exact absurd q3.1 ‹_› | exact q3.2 (And.intro (by omega) (by simpa using ‹_›)))) | (refine ret_dec ?_; simp only [List.length_map]; exact ⟨fun h => ⟨below_all hI ‹_›, by omega⟩, fun h => by have := h.2; omega⟩)
                · try simp only [Bool.not_eq_true', Bool.not_eq_false', Bool.not_eq_true, Bool.not_eq_false, decide_eq_true_eq, decide_eq_false_iff_not, List.length_map] at h14
                  refine a_skip ?_
                  refine a_region ?_
                  refine aops_cons rfl (w_pure rfl (p_add' rfl rfl ⟨by omega, by omega⟩) ?_)
                  refine aops_cons rfl (w_pure rfl (p_move rfl) ?_)
                  refine aops_nil ?_
                  refine ⟨(i + 1), _, ?_, ?_, (by repeat (first | exact Knows.nil | refine Knows.cons (by rfl) ?_)), (by repeat (first | exact Back.refl _ _ | refine Back.cons (by rfl) ?_)), (by repeat (first | exact Picks.nil _ | exact Pick.here _ _ _ | apply Pick.next | apply Picks.cons))⟩
                  · exact ⟨by omega, below_succ hI ⟨‹_›, by unfold Over; omega⟩⟩
                  · (try dsimp only); omega
              exact all_nil
            exact all_nil
          refine all_cons_t rfl rfl rfl rfl ?_ ?_
          · skip
            refine w_pure rfl (p_load_box ag_3 rfl (by repeat (first | exact Pick.here _ _ _ | apply Pick.next)) (by rfl) noX) ?_
            refine draw_all [12, 18] (by kernel_rfl) (by simp) ?_
            refine all_cons_t rfl rfl rfl rfl ?_ ?_
            · skip
              refine w_pure rfl (p_load_v ag_3 rfl (by rfl) noX) ?_
              refine draw_all [18] (by kernel_rfl) (by simp) ?_
              refine all_cons_t rfl rfl rfl rfl ?_ ?_
              · skip
                refine w_pure rfl (p_load_v ag_3 rfl (by rfl) noX) ?_
                refine d_take_t 19 rfl (by kernel_rfl) (by kernel_rfl) (by kernel_rfl) rfl rfl rfl (p_add rfl rfl) ?_
                refine d_take_t 22 rfl (by kernel_rfl) (by kernel_rfl) (by kernel_rfl) rfl rfl rfl (p_gtr rfl rfl) ?_
                refine d_take_t 23 rfl (by kernel_rfl) (by kernel_rfl) (by kernel_rfl) rfl rfl rfl (p_pick_t rfl rfl) ?_
                refine d_take 24 rfl (by kernel_rfl) (by kernel_rfl) (by kernel_rfl) rfl (p_pick_f rfl rfl) ?_
                refine draw_done (by kernel_rfl) ?_
                first | refine a_cond_d rfl (fun h15 => ?_) (fun h16 => ?_) | refine a_cond_n rfl (fun h15 => ?_) (fun h16 => ?_) | refine a_cond_nb rfl (fun h15 => ?_) (fun h16 => ?_) | refine a_cond rfl (fun h15 => ?_) (fun h16 => ?_)
                · try simp only [Bool.not_eq_true', Bool.not_eq_false', Bool.not_eq_true, Bool.not_eq_false, decide_eq_true_eq, decide_eq_false_iff_not, List.length_map] at h15
                  refine a_seq ?_
                  refine a_region ?_
                  refine aops_cons rfl (w_pure rfl (p_assign rfl) ?_)
                  refine aops_nil ?_
                  refine a_ret ?_
                  refine ret_ok (hands1 rfl (.tmp rfl)) (.nil _) ?_
                  first | (refine ret_false ?_; rintro ⟨q1, q2⟩; exact absurd (q1 i (by omega)) (by unfold GoodAt; intro q3; first | exact absurd q3.1 ‹_› | exact q3.2 (And.intro (by omega) (by simpa using ‹_›)))) | (refine ret_dec ?_; simp only [List.length_map]; exact ⟨fun h => ⟨below_all hI ‹_›, by omega⟩, fun h => by have := h.2; omega⟩)
                · try simp only [Bool.not_eq_true', Bool.not_eq_false', Bool.not_eq_true, Bool.not_eq_false, decide_eq_true_eq, decide_eq_false_iff_not, List.length_map] at h16
                  refine a_skip ?_
                  refine a_region ?_
                  refine aops_cons rfl (w_pure rfl (p_add' rfl rfl ⟨by omega, by omega⟩) ?_)
                  refine aops_cons rfl (w_pure rfl (p_move rfl) ?_)
                  refine aops_nil ?_
                  refine ⟨(i + 1), _, ?_, ?_, (by repeat (first | exact Knows.nil | refine Knows.cons (by rfl) ?_)), (by repeat (first | exact Back.refl _ _ | refine Back.cons (by rfl) ?_)), (by repeat (first | exact Picks.nil _ | exact Pick.here _ _ _ | apply Pick.next | apply Picks.cons))⟩
                  · exact ⟨by omega, below_succ hI ⟨‹_›, by unfold Over; omega⟩⟩
                  · (try dsimp only); omega
              exact all_nil
            refine all_cons_t rfl rfl rfl rfl ?_ ?_
            · skip
              refine w_pure rfl (p_load_v ag_3 rfl (by rfl) noX) ?_
              refine draw_all [12] (by kernel_rfl) (by simp) ?_
              refine all_cons_t rfl rfl rfl rfl ?_ ?_
              · skip
                refine w_pure rfl (p_load_v ag_3 rfl (by rfl) noX) ?_
                refine d_take_t 19 rfl (by kernel_rfl) (by kernel_rfl) (by kernel_rfl) rfl rfl rfl (p_add rfl rfl) ?_
                refine d_take_t 22 rfl (by kernel_rfl) (by kernel_rfl) (by kernel_rfl) rfl rfl rfl (p_gtr rfl rfl) ?_
                refine d_take_t 23 rfl (by kernel_rfl) (by kernel_rfl) (by kernel_rfl) rfl rfl rfl (p_pick_t rfl rfl) ?_
                refine d_take 24 rfl (by kernel_rfl) (by kernel_rfl) (by kernel_rfl) rfl (p_pick_f rfl rfl) ?_
                refine draw_done (by kernel_rfl) ?_
                first | refine a_cond_d rfl (fun h17 => ?_) (fun h18 => ?_) | refine a_cond_n rfl (fun h17 => ?_) (fun h18 => ?_) | refine a_cond_nb rfl (fun h17 => ?_) (fun h18 => ?_) | refine a_cond rfl (fun h17 => ?_) (fun h18 => ?_)
                · try simp only [Bool.not_eq_true', Bool.not_eq_false', Bool.not_eq_true, Bool.not_eq_false, decide_eq_true_eq, decide_eq_false_iff_not, List.length_map] at h17
                  refine a_seq ?_
                  refine a_region ?_
                  refine aops_cons rfl (w_pure rfl (p_assign rfl) ?_)
                  refine aops_nil ?_
                  refine a_ret ?_
                  refine ret_ok (hands1 rfl (.tmp rfl)) (.nil _) ?_
                  first | (refine ret_false ?_; rintro ⟨q1, q2⟩; exact absurd (q1 i (by omega)) (by unfold GoodAt; intro q3; first | exact absurd q3.1 ‹_› | exact q3.2 (And.intro (by omega) (by simpa using ‹_›)))) | (refine ret_dec ?_; simp only [List.length_map]; exact ⟨fun h => ⟨below_all hI ‹_›, by omega⟩, fun h => by have := h.2; omega⟩)
                · try simp only [Bool.not_eq_true', Bool.not_eq_false', Bool.not_eq_true, Bool.not_eq_false, decide_eq_true_eq, decide_eq_false_iff_not, List.length_map] at h18
                  refine a_skip ?_
                  refine a_region ?_
                  refine aops_cons rfl (w_pure rfl (p_add' rfl rfl ⟨by omega, by omega⟩) ?_)
                  refine aops_cons rfl (w_pure rfl (p_move rfl) ?_)
                  refine aops_nil ?_
                  refine ⟨(i + 1), _, ?_, ?_, (by repeat (first | exact Knows.nil | refine Knows.cons (by rfl) ?_)), (by repeat (first | exact Back.refl _ _ | refine Back.cons (by rfl) ?_)), (by repeat (first | exact Picks.nil _ | exact Pick.here _ _ _ | apply Pick.next | apply Picks.cons))⟩
                  · exact ⟨by omega, below_succ hI ⟨‹_›, by unfold Over; omega⟩⟩
                  · (try dsimp only); omega
              exact all_nil
            exact all_nil
          exact all_nil
        · try simp only [Bool.not_eq_true', Bool.not_eq_false', Bool.not_eq_true, Bool.not_eq_false, decide_eq_true_eq, decide_eq_false_iff_not, List.length_map] at h6
          refine d_pass' 7 rfl (by kernel_rfl) (by kernel_rfl) (by kernel_rfl) rfl rfl rfl ?_
          refine d_pass' 8 rfl (by kernel_rfl) (by kernel_rfl) (by kernel_rfl) rfl rfl rfl ?_
          refine d_pass' 9 rfl (by kernel_rfl) (by kernel_rfl) (by kernel_rfl) rfl rfl rfl ?_
          refine d_pass' 10 rfl (by kernel_rfl) (by kernel_rfl) (by kernel_rfl) rfl rfl rfl ?_
          refine d_pass' 11 rfl (by kernel_rfl) (by kernel_rfl) (by kernel_rfl) rfl rfl rfl ?_
          refine d_pass' 12 rfl (by kernel_rfl) (by kernel_rfl) (by kernel_rfl) rfl rfl rfl ?_
          refine d_pass' 13 rfl (by kernel_rfl) (by kernel_rfl) (by kernel_rfl) rfl rfl rfl ?_
          refine d_pass' 14 rfl (by kernel_rfl) (by kernel_rfl) (by kernel_rfl) rfl rfl rfl ?_
          refine d_pass' 15 rfl (by kernel_rfl) (by kernel_rfl) (by kernel_rfl) rfl rfl rfl ?_
          refine d_pass' 16 rfl (by kernel_rfl) (by kernel_rfl) (by kernel_rfl) rfl rfl rfl ?_
          refine d_pass' 17 rfl (by kernel_rfl) (by kernel_rfl) (by kernel_rfl) rfl rfl rfl ?_
          refine d_pass' 18 rfl (by kernel_rfl) (by kernel_rfl) (by kernel_rfl) rfl rfl rfl ?_
          refine d_pass' 19 rfl (by kernel_rfl) (by kernel_rfl) (by kernel_rfl) rfl rfl rfl ?_
          refine d_pass' 20 rfl (by kernel_rfl) (by kernel_rfl) (by kernel_rfl) rfl rfl rfl ?_
          refine d_pass' 21 rfl (by kernel_rfl) (by kernel_rfl) (by kernel_rfl) rfl rfl rfl ?_
          refine d_pass' 22 rfl (by kernel_rfl) (by kernel_rfl) (by kernel_rfl) rfl rfl rfl ?_
          refine d_take_t 23 rfl (by kernel_rfl) (by kernel_rfl) (by kernel_rfl) rfl rfl rfl (p_pick_f rfl rfl) ?_
          refine d_take 24 rfl (by kernel_rfl) (by kernel_rfl) (by kernel_rfl) rfl (p_pick_f rfl rfl) ?_
          refine draw_done (by kernel_rfl) ?_
          refine a_cond_f rfl ?_
          refine a_skip ?_
          refine a_region ?_
          refine aops_cons rfl (w_pure rfl (p_add' rfl rfl ⟨by omega, by omega⟩) ?_)
          refine aops_cons rfl (w_pure rfl (p_move rfl) ?_)
          refine aops_nil ?_
          refine ⟨(i + 1), _, ?_, ?_, (by repeat (first | exact Knows.nil | refine Knows.cons (by rfl) ?_)), (by repeat (first | exact Back.refl _ _ | refine Back.cons (by rfl) ?_)), (by repeat (first | exact Picks.nil _ | exact Pick.here _ _ _ | apply Pick.next | apply Picks.cons))⟩
          · exact ⟨by omega, below_succ hI ⟨‹_›, by unfold Over; omega⟩⟩
          · (try dsimp only); omega
    exact all_nil
  · try simp only [Bool.not_eq_true', Bool.not_eq_false', Bool.not_eq_true, Bool.not_eq_false, decide_eq_true_eq, decide_eq_false_iff_not, List.length_map] at h2
    refine a_exit ?_
    refine a_seq ?_
    refine a_region ?_
    refine aops_cons rfl (w_pure rfl (p_move rfl) ?_)
    refine aops_cons rfl (w_pure rfl (p_len sl_31 rfl rfl) ?_)
    refine aops_cons rfl (w_pure rfl (p_leq rfl rfl) ?_)
    refine aops_cons rfl (w_pure rfl (p_assign rfl) ?_)
    refine aops_nil ?_
    refine a_ret ?_
    refine ret_ok (hands1 rfl (.tmp rfl)) (.nil _) ?_
    first | (refine ret_false ?_; rintro ⟨q1, q2⟩; exact absurd (q1 i (by omega)) (by unfold GoodAt; intro q3; first | exact absurd q3.1 ‹_› | exact q3.2 (And.intro (by omega) (by simpa using ‹_›)))) | (refine ret_dec ?_; simp only [List.length_map]; exact ⟨fun h => ⟨below_all hI ‹_›, by omega⟩, fun h => by have := h.2; omega⟩)

theorem c_spec_IsMap (xs : List Region) (hn : xs.length ≤ 1048576) : ACalls Try.prog 14 [.sl (xs.map eRegion)] [] (Ret (.bool (decide (IsMap xs)))) := by
  refine a_enter Try.func14 rfl rfl (fun w0 M0 => ?_)
  refine a_seq ?_
  refine a_region ?_
  refine aops_cons rfl (w_pure rfl (p_assign rfl) ?_)
  refine aops_nil ?_
  refine a_seq ?_
  refine a_region ?_
  refine aops_cons rfl (w_pure rfl (p_move rfl) ?_)
  refine aops_cons rfl (w_callR rfl rfl rfl cl_63 (c_spec_l17Good _ (by omega)) ?_)
  refine aops_cons rfl (w_pure rfl (p_assign rfl) ?_)
  refine aops_nil ?_
  refine a_ret ?_
  refine ret_ok (hands1 rfl (.tmp rfl)) (.nil _) ?_
  exact ⟨rfl, rfl⟩

theorem c_spec_FreeSpace (xs : List Region) (hn : xs.length ≤ 1048576) : ACalls Try.prog 18 [.sl (xs.map eRegion)] [] (Ret (.tup [.int .i64 (freeSpace xs).1, .bool (freeSpace xs).2])) := by
  refine a_enter Try.func18 rfl rfl (fun w0 M0 => ?_)
  refine a_seq ?_
  refine a_region ?_
  refine aops_cons rfl (w_pure rfl (p_assign rfl) ?_)
  refine aops_cons rfl (w_pure rfl (p_assign rfl) ?_)
  refine aops_nil ?_
  refine a_seq ?_
  refine a_seq ?_
  refine a_region ?_
  refine aops_cons rfl (w_pure rfl (p_move rfl) ?_)
  refine aops_cons rfl (w_callR rfl rfl rfl cl_63 (c_spec_l17Good _ (by omega)) ?_)
  refine aops_cons rfl (w_pure rfl (p_not rfl) ?_)
  refine aops_nil ?_
  first | refine a_cond_d rfl (fun h1 => ?_) (fun h2 => ?_) | refine a_cond_n rfl (fun h1 => ?_) (fun h2 => ?_) | refine a_cond_nb rfl (fun h1 => ?_) (fun h2 => ?_) | refine a_cond rfl (fun h1 => ?_) (fun h2 => ?_)
  · try simp only [Bool.not_eq_true', Bool.not_eq_false', Bool.not_eq_true, Bool.not_eq_false, decide_eq_true_eq, decide_eq_false_iff_not, List.length_map] at h1
    refine a_seq ?_
    refine a_region ?_
    refine aops_cons rfl (w_pure rfl (p_assign rfl) ?_)
    refine aops_cons rfl (w_pure rfl (p_assign rfl) ?_)
    refine aops_nil ?_
    refine a_ret ?_
    refine ret_ok (hands2 rfl (.tmp rfl) (.tmp rfl)) (.nil _) ?_
    first | exact And.intro (by rw [freeSpace, if_neg ‹¬ IsMap xs›]) rfl | (have hx : i = xs.length := (by omega); subst hx; exact And.intro (by rw [freeSpace, if_pos ‹IsMap xs›]) rfl)
  · try simp only [Bool.not_eq_true', Bool.not_eq_false', Bool.not_eq_true, Bool.not_eq_false, decide_eq_true_eq, decide_eq_false_iff_not, List.length_map] at h2
    refine a_skip ?_
    refine a_seq ?_
    refine a_region ?_
    refine aops_cons rfl (w_pure rfl (p_assign rfl) ?_)
    refine aops_nil ?_
    refine a_seq ?_
    refine a_seq ?_
    refine a_region ?_
    refine aops_cons rfl (w_pure rfl (p_assign rfl) ?_)
    refine aops_nil ?_
    refine a_block ?_
    refine a_loop (ι := Nat) (fun i => i ≤ xs.length) (fun i => [(5, .int .i64 (i : Int)), (4, .int .i64 (freeTo xs i))]) (fun i => []) (fun i => xs.length - i) 0 (Nat.zero_le _) (by repeat (first | exact Knows.nil | refine Knows.cons (by rfl) ?_)) (by repeat (first | exact Picks.nil _ | exact Pick.here _ _ _ | apply Pick.next | apply Picks.cons)) ?_
    rintro i hi
    skip
    refine a_seq ?_
    refine a_seq ?_
    refine a_region ?_
    refine aops_cons rfl (w_pure rfl (p_move rfl) ?_)
    refine aops_cons rfl (w_pure rfl (p_move rfl) ?_)
    refine aops_cons rfl (w_pure rfl (p_len sl_31 rfl rfl) ?_)
    refine aops_cons rfl (w_pure rfl (p_lss rfl rfl) ?_)
    refine aops_nil ?_
    first | refine a_cond_d rfl (fun h3 => ?_) (fun h4 => ?_) | refine a_cond_n rfl (fun h3 => ?_) (fun h4 => ?_) | refine a_cond_nb rfl (fun h3 => ?_) (fun h4 => ?_) | refine a_cond rfl (fun h3 => ?_) (fun h4 => ?_)
    · try simp only [Bool.not_eq_true', Bool.not_eq_false', Bool.not_eq_true, Bool.not_eq_false, decide_eq_true_eq, decide_eq_false_iff_not, List.length_map] at h3
      refine a_skip ?_
      refine a_seq ?_
      refine a_block ?_
      refine a_region ?_
      refine aops_cons rfl (w_pure rfl (p_move rfl) ?_)
      refine aops_cons rfl (w_pure rfl (p_move rfl) ?_)
      refine aops_cons rfl (w_pure rfl (p_move rfl) ?_)
      refine aops_cons rfl (w_pure rfl (p_index_sl _ rfl rfl rfl (rowD _ _ zRegion (by omega)) es_31) ?_)
      refine aops_cons rfl (w_pure rfl (p_field_v fo_25_1 rfl) ?_)
      refine aops_cons rfl (w_pure rfl (p_load_v ag_3 rfl (by rfl) noX) ?_)
      refine aops_cons rfl (w_pure rfl (p_sub rfl rfl) ?_)
      refine aops_cons rfl (w_pure rfl (p_assign rfl) ?_)
      refine aops_nil ?_
      refine a_region ?_
      refine aops_cons rfl (w_pure rfl (p_move rfl) ?_)
      refine aops_cons rfl (w_pure rfl (p_add' rfl rfl ⟨by omega, by omega⟩) ?_)
      refine aops_cons rfl (w_pure rfl (p_assign rfl) ?_)
      refine aops_nil ?_
      refine ⟨(i + 1), _, ?_, ?_, (by repeat (first | exact Knows.nil | refine Knows.cons (by rfl) ?_)), (by repeat (first | exact Back.refl _ _ | refine Back.cons (by rfl) ?_)), (by repeat (first | exact Picks.nil _ | exact Pick.here _ _ _ | apply Pick.next | apply Picks.cons))⟩
      · omega
      · (try dsimp only); omega
    · try simp only [Bool.not_eq_true', Bool.not_eq_false', Bool.not_eq_true, Bool.not_eq_false, decide_eq_true_eq, decide_eq_false_iff_not, List.length_map] at h4
      refine a_exit ?_
      refine a_seq ?_
      refine a_region ?_
      refine aops_cons rfl (w_pure rfl (p_move rfl) ?_)
      refine aops_cons rfl (w_pure rfl (p_assign rfl) ?_)
      refine aops_cons rfl (w_pure rfl (p_assign rfl) ?_)
      refine aops_nil ?_
      refine a_ret ?_
      refine ret_ok (hands2 rfl (.tmp rfl) (.tmp rfl)) (.nil _) ?_
      first | exact And.intro (by rw [freeSpace, if_neg ‹¬ IsMap xs›]) rfl | (have hx : i = xs.length := (by omega); subst hx; exact And.intro (by rw [freeSpace, if_pos ‹IsMap xs›]) rfl)

theorem c_impl_FreeSpace (xs : List Region) (hn : xs.length ≤ 1048576) : ACalls Try.prog 19 [.sl (xs.map eRegion)] [] (Ret (.tup [.int .i64 (freeSpace xs).1, .bool (freeSpace xs).2])) := by
  refine a_enter Try.func19 rfl rfl (fun w0 M0 => ?_)
  refine a_seq ?_
  refine a_region ?_
  refine aops_cons rfl (w_pure rfl (p_assign rfl) ?_)
  refine aops_cons rfl (w_pure rfl (p_assign rfl) ?_)
  refine aops_nil ?_
  refine a_seq ?_
  refine a_seq ?_
  refine a_region ?_
  refine aops_cons rfl (w_pure rfl (p_move rfl) ?_)
  refine aops_cons rfl (w_callR rfl rfl rfl cl_16 (c_impl_IsMap _ (by omega)) ?_)
  refine aops_cons rfl (w_pure rfl (p_not rfl) ?_)
  refine aops_nil ?_
  first | refine a_cond_d rfl (fun h1 => ?_) (fun h2 => ?_) | refine a_cond_n rfl (fun h1 => ?_) (fun h2 => ?_) | refine a_cond_nb rfl (fun h1 => ?_) (fun h2 => ?_) | refine a_cond rfl (fun h1 => ?_) (fun h2 => ?_)
  · try simp only [Bool.not_eq_true', Bool.not_eq_false', Bool.not_eq_true, Bool.not_eq_false, decide_eq_true_eq, decide_eq_false_iff_not, List.length_map] at h1
    refine a_seq ?_
    refine a_region ?_
    refine aops_cons rfl (w_pure rfl (p_assign rfl) ?_)
    refine aops_cons rfl (w_pure rfl (p_assign rfl) ?_)
    refine aops_nil ?_
    refine a_ret ?_
    refine ret_ok (hands2 rfl (.tmp rfl) (.tmp rfl)) (.nil _) ?_
    first | exact And.intro (by rw [freeSpace, if_neg ‹¬ IsMap xs›]) rfl | (have hx : i = xs.length := (by omega); subst hx; exact And.intro (by rw [freeSpace, if_pos ‹IsMap xs›]) rfl)
  · try simp only [Bool.not_eq_true', Bool.not_eq_false', Bool.not_eq_true, Bool.not_eq_false, decide_eq_true_eq, decide_eq_false_iff_not, List.length_map] at h2
    refine a_skip ?_
    refine a_seq ?_
    refine a_region ?_
    refine aops_cons rfl (w_pure rfl (p_assign rfl) ?_)
    refine aops_nil ?_
    refine a_seq ?_
    refine a_seq ?_
    refine a_region ?_
    refine aops_cons rfl (w_pure rfl (p_move rfl) ?_)
    refine aops_cons rfl (w_pure rfl (p_len sl_31 rfl rfl) ?_)
    refine aops_cons rfl (w_pure rfl (p_move rfl) ?_)
    refine aops_nil ?_
    refine a_block ?_
    refine a_loop (ι := Nat) (fun i => i ≤ xs.length) (fun i => [(12, .int .i64 (i : Int)), (4, .int .i64 (freeTo xs i))]) (fun i => []) (fun i => xs.length - i) 0 (Nat.zero_le _) (by repeat (first | exact Knows.nil | refine Knows.cons (by rfl) ?_)) (by repeat (first | exact Picks.nil _ | exact Pick.here _ _ _ | apply Pick.next | apply Picks.cons)) ?_
    rintro i hi
    skip
    refine a_seq ?_
    refine a_region ?_
    refine aops_cons rfl (w_pure rfl (p_lss rfl rfl) ?_)
    refine aops_nil ?_
    refine a_seq ?_
    first | refine a_cond_d rfl (fun h3 => ?_) (fun h4 => ?_) | refine a_cond_n rfl (fun h3 => ?_) (fun h4 => ?_) | refine a_cond_nb rfl (fun h3 => ?_) (fun h4 => ?_) | refine a_cond rfl (fun h3 => ?_) (fun h4 => ?_)
    · try simp only [Bool.not_eq_true', Bool.not_eq_false', Bool.not_eq_true, Bool.not_eq_false, decide_eq_true_eq, decide_eq_false_iff_not, List.length_map] at h3
      refine a_skip ?_
      refine a_seq ?_
      refine a_block ?_
      refine a_seq ?_
      refine a_region ?_
      refine aops_cons rfl (w_pure rfl (p_index_sl _ rfl rfl rfl (rowD _ _ zRegion (by omega)) es_31) ?_)
      refine aops_cons rfl (w_pure rfl (p_load_v_all ag_25 rfl (by rfl) noX) ?_)
      refine aops_cons rfl (w_alloc rfl z_25 fun b1 => ?_)
      refine aops_cons rfl (w_store (cells' := [_, _, _, _]) rfl rfl rfl (by repeat (first | exact Pick.here _ _ _ | apply Pick.next)) cn_25 (by rfl) (by rfl) (by rfl) trivial ?_)
      refine aops_nil ?_
      refine a_region ?_
      refine aops_cons rfl (w_pure rfl (p_move rfl) ?_)
      refine aops_cons rfl (w_pure rfl (p_field_box fo_25_1 rfl) ?_)
      refine aops_cons rfl (w_pure rfl (p_load_box ag_3 rfl (by repeat (first | exact Pick.here _ _ _ | apply Pick.next)) (by rfl) noX) ?_)
      refine aops_cons rfl (w_pure rfl (p_sub rfl rfl) ?_)
      refine aops_cons rfl (w_pure rfl (p_assign rfl) ?_)
      refine aops_nil ?_
      refine a_region ?_
      refine aops_cons rfl (w_pure rfl (p_add' rfl rfl ⟨by omega, by omega⟩) ?_)
      refine aops_cons rfl (w_pure rfl (p_move rfl) ?_)
      refine aops_nil ?_
      refine ⟨(i + 1), _, ?_, ?_, (by repeat (first | exact Knows.nil | refine Knows.cons (by rfl) ?_)), (by repeat (first | exact Back.refl _ _ | refine Back.cons (by rfl) ?_)), (by repeat (first | exact Picks.nil _ | exact Pick.here _ _ _ | apply Pick.next | apply Picks.cons))⟩
      · omega
      · (try dsimp only); omega
    · try simp only [Bool.not_eq_true', Bool.not_eq_false', Bool.not_eq_true, Bool.not_eq_false, decide_eq_true_eq, decide_eq_false_iff_not, List.length_map] at h4
      refine a_exit ?_
      refine a_seq ?_
      refine a_region ?_
      refine aops_cons rfl (w_pure rfl (p_move rfl) ?_)
      refine aops_cons rfl (w_pure rfl (p_assign rfl) ?_)
      refine aops_cons rfl (w_pure rfl (p_assign rfl) ?_)
      refine aops_nil ?_
      refine a_ret ?_
      refine ret_ok (hands2 rfl (.tmp rfl) (.tmp rfl)) (.nil _) ?_
      first | exact And.intro (by rw [freeSpace, if_neg ‹¬ IsMap xs›]) rfl | (have hx : i = xs.length := (by omega); subst hx; exact And.intro (by rw [freeSpace, if_pos ‹IsMap xs›]) rfl)

theorem c_spec_l17Find (xs : List Region) (hn : xs.length ≤ 1048576) (a : Int) : ACalls Try.prog 66 [.sl (xs.map eRegion), .int .i64 a] [] (Ret (.int .i64 (findRegion xs a))) := by
  refine a_enter Try.func66 rfl rfl (fun w0 M0 => ?_)
  refine a_seq ?_
  refine a_region ?_
  refine aops_cons rfl (w_pure rfl (p_assign rfl) ?_)
  refine aops_nil ?_
  refine a_seq ?_
  refine a_seq ?_
  refine a_region ?_
  refine aops_cons rfl (w_pure rfl (p_assign rfl) ?_)
  refine aops_nil ?_
  refine a_block ?_
  refine a_loop (ι := Nat) (fun i => i ≤ xs.length ∧ ∀ j, j < i → inReg xs a j = false) (fun i => [(5, .int .i64 (i : Int))]) (fun i => []) (fun i => xs.length - i) 0 ⟨Nat.zero_le _, below_zero⟩ (by repeat (first | exact Knows.nil | refine Knows.cons (by rfl) ?_)) (by repeat (first | exact Picks.nil _ | exact Pick.here _ _ _ | apply Pick.next | apply Picks.cons)) ?_
  rintro i ⟨hi, hI⟩
  skip
  refine a_seq ?_
  refine a_seq ?_
  refine a_region ?_
  refine aops_cons rfl (w_pure rfl (p_move rfl) ?_)
  refine aops_cons rfl (w_pure rfl (p_move rfl) ?_)
  refine aops_cons rfl (w_pure rfl (p_len sl_31 rfl rfl) ?_)
  refine aops_cons rfl (w_pure rfl (p_lss rfl rfl) ?_)
  refine aops_nil ?_
  first | refine a_cond_d rfl (fun h1 => ?_) (fun h2 => ?_) | refine a_cond_n rfl (fun h1 => ?_) (fun h2 => ?_) | refine a_cond_nb rfl (fun h1 => ?_) (fun h2 => ?_) | refine a_cond rfl (fun h1 => ?_) (fun h2 => ?_)
  · try simp only [Bool.not_eq_true', Bool.not_eq_false', Bool.not_eq_true, Bool.not_eq_false, decide_eq_true_eq, decide_eq_false_iff_not, List.length_map] at h1
    refine a_skip ?_
    refine a_seq ?_
    refine a_block ?_
    refine a_seq ?_
    refine a_draw [] (by kernel_rfl) ?_
    show ADraw _ _ _ _ _ _ 19 _ _ _ _
    refine d_take 0 rfl (by kernel_rfl) (by kernel_rfl) (by kernel_rfl) rfl (p_move rfl) ?_
    refine d_take 1 rfl (by kernel_rfl) (by kernel_rfl) (by kernel_rfl) rfl (p_move rfl) ?_
    refine d_take 2 rfl (by kernel_rfl) (by kernel_rfl) (by kernel_rfl) rfl (p_move rfl) ?_
    refine d_take 3 rfl (by kernel_rfl) (by kernel_rfl) (by kernel_rfl) rfl (p_index_sl _ rfl rfl rfl (rowD _ _ zRegion (by omega)) es_31) ?_
    refine d_take 4 rfl (by kernel_rfl) (by kernel_rfl) (by kernel_rfl) rfl (p_field_v fo_25_0 rfl) ?_
    refine d_load 5 rfl (by kernel_rfl) (by kernel_rfl) (by kernel_rfl) rfl (p_load_v ag_3 rfl (by rfl) noX) ?_
    refine d_take 6 rfl (by kernel_rfl) (by kernel_rfl) (by kernel_rfl) rfl (p_move rfl) ?_
    refine d_take 7 rfl (by kernel_rfl) (by kernel_rfl) (by kernel_rfl) rfl (p_move rfl) ?_
    refine d_take 8 rfl (by kernel_rfl) (by kernel_rfl) (by kernel_rfl) rfl (p_index_sl _ rfl rfl rfl (rowD _ _ zRegion (by omega)) es_31) ?_
    refine d_take 9 rfl (by kernel_rfl) (by kernel_rfl) (by kernel_rfl) rfl (p_field_v fo_25_0 rfl) ?_
    refine d_load 10 rfl (by kernel_rfl) (by kernel_rfl) (by kernel_rfl) rfl (p_load_v ag_3 rfl (by rfl) noX) ?_
    refine d_take 11 rfl (by kernel_rfl) (by kernel_rfl) (by kernel_rfl) rfl (p_move rfl) ?_
    refine d_take 12 rfl (by kernel_rfl) (by kernel_rfl) (by kernel_rfl) rfl (p_move rfl) ?_
    refine d_take 13 rfl (by kernel_rfl) (by kernel_rfl) (by kernel_rfl) rfl (p_index_sl _ rfl rfl rfl (rowD _ _ zRegion (by omega)) es_31) ?_
    refine d_take 14 rfl (by kernel_rfl) (by kernel_rfl) (by kernel_rfl) rfl (p_field_v fo_25_1 rfl) ?_
    refine d_load 15 rfl (by kernel_rfl) (by kernel_rfl) (by kernel_rfl) rfl (p_load_v ag_3 rfl (by rfl) noX) ?_
    refine d_take 16 rfl (by kernel_rfl) (by kernel_rfl) (by kernel_rfl) rfl (p_add rfl rfl) ?_
    refine d_take 17 rfl (by kernel_rfl) (by kernel_rfl) (by kernel_rfl) rfl (p_sub rfl rfl) ?_
    refine draw_all [18] (by kernel_rfl) (by simp) ?_
    refine all_cons rfl rfl ?_ ?_
    · skip
      refine w_callR rfl rfl rfl cl_91 (c_spec_l1In ..) ?_
      refine draw_done (by kernel_rfl) ?_
      first | refine a_cond_d rfl (fun h3 => ?_) (fun h4 => ?_) | refine a_cond_n rfl (fun h3 => ?_) (fun h4 => ?_) | refine a_cond_nb rfl (fun h3 => ?_) (fun h4 => ?_) | refine a_cond rfl (fun h3 => ?_) (fun h4 => ?_)
      · try simp only [Bool.not_eq_true', Bool.not_eq_false', Bool.not_eq_true, Bool.not_eq_false, decide_eq_true_eq, decide_eq_false_iff_not, List.length_map] at h3
        refine a_seq ?_
        refine a_region ?_
        refine aops_cons rfl (w_pure rfl (p_move rfl) ?_)
        refine aops_cons rfl (w_pure rfl (p_assign rfl) ?_)
        refine aops_nil ?_
        refine a_ret ?_
        refine ret_ok (hands1 rfl (.tmp rfl)) (.nil _) ?_
        first | (refine And.intro (congrArg (AV.int .i64) (first_none fun j hj => ?_).symm) rfl; exact hI j (by omega)) | (refine And.intro (congrArg (AV.int .i64) (first_at (i := i) (by omega) hI (decide_eq_true (by assumption))).symm) rfl)
      · try simp only [Bool.not_eq_true', Bool.not_eq_false', Bool.not_eq_true, Bool.not_eq_false, decide_eq_true_eq, decide_eq_false_iff_not, List.length_map] at h4
        refine a_skip ?_
        refine a_region ?_
        refine aops_cons rfl (w_pure rfl (p_move rfl) ?_)
        refine aops_cons rfl (w_pure rfl (p_add' rfl rfl ⟨by omega, by omega⟩) ?_)
        refine aops_cons rfl (w_pure rfl (p_assign rfl) ?_)
        refine aops_nil ?_
        refine ⟨(i + 1), _, ?_, ?_, (by repeat (first | exact Knows.nil | refine Knows.cons (by rfl) ?_)), (by repeat (first | exact Back.refl _ _ | refine Back.cons (by rfl) ?_)), (by repeat (first | exact Picks.nil _ | exact Pick.here _ _ _ | apply Pick.next | apply Picks.cons))⟩
        · exact ⟨by omega, below_succ hI (decide_eq_false (by assumption))⟩
        · (try dsimp only); omega
    exact all_nil
  · try simp only [Bool.not_eq_true', Bool.not_eq_false', Bool.not_eq_true, Bool.not_eq_false, decide_eq_true_eq, decide_eq_false_iff_not, List.length_map] at h2
    refine a_exit ?_
    refine a_seq ?_
    refine a_region ?_
    refine aops_cons rfl (w_pure rfl (p_assign rfl) ?_)
    refine aops_nil ?_
    refine a_ret ?_
    refine ret_ok (hands1 rfl (.tmp rfl)) (.nil _) ?_
    first | (refine And.intro (congrArg (AV.int .i64) (first_none fun j hj => ?_).symm) rfl; exact hI j (by omega)) | (refine And.intro (congrArg (AV.int .i64) (first_at (i := i) (by omega) hI (decide_eq_true (by assumption))).symm) rfl)

theorem c_impl_findRegion_1 (r : Region) (a : Int) : ACalls Try.prog 98 [.agg (eRegion r), .vptr [.int .i64 a]] [] (Ret (.bool (decide (r.base ≤ a ∧ a ≤ IntKind.i64.wrap (IntKind.i64.wrap (r.base + r.size) - 1))))) := by
  refine a_enter Try.func98 rfl rfl (fun w0 M0 => ?_)
  refine a_seq ?_
  refine a_region ?_
  refine aops_cons rfl (w_box_v rfl rfl rfl ?_)
  refine aops_cons rfl (w_pure rfl (p_assign rfl) ?_)
  refine aops_nil ?_
  refine a_seq ?_
  refine a_region ?_
  refine aops_cons rfl (w_pure rfl (p_load_v ag_3 rfl (by rfl) noX) ?_)
  refine aops_cons rfl (w_pure rfl (p_field_v fo_25_0 rfl) ?_)
  refine aops_cons rfl (w_pure rfl (p_load_v ag_3 rfl (by rfl) noX) ?_)
  refine aops_cons rfl (w_pure rfl (p_field_v fo_25_0 rfl) ?_)
  refine aops_cons rfl (w_pure rfl (p_load_v ag_3 rfl (by rfl) noX) ?_)
  refine aops_cons rfl (w_pure rfl (p_field_v fo_25_1 rfl) ?_)
  refine aops_cons rfl (w_pure rfl (p_load_v ag_3 rfl (by rfl) noX) ?_)
  refine aops_cons rfl (w_pure rfl (p_add rfl rfl) ?_)
  refine aops_cons rfl (w_pure rfl (p_sub rfl rfl) ?_)
  refine aops_cons rfl (w_callR rfl rfl rfl cl_62 (c_impl_inside ..) ?_)
  refine aops_cons rfl (w_pure rfl (p_assign rfl) ?_)
  refine aops_nil ?_
  refine a_ret ?_
  refine ret_ok (hands1 rfl (.tmp rfl)) (.nil _) ?_
  exact ⟨rfl, rfl⟩

theorem c_slices_IndexFunc_impl_Region_impl_Region (xs : List Region) (hn : xs.length ≤ 1048576) (a : Int) : ACalls Try.prog 97 [.sl (xs.map eRegion), .fn 98 [.vptr [.int .i64 a]]] [] (Ret (.int .i64 (findRegion xs a))) := by
  refine a_enter Try.func97 rfl rfl (fun w0 M0 => ?_)
  refine a_seq ?_
  refine a_region ?_
  refine aops_cons rfl (w_pure rfl (p_assign rfl) ?_)
  refine aops_nil ?_
  refine a_seq ?_
  refine a_seq ?_
  refine a_region ?_
  refine aops_cons rfl (w_pure rfl (p_move rfl) ?_)
  refine aops_cons rfl (w_pure rfl (p_len sl_31 rfl rfl) ?_)
  refine aops_cons rfl (w_pure rfl (p_move rfl) ?_)
  refine aops_nil ?_
  refine a_block ?_
  refine a_loop (ι := Nat) (fun i => i ≤ xs.length ∧ ∀ j, j < i → inReg xs a j = false) (fun i => [(8, .int .i64 (i : Int))]) (fun i => []) (fun i => xs.length - i) 0 ⟨Nat.zero_le _, below_zero⟩ (by repeat (first | exact Knows.nil | refine Knows.cons (by rfl) ?_)) (by repeat (first | exact Picks.nil _ | exact Pick.here _ _ _ | apply Pick.next | apply Picks.cons)) ?_
  rintro i ⟨hi, hI⟩
  skip
  refine a_seq ?_
  refine a_region ?_
  refine aops_cons rfl (w_pure rfl (p_lss rfl rfl) ?_)
  refine aops_nil ?_
  refine a_seq ?_
  first | refine a_cond_d rfl (fun h1 => ?_) (fun h2 => ?_) | refine a_cond_n rfl (fun h1 => ?_) (fun h2 => ?_) | refine a_cond_nb rfl (fun h1 => ?_) (fun h2 => ?_) | refine a_cond rfl (fun h1 => ?_) (fun h2 => ?_)
  · try simp only [Bool.not_eq_true', Bool.not_eq_false', Bool.not_eq_true, Bool.not_eq_false, decide_eq_true_eq, decide_eq_false_iff_not, List.length_map] at h1
    refine a_skip ?_
    refine a_seq ?_
    refine a_block ?_
    refine a_seq ?_
    refine a_region ?_
    refine aops_cons rfl (w_pure rfl (p_move rfl) ?_)
    refine aops_cons rfl (w_pure rfl (p_assign rfl) ?_)
    refine aops_nil ?_
    refine a_seq ?_
    refine a_region ?_
    refine aops_cons rfl (w_pure rfl (p_move rfl) ?_)
    refine aops_cons rfl (w_pure rfl (p_move rfl) ?_)
    refine aops_cons rfl (w_pure rfl (p_move rfl) ?_)
    refine aops_cons rfl (w_pure rfl (p_index_sl _ rfl rfl rfl (rowD _ _ zRegion (by omega)) es_31) ?_)
    refine aops_cons rfl (w_pure rfl (p_load_v_all ag_25 rfl (by rfl) noX) ?_)
    refine aops_cons rfl (w_callR rfl rfl rfl cl_98 (c_impl_findRegion_1 ..) ?_)
    refine aops_nil ?_
    first | refine a_cond_d rfl (fun h3 => ?_) (fun h4 => ?_) | refine a_cond_n rfl (fun h3 => ?_) (fun h4 => ?_) | refine a_cond_nb rfl (fun h3 => ?_) (fun h4 => ?_) | refine a_cond rfl (fun h3 => ?_) (fun h4 => ?_)
    · try simp only [Bool.not_eq_true', Bool.not_eq_false', Bool.not_eq_true, Bool.not_eq_false, decide_eq_true_eq, decide_eq_false_iff_not, List.length_map] at h3
      refine a_seq ?_
      refine a_region ?_
      refine aops_cons rfl (w_pure rfl (p_move rfl) ?_)
      refine aops_cons rfl (w_pure rfl (p_assign rfl) ?_)
      refine aops_nil ?_
      refine a_ret ?_
      refine ret_ok (hands1 rfl (.tmp rfl)) (.nil _) ?_
      first | (refine And.intro (congrArg (AV.int .i64) (first_none fun j hj => ?_).symm) rfl; exact hI j (by omega)) | (refine And.intro (congrArg (AV.int .i64) (first_at (i := i) (by omega) hI (decide_eq_true (by assumption))).symm) rfl)
    · try simp only [Bool.not_eq_true', Bool.not_eq_false', Bool.not_eq_true, Bool.not_eq_false, decide_eq_true_eq, decide_eq_false_iff_not, List.length_map] at h4
      refine a_skip ?_
      refine a_region ?_
      refine aops_cons rfl (w_pure rfl (p_add' rfl rfl ⟨by omega, by omega⟩) ?_)
      refine aops_cons rfl (w_pure rfl (p_move rfl) ?_)
      refine aops_nil ?_
      refine ⟨(i + 1), _, ?_, ?_, (by repeat (first | exact Knows.nil | refine Knows.cons (by rfl) ?_)), (by repeat (first | exact Back.refl _ _ | refine Back.cons (by rfl) ?_)), (by repeat (first | exact Picks.nil _ | exact Pick.here _ _ _ | apply Pick.next | apply Picks.cons))⟩
      · exact ⟨by omega, below_succ hI (decide_eq_false (by assumption))⟩
      · (try dsimp only); omega
  · try simp only [Bool.not_eq_true', Bool.not_eq_false', Bool.not_eq_true, Bool.not_eq_false, decide_eq_true_eq, decide_eq_false_iff_not, List.length_map] at h2
    refine a_exit ?_
    refine a_seq ?_
    refine a_region ?_
    refine aops_cons rfl (w_pure rfl (p_assign rfl) ?_)
    refine aops_nil ?_
    refine a_ret ?_
    refine ret_ok (hands1 rfl (.tmp rfl)) (.nil _) ?_
    first | (refine And.intro (congrArg (AV.int .i64) (first_none fun j hj => ?_).symm) rfl; exact hI j (by omega)) | (refine And.intro (congrArg (AV.int .i64) (first_at (i := i) (by omega) hI (decide_eq_true (by assumption))).symm) rfl)

theorem c_impl_findRegion (xs : List Region) (hn : xs.length ≤ 1048576) (a : Int) : ACalls Try.prog 67 [.sl (xs.map eRegion), .int .i64 a] [] (Ret (.int .i64 (findRegion xs a))) := by
  refine a_enter Try.func67 rfl rfl (fun w0 M0 => ?_)
  refine a_seq ?_
  refine a_region ?_
  refine aops_cons rfl (w_box_v rfl rfl rfl ?_)
  refine aops_cons rfl (w_pure rfl (p_assign rfl) ?_)
  refine aops_nil ?_
  refine a_seq ?_
  refine a_region ?_
  refine aops_cons rfl (w_pure rfl (p_move rfl) ?_)
  refine aops_cons rfl (w_pure rfl (p_func rfl) ?_)
  refine aops_cons rfl (w_callR rfl rfl rfl cl_97 (c_slices_IndexFunc_impl_Region_impl_Region _ (by omega) _) ?_)
  refine aops_cons rfl (w_pure rfl (p_assign rfl) ?_)
  refine aops_nil ?_
  refine a_ret ?_
  refine ret_ok (hands1 rfl (.tmp rfl)) (.nil _) ?_
  exact ⟨rfl, rfl⟩

theorem c_spec_FindRegion (xs : List Region) (hn : xs.length ≤ 1048576) (a : Int) : ACalls Try.prog 20 [.sl (xs.map eRegion), .int .i64 a] [] (Ret (.tup [.int .i64 (findRegion2 xs a).1, .bool (findRegion2 xs a).2])) := by
  refine a_enter Try.func20 rfl rfl (fun w0 M0 => ?_)
  refine a_seq ?_
  refine a_region ?_
  refine aops_cons rfl (w_pure rfl (p_assign rfl) ?_)
  refine aops_cons rfl (w_pure rfl (p_assign rfl) ?_)
  refine aops_nil ?_
  refine a_seq ?_
  refine a_seq ?_
  refine a_region ?_
  refine aops_cons rfl (w_pure rfl (p_move rfl) ?_)
  refine aops_cons rfl (w_callR rfl rfl rfl cl_63 (c_spec_l17Good _ (by omega)) ?_)
  refine aops_cons rfl (w_pure rfl (p_not rfl) ?_)
  refine aops_cons rfl (w_pure rfl (p_move rfl) ?_)
  first | refine aops_split_d 9 rfl (fun h1 => ?_) (fun h2 => ?_) | refine aops_split 9 rfl (fun h1 => ?_) (fun h2 => ?_)
  · try simp only [Bool.not_eq_true', Bool.not_eq_false', Bool.not_eq_true, Bool.not_eq_false, decide_eq_true_eq, decide_eq_false_iff_not, List.length_map] at h1
    refine g_pass' rfl rfl rfl rfl rfl ?_
    refine g_pass' rfl rfl rfl rfl rfl ?_
    refine g_pass' rfl rfl rfl rfl rfl ?_
    refine aops_cons rfl (w_pure rfl (p_pick_t rfl rfl) ?_)
    refine aops_cons rfl (w_pure rfl (p_move rfl) ?_)
    refine g_pass' rfl rfl rfl rfl rfl ?_
    refine g_pass' rfl rfl rfl rfl rfl ?_
    refine g_pass' rfl rfl rfl rfl rfl ?_
    refine g_pass' rfl rfl rfl rfl rfl ?_
    refine aops_cons rfl (w_pure rfl (p_pick_t rfl rfl) ?_)
    refine aops_nil ?_
    refine a_cond_t rfl ?_
    refine a_seq ?_
    refine a_region ?_
    refine aops_cons rfl (w_pure rfl (p_assign rfl) ?_)
    refine aops_cons rfl (w_pure rfl (p_assign rfl) ?_)
    refine aops_nil ?_
    refine a_ret ?_
    refine ret_ok (hands2 rfl (.tmp rfl) (.tmp rfl)) (.nil _) ?_
    first | exact And.intro (by rw [findRegion2, if_neg (by rintro ⟨q1, q2⟩; first | contradiction | omega | exact absurd (findRegion_addr q1 q2) ‹_›)]) rfl | exact And.intro (by rw [findRegion2, if_pos (And.intro ‹IsMap xs› (by omega))]) rfl
  · try simp only [Bool.not_eq_true', Bool.not_eq_false', Bool.not_eq_true, Bool.not_eq_false, decide_eq_true_eq, decide_eq_false_iff_not, List.length_map] at h2
    refine aops_guard_t rfl rfl rfl (w_pure rfl (p_move rfl) ?_)
    refine aops_guard_t rfl rfl rfl (w_callR rfl rfl rfl cl_65 (c_spec_l17Address ..) ?_)
    refine aops_guard_t rfl rfl rfl (w_pure rfl (p_not rfl) ?_)
    refine aops_cons rfl (w_pure rfl (p_pick_f rfl rfl) ?_)
    refine aops_cons rfl (w_pure rfl (p_move rfl) ?_)
    first | refine aops_split_d 14 rfl (fun h3 => ?_) (fun h4 => ?_) | refine aops_split 14 rfl (fun h3 => ?_) (fun h4 => ?_)
    · try simp only [Bool.not_eq_true', Bool.not_eq_false', Bool.not_eq_true, Bool.not_eq_false, decide_eq_true_eq, decide_eq_false_iff_not, List.length_map] at h3
      refine g_pass' rfl rfl rfl rfl rfl ?_
      refine g_pass' rfl rfl rfl rfl rfl ?_
      refine g_pass' rfl rfl rfl rfl rfl ?_
      refine g_pass' rfl rfl rfl rfl rfl ?_
      refine aops_cons rfl (w_pure rfl (p_pick_t rfl rfl) ?_)
      refine aops_nil ?_
      refine a_cond_t rfl ?_
      refine a_seq ?_
      refine a_region ?_
      refine aops_cons rfl (w_pure rfl (p_assign rfl) ?_)
      refine aops_cons rfl (w_pure rfl (p_assign rfl) ?_)
      refine aops_nil ?_
      refine a_ret ?_
      refine ret_ok (hands2 rfl (.tmp rfl) (.tmp rfl)) (.nil _) ?_
      first | exact And.intro (by rw [findRegion2, if_neg (by rintro ⟨q1, q2⟩; first | contradiction | omega | exact absurd (findRegion_addr q1 q2) ‹_›)]) rfl | exact And.intro (by rw [findRegion2, if_pos (And.intro ‹IsMap xs› (by omega))]) rfl
    · try simp only [Bool.not_eq_true', Bool.not_eq_false', Bool.not_eq_true, Bool.not_eq_false, decide_eq_true_eq, decide_eq_false_iff_not, List.length_map] at h4
      refine aops_guard_t rfl rfl rfl (w_pure rfl (p_move rfl) ?_)
      refine aops_guard_t rfl rfl rfl (w_pure rfl (p_move rfl) ?_)
      refine aops_guard_t rfl rfl rfl (w_callR rfl rfl rfl cl_66 (c_spec_l17Find _ (by omega) _) ?_)
      refine aops_guard_t rfl rfl rfl (w_pure rfl (p_lss rfl rfl) ?_)
      refine aops_cons rfl (w_pure rfl (p_pick_f rfl rfl) ?_)
      refine aops_nil ?_
      first | refine a_cond_d rfl (fun h5 => ?_) (fun h6 => ?_) | refine a_cond_n rfl (fun h5 => ?_) (fun h6 => ?_) | refine a_cond_nb rfl (fun h5 => ?_) (fun h6 => ?_) | refine a_cond rfl (fun h5 => ?_) (fun h6 => ?_)
      · try simp only [Bool.not_eq_true', Bool.not_eq_false', Bool.not_eq_true, Bool.not_eq_false, decide_eq_true_eq, decide_eq_false_iff_not, List.length_map] at h5
        refine a_seq ?_
        refine a_region ?_
        refine aops_cons rfl (w_pure rfl (p_assign rfl) ?_)
        refine aops_cons rfl (w_pure rfl (p_assign rfl) ?_)
        refine aops_nil ?_
        refine a_ret ?_
        refine ret_ok (hands2 rfl (.tmp rfl) (.tmp rfl)) (.nil _) ?_
        first | exact And.intro (by rw [findRegion2, if_neg (by rintro ⟨q1, q2⟩; first | contradiction | omega | exact absurd (findRegion_addr q1 q2) ‹_›)]) rfl | exact And.intro (by rw [findRegion2, if_pos (And.intro ‹IsMap xs› (by omega))]) rfl
      · try simp only [Bool.not_eq_true', Bool.not_eq_false', Bool.not_eq_true, Bool.not_eq_false, decide_eq_true_eq, decide_eq_false_iff_not, List.length_map] at h6
        refine a_skip ?_
        refine a_seq ?_
        refine a_region ?_
        refine aops_cons rfl (w_pure rfl (p_move rfl) ?_)
        refine aops_cons rfl (w_pure rfl (p_move rfl) ?_)
        refine aops_cons rfl (w_callR rfl rfl rfl cl_66 (c_spec_l17Find _ (by omega) _) ?_)
        refine aops_cons rfl (w_pure rfl (p_assign rfl) ?_)
        refine aops_cons rfl (w_pure rfl (p_assign rfl) ?_)
        refine aops_nil ?_
        refine a_ret ?_
        refine ret_ok (hands2 rfl (.tmp rfl) (.tmp rfl)) (.nil _) ?_
        first | exact And.intro (by rw [findRegion2, if_neg (by rintro ⟨q1, q2⟩; first | contradiction | omega | exact absurd (findRegion_addr q1 q2) ‹_›)]) rfl | exact And.intro (by rw [findRegion2, if_pos (And.intro ‹IsMap xs› (by omega))]) rfl

theorem c_impl_FindRegion (xs : List Region) (hn : xs.length ≤ 1048576) (a : Int) : ACalls Try.prog 21 [.sl (xs.map eRegion), .int .i64 a] [] (Ret (.tup [.int .i64 (findRegion2 xs a).1, .bool (findRegion2 xs a).2])) := by
  refine a_enter Try.func21 rfl rfl (fun w0 M0 => ?_)
  refine a_seq ?_
  refine a_region ?_
  refine aops_cons rfl (w_pure rfl (p_assign rfl) ?_)
  refine aops_cons rfl (w_pure rfl (p_assign rfl) ?_)
  refine aops_nil ?_
  refine a_seq ?_
  refine a_region ?_
  refine aops_cons rfl (w_pure rfl (p_move rfl) ?_)
  refine aops_cons rfl (w_pure rfl (p_move rfl) ?_)
  refine aops_cons rfl (w_callR rfl rfl rfl cl_67 (c_impl_findRegion _ (by omega) _) ?_)
  refine aops_cons rfl (w_pure rfl (p_assign rfl) ?_)
  refine aops_nil ?_
  refine a_seq ?_
  refine a_seq ?_
  refine a_region ?_
  refine aops_cons rfl (w_pure rfl (p_move rfl) ?_)
  refine aops_cons rfl (w_callR rfl rfl rfl cl_16 (c_impl_IsMap _ (by omega)) ?_)
  refine aops_cons rfl (w_pure rfl (p_not rfl) ?_)
  refine aops_cons rfl (w_pure rfl (p_move rfl) ?_)
  first | refine aops_split_d 13 rfl (fun h1 => ?_) (fun h2 => ?_) | refine aops_split 13 rfl (fun h1 => ?_) (fun h2 => ?_)
  · try simp only [Bool.not_eq_true', Bool.not_eq_false', Bool.not_eq_true, Bool.not_eq_false, decide_eq_true_eq, decide_eq_false_iff_not, List.length_map] at h1
    refine g_pass' rfl rfl rfl rfl rfl ?_
    refine g_pass' rfl rfl rfl rfl rfl ?_
    refine aops_cons rfl (w_pure rfl (p_pick_t rfl rfl) ?_)
    refine aops_nil ?_
    refine a_cond_t rfl ?_
    refine a_seq ?_
    refine a_region ?_
    refine aops_cons rfl (w_pure rfl (p_assign rfl) ?_)
    refine aops_cons rfl (w_pure rfl (p_assign rfl) ?_)
    refine aops_nil ?_
    refine a_ret ?_
    refine ret_ok (hands2 rfl (.tmp rfl) (.tmp rfl)) (.nil _) ?_
    first | exact And.intro (by rw [findRegion2, if_neg (by rintro ⟨q1, q2⟩; first | contradiction | omega | exact absurd (findRegion_addr q1 q2) ‹_›)]) rfl | exact And.intro (by rw [findRegion2, if_pos (And.intro ‹IsMap xs› (by omega))]) rfl
  · try simp only [Bool.not_eq_true', Bool.not_eq_false', Bool.not_eq_true, Bool.not_eq_false, decide_eq_true_eq, decide_eq_false_iff_not, List.length_map] at h2
    refine aops_guard_t rfl rfl rfl (w_pure rfl (p_move rfl) ?_)
    refine aops_guard_t rfl rfl rfl (w_pure rfl (p_lss rfl rfl) ?_)
    refine aops_cons rfl (w_pure rfl (p_pick_f rfl rfl) ?_)
    refine aops_nil ?_
    first | refine a_cond_d rfl (fun h3 => ?_) (fun h4 => ?_) | refine a_cond_n rfl (fun h3 => ?_) (fun h4 => ?_) | refine a_cond_nb rfl (fun h3 => ?_) (fun h4 => ?_) | refine a_cond rfl (fun h3 => ?_) (fun h4 => ?_)
    · try simp only [Bool.not_eq_true', Bool.not_eq_false', Bool.not_eq_true, Bool.not_eq_false, decide_eq_true_eq, decide_eq_false_iff_not, List.length_map] at h3
      refine a_seq ?_
      refine a_region ?_
      refine aops_cons rfl (w_pure rfl (p_assign rfl) ?_)
      refine aops_cons rfl (w_pure rfl (p_assign rfl) ?_)
      refine aops_nil ?_
      refine a_ret ?_
      refine ret_ok (hands2 rfl (.tmp rfl) (.tmp rfl)) (.nil _) ?_
      first | exact And.intro (by rw [findRegion2, if_neg (by rintro ⟨q1, q2⟩; first | contradiction | omega | exact absurd (findRegion_addr q1 q2) ‹_›)]) rfl | exact And.intro (by rw [findRegion2, if_pos (And.intro ‹IsMap xs› (by omega))]) rfl
    · try simp only [Bool.not_eq_true', Bool.not_eq_false', Bool.not_eq_true, Bool.not_eq_false, decide_eq_true_eq, decide_eq_false_iff_not, List.length_map] at h4
      refine a_skip ?_
      refine a_seq ?_
      refine a_region ?_
      refine aops_cons rfl (w_pure rfl (p_move rfl) ?_)
      refine aops_cons rfl (w_pure rfl (p_assign rfl) ?_)
      refine aops_cons rfl (w_pure rfl (p_assign rfl) ?_)
      refine aops_nil ?_
      refine a_ret ?_
      refine ret_ok (hands2 rfl (.tmp rfl) (.tmp rfl)) (.nil _) ?_
      first | exact And.intro (by rw [findRegion2, if_neg (by rintro ⟨q1, q2⟩; first | contradiction | omega | exact absurd (findRegion_addr q1 q2) ‹_›)]) rfl | exact And.intro (by rw [findRegion2, if_pos (And.intro ‹IsMap xs› (by omega))]) rfl

theorem c_laws_FnExactIsMap (xs : List Region) (_hc : (∀ x ∈ xs, okRegion x) ∧ xs.length ≤ maxLen) : ACalls Try.prog 4 [.sl (xs.map eRegion)] [] (Ret (.bool true)) := by
  have hm : xs.length ≤ 9223372036854775807 := _hc.2
  refine a_enter Try.func4 rfl rfl (fun w0 M0 => ?_)
  refine a_seq ?_
  refine a_region ?_
  refine aops_cons rfl (w_pure rfl (p_assign rfl) ?_)
  refine aops_nil ?_
  refine a_seq ?_
  refine a_region ?_
  refine aops_cons rfl (w_pure rfl (p_assign rfl) ?_)
  refine aops_nil ?_
  refine a_seq ?_
  refine a_region ?_
  refine aops_cons rfl (w_pure rfl (p_move rfl) ?_)
  refine aops_cons rfl (w_pure rfl (p_move rfl) ?_)
  refine aops_cons rfl (w_callR rfl rfl rfl cl_13 (c_laws_szRegionS _ ‹_› _ (by omega) (by omega)) ?_)
  refine aops_cons rfl (w_pure rfl (p_assign rfl) ?_)
  refine aops_nil ?_
  refine a_seq ?_
  refine a_seq ?_
  refine a_region ?_
  refine aops_cons rfl (w_pure rfl (p_move rfl) ?_)
  refine aops_cons rfl (w_pure rfl (p_lss rfl rfl) ?_)
  refine aops_nil ?_
  first | refine a_cond_d rfl (fun h1 => ?_) (fun h2 => ?_) | refine a_cond_n rfl (fun h1 => ?_) (fun h2 => ?_) | refine a_cond_nb rfl (fun h1 => ?_) (fun h2 => ?_) | refine a_cond rfl (fun h1 => ?_) (fun h2 => ?_)
  · try simp only [Bool.not_eq_true', Bool.not_eq_false', Bool.not_eq_true, Bool.not_eq_false, decide_eq_true_eq, decide_eq_false_iff_not, List.length_map] at h1
    refine a_seq ?_
    refine a_region ?_
    refine aops_cons rfl (w_pure rfl (p_assign rfl) ?_)
    refine aops_nil ?_
    refine a_ret ?_
    refine ret_ok (hands1 rfl (.tmp rfl)) (.nil _) ?_
    exact ⟨rfl, rfl⟩
  · try simp only [Bool.not_eq_true', Bool.not_eq_false', Bool.not_eq_true, Bool.not_eq_false, decide_eq_true_eq, decide_eq_false_iff_not, List.length_map] at h2
    refine a_skip ?_
    refine a_seq ?_
    have hl : (xs.length : Int) ≤ 1048576 := szLeft_le ‹_›
    refine a_region ?_
    refine aops_cons rfl (w_pure rfl (p_move rfl) ?_)
    refine aops_cons rfl (w_callR rfl rfl rfl cl_15 (c_laws_toRegionS _ (by omega)) ?_)
    refine aops_cons rfl (w_callR rfl rfl rfl cl_14 (c_spec_IsMap _ (by omega)) ?_)
    refine aops_cons rfl (w_pure rfl (p_assign rfl) ?_)
    refine aops_nil ?_
    refine a_seq ?_
    refine a_region ?_
    refine aops_cons rfl (w_pure rfl (p_move rfl) ?_)
    refine aops_cons rfl (w_callR rfl rfl rfl cl_15 (c_laws_toRegionS _ (by omega)) ?_)
    refine aops_cons rfl (w_pure rfl (p_assign rfl) ?_)
    refine aops_nil ?_
    refine a_seq ?_
    refine a_region ?_
    refine aops_cons rfl (w_pure rfl (p_move rfl) ?_)
    refine aops_cons rfl (w_callR rfl rfl rfl cl_16 (c_impl_IsMap _ (by omega)) ?_)
    refine aops_cons rfl (w_pure rfl (p_assign rfl) ?_)
    refine aops_nil ?_
    refine a_seq ?_
    refine a_seq ?_
    refine a_region ?_
    refine aops_cons rfl (w_pure rfl (p_move rfl) ?_)
    refine aops_cons rfl (w_pure rfl (p_move rfl) ?_)
    refine aops_cons rfl (w_pure rfl (p_neq_bsame um_4 rfl rfl) ?_)
    refine aops_nil ?_
    refine a_cond_f rfl ?_
    refine a_skip ?_
    refine a_seq ?_
    refine a_seq ?_
    refine a_region ?_
    refine aops_cons rfl (w_pure rfl (p_move rfl) ?_)
    refine aops_cons rfl (w_pure rfl (p_move rfl) ?_)
    refine aops_cons rfl (w_callR rfl rfl rfl cl_15 (c_laws_toRegionS _ (by omega)) ?_)
    refine aops_cons rfl (w_callR rfl rfl rfl cl_17 (c_laws_eqRegionS _ (by omega)) ?_)
    refine aops_cons rfl (w_pure rfl (p_not rfl) ?_)
    refine aops_nil ?_
    refine a_cond_f rfl ?_
    refine a_skip ?_
    refine a_seq ?_
    refine a_region ?_
    refine aops_cons rfl (w_pure rfl (p_assign rfl) ?_)
    refine aops_nil ?_
    refine a_ret ?_
    refine ret_ok (hands1 rfl (.tmp rfl)) (.nil _) ?_
    exact ⟨rfl, rfl⟩

theorem c_laws_FnExactIsRegion (r : Region) (_hc : okRegion r) : ACalls Try.prog 3 [.agg (eRegion r)] [] (Ret (.bool true)) := by
  refine a_enter Try.func3 rfl rfl (fun w0 M0 => ?_)
  refine a_seq ?_
  refine a_region ?_
  refine aops_cons rfl (w_box_v rfl rfl rfl ?_)
  refine aops_cons rfl (w_pure rfl (p_assign rfl) ?_)
  refine aops_nil ?_
  refine a_seq ?_
  refine a_region ?_
  refine aops_cons rfl (w_pure rfl (p_load_v_all ag_23 rfl (by rfl) noX) ?_)
  refine aops_cons rfl (w_callR rfl rfl rfl cl_11 (c_laws_toRegion ..) ?_)
  refine aops_cons rfl (w_callR rfl rfl rfl cl_10 (c_spec_IsRegion ..) ?_)
  refine aops_cons rfl (w_pure rfl (p_assign rfl) ?_)
  refine aops_nil ?_
  refine a_seq ?_
  refine a_region ?_
  refine aops_cons rfl (w_pure rfl (p_load_v_all ag_23 rfl (by rfl) noX) ?_)
  refine aops_cons rfl (w_callR rfl rfl rfl cl_11 (c_laws_toRegion ..) ?_)
  refine aops_cons rfl (w_callR rfl rfl rfl cl_12 (c_impl_IsRegion ..) ?_)
  refine aops_cons rfl (w_pure rfl (p_assign rfl) ?_)
  refine aops_nil ?_
  refine a_seq ?_
  refine a_seq ?_
  refine a_region ?_
  refine aops_cons rfl (w_pure rfl (p_move rfl) ?_)
  refine aops_cons rfl (w_pure rfl (p_move rfl) ?_)
  refine aops_cons rfl (w_pure rfl (p_neq_bsame um_4 rfl rfl) ?_)
  refine aops_nil ?_
  refine a_cond_f rfl ?_
  refine a_skip ?_
  refine a_seq ?_
  refine a_region ?_
  refine aops_cons rfl (w_pure rfl (p_assign rfl) ?_)
  refine aops_nil ?_
  refine a_ret ?_
  refine ret_ok (hands1 rfl (.tmp rfl)) (.nil _) ?_
  exact ⟨rfl, rfl⟩

theorem c_laws_FnExactFreeSpace (xs : List Region) (_hc : (∀ x ∈ xs, okRegion x) ∧ xs.length ≤ maxLen) : ACalls Try.prog 5 [.sl (xs.map eRegion)] [] (Ret (.bool true)) := by
  have hm : xs.length ≤ 9223372036854775807 := _hc.2
  refine a_enter Try.func5 rfl rfl (fun w0 M0 => ?_)
  refine a_seq ?_
  refine a_region ?_
  refine aops_cons rfl (w_pure rfl (p_assign rfl) ?_)
  refine aops_nil ?_
  refine a_seq ?_
  refine a_region ?_
  refine aops_cons rfl (w_pure rfl (p_assign rfl) ?_)
  refine aops_nil ?_
  refine a_seq ?_
  refine a_region ?_
  refine aops_cons rfl (w_pure rfl (p_move rfl) ?_)
  refine aops_cons rfl (w_pure rfl (p_move rfl) ?_)
  refine aops_cons rfl (w_callR rfl rfl rfl cl_13 (c_laws_szRegionS _ ‹_› _ (by omega) (by omega)) ?_)
  refine aops_cons rfl (w_pure rfl (p_assign rfl) ?_)
  refine aops_nil ?_
  refine a_seq ?_
  refine a_seq ?_
  refine a_region ?_
  refine aops_cons rfl (w_pure rfl (p_move rfl) ?_)
  refine aops_cons rfl (w_pure rfl (p_lss rfl rfl) ?_)
  refine aops_nil ?_
  first | refine a_cond_d rfl (fun h1 => ?_) (fun h2 => ?_) | refine a_cond_n rfl (fun h1 => ?_) (fun h2 => ?_) | refine a_cond_nb rfl (fun h1 => ?_) (fun h2 => ?_) | refine a_cond rfl (fun h1 => ?_) (fun h2 => ?_)
  · try simp only [Bool.not_eq_true', Bool.not_eq_false', Bool.not_eq_true, Bool.not_eq_false, decide_eq_true_eq, decide_eq_false_iff_not, List.length_map] at h1
    refine a_seq ?_
    refine a_region ?_
    refine aops_cons rfl (w_pure rfl (p_assign rfl) ?_)
    refine aops_nil ?_
    refine a_ret ?_
    refine ret_ok (hands1 rfl (.tmp rfl)) (.nil _) ?_
    exact ⟨rfl, rfl⟩
  · try simp only [Bool.not_eq_true', Bool.not_eq_false', Bool.not_eq_true, Bool.not_eq_false, decide_eq_true_eq, decide_eq_false_iff_not, List.length_map] at h2
    refine a_skip ?_
    refine a_seq ?_
    have hl : (xs.length : Int) ≤ 1048576 := szLeft_le ‹_›
    refine a_region ?_
    refine aops_cons rfl (w_pure rfl (p_move rfl) ?_)
    refine aops_cons rfl (w_callR rfl rfl rfl cl_15 (c_laws_toRegionS _ (by omega)) ?_)
    refine aops_cons rfl (w_callR rfl rfl rfl cl_18 (c_spec_FreeSpace _ (by omega)) ?_)
    refine aops_cons rfl (w_pure rfl (p_move rfl) ?_)
    refine aops_cons rfl (w_pure rfl (p_extract rfl rfl) ?_)
    refine aops_cons rfl (w_pure rfl (p_extract rfl rfl) ?_)
    refine aops_cons rfl (w_pure rfl (p_assign rfl) ?_)
    refine aops_cons rfl (w_pure rfl (p_assign rfl) ?_)
    refine aops_nil ?_
    refine a_seq ?_
    refine a_region ?_
    refine aops_cons rfl (w_pure rfl (p_move rfl) ?_)
    refine aops_cons rfl (w_callR rfl rfl rfl cl_15 (c_laws_toRegionS _ (by omega)) ?_)
    refine aops_cons rfl (w_pure rfl (p_assign rfl) ?_)
    refine aops_nil ?_
    refine a_seq ?_
    refine a_region ?_
    refine aops_cons rfl (w_pure rfl (p_move rfl) ?_)
    refine aops_cons rfl (w_callR rfl rfl rfl cl_19 (c_impl_FreeSpace _ (by omega)) ?_)
    refine aops_cons rfl (w_pure rfl (p_move rfl) ?_)
    refine aops_cons rfl (w_pure rfl (p_extract rfl rfl) ?_)
    refine aops_cons rfl (w_pure rfl (p_extract rfl rfl) ?_)
    refine aops_cons rfl (w_pure rfl (p_assign rfl) ?_)
    refine aops_cons rfl (w_pure rfl (p_assign rfl) ?_)
    refine aops_nil ?_
    refine a_seq ?_
    refine a_seq ?_
    refine a_region ?_
    refine aops_cons rfl (w_pure rfl (p_move rfl) ?_)
    refine aops_cons rfl (w_pure rfl (p_move rfl) ?_)
    refine aops_cons rfl (w_pure rfl (p_neq_same rfl rfl) ?_)
    refine aops_cons rfl (w_pure rfl (p_move rfl) ?_)
    refine aops_guard_t rfl rfl rfl (w_pure rfl (p_move rfl) ?_)
    refine aops_guard_t rfl rfl rfl (w_pure rfl (p_move rfl) ?_)
    refine aops_guard_t rfl rfl rfl (w_pure rfl (p_neq_bsame um_4 rfl rfl) ?_)
    refine aops_cons rfl (w_pure rfl (p_pick_f rfl rfl) ?_)
    refine aops_nil ?_
    refine a_cond_f rfl ?_
    refine a_skip ?_
    refine a_seq ?_
    refine a_seq ?_
    refine a_region ?_
    refine aops_cons rfl (w_pure rfl (p_move rfl) ?_)
    refine aops_cons rfl (w_pure rfl (p_move rfl) ?_)
    refine aops_cons rfl (w_callR rfl rfl rfl cl_15 (c_laws_toRegionS _ (by omega)) ?_)
    refine aops_cons rfl (w_callR rfl rfl rfl cl_17 (c_laws_eqRegionS _ (by omega)) ?_)
    refine aops_cons rfl (w_pure rfl (p_not rfl) ?_)
    refine aops_nil ?_
    refine a_cond_f rfl ?_
    refine a_skip ?_
    refine a_seq ?_
    refine a_region ?_
    refine aops_cons rfl (w_pure rfl (p_assign rfl) ?_)
    refine aops_nil ?_
    refine a_ret ?_
    refine ret_ok (hands1 rfl (.tmp rfl)) (.nil _) ?_
    exact ⟨rfl, rfl⟩

theorem c_laws_FnExactFindRegion (xs : List Region) (_hc : (∀ x ∈ xs, okRegion x) ∧ xs.length ≤ maxLen) (a : Int) (_ha : InI a) : ACalls Try.prog 6 [.sl (xs.map eRegion), .int .i64 a] [] (Ret (.bool true)) := by
  have hm : xs.length ≤ 9223372036854775807 := _hc.2
  refine a_enter Try.func6 rfl rfl (fun w0 M0 => ?_)
  refine a_seq ?_
  refine a_region ?_
  refine aops_cons rfl (w_pure rfl (p_assign rfl) ?_)
  refine aops_nil ?_
  refine a_seq ?_
  refine a_region ?_
  refine aops_cons rfl (w_pure rfl (p_assign rfl) ?_)
  refine aops_nil ?_
  refine a_seq ?_
  refine a_region ?_
  refine aops_cons rfl (w_pure rfl (p_move rfl) ?_)
  refine aops_cons rfl (w_pure rfl (p_move rfl) ?_)
  refine aops_cons rfl (w_callR rfl rfl rfl cl_13 (c_laws_szRegionS _ ‹_› _ (by omega) (by omega)) ?_)
  refine aops_cons rfl (w_pure rfl (p_assign rfl) ?_)
  refine aops_nil ?_
  refine a_seq ?_
  refine a_seq ?_
  refine a_region ?_
  refine aops_cons rfl (w_pure rfl (p_move rfl) ?_)
  refine aops_cons rfl (w_pure rfl (p_lss rfl rfl) ?_)
  refine aops_nil ?_
  first | refine a_cond_d rfl (fun h1 => ?_) (fun h2 => ?_) | refine a_cond_n rfl (fun h1 => ?_) (fun h2 => ?_) | refine a_cond_nb rfl (fun h1 => ?_) (fun h2 => ?_) | refine a_cond rfl (fun h1 => ?_) (fun h2 => ?_)
  · try simp only [Bool.not_eq_true', Bool.not_eq_false', Bool.not_eq_true, Bool.not_eq_false, decide_eq_true_eq, decide_eq_false_iff_not, List.length_map] at h1
    refine a_seq ?_
    refine a_region ?_
    refine aops_cons rfl (w_pure rfl (p_assign rfl) ?_)
    refine aops_nil ?_
    refine a_ret ?_
    refine ret_ok (hands1 rfl (.tmp rfl)) (.nil _) ?_
    exact ⟨rfl, rfl⟩
  · try simp only [Bool.not_eq_true', Bool.not_eq_false', Bool.not_eq_true, Bool.not_eq_false, decide_eq_true_eq, decide_eq_false_iff_not, List.length_map] at h2
    refine a_skip ?_
    refine a_seq ?_
    have hl : (xs.length : Int) ≤ 1048576 := szLeft_le ‹_›
    refine a_region ?_
    refine aops_cons rfl (w_pure rfl (p_move rfl) ?_)
    refine aops_cons rfl (w_callR rfl rfl rfl cl_15 (c_laws_toRegionS _ (by omega)) ?_)
    refine aops_cons rfl (w_pure rfl (p_move rfl) ?_)
    refine aops_cons rfl (w_callR rfl rfl rfl cl_20 (c_spec_FindRegion _ (by omega) _) ?_)
    refine aops_cons rfl (w_pure rfl (p_move rfl) ?_)
    refine aops_cons rfl (w_pure rfl (p_extract rfl rfl) ?_)
    refine aops_cons rfl (w_pure rfl (p_extract rfl rfl) ?_)
    refine aops_cons rfl (w_pure rfl (p_assign rfl) ?_)
    refine aops_cons rfl (w_pure rfl (p_assign rfl) ?_)
    refine aops_nil ?_
    refine a_seq ?_
    refine a_region ?_
    refine aops_cons rfl (w_pure rfl (p_move rfl) ?_)
    refine aops_cons rfl (w_callR rfl rfl rfl cl_15 (c_laws_toRegionS _ (by omega)) ?_)
    refine aops_cons rfl (w_pure rfl (p_assign rfl) ?_)
    refine aops_nil ?_
    refine a_seq ?_
    refine a_region ?_
    refine aops_cons rfl (w_pure rfl (p_move rfl) ?_)
    refine aops_cons rfl (w_pure rfl (p_move rfl) ?_)
    refine aops_cons rfl (w_callR rfl rfl rfl cl_21 (c_impl_FindRegion _ (by omega) _) ?_)
    refine aops_cons rfl (w_pure rfl (p_move rfl) ?_)
    refine aops_cons rfl (w_pure rfl (p_extract rfl rfl) ?_)
    refine aops_cons rfl (w_pure rfl (p_extract rfl rfl) ?_)
    refine aops_cons rfl (w_pure rfl (p_assign rfl) ?_)
    refine aops_cons rfl (w_pure rfl (p_assign rfl) ?_)
    refine aops_nil ?_
    refine a_seq ?_
    refine a_seq ?_
    refine a_region ?_
    refine aops_cons rfl (w_pure rfl (p_move rfl) ?_)
    refine aops_cons rfl (w_pure rfl (p_move rfl) ?_)
    refine aops_cons rfl (w_pure rfl (p_neq_same rfl rfl) ?_)
    refine aops_cons rfl (w_pure rfl (p_move rfl) ?_)
    refine aops_guard_t rfl rfl rfl (w_pure rfl (p_move rfl) ?_)
    refine aops_guard_t rfl rfl rfl (w_pure rfl (p_move rfl) ?_)
    refine aops_guard_t rfl rfl rfl (w_pure rfl (p_neq_bsame um_4 rfl rfl) ?_)
    refine aops_cons rfl (w_pure rfl (p_pick_f rfl rfl) ?_)
    refine aops_nil ?_
    refine a_cond_f rfl ?_
    refine a_skip ?_
    refine a_seq ?_
    refine a_seq ?_
    refine a_region ?_
    refine aops_cons rfl (w_pure rfl (p_move rfl) ?_)
    refine aops_cons rfl (w_pure rfl (p_move rfl) ?_)
    refine aops_cons rfl (w_callR rfl rfl rfl cl_15 (c_laws_toRegionS _ (by omega)) ?_)
    refine aops_cons rfl (w_callR rfl rfl rfl cl_17 (c_laws_eqRegionS _ (by omega)) ?_)
    refine aops_cons rfl (w_pure rfl (p_not rfl) ?_)
    refine aops_nil ?_
    refine a_cond_f rfl ?_
    refine a_skip ?_
    refine a_seq ?_
    refine a_region ?_
    refine aops_cons rfl (w_pure rfl (p_assign rfl) ?_)
    refine aops_nil ?_
    refine a_ret ?_
    refine ret_ok (hands1 rfl (.tmp rfl)) (.nil _) ?_
    exact ⟨rfl, rfl⟩

end Go.Proofs.Ytehbegibcdfihaa
