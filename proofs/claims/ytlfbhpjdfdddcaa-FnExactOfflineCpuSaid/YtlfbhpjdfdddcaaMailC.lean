/-
  The walks of this part: each theorem is the contract of one function. Condition: none but those that it names.
-/
import Derived.Test.YtlfbhpjdfdddcaaMailCd
import Derived.Test.YtlfbhpjdfdddcaaMailCF
import Derived.Test.YtlfbhpjdfdddcaaMailA
import Derived.Test.YtlfbhpjdfdddcaaMailB
namespace Go.Proofs.Ytlfbhpjdfdddcaa
open Go Go.Fw Go.Hv
attribute [local irreducible] awp Aops Aop ADraw ADrawAll ACalls
set_option maxRecDepth 4000
set_option linter.unusedSimpArgs false
set_option linter.unusedVariables false

theorem co_impl_mailsTo (f s q : Int) : ACalls Try.prog 73 [.int .i64 f, .int .i64 s, .int .i64 q] [] (RetOwn 25 3 ((setMails f s q 4).map eMail)) := by
  refine a_enter Try.func73 rfl rfl (fun w0 M0 => ?_)
  refine a_seq ?_
  refine a_region ?_
  refine aops_cons rfl (w_pure rfl (p_assign rfl) ?_)
  refine aops_nil ?_
  refine a_seq ?_
  refine a_region ?_
  refine aops_cons rfl (w_litM eMail [] rfl el_31 rfl rfl rfl rfl rfl fun b1 => ?_)
  refine aops_cons rfl (w_pure rfl (p_assign rfl) ?_)
  refine aops_nil ?_
  refine a_seq ?_
  refine a_seq ?_
  refine a_region ?_
  refine aops_cons rfl (w_pure rfl (p_move rfl) ?_)
  refine aops_nil ?_
  refine a_block ?_
  refine a_loop (ι := Nat × Nat × List Mail) (fun ⟨i, b, l⟩ => i ≤ 4 ∧ l = setMails f s q i) (fun ⟨i, b, l⟩ => [(10, .int .i64 (i : Int)), (7, .own 3 b 0 l.length)]) (fun ⟨i, b, l⟩ => [(b, .arr 25 3 (l.map eMail))]) (fun ⟨i, b, l⟩ => 4 - i) (0, b1, []) ⟨Nat.zero_le _, rfl⟩ (by repeat (first | exact Knows.nil | refine Knows.cons (by rfl) ?_)) (by repeat (first | exact Picks.nil _ | exact Pick.here _ _ _ | apply Pick.next | apply Picks.cons)) ?_
  rintro ⟨i, b, l⟩ ⟨hi, hI⟩
  have hln := setMails_len f s q i; rw [← hI] at hln
  refine a_seq ?_
  refine a_region ?_
  refine aops_cons rfl (w_pure rfl (p_lss rfl rfl) ?_)
  refine aops_nil ?_
  refine a_seq ?_
  first | refine a_cond_d rfl (fun h1 => ?_) (fun h2 => ?_) | refine a_cond_n rfl (fun h1 => ?_) (fun h2 => ?_) | refine a_cond_nb rfl (fun h1 => ?_) (fun h2 => ?_) | refine a_cond rfl (fun h1 => ?_) (fun h2 => ?_)
  · (try simp only [Bool.not_eq_true', Bool.not_eq_false', Bool.not_eq_true, Bool.not_eq_false, decide_eq_true_eq, decide_eq_false_iff_not, List.length_map, List.length_range] at h1)
    refine a_skip ?_
    refine a_seq ?_
    refine a_block ?_
    refine a_seq ?_
    refine a_region ?_
    refine aops_cons rfl (w_pure rfl (p_move rfl) ?_)
    refine aops_cons rfl (w_pure rfl (p_assign rfl) ?_)
    refine aops_nil ?_
    refine a_seq ?_
    refine a_region ?_
    refine aops_cons rfl (w_pure rfl (p_move rfl) ?_)
    refine aops_cons rfl (w_pure rfl (p_move rfl) ?_)
    refine aops_cons rfl (w_pure rfl (p_shr rfl rfl (by omega)) ?_)
    refine aops_cons rfl (w_pure rfl (p_bits .and (by decide) rfl rfl) ?_)
    refine aops_cons rfl (w_pure rfl (p_eql rfl rfl) ?_)
    refine aops_nil ?_
    first | refine a_cond_d rfl (fun h3 => ?_) (fun h4 => ?_) | refine a_cond_n rfl (fun h3 => ?_) (fun h4 => ?_) | refine a_cond_nb rfl (fun h3 => ?_) (fun h4 => ?_) | refine a_cond rfl (fun h3 => ?_) (fun h4 => ?_)
    · (try simp only [Bool.not_eq_true', Bool.not_eq_false', Bool.not_eq_true, Bool.not_eq_false, decide_eq_true_eq, decide_eq_false_iff_not, List.length_map, List.length_range] at h3)
      refine a_region ?_
      refine aops_cons rfl (w_pure rfl (p_move rfl) ?_)
      refine aops_cons rfl (w_pure rfl (p_move rfl) ?_)
      refine aops_cons rfl (w_pure rfl (p_move rfl) ?_)
      refine aops_cons rfl (w_pure rfl (p_move rfl) ?_)
      refine aops_cons rfl (w_pure rfl (p_build (cells := [_, _, _]) z_25 pl_25 rfl rfl) ?_)
      refine aops_cons rfl (w_lit_vM eMail [⟨f, (i : Int), q⟩] rfl el_31 rfl rfl rfl rfl rfl ?_)
      refine aops_cons rfl (w_appendM eMail rfl el_31 rfl rfl (by repeat (first | exact Pick.here _ _ _ | apply Pick.next)) rfl (.sl _) (fun _ => rfl) (fun _ => rfl) (by simp; omega) (by simp; omega) trivial fun b2 => ?_)
      refine aops_cons rfl (w_pure rfl (p_assign rfl) ?_)
      refine aops_nil ?_
      refine a_region ?_
      refine aops_cons rfl (w_pure rfl (p_add' rfl rfl ⟨by omega, by omega⟩) ?_)
      refine aops_cons rfl (w_pure rfl (p_move rfl) ?_)
      refine aops_nil ?_
      refine ⟨(i + 1, _, _), _, ?_, ?_, (by repeat (first | exact Knows.nil | refine Knows.cons (by rfl) ?_)), (by repeat (first | exact Back.refl _ _ | refine Back.cons (by rfl) ?_)), (by repeat (first | exact Picks.nil _ | exact Pick.here _ _ _ | apply Pick.next | apply Picks.cons))⟩
      · refine ⟨by omega, ?_⟩; rw [setMails, ← hI]; first | exact (if_pos (by assumption)).symm | exact (if_neg (by assumption)).symm
      · (try dsimp only); omega
    · (try simp only [Bool.not_eq_true', Bool.not_eq_false', Bool.not_eq_true, Bool.not_eq_false, decide_eq_true_eq, decide_eq_false_iff_not, List.length_map, List.length_range] at h4)
      refine a_skip ?_
      refine a_region ?_
      refine aops_cons rfl (w_pure rfl (p_add' rfl rfl ⟨by omega, by omega⟩) ?_)
      refine aops_cons rfl (w_pure rfl (p_move rfl) ?_)
      refine aops_nil ?_
      refine ⟨(i + 1, _, _), _, ?_, ?_, (by repeat (first | exact Knows.nil | refine Knows.cons (by rfl) ?_)), (by repeat (first | exact Back.refl _ _ | refine Back.cons (by rfl) ?_)), (by repeat (first | exact Picks.nil _ | exact Pick.here _ _ _ | apply Pick.next | apply Picks.cons))⟩
      · refine ⟨by omega, ?_⟩; rw [setMails, ← hI]; first | exact (if_pos (by assumption)).symm | exact (if_neg (by assumption)).symm
      · (try dsimp only); omega
  · (try simp only [Bool.not_eq_true', Bool.not_eq_false', Bool.not_eq_true, Bool.not_eq_false, decide_eq_true_eq, decide_eq_false_iff_not, List.length_map, List.length_range] at h2)
    refine a_exit ?_
    refine a_seq ?_
    refine a_region ?_
    refine aops_cons rfl (w_pure rfl (p_move rfl) ?_)
    refine aops_cons rfl (w_pure rfl (p_assign rfl) ?_)
    refine aops_nil ?_
    refine a_ret ?_
    refine ret_ok (hands1 rfl (.tmp rfl)) (.cons (.here _ _ _) (.nil _)) ?_
    have hx : i = 4 := (by omega); subst hx; subst hI; exact ⟨b, by rw [List.length_map], rfl⟩

theorem c_impl_mailsTo (f s q : Int) : ACalls Try.prog 73 [.int .i64 f, .int .i64 s, .int .i64 q] [] (Ret (.sl ((setMails f s q 4).map eMail))) := (co_impl_mailsTo f s q).freeze fun _ _ h => h.vw

theorem co_spec_l12Set (xs : List Mail) (hn : xs.length ≤ 1000) (f s q : Int) : ACalls Try.prog 71 [.sl (xs.map eMail), .int .i64 f, .int .i64 s, .int .i64 q] [] (RetOwn 25 3 ((ssTo xs f s q 4).map eMail)) := by
  refine a_enter Try.func71 rfl rfl (fun w0 M0 => ?_)
  refine a_seq ?_
  refine a_region ?_
  refine aops_cons rfl (w_pure rfl (p_assign rfl) ?_)
  refine aops_nil ?_
  refine a_seq ?_
  refine a_seq ?_
  refine a_region ?_
  refine aops_cons rfl (w_pure rfl (p_assign rfl) ?_)
  refine aops_nil ?_
  refine a_block ?_
  refine a_loop (ι := Nat × List Mail) (fun ⟨i, l⟩ => i ≤ 4 ∧ l = ssTo xs f s q i) (fun ⟨i, l⟩ => [(9, .int .i64 (i : Int)), (0, .sl (l.map eMail))]) (fun ⟨i, l⟩ => []) (fun ⟨i, l⟩ => 4 - i) (0, xs) ⟨Nat.zero_le _, rfl⟩ (by repeat (first | exact Knows.nil | refine Knows.cons (by rfl) ?_)) (by repeat (first | exact Picks.nil _ | exact Pick.here _ _ _ | apply Pick.next | apply Picks.cons)) ?_
  rintro ⟨i, l⟩ ⟨hi, hI⟩
  have hln := ssTo_len xs f s q i; rw [← hI] at hln
  refine a_seq ?_
  refine a_seq ?_
  refine a_region ?_
  refine aops_cons rfl (w_pure rfl (p_move rfl) ?_)
  refine aops_cons rfl (w_pure rfl (p_lss rfl rfl) ?_)
  refine aops_nil ?_
  first | refine a_cond_d rfl (fun h1 => ?_) (fun h2 => ?_) | refine a_cond_n rfl (fun h1 => ?_) (fun h2 => ?_) | refine a_cond_nb rfl (fun h1 => ?_) (fun h2 => ?_) | refine a_cond rfl (fun h1 => ?_) (fun h2 => ?_)
  · (try simp only [Bool.not_eq_true', Bool.not_eq_false', Bool.not_eq_true, Bool.not_eq_false, decide_eq_true_eq, decide_eq_false_iff_not, List.length_map, List.length_range] at h1)
    refine a_skip ?_
    refine a_seq ?_
    refine a_block ?_
    refine a_seq ?_
    refine a_region ?_
    refine aops_cons rfl (w_pure rfl (p_move rfl) ?_)
    refine aops_cons rfl (w_pure rfl (p_move rfl) ?_)
    refine aops_cons rfl (w_pure rfl (p_convert ui_3 um_71 rfl) ?_)
    refine aops_cons rfl (w_pure rfl (p_shr rfl rfl (by rw [u64_id (by omega) (by omega)]; omega)) ?_)
    refine aops_cons rfl (w_pure rfl (p_bits .and (by decide) rfl rfl) ?_)
    refine aops_cons rfl (w_pure rfl (p_eql rfl rfl) ?_)
    refine aops_nil ?_
    first | refine a_cond_d rfl (fun h3 => ?_) (fun h4 => ?_) | refine a_cond_n rfl (fun h3 => ?_) (fun h4 => ?_) | refine a_cond_nb rfl (fun h3 => ?_) (fun h4 => ?_) | refine a_cond rfl (fun h3 => ?_) (fun h4 => ?_)
    · (try simp only [Bool.not_eq_true', Bool.not_eq_false', Bool.not_eq_true, Bool.not_eq_false, decide_eq_true_eq, decide_eq_false_iff_not, List.length_map, List.length_range] at h3)
      refine a_region ?_
      refine aops_cons rfl (w_pure rfl (p_move rfl) ?_)
      refine aops_cons rfl (w_pure rfl (p_move rfl) ?_)
      refine aops_cons rfl (w_pure rfl (p_move rfl) ?_)
      refine aops_cons rfl (w_pure rfl (p_move rfl) ?_)
      refine aops_cons rfl (w_pure rfl (p_build (cells := [_, _, _]) z_25 pl_25 rfl rfl) ?_)
      refine aops_cons rfl (w_callR rfl rfl rfl cl_65 (c_spec_l12Send _ (by omega) ⟨_, _, _⟩) ?_)
      refine aops_cons rfl (w_pure rfl (p_assign rfl) ?_)
      refine aops_nil ?_
      refine a_region ?_
      refine aops_cons rfl (w_pure rfl (p_move rfl) ?_)
      refine aops_cons rfl (w_pure rfl (p_add' rfl rfl ⟨by omega, by omega⟩) ?_)
      refine aops_cons rfl (w_pure rfl (p_assign rfl) ?_)
      refine aops_nil ?_
      refine ⟨(i + 1, _), _, ?_, ?_, (by repeat (first | exact Knows.nil | refine Knows.cons (by rfl) ?_)), (by repeat (first | exact Back.refl _ _ | refine Back.cons (by rfl) ?_)), (by repeat (first | exact Picks.nil _ | exact Pick.here _ _ _ | apply Pick.next | apply Picks.cons))⟩
      · refine ⟨by omega, ?_⟩; rw [ssTo, ← hI]; have hu : bitAt s (IntKind.u64.wrap (i : Int)) ↔ bitAt s (i : Int) := by rw [u64_id (by omega) (by omega)]
        first | exact (if_pos (hu.mp (by assumption))).symm | exact (if_neg (fun h => absurd (hu.mpr h) (by assumption))).symm
      · (try dsimp only); omega
    · (try simp only [Bool.not_eq_true', Bool.not_eq_false', Bool.not_eq_true, Bool.not_eq_false, decide_eq_true_eq, decide_eq_false_iff_not, List.length_map, List.length_range] at h4)
      refine a_skip ?_
      refine a_region ?_
      refine aops_cons rfl (w_pure rfl (p_move rfl) ?_)
      refine aops_cons rfl (w_pure rfl (p_add' rfl rfl ⟨by omega, by omega⟩) ?_)
      refine aops_cons rfl (w_pure rfl (p_assign rfl) ?_)
      refine aops_nil ?_
      refine ⟨(i + 1, _), _, ?_, ?_, (by repeat (first | exact Knows.nil | refine Knows.cons (by rfl) ?_)), (by repeat (first | exact Back.refl _ _ | refine Back.cons (by rfl) ?_)), (by repeat (first | exact Picks.nil _ | exact Pick.here _ _ _ | apply Pick.next | apply Picks.cons))⟩
      · refine ⟨by omega, ?_⟩; rw [ssTo, ← hI]; have hu : bitAt s (IntKind.u64.wrap (i : Int)) ↔ bitAt s (i : Int) := by rw [u64_id (by omega) (by omega)]
        first | exact (if_pos (hu.mp (by assumption))).symm | exact (if_neg (fun h => absurd (hu.mpr h) (by assumption))).symm
      · (try dsimp only); omega
  · (try simp only [Bool.not_eq_true', Bool.not_eq_false', Bool.not_eq_true, Bool.not_eq_false, decide_eq_true_eq, decide_eq_false_iff_not, List.length_map, List.length_range] at h2)
    refine a_exit ?_
    refine a_seq ?_
    refine a_region ?_
    refine aops_cons rfl (w_litM eMail [] rfl el_31 rfl rfl rfl rfl rfl fun b1 => ?_)
    refine aops_cons rfl (w_pure rfl (p_move rfl) ?_)
    refine aops_cons rfl (w_appendM eMail rfl el_31 rfl rfl (by repeat (first | exact Pick.here _ _ _ | apply Pick.next)) rfl (.sl _) (fun _ => rfl) (fun _ => rfl) (by simp; omega) (by simp; omega) trivial fun b2 => ?_)
    rw [List.nil_append]
    refine aops_cons rfl (w_pure rfl (p_assign rfl) ?_)
    refine aops_nil ?_
    refine a_ret ?_
    refine ret_ok (hands1 rfl (.tmp rfl)) (.cons (.here _ _ _) (.nil _)) ?_
    have hx : i = 4 := (by omega); subst hx; subst hI; refine ⟨_, ?_, rfl⟩; rw [List.length_map]

theorem c_spec_l12Set (xs : List Mail) (hn : xs.length ≤ 1000) (f s q : Int) : ACalls Try.prog 71 [.sl (xs.map eMail), .int .i64 f, .int .i64 s, .int .i64 q] [] (Ret (.sl ((ssTo xs f s q 4).map eMail))) := (co_spec_l12Set xs hn f s q).freeze fun _ _ h => h.vw

theorem cy_spec_SendToSet (xs : List Mail) (hn : xs.length ≤ 1048576) (f s q : Int) (hA : GoodSet xs f s q) : ACalls Try.prog 36 [.sl (xs.map eMail), .int .i64 f, .int .i64 s, .int .i64 q] [] (Ret (.tup [.sl ((ssTo xs f s q 4).map eMail), .int .i64 (setCount xs f s q), .bool true])) := by
  obtain ⟨g1, g2, g3, g4, g5⟩ := id hA
  have q2 := ssTo_len xs f s q 4
  refine a_enter Try.func36 rfl rfl (fun w0 M0 => ?_)
  refine a_seq ?_
  refine a_region ?_
  refine aops_cons rfl (w_pure rfl (p_assign rfl) ?_)
  refine aops_cons rfl (w_pure rfl (p_assign rfl) ?_)
  refine aops_cons rfl (w_pure rfl (p_assign rfl) ?_)
  refine aops_nil ?_
  refine a_seq ?_
  refine a_seq ?_
  refine a_region ?_
  refine aops_cons rfl (w_pure rfl (p_move rfl) ?_)
  refine aops_cons rfl (w_callR rfl rfl rfl cl_62 (c_spec_l12Good _ (by first | omega | (have q1 := ‹IsBox xs›.2; have q2 := ssTo_len xs f s q 4; omega))) ?_)
  refine aops_cons rfl (w_pure rfl (p_not rfl) ?_)
  refine aops_cons rfl (w_pure rfl (p_move rfl) ?_)
  first | refine aops_split_d 15 rfl (fun h1 => ?_) (fun h2 => ?_) | refine aops_split 15 rfl (fun h1 => ?_) (fun h2 => ?_)
  · (try simp only [Bool.not_eq_true', Bool.not_eq_false', Bool.not_eq_true, Bool.not_eq_false, decide_eq_true_eq, decide_eq_false_iff_not, List.length_map, List.length_range] at h1)
    refine g_pass' rfl rfl rfl rfl rfl ?_
    refine g_pass' rfl rfl rfl rfl rfl ?_
    refine g_pass' rfl rfl rfl rfl rfl ?_
    refine g_pass' rfl rfl rfl rfl rfl ?_
    refine g_pass' rfl rfl rfl rfl rfl ?_
    refine aops_cons rfl (w_pure rfl (p_pick_t rfl rfl) ?_)
    refine aops_cons rfl (w_pure rfl (p_move rfl) ?_)
    refine g_pass' rfl rfl rfl rfl rfl ?_
    refine g_pass' rfl rfl rfl rfl rfl ?_
    refine g_pass' rfl rfl rfl rfl rfl ?_
    refine aops_cons rfl (w_pure rfl (p_pick_t rfl rfl) ?_)
    refine aops_nil ?_
    refine a_cond_t rfl ?_
    refine a_seq ?_
    refine a_region ?_
    refine aops_cons rfl (w_lit_vM eMail [] rfl el_31 rfl rfl rfl rfl rfl ?_)
    refine aops_cons rfl (w_pure rfl (p_assign rfl) ?_)
    refine aops_cons rfl (w_pure rfl (p_assign rfl) ?_)
    refine aops_cons rfl (w_pure rfl (p_assign rfl) ?_)
    refine aops_nil ?_
    refine a_ret ?_
    refine ret_ok (hands3 rfl (.tmp rfl) (.tmp rfl) (.tmp rfl)) (.nil _) ?_
    first | exact ⟨by (simp only [List.length_map]; rfl), rfl⟩ | (exfalso; first | contradiction | omega | exact absurd hA.1 (by assumption) | exact absurd hA.mail (by assumption) | exact absurd hA.box (by assumption))
  · (try simp only [Bool.not_eq_true', Bool.not_eq_false', Bool.not_eq_true, Bool.not_eq_false, decide_eq_true_eq, decide_eq_false_iff_not, List.length_map, List.length_range] at h2)
    refine aops_guard_t rfl rfl rfl (w_pure rfl (p_move rfl) ?_)
    refine aops_guard_t rfl rfl rfl (w_pure rfl (p_move rfl) ?_)
    refine aops_guard_t rfl rfl rfl (w_pure rfl (p_build (cells := [_, _, _]) z_25 pl_25 rfl rfl) ?_)
    refine aops_guard_t rfl rfl rfl (w_callR rfl rfl rfl cl_59 (c_spec_l12One ⟨_, _, _⟩) ?_)
    refine aops_guard_t rfl rfl rfl (w_pure rfl (p_not rfl) ?_)
    refine aops_cons rfl (w_pure rfl (p_pick_f rfl rfl) ?_)
    refine aops_cons rfl (w_pure rfl (p_move rfl) ?_)
    first | refine aops_split_d 22 rfl (fun h3 => ?_) (fun h4 => ?_) | refine aops_split 22 rfl (fun h3 => ?_) (fun h4 => ?_)
    · (try simp only [Bool.not_eq_true', Bool.not_eq_false', Bool.not_eq_true, Bool.not_eq_false, decide_eq_true_eq, decide_eq_false_iff_not, List.length_map, List.length_range] at h3)
      refine g_pass' rfl rfl rfl rfl rfl ?_
      refine g_pass' rfl rfl rfl rfl rfl ?_
      refine g_pass' rfl rfl rfl rfl rfl ?_
      refine aops_cons rfl (w_pure rfl (p_pick_t rfl rfl) ?_)
      refine aops_nil ?_
      refine a_cond_t rfl ?_
      refine a_seq ?_
      refine a_region ?_
      refine aops_cons rfl (w_lit_vM eMail [] rfl el_31 rfl rfl rfl rfl rfl ?_)
      refine aops_cons rfl (w_pure rfl (p_assign rfl) ?_)
      refine aops_cons rfl (w_pure rfl (p_assign rfl) ?_)
      refine aops_cons rfl (w_pure rfl (p_assign rfl) ?_)
      refine aops_nil ?_
      refine a_ret ?_
      refine ret_ok (hands3 rfl (.tmp rfl) (.tmp rfl) (.tmp rfl)) (.nil _) ?_
      first | exact ⟨by (simp only [List.length_map]; rfl), rfl⟩ | (exfalso; first | contradiction | omega | exact absurd hA.1 (by assumption) | exact absurd hA.mail (by assumption) | exact absurd hA.box (by assumption))
    · (try simp only [Bool.not_eq_true', Bool.not_eq_false', Bool.not_eq_true, Bool.not_eq_false, decide_eq_true_eq, decide_eq_false_iff_not, List.length_map, List.length_range] at h4)
      refine aops_guard_t rfl rfl rfl (w_pure rfl (p_move rfl) ?_)
      refine aops_guard_t rfl rfl rfl (w_callR rfl rfl rfl cl_70 (c_spec_l1In ..) ?_)
      refine aops_guard_t rfl rfl rfl (w_pure rfl (p_not rfl) ?_)
      refine aops_cons rfl (w_pure rfl (p_pick_f rfl rfl) ?_)
      refine aops_nil ?_
      first | refine a_cond_d rfl (fun h5 => ?_) (fun h6 => ?_) | refine a_cond_n rfl (fun h5 => ?_) (fun h6 => ?_) | refine a_cond_nb rfl (fun h5 => ?_) (fun h6 => ?_) | refine a_cond rfl (fun h5 => ?_) (fun h6 => ?_)
      · (try simp only [Bool.not_eq_true', Bool.not_eq_false', Bool.not_eq_true, Bool.not_eq_false, decide_eq_true_eq, decide_eq_false_iff_not, List.length_map, List.length_range] at h5)
        refine a_seq ?_
        refine a_region ?_
        refine aops_cons rfl (w_lit_vM eMail [] rfl el_31 rfl rfl rfl rfl rfl ?_)
        refine aops_cons rfl (w_pure rfl (p_assign rfl) ?_)
        refine aops_cons rfl (w_pure rfl (p_assign rfl) ?_)
        refine aops_cons rfl (w_pure rfl (p_assign rfl) ?_)
        refine aops_nil ?_
        refine a_ret ?_
        refine ret_ok (hands3 rfl (.tmp rfl) (.tmp rfl) (.tmp rfl)) (.nil _) ?_
        first | exact ⟨by (simp only [List.length_map]; rfl), rfl⟩ | (exfalso; first | contradiction | omega | exact absurd hA.1 (by assumption) | exact absurd hA.mail (by assumption) | exact absurd hA.box (by assumption))
      · (try simp only [Bool.not_eq_true', Bool.not_eq_false', Bool.not_eq_true, Bool.not_eq_false, decide_eq_true_eq, decide_eq_false_iff_not, List.length_map, List.length_range] at h6)
        refine a_skip ?_
        refine a_seq ?_
        refine a_region ?_
        refine aops_cons rfl (w_pure rfl (p_move rfl) ?_)
        refine aops_cons rfl (w_pure rfl (p_move rfl) ?_)
        refine aops_cons rfl (w_pure rfl (p_move rfl) ?_)
        refine aops_cons rfl (w_pure rfl (p_move rfl) ?_)
        refine aops_cons rfl (w_callR rfl rfl rfl cl_71 (c_spec_l12Set _ (by have q1 := ‹IsBox xs›.2; omega) _ _ _) ?_)
        refine aops_cons rfl (w_pure rfl (p_assign rfl) ?_)
        refine aops_nil ?_
        refine a_seq ?_
        refine a_seq ?_
        refine a_region ?_
        refine aops_cons rfl (w_pure rfl (p_move rfl) ?_)
        refine aops_cons rfl (w_callR rfl rfl rfl cl_62 (c_spec_l12Good _ (by first | omega | (have q1 := ‹IsBox xs›.2; have q2 := ssTo_len xs f s q 4; omega))) ?_)
        refine aops_cons rfl (w_pure rfl (p_not rfl) ?_)
        refine aops_nil ?_
        first | refine a_cond_d rfl (fun h7 => ?_) (fun h8 => ?_) | refine a_cond_n rfl (fun h7 => ?_) (fun h8 => ?_) | refine a_cond_nb rfl (fun h7 => ?_) (fun h8 => ?_) | refine a_cond rfl (fun h7 => ?_) (fun h8 => ?_)
        · (try simp only [Bool.not_eq_true', Bool.not_eq_false', Bool.not_eq_true, Bool.not_eq_false, decide_eq_true_eq, decide_eq_false_iff_not, List.length_map, List.length_range] at h7)
          refine a_seq ?_
          refine a_region ?_
          refine aops_cons rfl (w_lit_vM eMail [] rfl el_31 rfl rfl rfl rfl rfl ?_)
          refine aops_cons rfl (w_pure rfl (p_assign rfl) ?_)
          refine aops_cons rfl (w_pure rfl (p_assign rfl) ?_)
          refine aops_cons rfl (w_pure rfl (p_assign rfl) ?_)
          refine aops_nil ?_
          refine a_ret ?_
          refine ret_ok (hands3 rfl (.tmp rfl) (.tmp rfl) (.tmp rfl)) (.nil _) ?_
          first | exact ⟨by (simp only [List.length_map]; rfl), rfl⟩ | (exfalso; first | contradiction | omega | exact absurd hA.1 (by assumption) | exact absurd hA.mail (by assumption) | exact absurd hA.box (by assumption))
        · (try simp only [Bool.not_eq_true', Bool.not_eq_false', Bool.not_eq_true, Bool.not_eq_false, decide_eq_true_eq, decide_eq_false_iff_not, List.length_map, List.length_range] at h8)
          refine a_skip ?_
          refine a_seq ?_
          refine a_region ?_
          refine aops_cons rfl (w_pure rfl (p_move rfl) ?_)
          refine aops_cons rfl (w_pure rfl (p_move rfl) ?_)
          refine aops_cons rfl (w_pure rfl (p_len sl_31 rfl rfl) ?_)
          refine aops_cons rfl (w_pure rfl (p_move rfl) ?_)
          refine aops_cons rfl (w_pure rfl (p_len sl_31 rfl rfl) ?_)
          refine aops_cons rfl (w_pure rfl (p_sub' rfl rfl ⟨by simp only [List.length_map]; omega, by simp only [List.length_map]; omega⟩) ?_)
          refine aops_cons rfl (w_pure rfl (p_assign rfl) ?_)
          refine aops_cons rfl (w_pure rfl (p_assign rfl) ?_)
          refine aops_cons rfl (w_pure rfl (p_assign rfl) ?_)
          refine aops_nil ?_
          refine a_ret ?_
          refine ret_ok (hands3 rfl (.tmp rfl) (.tmp rfl) (.tmp rfl)) (.nil _) ?_
          first | exact ⟨by (simp only [List.length_map]; rfl), rfl⟩ | (exfalso; first | contradiction | omega | exact absurd hA.1 (by assumption) | exact absurd hA.mail (by assumption) | exact absurd hA.box (by assumption))

theorem cn_spec_SendToSet (xs : List Mail) (hn : xs.length ≤ 1048576) (f s q : Int) (hA : ¬ GoodSet xs f s q) : ACalls Try.prog 36 [.sl (xs.map eMail), .int .i64 f, .int .i64 s, .int .i64 q] [] (Ret (.tup [.sl ([] : List (List AV)), .int .i64 0, .bool false])) := by
  have q2 := ssTo_len xs f s q 4
  refine a_enter Try.func36 rfl rfl (fun w0 M0 => ?_)
  refine a_seq ?_
  refine a_region ?_
  refine aops_cons rfl (w_pure rfl (p_assign rfl) ?_)
  refine aops_cons rfl (w_pure rfl (p_assign rfl) ?_)
  refine aops_cons rfl (w_pure rfl (p_assign rfl) ?_)
  refine aops_nil ?_
  refine a_seq ?_
  refine a_seq ?_
  refine a_region ?_
  refine aops_cons rfl (w_pure rfl (p_move rfl) ?_)
  refine aops_cons rfl (w_callR rfl rfl rfl cl_62 (c_spec_l12Good _ (by first | omega | (have q1 := ‹IsBox xs›.2; have q2 := ssTo_len xs f s q 4; omega))) ?_)
  refine aops_cons rfl (w_pure rfl (p_not rfl) ?_)
  refine aops_cons rfl (w_pure rfl (p_move rfl) ?_)
  first | refine aops_split_d 15 rfl (fun h1 => ?_) (fun h2 => ?_) | refine aops_split 15 rfl (fun h1 => ?_) (fun h2 => ?_)
  · (try simp only [Bool.not_eq_true', Bool.not_eq_false', Bool.not_eq_true, Bool.not_eq_false, decide_eq_true_eq, decide_eq_false_iff_not, List.length_map, List.length_range] at h1)
    refine g_pass' rfl rfl rfl rfl rfl ?_
    refine g_pass' rfl rfl rfl rfl rfl ?_
    refine g_pass' rfl rfl rfl rfl rfl ?_
    refine g_pass' rfl rfl rfl rfl rfl ?_
    refine g_pass' rfl rfl rfl rfl rfl ?_
    refine aops_cons rfl (w_pure rfl (p_pick_t rfl rfl) ?_)
    refine aops_cons rfl (w_pure rfl (p_move rfl) ?_)
    refine g_pass' rfl rfl rfl rfl rfl ?_
    refine g_pass' rfl rfl rfl rfl rfl ?_
    refine g_pass' rfl rfl rfl rfl rfl ?_
    refine aops_cons rfl (w_pure rfl (p_pick_t rfl rfl) ?_)
    refine aops_nil ?_
    refine a_cond_t rfl ?_
    refine a_seq ?_
    refine a_region ?_
    refine aops_cons rfl (w_lit_vM eMail [] rfl el_31 rfl rfl rfl rfl rfl ?_)
    refine aops_cons rfl (w_pure rfl (p_assign rfl) ?_)
    refine aops_cons rfl (w_pure rfl (p_assign rfl) ?_)
    refine aops_cons rfl (w_pure rfl (p_assign rfl) ?_)
    refine aops_nil ?_
    refine a_ret ?_
    refine ret_ok (hands3 rfl (.tmp rfl) (.tmp rfl) (.tmp rfl)) (.nil _) ?_
    first | exact ⟨rfl, rfl⟩ | exact absurd (goodSet_of (by assumption) (by assumption) (by omega) (by assumption)) hA
  · (try simp only [Bool.not_eq_true', Bool.not_eq_false', Bool.not_eq_true, Bool.not_eq_false, decide_eq_true_eq, decide_eq_false_iff_not, List.length_map, List.length_range] at h2)
    refine aops_guard_t rfl rfl rfl (w_pure rfl (p_move rfl) ?_)
    refine aops_guard_t rfl rfl rfl (w_pure rfl (p_move rfl) ?_)
    refine aops_guard_t rfl rfl rfl (w_pure rfl (p_build (cells := [_, _, _]) z_25 pl_25 rfl rfl) ?_)
    refine aops_guard_t rfl rfl rfl (w_callR rfl rfl rfl cl_59 (c_spec_l12One ⟨_, _, _⟩) ?_)
    refine aops_guard_t rfl rfl rfl (w_pure rfl (p_not rfl) ?_)
    refine aops_cons rfl (w_pure rfl (p_pick_f rfl rfl) ?_)
    refine aops_cons rfl (w_pure rfl (p_move rfl) ?_)
    first | refine aops_split_d 22 rfl (fun h3 => ?_) (fun h4 => ?_) | refine aops_split 22 rfl (fun h3 => ?_) (fun h4 => ?_)
    · (try simp only [Bool.not_eq_true', Bool.not_eq_false', Bool.not_eq_true, Bool.not_eq_false, decide_eq_true_eq, decide_eq_false_iff_not, List.length_map, List.length_range] at h3)
      refine g_pass' rfl rfl rfl rfl rfl ?_
      refine g_pass' rfl rfl rfl rfl rfl ?_
      refine g_pass' rfl rfl rfl rfl rfl ?_
      refine aops_cons rfl (w_pure rfl (p_pick_t rfl rfl) ?_)
      refine aops_nil ?_
      refine a_cond_t rfl ?_
      refine a_seq ?_
      refine a_region ?_
      refine aops_cons rfl (w_lit_vM eMail [] rfl el_31 rfl rfl rfl rfl rfl ?_)
      refine aops_cons rfl (w_pure rfl (p_assign rfl) ?_)
      refine aops_cons rfl (w_pure rfl (p_assign rfl) ?_)
      refine aops_cons rfl (w_pure rfl (p_assign rfl) ?_)
      refine aops_nil ?_
      refine a_ret ?_
      refine ret_ok (hands3 rfl (.tmp rfl) (.tmp rfl) (.tmp rfl)) (.nil _) ?_
      first | exact ⟨rfl, rfl⟩ | exact absurd (goodSet_of (by assumption) (by assumption) (by omega) (by assumption)) hA
    · (try simp only [Bool.not_eq_true', Bool.not_eq_false', Bool.not_eq_true, Bool.not_eq_false, decide_eq_true_eq, decide_eq_false_iff_not, List.length_map, List.length_range] at h4)
      refine aops_guard_t rfl rfl rfl (w_pure rfl (p_move rfl) ?_)
      refine aops_guard_t rfl rfl rfl (w_callR rfl rfl rfl cl_70 (c_spec_l1In ..) ?_)
      refine aops_guard_t rfl rfl rfl (w_pure rfl (p_not rfl) ?_)
      refine aops_cons rfl (w_pure rfl (p_pick_f rfl rfl) ?_)
      refine aops_nil ?_
      first | refine a_cond_d rfl (fun h5 => ?_) (fun h6 => ?_) | refine a_cond_n rfl (fun h5 => ?_) (fun h6 => ?_) | refine a_cond_nb rfl (fun h5 => ?_) (fun h6 => ?_) | refine a_cond rfl (fun h5 => ?_) (fun h6 => ?_)
      · (try simp only [Bool.not_eq_true', Bool.not_eq_false', Bool.not_eq_true, Bool.not_eq_false, decide_eq_true_eq, decide_eq_false_iff_not, List.length_map, List.length_range] at h5)
        refine a_seq ?_
        refine a_region ?_
        refine aops_cons rfl (w_lit_vM eMail [] rfl el_31 rfl rfl rfl rfl rfl ?_)
        refine aops_cons rfl (w_pure rfl (p_assign rfl) ?_)
        refine aops_cons rfl (w_pure rfl (p_assign rfl) ?_)
        refine aops_cons rfl (w_pure rfl (p_assign rfl) ?_)
        refine aops_nil ?_
        refine a_ret ?_
        refine ret_ok (hands3 rfl (.tmp rfl) (.tmp rfl) (.tmp rfl)) (.nil _) ?_
        first | exact ⟨rfl, rfl⟩ | exact absurd (goodSet_of (by assumption) (by assumption) (by omega) (by assumption)) hA
      · (try simp only [Bool.not_eq_true', Bool.not_eq_false', Bool.not_eq_true, Bool.not_eq_false, decide_eq_true_eq, decide_eq_false_iff_not, List.length_map, List.length_range] at h6)
        refine a_skip ?_
        refine a_seq ?_
        refine a_region ?_
        refine aops_cons rfl (w_pure rfl (p_move rfl) ?_)
        refine aops_cons rfl (w_pure rfl (p_move rfl) ?_)
        refine aops_cons rfl (w_pure rfl (p_move rfl) ?_)
        refine aops_cons rfl (w_pure rfl (p_move rfl) ?_)
        refine aops_cons rfl (w_callR rfl rfl rfl cl_71 (c_spec_l12Set _ (by have q1 := ‹IsBox xs›.2; omega) _ _ _) ?_)
        refine aops_cons rfl (w_pure rfl (p_assign rfl) ?_)
        refine aops_nil ?_
        refine a_seq ?_
        refine a_seq ?_
        refine a_region ?_
        refine aops_cons rfl (w_pure rfl (p_move rfl) ?_)
        refine aops_cons rfl (w_callR rfl rfl rfl cl_62 (c_spec_l12Good _ (by first | omega | (have q1 := ‹IsBox xs›.2; have q2 := ssTo_len xs f s q 4; omega))) ?_)
        refine aops_cons rfl (w_pure rfl (p_not rfl) ?_)
        refine aops_nil ?_
        first | refine a_cond_d rfl (fun h7 => ?_) (fun h8 => ?_) | refine a_cond_n rfl (fun h7 => ?_) (fun h8 => ?_) | refine a_cond_nb rfl (fun h7 => ?_) (fun h8 => ?_) | refine a_cond rfl (fun h7 => ?_) (fun h8 => ?_)
        · (try simp only [Bool.not_eq_true', Bool.not_eq_false', Bool.not_eq_true, Bool.not_eq_false, decide_eq_true_eq, decide_eq_false_iff_not, List.length_map, List.length_range] at h7)
          refine a_seq ?_
          refine a_region ?_
          refine aops_cons rfl (w_lit_vM eMail [] rfl el_31 rfl rfl rfl rfl rfl ?_)
          refine aops_cons rfl (w_pure rfl (p_assign rfl) ?_)
          refine aops_cons rfl (w_pure rfl (p_assign rfl) ?_)
          refine aops_cons rfl (w_pure rfl (p_assign rfl) ?_)
          refine aops_nil ?_
          refine a_ret ?_
          refine ret_ok (hands3 rfl (.tmp rfl) (.tmp rfl) (.tmp rfl)) (.nil _) ?_
          first | exact ⟨rfl, rfl⟩ | exact absurd (goodSet_of (by assumption) (by assumption) (by omega) (by assumption)) hA
        · (try simp only [Bool.not_eq_true', Bool.not_eq_false', Bool.not_eq_true, Bool.not_eq_false, decide_eq_true_eq, decide_eq_false_iff_not, List.length_map, List.length_range] at h8)
          refine a_skip ?_
          refine a_seq ?_
          refine a_region ?_
          refine aops_cons rfl (w_pure rfl (p_move rfl) ?_)
          refine aops_cons rfl (w_pure rfl (p_move rfl) ?_)
          refine aops_cons rfl (w_pure rfl (p_len sl_31 rfl rfl) ?_)
          refine aops_cons rfl (w_pure rfl (p_move rfl) ?_)
          refine aops_cons rfl (w_pure rfl (p_len sl_31 rfl rfl) ?_)
          refine aops_cons rfl (w_pure rfl (p_sub' rfl rfl ⟨by simp only [List.length_map]; omega, by simp only [List.length_map]; omega⟩) ?_)
          refine aops_cons rfl (w_pure rfl (p_assign rfl) ?_)
          refine aops_cons rfl (w_pure rfl (p_assign rfl) ?_)
          refine aops_cons rfl (w_pure rfl (p_assign rfl) ?_)
          refine aops_nil ?_
          refine a_ret ?_
          refine ret_ok (hands3 rfl (.tmp rfl) (.tmp rfl) (.tmp rfl)) (.nil _) ?_
          first | exact ⟨rfl, rfl⟩ | exact absurd (goodSet_of (by assumption) (by assumption) (by omega) (by assumption)) hA

theorem cy_impl_SendToSet (xs : List Mail) (hn : xs.length ≤ 1048576) (f s q : Int) (hA : GoodSet xs f s q) : ACalls Try.prog 37 [.sl (xs.map eMail), .int .i64 f, .int .i64 s, .int .i64 q] [] (fun r st => ∃ b1, r = .tup [.own 3 b1 0 (ssTo xs f s q 4).length, .int .i64 (setCount xs f s q), .bool true] ∧ st = [(b1, .arr 25 3 ((ssTo xs f s q 4).map eMail))]) := by
  obtain ⟨g1, g2, g3, g4, g5⟩ := id hA
  have q2 := ssTo_len xs f s q 4
  refine a_enter Try.func37 rfl rfl (fun w0 M0 => ?_)
  refine a_seq ?_
  refine a_region ?_
  refine aops_cons rfl (w_pure rfl (p_assign rfl) ?_)
  refine aops_cons rfl (w_pure rfl (p_assign rfl) ?_)
  refine aops_cons rfl (w_pure rfl (p_assign rfl) ?_)
  refine aops_nil ?_
  refine a_seq ?_
  refine a_seq ?_
  refine a_region ?_
  refine aops_cons rfl (w_pure rfl (p_move rfl) ?_)
  refine aops_cons rfl (w_callR rfl rfl rfl cl_21 (c_impl_IsBox _ (by omega)) ?_)
  refine aops_cons rfl (w_pure rfl (p_not rfl) ?_)
  refine aops_cons rfl (w_pure rfl (p_move rfl) ?_)
  first | refine aops_split_d 14 rfl (fun h1 => ?_) (fun h2 => ?_) | refine aops_split 14 rfl (fun h1 => ?_) (fun h2 => ?_)
  · (try simp only [Bool.not_eq_true', Bool.not_eq_false', Bool.not_eq_true, Bool.not_eq_false, decide_eq_true_eq, decide_eq_false_iff_not, List.length_map, List.length_range] at h1)
    refine g_pass' rfl rfl rfl rfl rfl ?_
    refine g_pass' rfl rfl rfl rfl rfl ?_
    refine g_pass' rfl rfl rfl rfl rfl ?_
    refine aops_cons rfl (w_pure rfl (p_pick_t rfl rfl) ?_)
    refine aops_cons rfl (w_pure rfl (p_move rfl) ?_)
    refine g_pass' rfl rfl rfl rfl rfl ?_
    refine g_pass' rfl rfl rfl rfl rfl ?_
    refine g_pass' rfl rfl rfl rfl rfl ?_
    refine aops_cons rfl (w_pure rfl (p_pick_t rfl rfl) ?_)
    refine aops_cons rfl (w_pure rfl (p_move rfl) ?_)
    refine g_pass' rfl rfl rfl rfl rfl ?_
    refine g_pass' rfl rfl rfl rfl rfl ?_
    refine g_pass' rfl rfl rfl rfl rfl ?_
    refine aops_cons rfl (w_pure rfl (p_pick_t rfl rfl) ?_)
    refine aops_nil ?_
    refine a_cond_t rfl ?_
    refine a_seq ?_
    refine a_region ?_
    refine aops_cons rfl (w_pure rfl (p_assign rfl) ?_)
    refine aops_cons rfl (w_pure rfl (p_assign rfl) ?_)
    refine aops_cons rfl (w_pure rfl (p_assign rfl) ?_)
    refine aops_nil ?_
    refine a_ret ?_
    refine ret_ok (hands3 rfl (.tmp rfl) (.tmp rfl) (.tmp rfl)) (.nil _) ?_
    first | exact ⟨_, rfl, rfl⟩ | (exfalso; first | contradiction | omega | exact absurd hA.1 (by assumption) | exact absurd hA.mail (by assumption) | exact absurd hA.box (by assumption))
  · (try simp only [Bool.not_eq_true', Bool.not_eq_false', Bool.not_eq_true, Bool.not_eq_false, decide_eq_true_eq, decide_eq_false_iff_not, List.length_map, List.length_range] at h2)
    refine aops_guard_t rfl rfl rfl (w_pure rfl (p_move rfl) ?_)
    refine aops_guard_t rfl rfl rfl (w_callR rfl rfl rfl cl_60 (c_impl_isCpu ..) ?_)
    refine aops_guard_t rfl rfl rfl (w_pure rfl (p_not rfl) ?_)
    refine aops_cons rfl (w_pure rfl (p_pick_f rfl rfl) ?_)
    refine aops_cons rfl (w_pure rfl (p_move rfl) ?_)
    first | refine aops_split_d 19 rfl (fun h3 => ?_) (fun h4 => ?_) | refine aops_split 19 rfl (fun h3 => ?_) (fun h4 => ?_)
    · (try simp only [Bool.not_eq_true', Bool.not_eq_false', Bool.not_eq_true, Bool.not_eq_false, decide_eq_true_eq, decide_eq_false_iff_not, List.length_map, List.length_range] at h3)
      refine g_pass' rfl rfl rfl rfl rfl ?_
      refine g_pass' rfl rfl rfl rfl rfl ?_
      refine g_pass' rfl rfl rfl rfl rfl ?_
      refine aops_cons rfl (w_pure rfl (p_pick_t rfl rfl) ?_)
      refine aops_cons rfl (w_pure rfl (p_move rfl) ?_)
      refine g_pass' rfl rfl rfl rfl rfl ?_
      refine g_pass' rfl rfl rfl rfl rfl ?_
      refine g_pass' rfl rfl rfl rfl rfl ?_
      refine aops_cons rfl (w_pure rfl (p_pick_t rfl rfl) ?_)
      refine aops_nil ?_
      refine a_cond_t rfl ?_
      refine a_seq ?_
      refine a_region ?_
      refine aops_cons rfl (w_pure rfl (p_assign rfl) ?_)
      refine aops_cons rfl (w_pure rfl (p_assign rfl) ?_)
      refine aops_cons rfl (w_pure rfl (p_assign rfl) ?_)
      refine aops_nil ?_
      refine a_ret ?_
      refine ret_ok (hands3 rfl (.tmp rfl) (.tmp rfl) (.tmp rfl)) (.nil _) ?_
      first | exact ⟨_, rfl, rfl⟩ | (exfalso; first | contradiction | omega | exact absurd hA.1 (by assumption) | exact absurd hA.mail (by assumption) | exact absurd hA.box (by assumption))
    · (try simp only [Bool.not_eq_true', Bool.not_eq_false', Bool.not_eq_true, Bool.not_eq_false, decide_eq_true_eq, decide_eq_false_iff_not, List.length_map, List.length_range] at h4)
      refine aops_guard_t rfl rfl rfl (w_pure rfl (p_move rfl) ?_)
      refine aops_guard_t rfl rfl rfl (w_callR rfl rfl rfl cl_72 (c_impl_inside ..) ?_)
      refine aops_guard_t rfl rfl rfl (w_pure rfl (p_not rfl) ?_)
      refine aops_cons rfl (w_pure rfl (p_pick_f rfl rfl) ?_)
      refine aops_cons rfl (w_pure rfl (p_move rfl) ?_)
      first | refine aops_split_d 24 rfl (fun h5 => ?_) (fun h6 => ?_) | refine aops_split 24 rfl (fun h5 => ?_) (fun h6 => ?_)
      · (try simp only [Bool.not_eq_true', Bool.not_eq_false', Bool.not_eq_true, Bool.not_eq_false, decide_eq_true_eq, decide_eq_false_iff_not, List.length_map, List.length_range] at h5)
        refine g_pass' rfl rfl rfl rfl rfl ?_
        refine g_pass' rfl rfl rfl rfl rfl ?_
        refine g_pass' rfl rfl rfl rfl rfl ?_
        refine aops_cons rfl (w_pure rfl (p_pick_t rfl rfl) ?_)
        refine aops_nil ?_
        refine a_cond_t rfl ?_
        refine a_seq ?_
        refine a_region ?_
        refine aops_cons rfl (w_pure rfl (p_assign rfl) ?_)
        refine aops_cons rfl (w_pure rfl (p_assign rfl) ?_)
        refine aops_cons rfl (w_pure rfl (p_assign rfl) ?_)
        refine aops_nil ?_
        refine a_ret ?_
        refine ret_ok (hands3 rfl (.tmp rfl) (.tmp rfl) (.tmp rfl)) (.nil _) ?_
        first | exact ⟨_, rfl, rfl⟩ | (exfalso; first | contradiction | omega | exact absurd hA.1 (by assumption) | exact absurd hA.mail (by assumption) | exact absurd hA.box (by assumption))
      · (try simp only [Bool.not_eq_true', Bool.not_eq_false', Bool.not_eq_true, Bool.not_eq_false, decide_eq_true_eq, decide_eq_false_iff_not, List.length_map, List.length_range] at h6)
        refine aops_guard_t rfl rfl rfl (w_pure rfl (p_move rfl) ?_)
        refine aops_guard_t rfl rfl rfl (w_callR rfl rfl rfl cl_61 (c_impl_isMailIrq ..) ?_)
        refine aops_guard_t rfl rfl rfl (w_pure rfl (p_not rfl) ?_)
        refine aops_cons rfl (w_pure rfl (p_pick_f rfl rfl) ?_)
        refine aops_nil ?_
        first | refine a_cond_d rfl (fun h7 => ?_) (fun h8 => ?_) | refine a_cond_n rfl (fun h7 => ?_) (fun h8 => ?_) | refine a_cond_nb rfl (fun h7 => ?_) (fun h8 => ?_) | refine a_cond rfl (fun h7 => ?_) (fun h8 => ?_)
        · (try simp only [Bool.not_eq_true', Bool.not_eq_false', Bool.not_eq_true, Bool.not_eq_false, decide_eq_true_eq, decide_eq_false_iff_not, List.length_map, List.length_range] at h7)
          refine a_seq ?_
          refine a_region ?_
          refine aops_cons rfl (w_pure rfl (p_assign rfl) ?_)
          refine aops_cons rfl (w_pure rfl (p_assign rfl) ?_)
          refine aops_cons rfl (w_pure rfl (p_assign rfl) ?_)
          refine aops_nil ?_
          refine a_ret ?_
          refine ret_ok (hands3 rfl (.tmp rfl) (.tmp rfl) (.tmp rfl)) (.nil _) ?_
          first | exact ⟨_, rfl, rfl⟩ | (exfalso; first | contradiction | omega | exact absurd hA.1 (by assumption) | exact absurd hA.mail (by assumption) | exact absurd hA.box (by assumption))
        · (try simp only [Bool.not_eq_true', Bool.not_eq_false', Bool.not_eq_true, Bool.not_eq_false, decide_eq_true_eq, decide_eq_false_iff_not, List.length_map, List.length_range] at h8)
          refine a_skip ?_
          refine a_seq ?_
          refine a_region ?_
          refine aops_cons rfl (w_pure rfl (p_move rfl) ?_)
          refine aops_cons rfl (w_pure rfl (p_move rfl) ?_)
          refine aops_cons rfl (w_pure rfl (p_move rfl) ?_)
          refine aops_cons rfl (w_pure rfl (p_move rfl) ?_)
          refine aops_cons rfl (w_callR rfl rfl rfl cl_73 (c_impl_mailsTo _ _ _) ?_)
          refine aops_cons rfl (w_call rfl rfl rfl cl_66 (by have h := cy_impl_sendAll xs (setMails f s q 4) (by have q1 := ‹IsBox xs›.2; omega) (by have := setMails_len f s q 4; omega) (by rw [(allTo_set xs f s q 4)]; exact g5); rw [(allTo_set xs f s q 4)] at h; exact h) ?_)
          rintro _ _ ⟨b1, rfl, rfl⟩
          refine aops_cons rfl (w_pure rfl (p_extract rfl rfl) ?_)
          refine aops_cons rfl (w_pure rfl (p_extract rfl rfl) ?_)
          refine aops_cons rfl (w_pure rfl (p_extract rfl rfl) ?_)
          refine aops_cons rfl (w_pure rfl (p_assign rfl) ?_)
          refine aops_cons rfl (w_pure rfl (p_assign rfl) ?_)
          refine aops_cons rfl (w_pure rfl (p_assign rfl) ?_)
          refine aops_nil ?_
          refine a_ret ?_
          refine ret_ok (hands3 rfl (.tmp rfl) (.tmp rfl) (.tmp rfl)) (st' := [(b1, _)]) (.cons (by repeat (first | exact Pick.here _ _ _ | apply Pick.next)) (.nil _)) ?_
          first | exact ⟨_, rfl, rfl⟩ | (exfalso; first | contradiction | omega | exact absurd hA.1 (by assumption) | exact absurd hA.mail (by assumption) | exact absurd hA.box (by assumption))

theorem cf_impl_SendToSet (xs : List Mail) (hn : xs.length ≤ 1048576) (f s q : Int) (hA : GoodSet xs f s q) : ACalls Try.prog 37 [.sl (xs.map eMail), .int .i64 f, .int .i64 s, .int .i64 q] [] (Ret (.tup [.sl ((ssTo xs f s q 4).map eMail), .int .i64 (setCount xs f s q), .bool true])) :=
  (cy_impl_SendToSet xs hn f s q hA).freeze (by rintro _ _ ⟨_, rfl, rfl⟩; exact (.tup (.cons (.own (by repeat (first | exact List.Mem.head _ | apply List.Mem.tail)) (List.length_map _)) (.cons (.refl _) (.cons (.refl _) .nil)))))

theorem cn_impl_SendToSet (xs : List Mail) (hn : xs.length ≤ 1048576) (f s q : Int) (hA : ¬ GoodSet xs f s q) : ACalls Try.prog 37 [.sl (xs.map eMail), .int .i64 f, .int .i64 s, .int .i64 q] [] (Ret (.tup [.nil, .int .i64 0, .bool false])) := by
  refine a_enter Try.func37 rfl rfl (fun w0 M0 => ?_)
  refine a_seq ?_
  refine a_region ?_
  refine aops_cons rfl (w_pure rfl (p_assign rfl) ?_)
  refine aops_cons rfl (w_pure rfl (p_assign rfl) ?_)
  refine aops_cons rfl (w_pure rfl (p_assign rfl) ?_)
  refine aops_nil ?_
  refine a_seq ?_
  refine a_seq ?_
  refine a_region ?_
  refine aops_cons rfl (w_pure rfl (p_move rfl) ?_)
  refine aops_cons rfl (w_callR rfl rfl rfl cl_21 (c_impl_IsBox _ (by omega)) ?_)
  refine aops_cons rfl (w_pure rfl (p_not rfl) ?_)
  refine aops_cons rfl (w_pure rfl (p_move rfl) ?_)
  first | refine aops_split_d 14 rfl (fun h1 => ?_) (fun h2 => ?_) | refine aops_split 14 rfl (fun h1 => ?_) (fun h2 => ?_)
  · (try simp only [Bool.not_eq_true', Bool.not_eq_false', Bool.not_eq_true, Bool.not_eq_false, decide_eq_true_eq, decide_eq_false_iff_not, List.length_map, List.length_range] at h1)
    refine g_pass' rfl rfl rfl rfl rfl ?_
    refine g_pass' rfl rfl rfl rfl rfl ?_
    refine g_pass' rfl rfl rfl rfl rfl ?_
    refine aops_cons rfl (w_pure rfl (p_pick_t rfl rfl) ?_)
    refine aops_cons rfl (w_pure rfl (p_move rfl) ?_)
    refine g_pass' rfl rfl rfl rfl rfl ?_
    refine g_pass' rfl rfl rfl rfl rfl ?_
    refine g_pass' rfl rfl rfl rfl rfl ?_
    refine aops_cons rfl (w_pure rfl (p_pick_t rfl rfl) ?_)
    refine aops_cons rfl (w_pure rfl (p_move rfl) ?_)
    refine g_pass' rfl rfl rfl rfl rfl ?_
    refine g_pass' rfl rfl rfl rfl rfl ?_
    refine g_pass' rfl rfl rfl rfl rfl ?_
    refine aops_cons rfl (w_pure rfl (p_pick_t rfl rfl) ?_)
    refine aops_nil ?_
    refine a_cond_t rfl ?_
    refine a_seq ?_
    refine a_region ?_
    refine aops_cons rfl (w_pure rfl (p_assign rfl) ?_)
    refine aops_cons rfl (w_pure rfl (p_assign rfl) ?_)
    refine aops_cons rfl (w_pure rfl (p_assign rfl) ?_)
    refine aops_nil ?_
    refine a_ret ?_
    refine ret_ok (hands3 rfl (.tmp rfl) (.tmp rfl) (.tmp rfl)) (.nil _) ?_
    exact ⟨rfl, rfl⟩
  · (try simp only [Bool.not_eq_true', Bool.not_eq_false', Bool.not_eq_true, Bool.not_eq_false, decide_eq_true_eq, decide_eq_false_iff_not, List.length_map, List.length_range] at h2)
    refine aops_guard_t rfl rfl rfl (w_pure rfl (p_move rfl) ?_)
    refine aops_guard_t rfl rfl rfl (w_callR rfl rfl rfl cl_60 (c_impl_isCpu ..) ?_)
    refine aops_guard_t rfl rfl rfl (w_pure rfl (p_not rfl) ?_)
    refine aops_cons rfl (w_pure rfl (p_pick_f rfl rfl) ?_)
    refine aops_cons rfl (w_pure rfl (p_move rfl) ?_)
    first | refine aops_split_d 19 rfl (fun h3 => ?_) (fun h4 => ?_) | refine aops_split 19 rfl (fun h3 => ?_) (fun h4 => ?_)
    · (try simp only [Bool.not_eq_true', Bool.not_eq_false', Bool.not_eq_true, Bool.not_eq_false, decide_eq_true_eq, decide_eq_false_iff_not, List.length_map, List.length_range] at h3)
      refine g_pass' rfl rfl rfl rfl rfl ?_
      refine g_pass' rfl rfl rfl rfl rfl ?_
      refine g_pass' rfl rfl rfl rfl rfl ?_
      refine aops_cons rfl (w_pure rfl (p_pick_t rfl rfl) ?_)
      refine aops_cons rfl (w_pure rfl (p_move rfl) ?_)
      refine g_pass' rfl rfl rfl rfl rfl ?_
      refine g_pass' rfl rfl rfl rfl rfl ?_
      refine g_pass' rfl rfl rfl rfl rfl ?_
      refine aops_cons rfl (w_pure rfl (p_pick_t rfl rfl) ?_)
      refine aops_nil ?_
      refine a_cond_t rfl ?_
      refine a_seq ?_
      refine a_region ?_
      refine aops_cons rfl (w_pure rfl (p_assign rfl) ?_)
      refine aops_cons rfl (w_pure rfl (p_assign rfl) ?_)
      refine aops_cons rfl (w_pure rfl (p_assign rfl) ?_)
      refine aops_nil ?_
      refine a_ret ?_
      refine ret_ok (hands3 rfl (.tmp rfl) (.tmp rfl) (.tmp rfl)) (.nil _) ?_
      exact ⟨rfl, rfl⟩
    · (try simp only [Bool.not_eq_true', Bool.not_eq_false', Bool.not_eq_true, Bool.not_eq_false, decide_eq_true_eq, decide_eq_false_iff_not, List.length_map, List.length_range] at h4)
      refine aops_guard_t rfl rfl rfl (w_pure rfl (p_move rfl) ?_)
      refine aops_guard_t rfl rfl rfl (w_callR rfl rfl rfl cl_72 (c_impl_inside ..) ?_)
      refine aops_guard_t rfl rfl rfl (w_pure rfl (p_not rfl) ?_)
      refine aops_cons rfl (w_pure rfl (p_pick_f rfl rfl) ?_)
      refine aops_cons rfl (w_pure rfl (p_move rfl) ?_)
      first | refine aops_split_d 24 rfl (fun h5 => ?_) (fun h6 => ?_) | refine aops_split 24 rfl (fun h5 => ?_) (fun h6 => ?_)
      · (try simp only [Bool.not_eq_true', Bool.not_eq_false', Bool.not_eq_true, Bool.not_eq_false, decide_eq_true_eq, decide_eq_false_iff_not, List.length_map, List.length_range] at h5)
        refine g_pass' rfl rfl rfl rfl rfl ?_
        refine g_pass' rfl rfl rfl rfl rfl ?_
        refine g_pass' rfl rfl rfl rfl rfl ?_
        refine aops_cons rfl (w_pure rfl (p_pick_t rfl rfl) ?_)
        refine aops_nil ?_
        refine a_cond_t rfl ?_
        refine a_seq ?_
        refine a_region ?_
        refine aops_cons rfl (w_pure rfl (p_assign rfl) ?_)
        refine aops_cons rfl (w_pure rfl (p_assign rfl) ?_)
        refine aops_cons rfl (w_pure rfl (p_assign rfl) ?_)
        refine aops_nil ?_
        refine a_ret ?_
        refine ret_ok (hands3 rfl (.tmp rfl) (.tmp rfl) (.tmp rfl)) (.nil _) ?_
        exact ⟨rfl, rfl⟩
      · (try simp only [Bool.not_eq_true', Bool.not_eq_false', Bool.not_eq_true, Bool.not_eq_false, decide_eq_true_eq, decide_eq_false_iff_not, List.length_map, List.length_range] at h6)
        refine aops_guard_t rfl rfl rfl (w_pure rfl (p_move rfl) ?_)
        refine aops_guard_t rfl rfl rfl (w_callR rfl rfl rfl cl_61 (c_impl_isMailIrq ..) ?_)
        refine aops_guard_t rfl rfl rfl (w_pure rfl (p_not rfl) ?_)
        refine aops_cons rfl (w_pure rfl (p_pick_f rfl rfl) ?_)
        refine aops_nil ?_
        first | refine a_cond_d rfl (fun h7 => ?_) (fun h8 => ?_) | refine a_cond_n rfl (fun h7 => ?_) (fun h8 => ?_) | refine a_cond_nb rfl (fun h7 => ?_) (fun h8 => ?_) | refine a_cond rfl (fun h7 => ?_) (fun h8 => ?_)
        · (try simp only [Bool.not_eq_true', Bool.not_eq_false', Bool.not_eq_true, Bool.not_eq_false, decide_eq_true_eq, decide_eq_false_iff_not, List.length_map, List.length_range] at h7)
          refine a_seq ?_
          refine a_region ?_
          refine aops_cons rfl (w_pure rfl (p_assign rfl) ?_)
          refine aops_cons rfl (w_pure rfl (p_assign rfl) ?_)
          refine aops_cons rfl (w_pure rfl (p_assign rfl) ?_)
          refine aops_nil ?_
          refine a_ret ?_
          refine ret_ok (hands3 rfl (.tmp rfl) (.tmp rfl) (.tmp rfl)) (.nil _) ?_
          exact ⟨rfl, rfl⟩
        · (try simp only [Bool.not_eq_true', Bool.not_eq_false', Bool.not_eq_true, Bool.not_eq_false, decide_eq_true_eq, decide_eq_false_iff_not, List.length_map, List.length_range] at h8)
          refine a_skip ?_
          refine a_seq ?_
          refine a_region ?_
          refine aops_cons rfl (w_pure rfl (p_move rfl) ?_)
          refine aops_cons rfl (w_pure rfl (p_move rfl) ?_)
          refine aops_cons rfl (w_pure rfl (p_move rfl) ?_)
          refine aops_cons rfl (w_pure rfl (p_move rfl) ?_)
          refine aops_cons rfl (w_callR rfl rfl rfl cl_73 (c_impl_mailsTo _ _ _) ?_)
          refine aops_cons rfl (w_callR rfl rfl rfl cl_66 (cn_impl_sendAll xs (setMails f s q 4) (by have q1 := ‹IsBox xs›.2; omega) (by have := setMails_len f s q 4; omega) (by rw [(allTo_set xs f s q 4)]; exact Nat.lt_of_not_le (fun h => hA ⟨by assumption, by omega, by omega, by omega, h⟩))) ?_)
          refine aops_cons rfl (w_pure rfl (p_extract rfl rfl) ?_)
          refine aops_cons rfl (w_pure rfl (p_extract rfl rfl) ?_)
          refine aops_cons rfl (w_pure rfl (p_extract rfl rfl) ?_)
          refine aops_cons rfl (w_pure rfl (p_assign rfl) ?_)
          refine aops_cons rfl (w_pure rfl (p_assign rfl) ?_)
          refine aops_cons rfl (w_pure rfl (p_assign rfl) ?_)
          refine aops_nil ?_
          refine a_ret ?_
          refine ret_ok (hands3 rfl (.tmp rfl) (.tmp rfl) (.tmp rfl)) (.nil _) ?_
          exact ⟨rfl, rfl⟩

set_option maxHeartbeats 2000000 in
theorem c_laws_FnExactSendToSet (xs : List Mail) (_hc0 : (∀ x ∈ xs, okMail x) ∧ xs.length ≤ maxLen) (f : Int) (_hc1 : InI f) (s : Int) (_hc2 : InI s) (q : Int) (_hc3 : InI q) : ACalls Try.prog 9 [.sl (xs.map eMail), .int .i64 f, .int .i64 s, .int .i64 q] [] (Ret (.bool true)) := by
  have hm0 : xs.length ≤ 9223372036854775807 := _hc0.2
  by_cases hA : GoodSet xs f s q
  all_goals refine a_enter Try.func9 rfl rfl (fun w0 M0 => ?_)
  · skip
    refine a_seq ?_
    refine a_region ?_
    refine aops_cons rfl (w_pure rfl (p_assign rfl) ?_)
    refine aops_nil ?_
    refine a_seq ?_
    refine a_region ?_
    refine aops_cons rfl (w_pure rfl (p_assign rfl) ?_)
    refine aops_nil ?_
    refine a_seq ?_
    refine a_region ?_
    refine aops_cons rfl (w_pure rfl (p_move rfl) ?_)
    refine aops_cons rfl (w_pure rfl (p_move rfl) ?_)
    refine aops_cons rfl (w_callR rfl rfl rfl cl_18 (c_laws_szMailS _ ‹_› _ (by omega) (by omega)) ?_)
    refine aops_cons rfl (w_pure rfl (p_assign rfl) ?_)
    refine aops_nil ?_
    refine a_seq ?_
    refine a_seq ?_
    refine a_region ?_
    refine aops_cons rfl (w_pure rfl (p_move rfl) ?_)
    refine aops_cons rfl (w_pure rfl (p_lss rfl rfl) ?_)
    refine aops_nil ?_
    first | refine a_cond_d rfl (fun h1 => ?_) (fun h2 => ?_) | refine a_cond_n rfl (fun h1 => ?_) (fun h2 => ?_) | refine a_cond_nb rfl (fun h1 => ?_) (fun h2 => ?_) | refine a_cond rfl (fun h1 => ?_) (fun h2 => ?_)
    · (try simp only [Bool.not_eq_true', Bool.not_eq_false', Bool.not_eq_true, Bool.not_eq_false, decide_eq_true_eq, decide_eq_false_iff_not, List.length_map, List.length_range] at h1)
      refine a_seq ?_
      refine a_region ?_
      refine aops_cons rfl (w_pure rfl (p_assign rfl) ?_)
      refine aops_nil ?_
      refine a_ret ?_
      refine ret_ok (hands1 rfl (.tmp rfl)) (.nil _) ?_
      first | exact ⟨rfl, rfl⟩ | (exfalso; omega)
    · (try simp only [Bool.not_eq_true', Bool.not_eq_false', Bool.not_eq_true, Bool.not_eq_false, decide_eq_true_eq, decide_eq_false_iff_not, List.length_map, List.length_range] at h2)
      refine a_skip ?_
      refine a_seq ?_
      have hl0' : (xs.length : Int) ≤ 1048576 := szv_le ‹_›; have hb0 := szv_b (n := xs.length) (left := 1048576) (by first | omega | exact Int.not_lt.1 ‹_›); have hl0 : xs.length ≤ 1048576 := (by omega); have hr0 : (ssTo xs f s q 4).length ≤ 1048576 := (by have q1 := hA.1.2; have q2 := ssTo_len xs f s q 4; omega)
      refine a_region ?_
      refine aops_cons rfl (w_pure rfl (p_move rfl) ?_)
      refine aops_cons rfl (w_callR rfl rfl rfl cl_20 (c_laws_toMailS xs hl0) ?_)
      refine aops_cons rfl (w_pure rfl (p_move rfl) ?_)
      refine aops_cons rfl (w_pure rfl (p_move rfl) ?_)
      refine aops_cons rfl (w_pure rfl (p_move rfl) ?_)
      refine aops_cons rfl (w_callR rfl rfl rfl cl_36 (cy_spec_SendToSet xs hl0 f s q hA) ?_)
      refine aops_cons rfl (w_pure rfl (p_move rfl) ?_)
      refine aops_cons rfl (w_pure rfl (p_extract rfl rfl) ?_)
      refine aops_cons rfl (w_pure rfl (p_extract rfl rfl) ?_)
      refine aops_cons rfl (w_pure rfl (p_extract rfl rfl) ?_)
      refine aops_cons rfl (w_pure rfl (p_assign rfl) ?_)
      refine aops_cons rfl (w_pure rfl (p_assign rfl) ?_)
      refine aops_cons rfl (w_pure rfl (p_assign rfl) ?_)
      refine aops_nil ?_
      refine a_seq ?_
      refine a_region ?_
      refine aops_cons rfl (w_pure rfl (p_move rfl) ?_)
      refine aops_cons rfl (w_call rfl rfl rfl cl_20 ((co_laws_toMailS xs hl0).mono fun _ _ h => h.len) ?_)
      rintro _ _ ⟨b1, rfl, rfl⟩
      refine aops_cons rfl (w_pure rfl (p_assign rfl) ?_)
      refine aops_nil ?_
      refine a_seq ?_
      refine a_region ?_
      refine aops_cons rfl (w_pure rfl (p_move rfl) ?_)
      refine aops_cons rfl (w_pure rfl (p_move rfl) ?_)
      refine aops_cons rfl (w_pure rfl (p_move rfl) ?_)
      refine aops_cons rfl (w_pure rfl (p_move rfl) ?_)
      refine aops_cons rfl (w_callL rfl rfl rfl cl_37 (.cons (.own (by repeat (first | exact List.Mem.head _ | apply List.Mem.tail)) (by first | (simp; done) | (simp [mkL]; done))) (.cons (.refl _) (.cons (.refl _) (.cons (.refl _) .nil)))) (cy_impl_SendToSet xs hl0 f s q hA) ?_)
      rintro _ _ ⟨b2, rfl, rfl⟩
      refine ⟨(closed_tup (all_cons' (closed_own _ _ _ _) (all_cons' (closed_int _ _) (all_cons' (closed_bool _) all_nil')))), (closedS_cons (closedAll _ _ _ _ cl_eMail) closedS_nil), ?_⟩
      refine aops_cons rfl (w_pure rfl (p_move rfl) ?_)
      refine aops_cons rfl (w_pure rfl (p_extract rfl rfl) ?_)
      refine aops_cons rfl (w_pure rfl (p_extract rfl rfl) ?_)
      refine aops_cons rfl (w_pure rfl (p_extract rfl rfl) ?_)
      refine aops_cons rfl (w_pure rfl (p_assign rfl) ?_)
      refine aops_cons rfl (w_pure rfl (p_assign rfl) ?_)
      refine aops_cons rfl (w_pure rfl (p_assign rfl) ?_)
      refine aops_nil ?_
      refine a_seq ?_
      refine a_seq ?_
      refine a_region ?_
      refine aops_cons rfl (w_pure rfl (p_move rfl) ?_)
      refine aops_cons rfl (w_pure rfl (p_move rfl) ?_)
      refine aops_cons rfl (w_callLR rfl rfl rfl cl_22 (.cons (.own (by repeat (first | exact List.Mem.head _ | apply List.Mem.tail)) (by first | (simp; done) | (simp [mkL]; done))) (.cons (.refl _) .nil)) (c_laws_eqMailS (ssTo xs f s q 4) (by have q1 := hA.1.2; have q2 := ssTo_len xs f s q 4; omega)) (closed_bool _) ?_)
      refine aops_cons rfl (w_pure rfl (p_not rfl) ?_)
      refine aops_cons rfl (w_pure rfl (p_move rfl) ?_)
      refine aops_guard_t rfl rfl rfl (w_pure rfl (p_move rfl) ?_)
      refine aops_guard_t rfl rfl rfl (w_pure rfl (p_move rfl) ?_)
      refine aops_guard_t rfl rfl rfl (w_pure rfl (p_neq_same rfl rfl) ?_)
      refine aops_cons rfl (w_pure rfl (p_pick_f rfl rfl) ?_)
      refine aops_cons rfl (w_pure rfl (p_move rfl) ?_)
      refine aops_guard_t rfl rfl rfl (w_pure rfl (p_move rfl) ?_)
      refine aops_guard_t rfl rfl rfl (w_pure rfl (p_move rfl) ?_)
      refine aops_guard_t rfl rfl rfl (w_pure rfl (p_neq_bsame um_4 rfl rfl) ?_)
      refine aops_cons rfl (w_pure rfl (p_pick_f rfl rfl) ?_)
      refine aops_nil ?_
      refine a_cond_f rfl ?_
      refine a_skip ?_
      refine a_seq ?_
      refine a_seq ?_
      refine a_region ?_
      refine aops_cons rfl (w_pure rfl (p_move rfl) ?_)
      refine aops_cons rfl (w_pure rfl (p_move rfl) ?_)
      refine aops_cons rfl (w_callR rfl rfl rfl cl_20 (c_laws_toMailS xs hl0) ?_)
      refine aops_cons rfl (w_callLR rfl rfl rfl cl_22 (.cons (.own (by repeat (first | exact List.Mem.head _ | apply List.Mem.tail)) (by first | (simp; done) | (simp [mkL]; done))) (.cons (.refl _) .nil)) (c_laws_eqMailS xs hl0) (closed_bool _) ?_)
      refine aops_cons rfl (w_pure rfl (p_not rfl) ?_)
      refine aops_nil ?_
      refine a_cond_f rfl ?_
      refine a_skip ?_
      refine a_seq ?_
      refine a_region ?_
      refine aops_cons rfl (w_pure rfl (p_assign rfl) ?_)
      refine aops_nil ?_
      refine a_seq ?_
      refine a_region ?_
      refine aops_cons rfl (w_pure rfl (p_move rfl) ?_)
      refine aops_cons rfl (w_pure rfl (p_move rfl) ?_)
      refine aops_cons rfl (w_callM rfl rfl rfl cl_27 (.cons (by repeat (first | exact Pick.here _ _ _ | apply Pick.next)) (.nil _)) (.cons (.refl _) (.cons (.refl _) .nil)) (c_laws_markMailS _ xs hl0 _ (by omega) (by omega)) trivial ?_)
      rintro _ _ ⟨rfl, rfl⟩
      refine ⟨(closed_int _ _), (closedS_cons (closedAll _ _ _ _ cl_eMail) closedS_nil), ?_⟩
      refine aops_cons rfl (w_pure rfl (p_assign rfl) ?_)
      refine aops_nil ?_
      refine a_seq ?_
      refine a_seq ?_
      refine a_region ?_
      refine aops_cons rfl (w_pure rfl (p_move rfl) ?_)
      refine aops_cons rfl (w_pure rfl (p_lss rfl rfl) ?_)
      refine aops_cons rfl (w_pure rfl (p_move rfl) ?_)
      first | refine aops_split_d 73 rfl (fun h3 => ?_) (fun h4 => ?_) | refine aops_split 73 rfl (fun h3 => ?_) (fun h4 => ?_)
      · (try simp only [Bool.not_eq_true', Bool.not_eq_false', Bool.not_eq_true, Bool.not_eq_false, decide_eq_true_eq, decide_eq_false_iff_not, List.length_map, List.length_range] at h3)
        refine g_pass' rfl rfl rfl rfl rfl ?_
        refine g_pass' rfl rfl rfl rfl rfl ?_
        refine g_pass' rfl rfl rfl rfl rfl ?_
        refine g_pass' rfl rfl rfl rfl rfl ?_
        refine aops_cons rfl (w_pure rfl (p_pick_t rfl rfl) ?_)
        refine aops_cons rfl (w_pure rfl (p_move rfl) ?_)
        refine g_pass' rfl rfl rfl rfl rfl ?_
        refine g_pass' rfl rfl rfl rfl rfl ?_
        refine g_pass' rfl rfl rfl rfl rfl ?_
        refine aops_cons rfl (w_pure rfl (p_pick_t rfl rfl) ?_)
        refine aops_cons rfl (w_pure rfl (p_move rfl) ?_)
        refine g_pass' rfl rfl rfl rfl rfl ?_
        refine g_pass' rfl rfl rfl rfl rfl ?_
        refine g_pass' rfl rfl rfl rfl rfl ?_
        refine aops_cons rfl (w_pure rfl (p_pick_t rfl rfl) ?_)
        refine aops_nil ?_
        refine a_cond_t rfl ?_
        refine a_seq ?_
        refine a_region ?_
        refine aops_cons rfl (w_pure rfl (p_assign rfl) ?_)
        refine aops_nil ?_
        refine a_ret ?_
        refine ret_ok (hands1 rfl (.tmp rfl)) (.nil _) ?_
        first | exact ⟨rfl, rfl⟩ | (exfalso; omega)
      · (try simp only [Bool.not_eq_true', Bool.not_eq_false', Bool.not_eq_true, Bool.not_eq_false, decide_eq_true_eq, decide_eq_false_iff_not, List.length_map, List.length_range] at h4)
        refine aops_guard_t rfl rfl rfl (w_pure rfl (p_move rfl) ?_)
        refine aops_guard_t rfl rfl rfl (w_pure rfl (p_move rfl) ?_)
        refine aops_guard_t rfl rfl rfl (w_callLR rfl rfl rfl cl_22 (.cons (.own (by repeat (first | exact List.Mem.head _ | apply List.Mem.tail)) (by first | (simp; done) | (simp [mkL]; done))) (.cons (.refl _) .nil)) (c_laws_eqMailS (ssTo xs f s q 4) (by have q1 := hA.1.2; have q2 := ssTo_len xs f s q 4; omega)) (closed_bool _) ?_)
        refine aops_guard_t rfl rfl rfl (w_pure rfl (p_not rfl) ?_)
        refine aops_cons rfl (w_pure rfl (p_pick_f rfl rfl) ?_)
        refine aops_cons rfl (w_pure rfl (p_move rfl) ?_)
        refine aops_guard_t rfl rfl rfl (w_pure rfl (p_move rfl) ?_)
        refine aops_guard_t rfl rfl rfl (w_pure rfl (p_move rfl) ?_)
        refine aops_guard_t rfl rfl rfl (w_pure rfl (p_neq_same rfl rfl) ?_)
        refine aops_cons rfl (w_pure rfl (p_pick_f rfl rfl) ?_)
        refine aops_cons rfl (w_pure rfl (p_move rfl) ?_)
        refine aops_guard_t rfl rfl rfl (w_pure rfl (p_move rfl) ?_)
        refine aops_guard_t rfl rfl rfl (w_pure rfl (p_move rfl) ?_)
        refine aops_guard_t rfl rfl rfl (w_pure rfl (p_neq_bsame um_4 rfl rfl) ?_)
        refine aops_cons rfl (w_pure rfl (p_pick_f rfl rfl) ?_)
        refine aops_nil ?_
        refine a_cond_f rfl ?_
        refine a_skip ?_
        refine a_seq ?_
        refine a_region ?_
        refine aops_cons rfl (w_pure rfl (p_assign rfl) ?_)
        refine aops_nil ?_
        refine a_seq ?_
        refine a_region ?_
        refine aops_cons rfl (w_pure rfl (p_move rfl) ?_)
        refine aops_cons rfl (w_pure rfl (p_move rfl) ?_)
        refine aops_cons rfl (w_callM rfl rfl rfl cl_27 (.cons (by repeat (first | exact Pick.here _ _ _ | apply Pick.next)) (.nil _)) (.cons (.refl _) (.cons (.refl _) .nil)) (c_laws_markMailS _ (ssTo xs f s q 4) (by have q1 := hA.1.2; have q2 := ssTo_len xs f s q 4; omega) _ (by omega) (by omega)) trivial ?_)
        rintro _ _ ⟨rfl, rfl⟩
        refine ⟨(closed_int _ _), (closedS_cons (closedAll _ _ _ _ cl_eMail) closedS_nil), ?_⟩
        refine aops_cons rfl (w_pure rfl (p_assign rfl) ?_)
        refine aops_nil ?_
        refine a_seq ?_
        refine a_region ?_
        refine aops_cons rfl (w_pure rfl (p_assign rfl) ?_)
        refine aops_nil ?_
        refine a_seq ?_
        refine a_region ?_
        refine aops_cons rfl (w_pure rfl (p_move rfl) ?_)
        refine aops_cons rfl (w_pure rfl (p_move rfl) ?_)
        refine aops_cons rfl (w_callLR rfl rfl rfl cl_28 (.cons (.own (by repeat (first | exact List.Mem.head _ | apply List.Mem.tail)) (by first | (simp; done) | (simp [mkL]; done))) (.cons (.refl _) .nil)) (c_laws_heldMailS (ssTo xs f s q 4).length (by have q1 := hA.1.2; have q2 := ssTo_len xs f s q 4; omega) _ (by omega) (by omega)) (closed_int _ _) ?_)
        refine aops_cons rfl (w_pure rfl (p_assign rfl) ?_)
        refine aops_nil ?_
        refine a_seq ?_
        refine a_seq ?_
        refine a_region ?_
        refine aops_cons rfl (w_pure rfl (p_move rfl) ?_)
        refine aops_cons rfl (w_pure rfl (p_lss rfl rfl) ?_)
        refine aops_nil ?_
        first | refine a_cond_d rfl (fun h5 => ?_) (fun h6 => ?_) | refine a_cond_n rfl (fun h5 => ?_) (fun h6 => ?_) | refine a_cond_nb rfl (fun h5 => ?_) (fun h6 => ?_) | refine a_cond rfl (fun h5 => ?_) (fun h6 => ?_)
        · (try simp only [Bool.not_eq_true', Bool.not_eq_false', Bool.not_eq_true, Bool.not_eq_false, decide_eq_true_eq, decide_eq_false_iff_not, List.length_map, List.length_range] at h5)
          refine a_seq ?_
          refine a_region ?_
          refine aops_cons rfl (w_pure rfl (p_assign rfl) ?_)
          refine aops_nil ?_
          refine a_ret ?_
          refine ret_ok (hands1 rfl (.tmp rfl)) (.nil _) ?_
          first | exact ⟨rfl, rfl⟩ | (exfalso; omega)
        · (try simp only [Bool.not_eq_true', Bool.not_eq_false', Bool.not_eq_true, Bool.not_eq_false, decide_eq_true_eq, decide_eq_false_iff_not, List.length_map, List.length_range] at h6)
          refine a_skip ?_
          refine a_seq ?_
          refine a_seq ?_
          refine a_region ?_
          refine aops_cons rfl (w_pure rfl (p_move rfl) ?_)
          refine aops_cons rfl (w_pure rfl (p_move rfl) ?_)
          refine aops_cons rfl (w_pure rfl (p_neq_same rfl rfl) ?_)
          refine aops_nil ?_
          refine a_cond_f rfl ?_
          refine a_skip ?_
          refine a_seq ?_
          refine a_region ?_
          refine aops_cons rfl (w_pure rfl (p_move rfl) ?_)
          refine aops_cons rfl (w_callR rfl rfl rfl cl_20 (c_laws_toMailS xs hl0) ?_)
          refine aops_cons rfl (w_pure rfl (p_move rfl) ?_)
          refine aops_cons rfl (w_pure rfl (p_move rfl) ?_)
          refine aops_cons rfl (w_pure rfl (p_move rfl) ?_)
          refine aops_cons rfl (w_callR rfl rfl rfl cl_37 (cf_impl_SendToSet xs hl0 f s q hA) ?_)
          refine aops_cons rfl (w_pure rfl (p_move rfl) ?_)
          refine aops_cons rfl (w_pure rfl (p_extract rfl rfl) ?_)
          refine aops_cons rfl (w_pure rfl (p_extract rfl rfl) ?_)
          refine aops_cons rfl (w_pure rfl (p_extract rfl rfl) ?_)
          refine aops_cons rfl (w_pure rfl (p_assign rfl) ?_)
          refine aops_cons rfl (w_pure rfl (p_assign rfl) ?_)
          refine aops_cons rfl (w_pure rfl (p_assign rfl) ?_)
          refine aops_nil ?_
          refine a_seq ?_
          refine a_seq ?_
          refine a_region ?_
          refine aops_cons rfl (w_pure rfl (p_move rfl) ?_)
          refine aops_cons rfl (w_pure rfl (p_move rfl) ?_)
          refine aops_cons rfl (w_callLR rfl rfl rfl cl_22 (.cons (.refl _) (.cons (.refl _) .nil)) (c_laws_eqMailS (ssTo xs f s q 4) (by have q1 := hA.1.2; have q2 := ssTo_len xs f s q 4; omega)) (closed_bool _) ?_)
          refine aops_cons rfl (w_pure rfl (p_not rfl) ?_)
          refine aops_cons rfl (w_pure rfl (p_move rfl) ?_)
          refine aops_guard_t rfl rfl rfl (w_pure rfl (p_move rfl) ?_)
          refine aops_guard_t rfl rfl rfl (w_pure rfl (p_move rfl) ?_)
          refine aops_guard_t rfl rfl rfl (w_pure rfl (p_neq_same rfl rfl) ?_)
          refine aops_cons rfl (w_pure rfl (p_pick_f rfl rfl) ?_)
          refine aops_cons rfl (w_pure rfl (p_move rfl) ?_)
          refine aops_guard_t rfl rfl rfl (w_pure rfl (p_move rfl) ?_)
          refine aops_guard_t rfl rfl rfl (w_pure rfl (p_move rfl) ?_)
          refine aops_guard_t rfl rfl rfl (w_pure rfl (p_neq_bsame um_4 rfl rfl) ?_)
          refine aops_cons rfl (w_pure rfl (p_pick_f rfl rfl) ?_)
          refine aops_nil ?_
          refine a_cond_f rfl ?_
          refine a_skip ?_
          refine a_seq ?_
          refine a_region ?_
          refine aops_cons rfl (w_pure rfl (p_assign rfl) ?_)
          refine aops_nil ?_
          refine a_seq ?_
          refine a_region ?_
          refine aops_cons rfl (w_pure rfl (p_move rfl) ?_)
          refine aops_cons rfl (w_pure rfl (p_move rfl) ?_)
          refine aops_cons rfl (w_callLR rfl rfl rfl cl_28 (.cons (.own (by repeat (first | exact List.Mem.head _ | apply List.Mem.tail)) (by first | (simp; done) | (simp [mkL]; done))) (.cons (.refl _) .nil)) (c_laws_heldMailS (ssTo xs f s q 4).length (by have q1 := hA.1.2; have q2 := ssTo_len xs f s q 4; omega) _ (by omega) (by omega)) (closed_int _ _) ?_)
          refine aops_cons rfl (w_pure rfl (p_assign rfl) ?_)
          refine aops_nil ?_
          refine a_seq ?_
          refine a_seq ?_
          refine a_region ?_
          refine aops_cons rfl (w_pure rfl (p_move rfl) ?_)
          refine aops_cons rfl (w_pure rfl (p_lss rfl rfl) ?_)
          refine aops_nil ?_
          first | refine a_cond_d rfl (fun h7 => ?_) (fun h8 => ?_) | refine a_cond_n rfl (fun h7 => ?_) (fun h8 => ?_) | refine a_cond_nb rfl (fun h7 => ?_) (fun h8 => ?_) | refine a_cond rfl (fun h7 => ?_) (fun h8 => ?_)
          · (try simp only [Bool.not_eq_true', Bool.not_eq_false', Bool.not_eq_true, Bool.not_eq_false, decide_eq_true_eq, decide_eq_false_iff_not, List.length_map, List.length_range] at h7)
            refine a_seq ?_
            refine a_region ?_
            refine aops_cons rfl (w_pure rfl (p_assign rfl) ?_)
            refine aops_nil ?_
            refine a_ret ?_
            refine ret_ok (hands1 rfl (.tmp rfl)) (.nil _) ?_
            first | exact ⟨rfl, rfl⟩ | (exfalso; omega)
          · (try simp only [Bool.not_eq_true', Bool.not_eq_false', Bool.not_eq_true, Bool.not_eq_false, decide_eq_true_eq, decide_eq_false_iff_not, List.length_map, List.length_range] at h8)
            refine a_skip ?_
            refine a_seq ?_
            refine a_seq ?_
            refine a_region ?_
            refine aops_cons rfl (w_pure rfl (p_move rfl) ?_)
            refine aops_cons rfl (w_pure rfl (p_move rfl) ?_)
            refine aops_cons rfl (w_pure rfl (p_neq_same rfl rfl) ?_)
            refine aops_nil ?_
            refine a_cond_f rfl ?_
            refine a_skip ?_
            refine a_seq ?_
            refine a_region ?_
            refine aops_cons rfl (w_pure rfl (p_assign rfl) ?_)
            refine aops_nil ?_
            refine a_ret ?_
            refine ret_ok (hands1 rfl (.tmp rfl)) (.nil _) ?_
            first | exact ⟨rfl, rfl⟩ | (exfalso; omega)
  · skip
    refine a_seq ?_
    refine a_region ?_
    refine aops_cons rfl (w_pure rfl (p_assign rfl) ?_)
    refine aops_nil ?_
    refine a_seq ?_
    refine a_region ?_
    refine aops_cons rfl (w_pure rfl (p_assign rfl) ?_)
    refine aops_nil ?_
    refine a_seq ?_
    refine a_region ?_
    refine aops_cons rfl (w_pure rfl (p_move rfl) ?_)
    refine aops_cons rfl (w_pure rfl (p_move rfl) ?_)
    refine aops_cons rfl (w_callR rfl rfl rfl cl_18 (c_laws_szMailS _ ‹_› _ (by omega) (by omega)) ?_)
    refine aops_cons rfl (w_pure rfl (p_assign rfl) ?_)
    refine aops_nil ?_
    refine a_seq ?_
    refine a_seq ?_
    refine a_region ?_
    refine aops_cons rfl (w_pure rfl (p_move rfl) ?_)
    refine aops_cons rfl (w_pure rfl (p_lss rfl rfl) ?_)
    refine aops_nil ?_
    first | refine a_cond_d rfl (fun h1 => ?_) (fun h2 => ?_) | refine a_cond_n rfl (fun h1 => ?_) (fun h2 => ?_) | refine a_cond_nb rfl (fun h1 => ?_) (fun h2 => ?_) | refine a_cond rfl (fun h1 => ?_) (fun h2 => ?_)
    · (try simp only [Bool.not_eq_true', Bool.not_eq_false', Bool.not_eq_true, Bool.not_eq_false, decide_eq_true_eq, decide_eq_false_iff_not, List.length_map, List.length_range] at h1)
      refine a_seq ?_
      refine a_region ?_
      refine aops_cons rfl (w_pure rfl (p_assign rfl) ?_)
      refine aops_nil ?_
      refine a_ret ?_
      refine ret_ok (hands1 rfl (.tmp rfl)) (.nil _) ?_
      first | exact ⟨rfl, rfl⟩ | (exfalso; omega)
    · (try simp only [Bool.not_eq_true', Bool.not_eq_false', Bool.not_eq_true, Bool.not_eq_false, decide_eq_true_eq, decide_eq_false_iff_not, List.length_map, List.length_range] at h2)
      refine a_skip ?_
      refine a_seq ?_
      have hl0' : (xs.length : Int) ≤ 1048576 := szv_le ‹_›; have hb0 := szv_b (n := xs.length) (left := 1048576) (by first | omega | exact Int.not_lt.1 ‹_›); have hl0 : xs.length ≤ 1048576 := (by omega)
      refine a_region ?_
      refine aops_cons rfl (w_pure rfl (p_move rfl) ?_)
      refine aops_cons rfl (w_callR rfl rfl rfl cl_20 (c_laws_toMailS xs hl0) ?_)
      refine aops_cons rfl (w_pure rfl (p_move rfl) ?_)
      refine aops_cons rfl (w_pure rfl (p_move rfl) ?_)
      refine aops_cons rfl (w_pure rfl (p_move rfl) ?_)
      refine aops_cons rfl (w_callR rfl rfl rfl cl_36 (cn_spec_SendToSet xs hl0 f s q hA) ?_)
      refine aops_cons rfl (w_pure rfl (p_move rfl) ?_)
      refine aops_cons rfl (w_pure rfl (p_extract rfl rfl) ?_)
      refine aops_cons rfl (w_pure rfl (p_extract rfl rfl) ?_)
      refine aops_cons rfl (w_pure rfl (p_extract rfl rfl) ?_)
      refine aops_cons rfl (w_pure rfl (p_assign rfl) ?_)
      refine aops_cons rfl (w_pure rfl (p_assign rfl) ?_)
      refine aops_cons rfl (w_pure rfl (p_assign rfl) ?_)
      refine aops_nil ?_
      refine a_seq ?_
      refine a_region ?_
      refine aops_cons rfl (w_pure rfl (p_move rfl) ?_)
      refine aops_cons rfl (w_call rfl rfl rfl cl_20 ((co_laws_toMailS xs hl0).mono fun _ _ h => h.len) ?_)
      rintro _ _ ⟨b1, rfl, rfl⟩
      refine aops_cons rfl (w_pure rfl (p_assign rfl) ?_)
      refine aops_nil ?_
      refine a_seq ?_
      refine a_region ?_
      refine aops_cons rfl (w_pure rfl (p_move rfl) ?_)
      refine aops_cons rfl (w_pure rfl (p_move rfl) ?_)
      refine aops_cons rfl (w_pure rfl (p_move rfl) ?_)
      refine aops_cons rfl (w_pure rfl (p_move rfl) ?_)
      refine aops_cons rfl (w_callLR rfl rfl rfl cl_37 (.cons (.own (by repeat (first | exact List.Mem.head _ | apply List.Mem.tail)) (by first | (simp; done) | (simp [mkL]; done))) (.cons (.refl _) (.cons (.refl _) (.cons (.refl _) .nil)))) (cn_impl_SendToSet xs hl0 f s q hA) (closed_tup (all_cons' closed_nil (all_cons' (closed_int _ _) (all_cons' (closed_bool _) all_nil')))) ?_)
      refine aops_cons rfl (w_pure rfl (p_move rfl) ?_)
      refine aops_cons rfl (w_pure rfl (p_extract rfl rfl) ?_)
      refine aops_cons rfl (w_pure rfl (p_extract rfl rfl) ?_)
      refine aops_cons rfl (w_pure rfl (p_extract rfl rfl) ?_)
      refine aops_cons rfl (w_pure rfl (p_assign rfl) ?_)
      refine aops_cons rfl (w_pure rfl (p_assign rfl) ?_)
      refine aops_cons rfl (w_pure rfl (p_assign rfl) ?_)
      refine aops_nil ?_
      refine a_seq ?_
      refine a_seq ?_
      refine a_region ?_
      refine aops_cons rfl (w_pure rfl (p_move rfl) ?_)
      refine aops_cons rfl (w_pure rfl (p_move rfl) ?_)
      refine aops_cons rfl (w_callLR rfl rfl rfl cl_22 (.cons .nil (.cons (.refl _) .nil)) (c_laws_eqMailS ([] : List Mail) (by first | decide | (simp; done) | exact ⟨by decide, by decide⟩)) (closed_bool _) ?_)
      refine aops_cons rfl (w_pure rfl (p_not rfl) ?_)
      refine aops_cons rfl (w_pure rfl (p_move rfl) ?_)
      refine aops_guard_t rfl rfl rfl (w_pure rfl (p_move rfl) ?_)
      refine aops_guard_t rfl rfl rfl (w_pure rfl (p_move rfl) ?_)
      refine aops_guard_t rfl rfl rfl (w_pure rfl (p_neq_same rfl rfl) ?_)
      refine aops_cons rfl (w_pure rfl (p_pick_f rfl rfl) ?_)
      refine aops_cons rfl (w_pure rfl (p_move rfl) ?_)
      refine aops_guard_t rfl rfl rfl (w_pure rfl (p_move rfl) ?_)
      refine aops_guard_t rfl rfl rfl (w_pure rfl (p_move rfl) ?_)
      refine aops_guard_t rfl rfl rfl (w_pure rfl (p_neq_bsame um_4 rfl rfl) ?_)
      refine aops_cons rfl (w_pure rfl (p_pick_f rfl rfl) ?_)
      refine aops_nil ?_
      refine a_cond_f rfl ?_
      refine a_skip ?_
      refine a_seq ?_
      refine a_seq ?_
      refine a_region ?_
      refine aops_cons rfl (w_pure rfl (p_move rfl) ?_)
      refine aops_cons rfl (w_pure rfl (p_move rfl) ?_)
      refine aops_cons rfl (w_callR rfl rfl rfl cl_20 (c_laws_toMailS xs hl0) ?_)
      refine aops_cons rfl (w_callLR rfl rfl rfl cl_22 (.cons (.own (by repeat (first | exact List.Mem.head _ | apply List.Mem.tail)) (by first | (simp; done) | (simp [mkL]; done))) (.cons (.refl _) .nil)) (c_laws_eqMailS xs hl0) (closed_bool _) ?_)
      refine aops_cons rfl (w_pure rfl (p_not rfl) ?_)
      refine aops_nil ?_
      refine a_cond_f rfl ?_
      refine a_skip ?_
      refine a_seq ?_
      refine a_region ?_
      refine aops_cons rfl (w_pure rfl (p_assign rfl) ?_)
      refine aops_nil ?_
      refine a_seq ?_
      refine a_region ?_
      refine aops_cons rfl (w_pure rfl (p_move rfl) ?_)
      refine aops_cons rfl (w_pure rfl (p_move rfl) ?_)
      refine aops_cons rfl (w_callM rfl rfl rfl cl_27 (.cons (by repeat (first | exact Pick.here _ _ _ | apply Pick.next)) (.nil _)) (.cons (.refl _) (.cons (.refl _) .nil)) (c_laws_markMailS _ xs hl0 _ (by omega) (by omega)) trivial ?_)
      rintro _ _ ⟨rfl, rfl⟩
      refine ⟨(closed_int _ _), (closedS_cons (closedAll _ _ _ _ cl_eMail) closedS_nil), ?_⟩
      refine aops_cons rfl (w_pure rfl (p_assign rfl) ?_)
      refine aops_nil ?_
      refine a_seq ?_
      refine a_seq ?_
      refine a_region ?_
      refine aops_cons rfl (w_pure rfl (p_move rfl) ?_)
      refine aops_cons rfl (w_pure rfl (p_lss rfl rfl) ?_)
      refine aops_cons rfl (w_pure rfl (p_move rfl) ?_)
      first | refine aops_split_d 73 rfl (fun h3 => ?_) (fun h4 => ?_) | refine aops_split 73 rfl (fun h3 => ?_) (fun h4 => ?_)
      · (try simp only [Bool.not_eq_true', Bool.not_eq_false', Bool.not_eq_true, Bool.not_eq_false, decide_eq_true_eq, decide_eq_false_iff_not, List.length_map, List.length_range] at h3)
        refine g_pass' rfl rfl rfl rfl rfl ?_
        refine g_pass' rfl rfl rfl rfl rfl ?_
        refine g_pass' rfl rfl rfl rfl rfl ?_
        refine g_pass' rfl rfl rfl rfl rfl ?_
        refine aops_cons rfl (w_pure rfl (p_pick_t rfl rfl) ?_)
        refine aops_cons rfl (w_pure rfl (p_move rfl) ?_)
        refine g_pass' rfl rfl rfl rfl rfl ?_
        refine g_pass' rfl rfl rfl rfl rfl ?_
        refine g_pass' rfl rfl rfl rfl rfl ?_
        refine aops_cons rfl (w_pure rfl (p_pick_t rfl rfl) ?_)
        refine aops_cons rfl (w_pure rfl (p_move rfl) ?_)
        refine g_pass' rfl rfl rfl rfl rfl ?_
        refine g_pass' rfl rfl rfl rfl rfl ?_
        refine g_pass' rfl rfl rfl rfl rfl ?_
        refine aops_cons rfl (w_pure rfl (p_pick_t rfl rfl) ?_)
        refine aops_nil ?_
        refine a_cond_t rfl ?_
        refine a_seq ?_
        refine a_region ?_
        refine aops_cons rfl (w_pure rfl (p_assign rfl) ?_)
        refine aops_nil ?_
        refine a_ret ?_
        refine ret_ok (hands1 rfl (.tmp rfl)) (.nil _) ?_
        first | exact ⟨rfl, rfl⟩ | (exfalso; omega)
      · (try simp only [Bool.not_eq_true', Bool.not_eq_false', Bool.not_eq_true, Bool.not_eq_false, decide_eq_true_eq, decide_eq_false_iff_not, List.length_map, List.length_range] at h4)
        refine aops_guard_t rfl rfl rfl (w_pure rfl (p_move rfl) ?_)
        refine aops_guard_t rfl rfl rfl (w_pure rfl (p_move rfl) ?_)
        refine aops_guard_t rfl rfl rfl (w_callLR rfl rfl rfl cl_22 (.cons .nil (.cons (.refl _) .nil)) (c_laws_eqMailS ([] : List Mail) (by first | decide | (simp; done) | exact ⟨by decide, by decide⟩)) (closed_bool _) ?_)
        refine aops_guard_t rfl rfl rfl (w_pure rfl (p_not rfl) ?_)
        refine aops_cons rfl (w_pure rfl (p_pick_f rfl rfl) ?_)
        refine aops_cons rfl (w_pure rfl (p_move rfl) ?_)
        refine aops_guard_t rfl rfl rfl (w_pure rfl (p_move rfl) ?_)
        refine aops_guard_t rfl rfl rfl (w_pure rfl (p_move rfl) ?_)
        refine aops_guard_t rfl rfl rfl (w_pure rfl (p_neq_same rfl rfl) ?_)
        refine aops_cons rfl (w_pure rfl (p_pick_f rfl rfl) ?_)
        refine aops_cons rfl (w_pure rfl (p_move rfl) ?_)
        refine aops_guard_t rfl rfl rfl (w_pure rfl (p_move rfl) ?_)
        refine aops_guard_t rfl rfl rfl (w_pure rfl (p_move rfl) ?_)
        refine aops_guard_t rfl rfl rfl (w_pure rfl (p_neq_bsame um_4 rfl rfl) ?_)
        refine aops_cons rfl (w_pure rfl (p_pick_f rfl rfl) ?_)
        refine aops_nil ?_
        refine a_cond_f rfl ?_
        refine a_skip ?_
        refine a_seq ?_
        refine a_region ?_
        refine aops_cons rfl (w_pure rfl (p_assign rfl) ?_)
        refine aops_nil ?_
        refine a_seq ?_
        refine a_region ?_
        refine aops_cons rfl (w_pure rfl (p_move rfl) ?_)
        refine aops_cons rfl (w_pure rfl (p_move rfl) ?_)
        refine aops_cons rfl (w_callR rfl rfl rfl cl_27 (cn_laws_markMailS ..) ?_)
        refine aops_cons rfl (w_pure rfl (p_assign rfl) ?_)
        refine aops_nil ?_
        refine a_seq ?_
        refine a_region ?_
        refine aops_cons rfl (w_pure rfl (p_assign rfl) ?_)
        refine aops_nil ?_
        refine a_seq ?_
        refine a_region ?_
        refine aops_cons rfl (w_pure rfl (p_move rfl) ?_)
        refine aops_cons rfl (w_pure rfl (p_move rfl) ?_)
        refine aops_cons rfl (w_callLR rfl rfl rfl cl_28 (.cons .nil (.cons (.refl _) .nil)) (c_laws_heldMailS 0 (by decide) _ (by omega) (by omega)) (closed_int _ _) ?_)
        refine aops_cons rfl (w_pure rfl (p_assign rfl) ?_)
        refine aops_nil ?_
        refine a_seq ?_
        refine a_seq ?_
        refine a_region ?_
        refine aops_cons rfl (w_pure rfl (p_move rfl) ?_)
        refine aops_cons rfl (w_pure rfl (p_lss rfl rfl) ?_)
        refine aops_nil ?_
        first | refine a_cond_d rfl (fun h5 => ?_) (fun h6 => ?_) | refine a_cond_n rfl (fun h5 => ?_) (fun h6 => ?_) | refine a_cond_nb rfl (fun h5 => ?_) (fun h6 => ?_) | refine a_cond rfl (fun h5 => ?_) (fun h6 => ?_)
        · (try simp only [Bool.not_eq_true', Bool.not_eq_false', Bool.not_eq_true, Bool.not_eq_false, decide_eq_true_eq, decide_eq_false_iff_not, List.length_map, List.length_range] at h5)
          refine a_seq ?_
          refine a_region ?_
          refine aops_cons rfl (w_pure rfl (p_assign rfl) ?_)
          refine aops_nil ?_
          refine a_ret ?_
          refine ret_ok (hands1 rfl (.tmp rfl)) (.nil _) ?_
          first | exact ⟨rfl, rfl⟩ | (exfalso; omega)
        · (try simp only [Bool.not_eq_true', Bool.not_eq_false', Bool.not_eq_true, Bool.not_eq_false, decide_eq_true_eq, decide_eq_false_iff_not, List.length_map, List.length_range] at h6)
          refine a_skip ?_
          refine a_seq ?_
          refine a_seq ?_
          refine a_region ?_
          refine aops_cons rfl (w_pure rfl (p_move rfl) ?_)
          refine aops_cons rfl (w_pure rfl (p_move rfl) ?_)
          refine aops_cons rfl (w_pure rfl (p_neq_same rfl rfl) ?_)
          refine aops_nil ?_
          refine a_cond_f rfl ?_
          refine a_skip ?_
          refine a_seq ?_
          refine a_region ?_
          refine aops_cons rfl (w_pure rfl (p_move rfl) ?_)
          refine aops_cons rfl (w_callR rfl rfl rfl cl_20 (c_laws_toMailS xs hl0) ?_)
          refine aops_cons rfl (w_pure rfl (p_move rfl) ?_)
          refine aops_cons rfl (w_pure rfl (p_move rfl) ?_)
          refine aops_cons rfl (w_pure rfl (p_move rfl) ?_)
          refine aops_cons rfl (w_callR rfl rfl rfl cl_37 (cn_impl_SendToSet xs hl0 f s q hA) ?_)
          refine aops_cons rfl (w_pure rfl (p_move rfl) ?_)
          refine aops_cons rfl (w_pure rfl (p_extract rfl rfl) ?_)
          refine aops_cons rfl (w_pure rfl (p_extract rfl rfl) ?_)
          refine aops_cons rfl (w_pure rfl (p_extract rfl rfl) ?_)
          refine aops_cons rfl (w_pure rfl (p_assign rfl) ?_)
          refine aops_cons rfl (w_pure rfl (p_assign rfl) ?_)
          refine aops_cons rfl (w_pure rfl (p_assign rfl) ?_)
          refine aops_nil ?_
          refine a_seq ?_
          refine a_seq ?_
          refine a_region ?_
          refine aops_cons rfl (w_pure rfl (p_move rfl) ?_)
          refine aops_cons rfl (w_pure rfl (p_move rfl) ?_)
          refine aops_cons rfl (w_callLR rfl rfl rfl cl_22 (.cons .nil (.cons (.refl _) .nil)) (c_laws_eqMailS ([] : List Mail) (by first | decide | (simp; done) | exact ⟨by decide, by decide⟩)) (closed_bool _) ?_)
          refine aops_cons rfl (w_pure rfl (p_not rfl) ?_)
          refine aops_cons rfl (w_pure rfl (p_move rfl) ?_)
          refine aops_guard_t rfl rfl rfl (w_pure rfl (p_move rfl) ?_)
          refine aops_guard_t rfl rfl rfl (w_pure rfl (p_move rfl) ?_)
          refine aops_guard_t rfl rfl rfl (w_pure rfl (p_neq_same rfl rfl) ?_)
          refine aops_cons rfl (w_pure rfl (p_pick_f rfl rfl) ?_)
          refine aops_cons rfl (w_pure rfl (p_move rfl) ?_)
          refine aops_guard_t rfl rfl rfl (w_pure rfl (p_move rfl) ?_)
          refine aops_guard_t rfl rfl rfl (w_pure rfl (p_move rfl) ?_)
          refine aops_guard_t rfl rfl rfl (w_pure rfl (p_neq_bsame um_4 rfl rfl) ?_)
          refine aops_cons rfl (w_pure rfl (p_pick_f rfl rfl) ?_)
          refine aops_nil ?_
          refine a_cond_f rfl ?_
          refine a_skip ?_
          refine a_seq ?_
          refine a_region ?_
          refine aops_cons rfl (w_pure rfl (p_assign rfl) ?_)
          refine aops_nil ?_
          refine a_seq ?_
          refine a_region ?_
          refine aops_cons rfl (w_pure rfl (p_move rfl) ?_)
          refine aops_cons rfl (w_pure rfl (p_move rfl) ?_)
          refine aops_cons rfl (w_callLR rfl rfl rfl cl_28 (.cons .nil (.cons (.refl _) .nil)) (c_laws_heldMailS 0 (by decide) _ (by omega) (by omega)) (closed_int _ _) ?_)
          refine aops_cons rfl (w_pure rfl (p_assign rfl) ?_)
          refine aops_nil ?_
          refine a_seq ?_
          refine a_seq ?_
          refine a_region ?_
          refine aops_cons rfl (w_pure rfl (p_move rfl) ?_)
          refine aops_cons rfl (w_pure rfl (p_lss rfl rfl) ?_)
          refine aops_nil ?_
          first | refine a_cond_d rfl (fun h7 => ?_) (fun h8 => ?_) | refine a_cond_n rfl (fun h7 => ?_) (fun h8 => ?_) | refine a_cond_nb rfl (fun h7 => ?_) (fun h8 => ?_) | refine a_cond rfl (fun h7 => ?_) (fun h8 => ?_)
          · (try simp only [Bool.not_eq_true', Bool.not_eq_false', Bool.not_eq_true, Bool.not_eq_false, decide_eq_true_eq, decide_eq_false_iff_not, List.length_map, List.length_range] at h7)
            refine a_seq ?_
            refine a_region ?_
            refine aops_cons rfl (w_pure rfl (p_assign rfl) ?_)
            refine aops_nil ?_
            refine a_ret ?_
            refine ret_ok (hands1 rfl (.tmp rfl)) (.nil _) ?_
            first | exact ⟨rfl, rfl⟩ | (exfalso; omega)
          · (try simp only [Bool.not_eq_true', Bool.not_eq_false', Bool.not_eq_true, Bool.not_eq_false, decide_eq_true_eq, decide_eq_false_iff_not, List.length_map, List.length_range] at h8)
            refine a_skip ?_
            refine a_seq ?_
            refine a_seq ?_
            refine a_region ?_
            refine aops_cons rfl (w_pure rfl (p_move rfl) ?_)
            refine aops_cons rfl (w_pure rfl (p_move rfl) ?_)
            refine aops_cons rfl (w_pure rfl (p_neq_same rfl rfl) ?_)
            refine aops_nil ?_
            refine a_cond_f rfl ?_
            refine a_skip ?_
            refine a_seq ?_
            refine a_region ?_
            refine aops_cons rfl (w_pure rfl (p_assign rfl) ?_)
            refine aops_nil ?_
            refine a_ret ?_
            refine ret_ok (hands1 rfl (.tmp rfl)) (.nil _) ?_
            first | exact ⟨rfl, rfl⟩ | (exfalso; omega)

theorem cy_impl_SendToSet' (xs : List Mail) (hn : xs.length ≤ 1048576) (f s q : Int) (s' : Int) (e : s' = s) (hA : GoodSet xs f s q) : ACalls Try.prog 37 [.sl (xs.map eMail), .int .i64 f, .int .i64 s', .int .i64 q] [] (fun r st => ∃ b1, r = .tup [.own 3 b1 0 (ssTo xs f s q 4).length, .int .i64 (setCount xs f s q), .bool true] ∧ st = [(b1, .arr 25 3 ((ssTo xs f s q 4).map eMail))]) := by subst e; exact cy_impl_SendToSet xs hn f s' q hA

theorem cn_impl_SendToSet' (xs : List Mail) (hn : xs.length ≤ 1048576) (f s q : Int) (s' : Int) (e : s' = s) (hA : ¬ GoodSet xs f s q) : ACalls Try.prog 37 [.sl (xs.map eMail), .int .i64 f, .int .i64 s', .int .i64 q] [] (Ret (.tup [.nil, .int .i64 0, .bool false])) := by subst e; exact cn_impl_SendToSet xs hn f s' q hA

theorem cy_spec_SendToOthers (xs : List Mail) (hn : xs.length ≤ 1048576) (f q : Int) (hA : GoodOth xs f q) : ACalls Try.prog 38 [.sl (xs.map eMail), .int .i64 f, .int .i64 q] [] (Ret (.tup [.sl ((ssTo xs f (oth f) q 4).map eMail), .bool true])) := by
  obtain ⟨g1, g2, g3, g4⟩ := id hA
  have q2 := ssTo_len xs f (oth f) q 4
  obtain ⟨o1, o2, o3, o4, o5, o6⟩ := oth_is g2
  refine a_enter Try.func38 rfl rfl (fun w0 M0 => ?_)
  refine a_seq ?_
  refine a_region ?_
  refine aops_cons rfl (w_pure rfl (p_assign rfl) ?_)
  refine aops_cons rfl (w_pure rfl (p_assign rfl) ?_)
  refine aops_nil ?_
  refine a_seq ?_
  refine a_seq ?_
  refine a_region ?_
  refine aops_cons rfl (w_pure rfl (p_move rfl) ?_)
  refine aops_cons rfl (w_callR rfl rfl rfl cl_62 (c_spec_l12Good _ (by first | omega | (have q1 := ‹IsBox xs›.2; have q2 := ssTo_len xs f (oth f) q 4; omega))) ?_)
  refine aops_cons rfl (w_pure rfl (p_not rfl) ?_)
  refine aops_cons rfl (w_pure rfl (p_move rfl) ?_)
  first | refine aops_split_d 12 rfl (fun h1 => ?_) (fun h2 => ?_) | refine aops_split 12 rfl (fun h1 => ?_) (fun h2 => ?_)
  · (try simp only [Bool.not_eq_true', Bool.not_eq_false', Bool.not_eq_true, Bool.not_eq_false, decide_eq_true_eq, decide_eq_false_iff_not, List.length_map, List.length_range] at h1)
    refine g_pass' rfl rfl rfl rfl rfl ?_
    refine g_pass' rfl rfl rfl rfl rfl ?_
    refine g_pass' rfl rfl rfl rfl rfl ?_
    refine g_pass' rfl rfl rfl rfl rfl ?_
    refine g_pass' rfl rfl rfl rfl rfl ?_
    refine aops_cons rfl (w_pure rfl (p_pick_t rfl rfl) ?_)
    refine aops_nil ?_
    refine a_cond_t rfl ?_
    refine a_seq ?_
    refine a_region ?_
    refine aops_cons rfl (w_lit_vM eMail [] rfl el_31 rfl rfl rfl rfl rfl ?_)
    refine aops_cons rfl (w_pure rfl (p_assign rfl) ?_)
    refine aops_cons rfl (w_pure rfl (p_assign rfl) ?_)
    refine aops_nil ?_
    refine a_ret ?_
    refine ret_ok (hands2 rfl (.tmp rfl) (.tmp rfl)) (.nil _) ?_
    first | exact ⟨rfl, rfl⟩ | (exfalso; first | contradiction | omega | exact absurd hA.1 (by assumption) | exact absurd hA.set.mail (by assumption) | exact absurd hA.set.box (by assumption))
  · (try simp only [Bool.not_eq_true', Bool.not_eq_false', Bool.not_eq_true, Bool.not_eq_false, decide_eq_true_eq, decide_eq_false_iff_not, List.length_map, List.length_range] at h2)
    refine aops_guard_t rfl rfl rfl (w_pure rfl (p_move rfl) ?_)
    refine aops_guard_t rfl rfl rfl (w_pure rfl (p_move rfl) ?_)
    refine aops_guard_t rfl rfl rfl (w_pure rfl (p_build (cells := [_, _, _]) z_25 pl_25 rfl rfl) ?_)
    refine aops_guard_t rfl rfl rfl (w_callR rfl rfl rfl cl_59 (c_spec_l12One ⟨_, _, _⟩) ?_)
    refine aops_guard_t rfl rfl rfl (w_pure rfl (p_not rfl) ?_)
    refine aops_cons rfl (w_pure rfl (p_pick_f rfl rfl) ?_)
    refine aops_nil ?_
    first | refine a_cond_d rfl (fun h3 => ?_) (fun h4 => ?_) | refine a_cond_n rfl (fun h3 => ?_) (fun h4 => ?_) | refine a_cond_nb rfl (fun h3 => ?_) (fun h4 => ?_) | refine a_cond rfl (fun h3 => ?_) (fun h4 => ?_)
    · (try simp only [Bool.not_eq_true', Bool.not_eq_false', Bool.not_eq_true, Bool.not_eq_false, decide_eq_true_eq, decide_eq_false_iff_not, List.length_map, List.length_range] at h3)
      refine a_seq ?_
      refine a_region ?_
      refine aops_cons rfl (w_lit_vM eMail [] rfl el_31 rfl rfl rfl rfl rfl ?_)
      refine aops_cons rfl (w_pure rfl (p_assign rfl) ?_)
      refine aops_cons rfl (w_pure rfl (p_assign rfl) ?_)
      refine aops_nil ?_
      refine a_ret ?_
      refine ret_ok (hands2 rfl (.tmp rfl) (.tmp rfl)) (.nil _) ?_
      first | exact ⟨rfl, rfl⟩ | (exfalso; first | contradiction | omega | exact absurd hA.1 (by assumption) | exact absurd hA.set.mail (by assumption) | exact absurd hA.set.box (by assumption))
    · (try simp only [Bool.not_eq_true', Bool.not_eq_false', Bool.not_eq_true, Bool.not_eq_false, decide_eq_true_eq, decide_eq_false_iff_not, List.length_map, List.length_range] at h4)
      refine a_skip ?_
      refine a_seq ?_
      refine a_region ?_
      refine aops_cons rfl (w_pure rfl (p_move rfl) ?_)
      refine aops_cons rfl (w_pure rfl (p_move rfl) ?_)
      refine aops_cons rfl (w_pure rfl (p_move rfl) ?_)
      refine aops_cons rfl (w_pure rfl (p_convert ui_3 um_71 rfl) ?_)
      refine aops_cons rfl (w_pure rfl (p_shl rfl rfl (by have o1 : 0 ≤ f ∧ f ≤ 3 := (by first | omega | exact (‹IsMail _›).1); have o := oth_is o1; rw [o.2.2.2.2.2]; omega)) ?_)
      refine aops_cons rfl (w_pure rfl (p_sub' rfl rfl ⟨by have o := oth_is (show 0 ≤ f ∧ f ≤ 3 by first | omega | exact (‹IsMail _›).1); have o4 := o.2.2.2.1; have o5 := o.2.2.2.2.1; rw [← o.2.2.2.2.2] at o4 o5; unfold shl1 at o4 o5; omega, by have o := oth_is (show 0 ≤ f ∧ f ≤ 3 by first | omega | exact (‹IsMail _›).1); have o4 := o.2.2.2.1; have o5 := o.2.2.2.2.1; rw [← o.2.2.2.2.2] at o4 o5; unfold shl1 at o4 o5; omega⟩) ?_)
      refine aops_cons rfl (w_pure rfl (p_move rfl) ?_)
      refine aops_cons rfl (w_callR rfl rfl rfl cl_71 (show ACalls Try.prog 71 [.sl (xs.map eMail), .int .i64 f, .int .i64 (15 - shl1 (IntKind.u64.wrap f)), .int .i64 q] [] (Ret (.sl ((ssTo xs f (oth f) q 4).map eMail))) by rw [show 15 - shl1 (IntKind.u64.wrap f) = oth f by rw [(oth_is (show 0 ≤ f ∧ f ≤ 3 by first | omega | exact (‹IsMail _›).1)).2.2.2.2.2]; rfl]; exact c_spec_l12Set _ (by have q1 := ‹IsBox xs›.2; omega) _ _ _) ?_)
      refine aops_cons rfl (w_pure rfl (p_assign rfl) ?_)
      refine aops_nil ?_
      refine a_seq ?_
      refine a_seq ?_
      refine a_region ?_
      refine aops_cons rfl (w_pure rfl (p_move rfl) ?_)
      refine aops_cons rfl (w_callR rfl rfl rfl cl_62 (c_spec_l12Good _ (by first | omega | (have q1 := ‹IsBox xs›.2; have q2 := ssTo_len xs f (oth f) q 4; omega))) ?_)
      refine aops_cons rfl (w_pure rfl (p_not rfl) ?_)
      refine aops_nil ?_
      first | refine a_cond_d rfl (fun h5 => ?_) (fun h6 => ?_) | refine a_cond_n rfl (fun h5 => ?_) (fun h6 => ?_) | refine a_cond_nb rfl (fun h5 => ?_) (fun h6 => ?_) | refine a_cond rfl (fun h5 => ?_) (fun h6 => ?_)
      · (try simp only [Bool.not_eq_true', Bool.not_eq_false', Bool.not_eq_true, Bool.not_eq_false, decide_eq_true_eq, decide_eq_false_iff_not, List.length_map, List.length_range] at h5)
        refine a_seq ?_
        refine a_region ?_
        refine aops_cons rfl (w_lit_vM eMail [] rfl el_31 rfl rfl rfl rfl rfl ?_)
        refine aops_cons rfl (w_pure rfl (p_assign rfl) ?_)
        refine aops_cons rfl (w_pure rfl (p_assign rfl) ?_)
        refine aops_nil ?_
        refine a_ret ?_
        refine ret_ok (hands2 rfl (.tmp rfl) (.tmp rfl)) (.nil _) ?_
        first | exact ⟨rfl, rfl⟩ | (exfalso; first | contradiction | omega | exact absurd hA.1 (by assumption) | exact absurd hA.set.mail (by assumption) | exact absurd hA.set.box (by assumption))
      · (try simp only [Bool.not_eq_true', Bool.not_eq_false', Bool.not_eq_true, Bool.not_eq_false, decide_eq_true_eq, decide_eq_false_iff_not, List.length_map, List.length_range] at h6)
        refine a_skip ?_
        refine a_seq ?_
        refine a_region ?_
        refine aops_cons rfl (w_pure rfl (p_move rfl) ?_)
        refine aops_cons rfl (w_pure rfl (p_assign rfl) ?_)
        refine aops_cons rfl (w_pure rfl (p_assign rfl) ?_)
        refine aops_nil ?_
        refine a_ret ?_
        refine ret_ok (hands2 rfl (.tmp rfl) (.tmp rfl)) (.nil _) ?_
        first | exact ⟨rfl, rfl⟩ | (exfalso; first | contradiction | omega | exact absurd hA.1 (by assumption) | exact absurd hA.set.mail (by assumption) | exact absurd hA.set.box (by assumption))

theorem cn_spec_SendToOthers (xs : List Mail) (hn : xs.length ≤ 1048576) (f q : Int) (hA : ¬ GoodOth xs f q) : ACalls Try.prog 38 [.sl (xs.map eMail), .int .i64 f, .int .i64 q] [] (Ret (.tup [.sl ([] : List (List AV)), .bool false])) := by
  have q2 := ssTo_len xs f (oth f) q 4
  refine a_enter Try.func38 rfl rfl (fun w0 M0 => ?_)
  refine a_seq ?_
  refine a_region ?_
  refine aops_cons rfl (w_pure rfl (p_assign rfl) ?_)
  refine aops_cons rfl (w_pure rfl (p_assign rfl) ?_)
  refine aops_nil ?_
  refine a_seq ?_
  refine a_seq ?_
  refine a_region ?_
  refine aops_cons rfl (w_pure rfl (p_move rfl) ?_)
  refine aops_cons rfl (w_callR rfl rfl rfl cl_62 (c_spec_l12Good _ (by first | omega | (have q1 := ‹IsBox xs›.2; have q2 := ssTo_len xs f (oth f) q 4; omega))) ?_)
  refine aops_cons rfl (w_pure rfl (p_not rfl) ?_)
  refine aops_cons rfl (w_pure rfl (p_move rfl) ?_)
  first | refine aops_split_d 12 rfl (fun h1 => ?_) (fun h2 => ?_) | refine aops_split 12 rfl (fun h1 => ?_) (fun h2 => ?_)
  · (try simp only [Bool.not_eq_true', Bool.not_eq_false', Bool.not_eq_true, Bool.not_eq_false, decide_eq_true_eq, decide_eq_false_iff_not, List.length_map, List.length_range] at h1)
    refine g_pass' rfl rfl rfl rfl rfl ?_
    refine g_pass' rfl rfl rfl rfl rfl ?_
    refine g_pass' rfl rfl rfl rfl rfl ?_
    refine g_pass' rfl rfl rfl rfl rfl ?_
    refine g_pass' rfl rfl rfl rfl rfl ?_
    refine aops_cons rfl (w_pure rfl (p_pick_t rfl rfl) ?_)
    refine aops_nil ?_
    refine a_cond_t rfl ?_
    refine a_seq ?_
    refine a_region ?_
    refine aops_cons rfl (w_lit_vM eMail [] rfl el_31 rfl rfl rfl rfl rfl ?_)
    refine aops_cons rfl (w_pure rfl (p_assign rfl) ?_)
    refine aops_cons rfl (w_pure rfl (p_assign rfl) ?_)
    refine aops_nil ?_
    refine a_ret ?_
    refine ret_ok (hands2 rfl (.tmp rfl) (.tmp rfl)) (.nil _) ?_
    first | exact ⟨rfl, rfl⟩ | exact absurd (GoodOth.of (goodSet_of (by assumption) (by assumption) ⟨(oth_is (show 0 ≤ f ∧ f ≤ 3 by first | omega | exact (‹IsMail _›).1)).2.1, (oth_is (show 0 ≤ f ∧ f ≤ 3 by first | omega | exact (‹IsMail _›).1)).2.2.1⟩ (by assumption))) hA
  · (try simp only [Bool.not_eq_true', Bool.not_eq_false', Bool.not_eq_true, Bool.not_eq_false, decide_eq_true_eq, decide_eq_false_iff_not, List.length_map, List.length_range] at h2)
    refine aops_guard_t rfl rfl rfl (w_pure rfl (p_move rfl) ?_)
    refine aops_guard_t rfl rfl rfl (w_pure rfl (p_move rfl) ?_)
    refine aops_guard_t rfl rfl rfl (w_pure rfl (p_build (cells := [_, _, _]) z_25 pl_25 rfl rfl) ?_)
    refine aops_guard_t rfl rfl rfl (w_callR rfl rfl rfl cl_59 (c_spec_l12One ⟨_, _, _⟩) ?_)
    refine aops_guard_t rfl rfl rfl (w_pure rfl (p_not rfl) ?_)
    refine aops_cons rfl (w_pure rfl (p_pick_f rfl rfl) ?_)
    refine aops_nil ?_
    first | refine a_cond_d rfl (fun h3 => ?_) (fun h4 => ?_) | refine a_cond_n rfl (fun h3 => ?_) (fun h4 => ?_) | refine a_cond_nb rfl (fun h3 => ?_) (fun h4 => ?_) | refine a_cond rfl (fun h3 => ?_) (fun h4 => ?_)
    · (try simp only [Bool.not_eq_true', Bool.not_eq_false', Bool.not_eq_true, Bool.not_eq_false, decide_eq_true_eq, decide_eq_false_iff_not, List.length_map, List.length_range] at h3)
      refine a_seq ?_
      refine a_region ?_
      refine aops_cons rfl (w_lit_vM eMail [] rfl el_31 rfl rfl rfl rfl rfl ?_)
      refine aops_cons rfl (w_pure rfl (p_assign rfl) ?_)
      refine aops_cons rfl (w_pure rfl (p_assign rfl) ?_)
      refine aops_nil ?_
      refine a_ret ?_
      refine ret_ok (hands2 rfl (.tmp rfl) (.tmp rfl)) (.nil _) ?_
      first | exact ⟨rfl, rfl⟩ | exact absurd (GoodOth.of (goodSet_of (by assumption) (by assumption) ⟨(oth_is (show 0 ≤ f ∧ f ≤ 3 by first | omega | exact (‹IsMail _›).1)).2.1, (oth_is (show 0 ≤ f ∧ f ≤ 3 by first | omega | exact (‹IsMail _›).1)).2.2.1⟩ (by assumption))) hA
    · (try simp only [Bool.not_eq_true', Bool.not_eq_false', Bool.not_eq_true, Bool.not_eq_false, decide_eq_true_eq, decide_eq_false_iff_not, List.length_map, List.length_range] at h4)
      refine a_skip ?_
      refine a_seq ?_
      refine a_region ?_
      refine aops_cons rfl (w_pure rfl (p_move rfl) ?_)
      refine aops_cons rfl (w_pure rfl (p_move rfl) ?_)
      refine aops_cons rfl (w_pure rfl (p_move rfl) ?_)
      refine aops_cons rfl (w_pure rfl (p_convert ui_3 um_71 rfl) ?_)
      refine aops_cons rfl (w_pure rfl (p_shl rfl rfl (by have o1 : 0 ≤ f ∧ f ≤ 3 := (by first | omega | exact (‹IsMail _›).1); have o := oth_is o1; rw [o.2.2.2.2.2]; omega)) ?_)
      refine aops_cons rfl (w_pure rfl (p_sub' rfl rfl ⟨by have o := oth_is (show 0 ≤ f ∧ f ≤ 3 by first | omega | exact (‹IsMail _›).1); have o4 := o.2.2.2.1; have o5 := o.2.2.2.2.1; rw [← o.2.2.2.2.2] at o4 o5; unfold shl1 at o4 o5; omega, by have o := oth_is (show 0 ≤ f ∧ f ≤ 3 by first | omega | exact (‹IsMail _›).1); have o4 := o.2.2.2.1; have o5 := o.2.2.2.2.1; rw [← o.2.2.2.2.2] at o4 o5; unfold shl1 at o4 o5; omega⟩) ?_)
      refine aops_cons rfl (w_pure rfl (p_move rfl) ?_)
      refine aops_cons rfl (w_callR rfl rfl rfl cl_71 (show ACalls Try.prog 71 [.sl (xs.map eMail), .int .i64 f, .int .i64 (15 - shl1 (IntKind.u64.wrap f)), .int .i64 q] [] (Ret (.sl ((ssTo xs f (oth f) q 4).map eMail))) by rw [show 15 - shl1 (IntKind.u64.wrap f) = oth f by rw [(oth_is (show 0 ≤ f ∧ f ≤ 3 by first | omega | exact (‹IsMail _›).1)).2.2.2.2.2]; rfl]; exact c_spec_l12Set _ (by have q1 := ‹IsBox xs›.2; omega) _ _ _) ?_)
      refine aops_cons rfl (w_pure rfl (p_assign rfl) ?_)
      refine aops_nil ?_
      refine a_seq ?_
      refine a_seq ?_
      refine a_region ?_
      refine aops_cons rfl (w_pure rfl (p_move rfl) ?_)
      refine aops_cons rfl (w_callR rfl rfl rfl cl_62 (c_spec_l12Good _ (by first | omega | (have q1 := ‹IsBox xs›.2; have q2 := ssTo_len xs f (oth f) q 4; omega))) ?_)
      refine aops_cons rfl (w_pure rfl (p_not rfl) ?_)
      refine aops_nil ?_
      first | refine a_cond_d rfl (fun h5 => ?_) (fun h6 => ?_) | refine a_cond_n rfl (fun h5 => ?_) (fun h6 => ?_) | refine a_cond_nb rfl (fun h5 => ?_) (fun h6 => ?_) | refine a_cond rfl (fun h5 => ?_) (fun h6 => ?_)
      · (try simp only [Bool.not_eq_true', Bool.not_eq_false', Bool.not_eq_true, Bool.not_eq_false, decide_eq_true_eq, decide_eq_false_iff_not, List.length_map, List.length_range] at h5)
        refine a_seq ?_
        refine a_region ?_
        refine aops_cons rfl (w_lit_vM eMail [] rfl el_31 rfl rfl rfl rfl rfl ?_)
        refine aops_cons rfl (w_pure rfl (p_assign rfl) ?_)
        refine aops_cons rfl (w_pure rfl (p_assign rfl) ?_)
        refine aops_nil ?_
        refine a_ret ?_
        refine ret_ok (hands2 rfl (.tmp rfl) (.tmp rfl)) (.nil _) ?_
        first | exact ⟨rfl, rfl⟩ | exact absurd (GoodOth.of (goodSet_of (by assumption) (by assumption) ⟨(oth_is (show 0 ≤ f ∧ f ≤ 3 by first | omega | exact (‹IsMail _›).1)).2.1, (oth_is (show 0 ≤ f ∧ f ≤ 3 by first | omega | exact (‹IsMail _›).1)).2.2.1⟩ (by assumption))) hA
      · (try simp only [Bool.not_eq_true', Bool.not_eq_false', Bool.not_eq_true, Bool.not_eq_false, decide_eq_true_eq, decide_eq_false_iff_not, List.length_map, List.length_range] at h6)
        refine a_skip ?_
        refine a_seq ?_
        refine a_region ?_
        refine aops_cons rfl (w_pure rfl (p_move rfl) ?_)
        refine aops_cons rfl (w_pure rfl (p_assign rfl) ?_)
        refine aops_cons rfl (w_pure rfl (p_assign rfl) ?_)
        refine aops_nil ?_
        refine a_ret ?_
        refine ret_ok (hands2 rfl (.tmp rfl) (.tmp rfl)) (.nil _) ?_
        first | exact ⟨rfl, rfl⟩ | exact absurd (GoodOth.of (goodSet_of (by assumption) (by assumption) ⟨(oth_is (show 0 ≤ f ∧ f ≤ 3 by first | omega | exact (‹IsMail _›).1)).2.1, (oth_is (show 0 ≤ f ∧ f ≤ 3 by first | omega | exact (‹IsMail _›).1)).2.2.1⟩ (by assumption))) hA

theorem cy_impl_SendToOthers (xs : List Mail) (hn : xs.length ≤ 1048576) (f q : Int) (hA : GoodOth xs f q) : ACalls Try.prog 39 [.sl (xs.map eMail), .int .i64 f, .int .i64 q] [] (fun r st => ∃ b1, r = .tup [.own 3 b1 0 (ssTo xs f (oth f) q 4).length, .bool true] ∧ st = [(b1, .arr 25 3 ((ssTo xs f (oth f) q 4).map eMail))]) := by
  obtain ⟨g1, g2, g3, g4⟩ := id hA
  have q2 := ssTo_len xs f (oth f) q 4
  obtain ⟨o1, o2, o3, o4, o5, o6⟩ := oth_is g2
  refine a_enter Try.func39 rfl rfl (fun w0 M0 => ?_)
  refine a_seq ?_
  refine a_region ?_
  refine aops_cons rfl (w_pure rfl (p_assign rfl) ?_)
  refine aops_cons rfl (w_pure rfl (p_assign rfl) ?_)
  refine aops_nil ?_
  refine a_seq ?_
  refine a_seq ?_
  refine a_region ?_
  refine aops_cons rfl (w_pure rfl (p_move rfl) ?_)
  refine aops_cons rfl (w_callR rfl rfl rfl cl_60 (c_impl_isCpu ..) ?_)
  refine aops_cons rfl (w_pure rfl (p_not rfl) ?_)
  refine aops_nil ?_
  first | refine a_cond_d rfl (fun h1 => ?_) (fun h2 => ?_) | refine a_cond_n rfl (fun h1 => ?_) (fun h2 => ?_) | refine a_cond_nb rfl (fun h1 => ?_) (fun h2 => ?_) | refine a_cond rfl (fun h1 => ?_) (fun h2 => ?_)
  · (try simp only [Bool.not_eq_true', Bool.not_eq_false', Bool.not_eq_true, Bool.not_eq_false, decide_eq_true_eq, decide_eq_false_iff_not, List.length_map, List.length_range] at h1)
    refine a_seq ?_
    refine a_region ?_
    refine aops_cons rfl (w_pure rfl (p_assign rfl) ?_)
    refine aops_cons rfl (w_pure rfl (p_assign rfl) ?_)
    refine aops_nil ?_
    refine a_ret ?_
    refine ret_ok (hands2 rfl (.tmp rfl) (.tmp rfl)) (.nil _) ?_
    first | exact ⟨_, rfl, rfl⟩ | (exfalso; first | contradiction | omega | exact absurd hA.1 (by assumption) | exact absurd hA.set.mail (by assumption) | exact absurd hA.set.box (by assumption))
  · (try simp only [Bool.not_eq_true', Bool.not_eq_false', Bool.not_eq_true, Bool.not_eq_false, decide_eq_true_eq, decide_eq_false_iff_not, List.length_map, List.length_range] at h2)
    refine a_skip ?_
    refine a_seq ?_
    refine a_region ?_
    refine aops_cons rfl (w_pure rfl (p_move rfl) ?_)
    refine aops_cons rfl (w_pure rfl (p_move rfl) ?_)
    refine aops_cons rfl (w_pure rfl (p_move rfl) ?_)
    refine aops_cons rfl (w_pure rfl (p_shl rfl rfl (by omega)) ?_)
    refine aops_cons rfl (w_pure rfl (p_bits .andNot (by decide) rfl rfl) ?_)
    refine aops_cons rfl (w_pure rfl (p_move rfl) ?_)
    refine aops_cons rfl (w_call rfl rfl rfl cl_37 (cy_impl_SendToSet' xs hn f (oth f) q _ o1 hA.set) ?_)
    rintro _ _ ⟨b1, rfl, rfl⟩
    refine aops_cons rfl (w_pure rfl (p_move rfl) ?_)
    refine aops_cons rfl (w_pure rfl (p_extract rfl rfl) ?_)
    refine aops_cons rfl (w_pure rfl (p_extract rfl rfl) ?_)
    refine aops_cons rfl (w_pure rfl (p_extract rfl rfl) ?_)
    refine aops_cons rfl (w_pure rfl (p_assign rfl) ?_)
    refine aops_cons rfl (w_pure rfl (p_assign rfl) ?_)
    refine aops_cons rfl (w_pure rfl (p_assign rfl) ?_)
    refine aops_nil ?_
    refine a_seq ?_
    refine a_region ?_
    refine aops_cons rfl (w_pure rfl (p_move rfl) ?_)
    refine aops_cons rfl (w_pure rfl (p_move rfl) ?_)
    refine aops_cons rfl (w_pure rfl (p_assign rfl) ?_)
    refine aops_cons rfl (w_pure rfl (p_assign rfl) ?_)
    refine aops_nil ?_
    refine a_ret ?_
    refine ret_ok (hands2 rfl (.tmp rfl) (.tmp rfl)) (st' := [(b1, _)]) (.cons (by repeat (first | exact Pick.here _ _ _ | apply Pick.next)) (.nil _)) ?_
    first | exact ⟨_, rfl, rfl⟩ | (exfalso; first | contradiction | omega | exact absurd hA.1 (by assumption) | exact absurd hA.set.mail (by assumption) | exact absurd hA.set.box (by assumption))

theorem cf_impl_SendToOthers (xs : List Mail) (hn : xs.length ≤ 1048576) (f q : Int) (hA : GoodOth xs f q) : ACalls Try.prog 39 [.sl (xs.map eMail), .int .i64 f, .int .i64 q] [] (Ret (.tup [.sl ((ssTo xs f (oth f) q 4).map eMail), .bool true])) :=
  (cy_impl_SendToOthers xs hn f q hA).freeze (by rintro _ _ ⟨_, rfl, rfl⟩; exact (.tup (.cons (.own (by repeat (first | exact List.Mem.head _ | apply List.Mem.tail)) (List.length_map _)) (.cons (.refl _) .nil))))

theorem cn_impl_SendToOthers (xs : List Mail) (hn : xs.length ≤ 1048576) (f q : Int) (hA : ¬ GoodOth xs f q) : ACalls Try.prog 39 [.sl (xs.map eMail), .int .i64 f, .int .i64 q] [] (Ret (.tup [.nil, .bool false])) := by
  refine a_enter Try.func39 rfl rfl (fun w0 M0 => ?_)
  refine a_seq ?_
  refine a_region ?_
  refine aops_cons rfl (w_pure rfl (p_assign rfl) ?_)
  refine aops_cons rfl (w_pure rfl (p_assign rfl) ?_)
  refine aops_nil ?_
  refine a_seq ?_
  refine a_seq ?_
  refine a_region ?_
  refine aops_cons rfl (w_pure rfl (p_move rfl) ?_)
  refine aops_cons rfl (w_callR rfl rfl rfl cl_60 (c_impl_isCpu ..) ?_)
  refine aops_cons rfl (w_pure rfl (p_not rfl) ?_)
  refine aops_nil ?_
  first | refine a_cond_d rfl (fun h1 => ?_) (fun h2 => ?_) | refine a_cond_n rfl (fun h1 => ?_) (fun h2 => ?_) | refine a_cond_nb rfl (fun h1 => ?_) (fun h2 => ?_) | refine a_cond rfl (fun h1 => ?_) (fun h2 => ?_)
  · (try simp only [Bool.not_eq_true', Bool.not_eq_false', Bool.not_eq_true, Bool.not_eq_false, decide_eq_true_eq, decide_eq_false_iff_not, List.length_map, List.length_range] at h1)
    refine a_seq ?_
    refine a_region ?_
    refine aops_cons rfl (w_pure rfl (p_assign rfl) ?_)
    refine aops_cons rfl (w_pure rfl (p_assign rfl) ?_)
    refine aops_nil ?_
    refine a_ret ?_
    refine ret_ok (hands2 rfl (.tmp rfl) (.tmp rfl)) (.nil _) ?_
    exact ⟨rfl, rfl⟩
  · (try simp only [Bool.not_eq_true', Bool.not_eq_false', Bool.not_eq_true, Bool.not_eq_false, decide_eq_true_eq, decide_eq_false_iff_not, List.length_map, List.length_range] at h2)
    refine a_skip ?_
    refine a_seq ?_
    refine a_region ?_
    refine aops_cons rfl (w_pure rfl (p_move rfl) ?_)
    refine aops_cons rfl (w_pure rfl (p_move rfl) ?_)
    refine aops_cons rfl (w_pure rfl (p_move rfl) ?_)
    refine aops_cons rfl (w_pure rfl (p_shl rfl rfl (by omega)) ?_)
    refine aops_cons rfl (w_pure rfl (p_bits .andNot (by decide) rfl rfl) ?_)
    refine aops_cons rfl (w_pure rfl (p_move rfl) ?_)
    refine aops_cons rfl (w_callR rfl rfl rfl cl_37 (cn_impl_SendToSet' xs hn f (oth f) q _ (oth_is (show 0 ≤ f ∧ f ≤ 3 by first | omega | exact (‹IsMail _›).1)).1 (fun h => hA (.of h))) ?_)
    refine aops_cons rfl (w_pure rfl (p_move rfl) ?_)
    refine aops_cons rfl (w_pure rfl (p_extract rfl rfl) ?_)
    refine aops_cons rfl (w_pure rfl (p_extract rfl rfl) ?_)
    refine aops_cons rfl (w_pure rfl (p_extract rfl rfl) ?_)
    refine aops_cons rfl (w_pure rfl (p_assign rfl) ?_)
    refine aops_cons rfl (w_pure rfl (p_assign rfl) ?_)
    refine aops_cons rfl (w_pure rfl (p_assign rfl) ?_)
    refine aops_nil ?_
    refine a_seq ?_
    refine a_region ?_
    refine aops_cons rfl (w_pure rfl (p_move rfl) ?_)
    refine aops_cons rfl (w_pure rfl (p_move rfl) ?_)
    refine aops_cons rfl (w_pure rfl (p_assign rfl) ?_)
    refine aops_cons rfl (w_pure rfl (p_assign rfl) ?_)
    refine aops_nil ?_
    refine a_ret ?_
    refine ret_ok (hands2 rfl (.tmp rfl) (.tmp rfl)) (.nil _) ?_
    exact ⟨rfl, rfl⟩

set_option maxHeartbeats 2000000 in
theorem c_laws_FnExactSendToOthers (xs : List Mail) (_hc0 : (∀ x ∈ xs, okMail x) ∧ xs.length ≤ maxLen) (f : Int) (_hc1 : InI f) (q : Int) (_hc2 : InI q) : ACalls Try.prog 10 [.sl (xs.map eMail), .int .i64 f, .int .i64 q] [] (Ret (.bool true)) := by
  have hm0 : xs.length ≤ 9223372036854775807 := _hc0.2
  by_cases hA : GoodOth xs f q
  all_goals refine a_enter Try.func10 rfl rfl (fun w0 M0 => ?_)
  · skip
    refine a_seq ?_
    refine a_region ?_
    refine aops_cons rfl (w_pure rfl (p_assign rfl) ?_)
    refine aops_nil ?_
    refine a_seq ?_
    refine a_region ?_
    refine aops_cons rfl (w_pure rfl (p_assign rfl) ?_)
    refine aops_nil ?_
    refine a_seq ?_
    refine a_region ?_
    refine aops_cons rfl (w_pure rfl (p_move rfl) ?_)
    refine aops_cons rfl (w_pure rfl (p_move rfl) ?_)
    refine aops_cons rfl (w_callR rfl rfl rfl cl_18 (c_laws_szMailS _ ‹_› _ (by omega) (by omega)) ?_)
    refine aops_cons rfl (w_pure rfl (p_assign rfl) ?_)
    refine aops_nil ?_
    refine a_seq ?_
    refine a_seq ?_
    refine a_region ?_
    refine aops_cons rfl (w_pure rfl (p_move rfl) ?_)
    refine aops_cons rfl (w_pure rfl (p_lss rfl rfl) ?_)
    refine aops_nil ?_
    first | refine a_cond_d rfl (fun h1 => ?_) (fun h2 => ?_) | refine a_cond_n rfl (fun h1 => ?_) (fun h2 => ?_) | refine a_cond_nb rfl (fun h1 => ?_) (fun h2 => ?_) | refine a_cond rfl (fun h1 => ?_) (fun h2 => ?_)
    · (try simp only [Bool.not_eq_true', Bool.not_eq_false', Bool.not_eq_true, Bool.not_eq_false, decide_eq_true_eq, decide_eq_false_iff_not, List.length_map, List.length_range] at h1)
      refine a_seq ?_
      refine a_region ?_
      refine aops_cons rfl (w_pure rfl (p_assign rfl) ?_)
      refine aops_nil ?_
      refine a_ret ?_
      refine ret_ok (hands1 rfl (.tmp rfl)) (.nil _) ?_
      first | exact ⟨rfl, rfl⟩ | (exfalso; omega)
    · (try simp only [Bool.not_eq_true', Bool.not_eq_false', Bool.not_eq_true, Bool.not_eq_false, decide_eq_true_eq, decide_eq_false_iff_not, List.length_map, List.length_range] at h2)
      refine a_skip ?_
      refine a_seq ?_
      have hl0' : (xs.length : Int) ≤ 1048576 := szv_le ‹_›; have hb0 := szv_b (n := xs.length) (left := 1048576) (by first | omega | exact Int.not_lt.1 ‹_›); have hl0 : xs.length ≤ 1048576 := (by omega); have hr0 : (ssTo xs f (oth f) q 4).length ≤ 1048576 := (by have q1 := hA.1.2; have q2 := ssTo_len xs f (oth f) q 4; omega)
      refine a_region ?_
      refine aops_cons rfl (w_pure rfl (p_move rfl) ?_)
      refine aops_cons rfl (w_callR rfl rfl rfl cl_20 (c_laws_toMailS xs hl0) ?_)
      refine aops_cons rfl (w_pure rfl (p_move rfl) ?_)
      refine aops_cons rfl (w_pure rfl (p_move rfl) ?_)
      refine aops_cons rfl (w_callR rfl rfl rfl cl_38 (cy_spec_SendToOthers xs hl0 f q hA) ?_)
      refine aops_cons rfl (w_pure rfl (p_move rfl) ?_)
      refine aops_cons rfl (w_pure rfl (p_extract rfl rfl) ?_)
      refine aops_cons rfl (w_pure rfl (p_extract rfl rfl) ?_)
      refine aops_cons rfl (w_pure rfl (p_assign rfl) ?_)
      refine aops_cons rfl (w_pure rfl (p_assign rfl) ?_)
      refine aops_nil ?_
      refine a_seq ?_
      refine a_region ?_
      refine aops_cons rfl (w_pure rfl (p_move rfl) ?_)
      refine aops_cons rfl (w_call rfl rfl rfl cl_20 ((co_laws_toMailS xs hl0).mono fun _ _ h => h.len) ?_)
      rintro _ _ ⟨b1, rfl, rfl⟩
      refine aops_cons rfl (w_pure rfl (p_assign rfl) ?_)
      refine aops_nil ?_
      refine a_seq ?_
      refine a_region ?_
      refine aops_cons rfl (w_pure rfl (p_move rfl) ?_)
      refine aops_cons rfl (w_pure rfl (p_move rfl) ?_)
      refine aops_cons rfl (w_pure rfl (p_move rfl) ?_)
      refine aops_cons rfl (w_callL rfl rfl rfl cl_39 (.cons (.own (by repeat (first | exact List.Mem.head _ | apply List.Mem.tail)) (by first | (simp; done) | (simp [mkL]; done))) (.cons (.refl _) (.cons (.refl _) .nil))) (cy_impl_SendToOthers xs hl0 f q hA) ?_)
      rintro _ _ ⟨b2, rfl, rfl⟩
      refine ⟨(closed_tup (all_cons' (closed_own _ _ _ _) (all_cons' (closed_bool _) all_nil'))), (closedS_cons (closedAll _ _ _ _ cl_eMail) closedS_nil), ?_⟩
      refine aops_cons rfl (w_pure rfl (p_move rfl) ?_)
      refine aops_cons rfl (w_pure rfl (p_extract rfl rfl) ?_)
      refine aops_cons rfl (w_pure rfl (p_extract rfl rfl) ?_)
      refine aops_cons rfl (w_pure rfl (p_assign rfl) ?_)
      refine aops_cons rfl (w_pure rfl (p_assign rfl) ?_)
      refine aops_nil ?_
      refine a_seq ?_
      refine a_seq ?_
      refine a_region ?_
      refine aops_cons rfl (w_pure rfl (p_move rfl) ?_)
      refine aops_cons rfl (w_pure rfl (p_move rfl) ?_)
      refine aops_cons rfl (w_callLR rfl rfl rfl cl_22 (.cons (.own (by repeat (first | exact List.Mem.head _ | apply List.Mem.tail)) (by first | (simp; done) | (simp [mkL]; done))) (.cons (.refl _) .nil)) (c_laws_eqMailS (ssTo xs f (oth f) q 4) (by have q1 := hA.1.2; have q2 := ssTo_len xs f (oth f) q 4; omega)) (closed_bool _) ?_)
      refine aops_cons rfl (w_pure rfl (p_not rfl) ?_)
      refine aops_cons rfl (w_pure rfl (p_move rfl) ?_)
      refine aops_guard_t rfl rfl rfl (w_pure rfl (p_move rfl) ?_)
      refine aops_guard_t rfl rfl rfl (w_pure rfl (p_move rfl) ?_)
      refine aops_guard_t rfl rfl rfl (w_pure rfl (p_neq_bsame um_4 rfl rfl) ?_)
      refine aops_cons rfl (w_pure rfl (p_pick_f rfl rfl) ?_)
      refine aops_nil ?_
      refine a_cond_f rfl ?_
      refine a_skip ?_
      refine a_seq ?_
      refine a_seq ?_
      refine a_region ?_
      refine aops_cons rfl (w_pure rfl (p_move rfl) ?_)
      refine aops_cons rfl (w_pure rfl (p_move rfl) ?_)
      refine aops_cons rfl (w_callR rfl rfl rfl cl_20 (c_laws_toMailS xs hl0) ?_)
      refine aops_cons rfl (w_callLR rfl rfl rfl cl_22 (.cons (.own (by repeat (first | exact List.Mem.head _ | apply List.Mem.tail)) (by first | (simp; done) | (simp [mkL]; done))) (.cons (.refl _) .nil)) (c_laws_eqMailS xs hl0) (closed_bool _) ?_)
      refine aops_cons rfl (w_pure rfl (p_not rfl) ?_)
      refine aops_nil ?_
      refine a_cond_f rfl ?_
      refine a_skip ?_
      refine a_seq ?_
      refine a_region ?_
      refine aops_cons rfl (w_pure rfl (p_assign rfl) ?_)
      refine aops_nil ?_
      refine a_seq ?_
      refine a_region ?_
      refine aops_cons rfl (w_pure rfl (p_move rfl) ?_)
      refine aops_cons rfl (w_pure rfl (p_move rfl) ?_)
      refine aops_cons rfl (w_callM rfl rfl rfl cl_27 (.cons (by repeat (first | exact Pick.here _ _ _ | apply Pick.next)) (.nil _)) (.cons (.refl _) (.cons (.refl _) .nil)) (c_laws_markMailS _ xs hl0 _ (by omega) (by omega)) trivial ?_)
      rintro _ _ ⟨rfl, rfl⟩
      refine ⟨(closed_int _ _), (closedS_cons (closedAll _ _ _ _ cl_eMail) closedS_nil), ?_⟩
      refine aops_cons rfl (w_pure rfl (p_assign rfl) ?_)
      refine aops_nil ?_
      refine a_seq ?_
      refine a_seq ?_
      refine a_region ?_
      refine aops_cons rfl (w_pure rfl (p_move rfl) ?_)
      refine aops_cons rfl (w_pure rfl (p_lss rfl rfl) ?_)
      refine aops_cons rfl (w_pure rfl (p_move rfl) ?_)
      first | refine aops_split_d 59 rfl (fun h3 => ?_) (fun h4 => ?_) | refine aops_split 59 rfl (fun h3 => ?_) (fun h4 => ?_)
      · (try simp only [Bool.not_eq_true', Bool.not_eq_false', Bool.not_eq_true, Bool.not_eq_false, decide_eq_true_eq, decide_eq_false_iff_not, List.length_map, List.length_range] at h3)
        refine g_pass' rfl rfl rfl rfl rfl ?_
        refine g_pass' rfl rfl rfl rfl rfl ?_
        refine g_pass' rfl rfl rfl rfl rfl ?_
        refine g_pass' rfl rfl rfl rfl rfl ?_
        refine aops_cons rfl (w_pure rfl (p_pick_t rfl rfl) ?_)
        refine aops_cons rfl (w_pure rfl (p_move rfl) ?_)
        refine g_pass' rfl rfl rfl rfl rfl ?_
        refine g_pass' rfl rfl rfl rfl rfl ?_
        refine g_pass' rfl rfl rfl rfl rfl ?_
        refine aops_cons rfl (w_pure rfl (p_pick_t rfl rfl) ?_)
        refine aops_nil ?_
        refine a_cond_t rfl ?_
        refine a_seq ?_
        refine a_region ?_
        refine aops_cons rfl (w_pure rfl (p_assign rfl) ?_)
        refine aops_nil ?_
        refine a_ret ?_
        refine ret_ok (hands1 rfl (.tmp rfl)) (.nil _) ?_
        first | exact ⟨rfl, rfl⟩ | (exfalso; omega)
      · (try simp only [Bool.not_eq_true', Bool.not_eq_false', Bool.not_eq_true, Bool.not_eq_false, decide_eq_true_eq, decide_eq_false_iff_not, List.length_map, List.length_range] at h4)
        refine aops_guard_t rfl rfl rfl (w_pure rfl (p_move rfl) ?_)
        refine aops_guard_t rfl rfl rfl (w_pure rfl (p_move rfl) ?_)
        refine aops_guard_t rfl rfl rfl (w_callLR rfl rfl rfl cl_22 (.cons (.own (by repeat (first | exact List.Mem.head _ | apply List.Mem.tail)) (by first | (simp; done) | (simp [mkL]; done))) (.cons (.refl _) .nil)) (c_laws_eqMailS (ssTo xs f (oth f) q 4) (by have q1 := hA.1.2; have q2 := ssTo_len xs f (oth f) q 4; omega)) (closed_bool _) ?_)
        refine aops_guard_t rfl rfl rfl (w_pure rfl (p_not rfl) ?_)
        refine aops_cons rfl (w_pure rfl (p_pick_f rfl rfl) ?_)
        refine aops_cons rfl (w_pure rfl (p_move rfl) ?_)
        refine aops_guard_t rfl rfl rfl (w_pure rfl (p_move rfl) ?_)
        refine aops_guard_t rfl rfl rfl (w_pure rfl (p_move rfl) ?_)
        refine aops_guard_t rfl rfl rfl (w_pure rfl (p_neq_bsame um_4 rfl rfl) ?_)
        refine aops_cons rfl (w_pure rfl (p_pick_f rfl rfl) ?_)
        refine aops_nil ?_
        refine a_cond_f rfl ?_
        refine a_skip ?_
        refine a_seq ?_
        refine a_region ?_
        refine aops_cons rfl (w_pure rfl (p_assign rfl) ?_)
        refine aops_nil ?_
        refine a_seq ?_
        refine a_region ?_
        refine aops_cons rfl (w_pure rfl (p_move rfl) ?_)
        refine aops_cons rfl (w_pure rfl (p_move rfl) ?_)
        refine aops_cons rfl (w_callM rfl rfl rfl cl_27 (.cons (by repeat (first | exact Pick.here _ _ _ | apply Pick.next)) (.nil _)) (.cons (.refl _) (.cons (.refl _) .nil)) (c_laws_markMailS _ (ssTo xs f (oth f) q 4) (by have q1 := hA.1.2; have q2 := ssTo_len xs f (oth f) q 4; omega) _ (by omega) (by omega)) trivial ?_)
        rintro _ _ ⟨rfl, rfl⟩
        refine ⟨(closed_int _ _), (closedS_cons (closedAll _ _ _ _ cl_eMail) closedS_nil), ?_⟩
        refine aops_cons rfl (w_pure rfl (p_assign rfl) ?_)
        refine aops_nil ?_
        refine a_seq ?_
        refine a_region ?_
        refine aops_cons rfl (w_pure rfl (p_assign rfl) ?_)
        refine aops_nil ?_
        refine a_seq ?_
        refine a_region ?_
        refine aops_cons rfl (w_pure rfl (p_move rfl) ?_)
        refine aops_cons rfl (w_pure rfl (p_move rfl) ?_)
        refine aops_cons rfl (w_callLR rfl rfl rfl cl_28 (.cons (.own (by repeat (first | exact List.Mem.head _ | apply List.Mem.tail)) (by first | (simp; done) | (simp [mkL]; done))) (.cons (.refl _) .nil)) (c_laws_heldMailS (ssTo xs f (oth f) q 4).length (by have q1 := hA.1.2; have q2 := ssTo_len xs f (oth f) q 4; omega) _ (by omega) (by omega)) (closed_int _ _) ?_)
        refine aops_cons rfl (w_pure rfl (p_assign rfl) ?_)
        refine aops_nil ?_
        refine a_seq ?_
        refine a_seq ?_
        refine a_region ?_
        refine aops_cons rfl (w_pure rfl (p_move rfl) ?_)
        refine aops_cons rfl (w_pure rfl (p_lss rfl rfl) ?_)
        refine aops_nil ?_
        first | refine a_cond_d rfl (fun h5 => ?_) (fun h6 => ?_) | refine a_cond_n rfl (fun h5 => ?_) (fun h6 => ?_) | refine a_cond_nb rfl (fun h5 => ?_) (fun h6 => ?_) | refine a_cond rfl (fun h5 => ?_) (fun h6 => ?_)
        · (try simp only [Bool.not_eq_true', Bool.not_eq_false', Bool.not_eq_true, Bool.not_eq_false, decide_eq_true_eq, decide_eq_false_iff_not, List.length_map, List.length_range] at h5)
          refine a_seq ?_
          refine a_region ?_
          refine aops_cons rfl (w_pure rfl (p_assign rfl) ?_)
          refine aops_nil ?_
          refine a_ret ?_
          refine ret_ok (hands1 rfl (.tmp rfl)) (.nil _) ?_
          first | exact ⟨rfl, rfl⟩ | (exfalso; omega)
        · (try simp only [Bool.not_eq_true', Bool.not_eq_false', Bool.not_eq_true, Bool.not_eq_false, decide_eq_true_eq, decide_eq_false_iff_not, List.length_map, List.length_range] at h6)
          refine a_skip ?_
          refine a_seq ?_
          refine a_seq ?_
          refine a_region ?_
          refine aops_cons rfl (w_pure rfl (p_move rfl) ?_)
          refine aops_cons rfl (w_pure rfl (p_move rfl) ?_)
          refine aops_cons rfl (w_pure rfl (p_neq_same rfl rfl) ?_)
          refine aops_nil ?_
          refine a_cond_f rfl ?_
          refine a_skip ?_
          refine a_seq ?_
          refine a_region ?_
          refine aops_cons rfl (w_pure rfl (p_move rfl) ?_)
          refine aops_cons rfl (w_callR rfl rfl rfl cl_20 (c_laws_toMailS xs hl0) ?_)
          refine aops_cons rfl (w_pure rfl (p_move rfl) ?_)
          refine aops_cons rfl (w_pure rfl (p_move rfl) ?_)
          refine aops_cons rfl (w_callR rfl rfl rfl cl_39 (cf_impl_SendToOthers xs hl0 f q hA) ?_)
          refine aops_cons rfl (w_pure rfl (p_move rfl) ?_)
          refine aops_cons rfl (w_pure rfl (p_extract rfl rfl) ?_)
          refine aops_cons rfl (w_pure rfl (p_extract rfl rfl) ?_)
          refine aops_cons rfl (w_pure rfl (p_assign rfl) ?_)
          refine aops_cons rfl (w_pure rfl (p_assign rfl) ?_)
          refine aops_nil ?_
          refine a_seq ?_
          refine a_seq ?_
          refine a_region ?_
          refine aops_cons rfl (w_pure rfl (p_move rfl) ?_)
          refine aops_cons rfl (w_pure rfl (p_move rfl) ?_)
          refine aops_cons rfl (w_callLR rfl rfl rfl cl_22 (.cons (.refl _) (.cons (.refl _) .nil)) (c_laws_eqMailS (ssTo xs f (oth f) q 4) (by have q1 := hA.1.2; have q2 := ssTo_len xs f (oth f) q 4; omega)) (closed_bool _) ?_)
          refine aops_cons rfl (w_pure rfl (p_not rfl) ?_)
          refine aops_cons rfl (w_pure rfl (p_move rfl) ?_)
          refine aops_guard_t rfl rfl rfl (w_pure rfl (p_move rfl) ?_)
          refine aops_guard_t rfl rfl rfl (w_pure rfl (p_move rfl) ?_)
          refine aops_guard_t rfl rfl rfl (w_pure rfl (p_neq_bsame um_4 rfl rfl) ?_)
          refine aops_cons rfl (w_pure rfl (p_pick_f rfl rfl) ?_)
          refine aops_nil ?_
          refine a_cond_f rfl ?_
          refine a_skip ?_
          refine a_seq ?_
          refine a_region ?_
          refine aops_cons rfl (w_pure rfl (p_assign rfl) ?_)
          refine aops_nil ?_
          refine a_seq ?_
          refine a_region ?_
          refine aops_cons rfl (w_pure rfl (p_move rfl) ?_)
          refine aops_cons rfl (w_pure rfl (p_move rfl) ?_)
          refine aops_cons rfl (w_callLR rfl rfl rfl cl_28 (.cons (.own (by repeat (first | exact List.Mem.head _ | apply List.Mem.tail)) (by first | (simp; done) | (simp [mkL]; done))) (.cons (.refl _) .nil)) (c_laws_heldMailS (ssTo xs f (oth f) q 4).length (by have q1 := hA.1.2; have q2 := ssTo_len xs f (oth f) q 4; omega) _ (by omega) (by omega)) (closed_int _ _) ?_)
          refine aops_cons rfl (w_pure rfl (p_assign rfl) ?_)
          refine aops_nil ?_
          refine a_seq ?_
          refine a_seq ?_
          refine a_region ?_
          refine aops_cons rfl (w_pure rfl (p_move rfl) ?_)
          refine aops_cons rfl (w_pure rfl (p_lss rfl rfl) ?_)
          refine aops_nil ?_
          first | refine a_cond_d rfl (fun h7 => ?_) (fun h8 => ?_) | refine a_cond_n rfl (fun h7 => ?_) (fun h8 => ?_) | refine a_cond_nb rfl (fun h7 => ?_) (fun h8 => ?_) | refine a_cond rfl (fun h7 => ?_) (fun h8 => ?_)
          · (try simp only [Bool.not_eq_true', Bool.not_eq_false', Bool.not_eq_true, Bool.not_eq_false, decide_eq_true_eq, decide_eq_false_iff_not, List.length_map, List.length_range] at h7)
            refine a_seq ?_
            refine a_region ?_
            refine aops_cons rfl (w_pure rfl (p_assign rfl) ?_)
            refine aops_nil ?_
            refine a_ret ?_
            refine ret_ok (hands1 rfl (.tmp rfl)) (.nil _) ?_
            first | exact ⟨rfl, rfl⟩ | (exfalso; omega)
          · (try simp only [Bool.not_eq_true', Bool.not_eq_false', Bool.not_eq_true, Bool.not_eq_false, decide_eq_true_eq, decide_eq_false_iff_not, List.length_map, List.length_range] at h8)
            refine a_skip ?_
            refine a_seq ?_
            refine a_seq ?_
            refine a_region ?_
            refine aops_cons rfl (w_pure rfl (p_move rfl) ?_)
            refine aops_cons rfl (w_pure rfl (p_move rfl) ?_)
            refine aops_cons rfl (w_pure rfl (p_neq_same rfl rfl) ?_)
            refine aops_nil ?_
            refine a_cond_f rfl ?_
            refine a_skip ?_
            refine a_seq ?_
            refine a_region ?_
            refine aops_cons rfl (w_pure rfl (p_assign rfl) ?_)
            refine aops_nil ?_
            refine a_ret ?_
            refine ret_ok (hands1 rfl (.tmp rfl)) (.nil _) ?_
            first | exact ⟨rfl, rfl⟩ | (exfalso; omega)
  · skip
    refine a_seq ?_
    refine a_region ?_
    refine aops_cons rfl (w_pure rfl (p_assign rfl) ?_)
    refine aops_nil ?_
    refine a_seq ?_
    refine a_region ?_
    refine aops_cons rfl (w_pure rfl (p_assign rfl) ?_)
    refine aops_nil ?_
    refine a_seq ?_
    refine a_region ?_
    refine aops_cons rfl (w_pure rfl (p_move rfl) ?_)
    refine aops_cons rfl (w_pure rfl (p_move rfl) ?_)
    refine aops_cons rfl (w_callR rfl rfl rfl cl_18 (c_laws_szMailS _ ‹_› _ (by omega) (by omega)) ?_)
    refine aops_cons rfl (w_pure rfl (p_assign rfl) ?_)
    refine aops_nil ?_
    refine a_seq ?_
    refine a_seq ?_
    refine a_region ?_
    refine aops_cons rfl (w_pure rfl (p_move rfl) ?_)
    refine aops_cons rfl (w_pure rfl (p_lss rfl rfl) ?_)
    refine aops_nil ?_
    first | refine a_cond_d rfl (fun h1 => ?_) (fun h2 => ?_) | refine a_cond_n rfl (fun h1 => ?_) (fun h2 => ?_) | refine a_cond_nb rfl (fun h1 => ?_) (fun h2 => ?_) | refine a_cond rfl (fun h1 => ?_) (fun h2 => ?_)
    · (try simp only [Bool.not_eq_true', Bool.not_eq_false', Bool.not_eq_true, Bool.not_eq_false, decide_eq_true_eq, decide_eq_false_iff_not, List.length_map, List.length_range] at h1)
      refine a_seq ?_
      refine a_region ?_
      refine aops_cons rfl (w_pure rfl (p_assign rfl) ?_)
      refine aops_nil ?_
      refine a_ret ?_
      refine ret_ok (hands1 rfl (.tmp rfl)) (.nil _) ?_
      first | exact ⟨rfl, rfl⟩ | (exfalso; omega)
    · (try simp only [Bool.not_eq_true', Bool.not_eq_false', Bool.not_eq_true, Bool.not_eq_false, decide_eq_true_eq, decide_eq_false_iff_not, List.length_map, List.length_range] at h2)
      refine a_skip ?_
      refine a_seq ?_
      have hl0' : (xs.length : Int) ≤ 1048576 := szv_le ‹_›; have hb0 := szv_b (n := xs.length) (left := 1048576) (by first | omega | exact Int.not_lt.1 ‹_›); have hl0 : xs.length ≤ 1048576 := (by omega)
      refine a_region ?_
      refine aops_cons rfl (w_pure rfl (p_move rfl) ?_)
      refine aops_cons rfl (w_callR rfl rfl rfl cl_20 (c_laws_toMailS xs hl0) ?_)
      refine aops_cons rfl (w_pure rfl (p_move rfl) ?_)
      refine aops_cons rfl (w_pure rfl (p_move rfl) ?_)
      refine aops_cons rfl (w_callR rfl rfl rfl cl_38 (cn_spec_SendToOthers xs hl0 f q hA) ?_)
      refine aops_cons rfl (w_pure rfl (p_move rfl) ?_)
      refine aops_cons rfl (w_pure rfl (p_extract rfl rfl) ?_)
      refine aops_cons rfl (w_pure rfl (p_extract rfl rfl) ?_)
      refine aops_cons rfl (w_pure rfl (p_assign rfl) ?_)
      refine aops_cons rfl (w_pure rfl (p_assign rfl) ?_)
      refine aops_nil ?_
      refine a_seq ?_
      refine a_region ?_
      refine aops_cons rfl (w_pure rfl (p_move rfl) ?_)
      refine aops_cons rfl (w_call rfl rfl rfl cl_20 ((co_laws_toMailS xs hl0).mono fun _ _ h => h.len) ?_)
      rintro _ _ ⟨b1, rfl, rfl⟩
      refine aops_cons rfl (w_pure rfl (p_assign rfl) ?_)
      refine aops_nil ?_
      refine a_seq ?_
      refine a_region ?_
      refine aops_cons rfl (w_pure rfl (p_move rfl) ?_)
      refine aops_cons rfl (w_pure rfl (p_move rfl) ?_)
      refine aops_cons rfl (w_pure rfl (p_move rfl) ?_)
      refine aops_cons rfl (w_callLR rfl rfl rfl cl_39 (.cons (.own (by repeat (first | exact List.Mem.head _ | apply List.Mem.tail)) (by first | (simp; done) | (simp [mkL]; done))) (.cons (.refl _) (.cons (.refl _) .nil))) (cn_impl_SendToOthers xs hl0 f q hA) (closed_tup (all_cons' closed_nil (all_cons' (closed_bool _) all_nil'))) ?_)
      refine aops_cons rfl (w_pure rfl (p_move rfl) ?_)
      refine aops_cons rfl (w_pure rfl (p_extract rfl rfl) ?_)
      refine aops_cons rfl (w_pure rfl (p_extract rfl rfl) ?_)
      refine aops_cons rfl (w_pure rfl (p_assign rfl) ?_)
      refine aops_cons rfl (w_pure rfl (p_assign rfl) ?_)
      refine aops_nil ?_
      refine a_seq ?_
      refine a_seq ?_
      refine a_region ?_
      refine aops_cons rfl (w_pure rfl (p_move rfl) ?_)
      refine aops_cons rfl (w_pure rfl (p_move rfl) ?_)
      refine aops_cons rfl (w_callLR rfl rfl rfl cl_22 (.cons .nil (.cons (.refl _) .nil)) (c_laws_eqMailS ([] : List Mail) (by first | decide | (simp; done) | exact ⟨by decide, by decide⟩)) (closed_bool _) ?_)
      refine aops_cons rfl (w_pure rfl (p_not rfl) ?_)
      refine aops_cons rfl (w_pure rfl (p_move rfl) ?_)
      refine aops_guard_t rfl rfl rfl (w_pure rfl (p_move rfl) ?_)
      refine aops_guard_t rfl rfl rfl (w_pure rfl (p_move rfl) ?_)
      refine aops_guard_t rfl rfl rfl (w_pure rfl (p_neq_bsame um_4 rfl rfl) ?_)
      refine aops_cons rfl (w_pure rfl (p_pick_f rfl rfl) ?_)
      refine aops_nil ?_
      refine a_cond_f rfl ?_
      refine a_skip ?_
      refine a_seq ?_
      refine a_seq ?_
      refine a_region ?_
      refine aops_cons rfl (w_pure rfl (p_move rfl) ?_)
      refine aops_cons rfl (w_pure rfl (p_move rfl) ?_)
      refine aops_cons rfl (w_callR rfl rfl rfl cl_20 (c_laws_toMailS xs hl0) ?_)
      refine aops_cons rfl (w_callLR rfl rfl rfl cl_22 (.cons (.own (by repeat (first | exact List.Mem.head _ | apply List.Mem.tail)) (by first | (simp; done) | (simp [mkL]; done))) (.cons (.refl _) .nil)) (c_laws_eqMailS xs hl0) (closed_bool _) ?_)
      refine aops_cons rfl (w_pure rfl (p_not rfl) ?_)
      refine aops_nil ?_
      refine a_cond_f rfl ?_
      refine a_skip ?_
      refine a_seq ?_
      refine a_region ?_
      refine aops_cons rfl (w_pure rfl (p_assign rfl) ?_)
      refine aops_nil ?_
      refine a_seq ?_
      refine a_region ?_
      refine aops_cons rfl (w_pure rfl (p_move rfl) ?_)
      refine aops_cons rfl (w_pure rfl (p_move rfl) ?_)
      refine aops_cons rfl (w_callM rfl rfl rfl cl_27 (.cons (by repeat (first | exact Pick.here _ _ _ | apply Pick.next)) (.nil _)) (.cons (.refl _) (.cons (.refl _) .nil)) (c_laws_markMailS _ xs hl0 _ (by omega) (by omega)) trivial ?_)
      rintro _ _ ⟨rfl, rfl⟩
      refine ⟨(closed_int _ _), (closedS_cons (closedAll _ _ _ _ cl_eMail) closedS_nil), ?_⟩
      refine aops_cons rfl (w_pure rfl (p_assign rfl) ?_)
      refine aops_nil ?_
      refine a_seq ?_
      refine a_seq ?_
      refine a_region ?_
      refine aops_cons rfl (w_pure rfl (p_move rfl) ?_)
      refine aops_cons rfl (w_pure rfl (p_lss rfl rfl) ?_)
      refine aops_cons rfl (w_pure rfl (p_move rfl) ?_)
      first | refine aops_split_d 59 rfl (fun h3 => ?_) (fun h4 => ?_) | refine aops_split 59 rfl (fun h3 => ?_) (fun h4 => ?_)
      · (try simp only [Bool.not_eq_true', Bool.not_eq_false', Bool.not_eq_true, Bool.not_eq_false, decide_eq_true_eq, decide_eq_false_iff_not, List.length_map, List.length_range] at h3)
        refine g_pass' rfl rfl rfl rfl rfl ?_
        refine g_pass' rfl rfl rfl rfl rfl ?_
        refine g_pass' rfl rfl rfl rfl rfl ?_
        refine g_pass' rfl rfl rfl rfl rfl ?_
        refine aops_cons rfl (w_pure rfl (p_pick_t rfl rfl) ?_)
        refine aops_cons rfl (w_pure rfl (p_move rfl) ?_)
        refine g_pass' rfl rfl rfl rfl rfl ?_
        refine g_pass' rfl rfl rfl rfl rfl ?_
        refine g_pass' rfl rfl rfl rfl rfl ?_
        refine aops_cons rfl (w_pure rfl (p_pick_t rfl rfl) ?_)
        refine aops_nil ?_
        refine a_cond_t rfl ?_
        refine a_seq ?_
        refine a_region ?_
        refine aops_cons rfl (w_pure rfl (p_assign rfl) ?_)
        refine aops_nil ?_
        refine a_ret ?_
        refine ret_ok (hands1 rfl (.tmp rfl)) (.nil _) ?_
        first | exact ⟨rfl, rfl⟩ | (exfalso; omega)
      · (try simp only [Bool.not_eq_true', Bool.not_eq_false', Bool.not_eq_true, Bool.not_eq_false, decide_eq_true_eq, decide_eq_false_iff_not, List.length_map, List.length_range] at h4)
        refine aops_guard_t rfl rfl rfl (w_pure rfl (p_move rfl) ?_)
        refine aops_guard_t rfl rfl rfl (w_pure rfl (p_move rfl) ?_)
        refine aops_guard_t rfl rfl rfl (w_callLR rfl rfl rfl cl_22 (.cons .nil (.cons (.refl _) .nil)) (c_laws_eqMailS ([] : List Mail) (by first | decide | (simp; done) | exact ⟨by decide, by decide⟩)) (closed_bool _) ?_)
        refine aops_guard_t rfl rfl rfl (w_pure rfl (p_not rfl) ?_)
        refine aops_cons rfl (w_pure rfl (p_pick_f rfl rfl) ?_)
        refine aops_cons rfl (w_pure rfl (p_move rfl) ?_)
        refine aops_guard_t rfl rfl rfl (w_pure rfl (p_move rfl) ?_)
        refine aops_guard_t rfl rfl rfl (w_pure rfl (p_move rfl) ?_)
        refine aops_guard_t rfl rfl rfl (w_pure rfl (p_neq_bsame um_4 rfl rfl) ?_)
        refine aops_cons rfl (w_pure rfl (p_pick_f rfl rfl) ?_)
        refine aops_nil ?_
        refine a_cond_f rfl ?_
        refine a_skip ?_
        refine a_seq ?_
        refine a_region ?_
        refine aops_cons rfl (w_pure rfl (p_assign rfl) ?_)
        refine aops_nil ?_
        refine a_seq ?_
        refine a_region ?_
        refine aops_cons rfl (w_pure rfl (p_move rfl) ?_)
        refine aops_cons rfl (w_pure rfl (p_move rfl) ?_)
        refine aops_cons rfl (w_callR rfl rfl rfl cl_27 (cn_laws_markMailS ..) ?_)
        refine aops_cons rfl (w_pure rfl (p_assign rfl) ?_)
        refine aops_nil ?_
        refine a_seq ?_
        refine a_region ?_
        refine aops_cons rfl (w_pure rfl (p_assign rfl) ?_)
        refine aops_nil ?_
        refine a_seq ?_
        refine a_region ?_
        refine aops_cons rfl (w_pure rfl (p_move rfl) ?_)
        refine aops_cons rfl (w_pure rfl (p_move rfl) ?_)
        refine aops_cons rfl (w_callLR rfl rfl rfl cl_28 (.cons .nil (.cons (.refl _) .nil)) (c_laws_heldMailS 0 (by decide) _ (by omega) (by omega)) (closed_int _ _) ?_)
        refine aops_cons rfl (w_pure rfl (p_assign rfl) ?_)
        refine aops_nil ?_
        refine a_seq ?_
        refine a_seq ?_
        refine a_region ?_
        refine aops_cons rfl (w_pure rfl (p_move rfl) ?_)
        refine aops_cons rfl (w_pure rfl (p_lss rfl rfl) ?_)
        refine aops_nil ?_
        first | refine a_cond_d rfl (fun h5 => ?_) (fun h6 => ?_) | refine a_cond_n rfl (fun h5 => ?_) (fun h6 => ?_) | refine a_cond_nb rfl (fun h5 => ?_) (fun h6 => ?_) | refine a_cond rfl (fun h5 => ?_) (fun h6 => ?_)
        · (try simp only [Bool.not_eq_true', Bool.not_eq_false', Bool.not_eq_true, Bool.not_eq_false, decide_eq_true_eq, decide_eq_false_iff_not, List.length_map, List.length_range] at h5)
          refine a_seq ?_
          refine a_region ?_
          refine aops_cons rfl (w_pure rfl (p_assign rfl) ?_)
          refine aops_nil ?_
          refine a_ret ?_
          refine ret_ok (hands1 rfl (.tmp rfl)) (.nil _) ?_
          first | exact ⟨rfl, rfl⟩ | (exfalso; omega)
        · (try simp only [Bool.not_eq_true', Bool.not_eq_false', Bool.not_eq_true, Bool.not_eq_false, decide_eq_true_eq, decide_eq_false_iff_not, List.length_map, List.length_range] at h6)
          refine a_skip ?_
          refine a_seq ?_
          refine a_seq ?_
          refine a_region ?_
          refine aops_cons rfl (w_pure rfl (p_move rfl) ?_)
          refine aops_cons rfl (w_pure rfl (p_move rfl) ?_)
          refine aops_cons rfl (w_pure rfl (p_neq_same rfl rfl) ?_)
          refine aops_nil ?_
          refine a_cond_f rfl ?_
          refine a_skip ?_
          refine a_seq ?_
          refine a_region ?_
          refine aops_cons rfl (w_pure rfl (p_move rfl) ?_)
          refine aops_cons rfl (w_callR rfl rfl rfl cl_20 (c_laws_toMailS xs hl0) ?_)
          refine aops_cons rfl (w_pure rfl (p_move rfl) ?_)
          refine aops_cons rfl (w_pure rfl (p_move rfl) ?_)
          refine aops_cons rfl (w_callR rfl rfl rfl cl_39 (cn_impl_SendToOthers xs hl0 f q hA) ?_)
          refine aops_cons rfl (w_pure rfl (p_move rfl) ?_)
          refine aops_cons rfl (w_pure rfl (p_extract rfl rfl) ?_)
          refine aops_cons rfl (w_pure rfl (p_extract rfl rfl) ?_)
          refine aops_cons rfl (w_pure rfl (p_assign rfl) ?_)
          refine aops_cons rfl (w_pure rfl (p_assign rfl) ?_)
          refine aops_nil ?_
          refine a_seq ?_
          refine a_seq ?_
          refine a_region ?_
          refine aops_cons rfl (w_pure rfl (p_move rfl) ?_)
          refine aops_cons rfl (w_pure rfl (p_move rfl) ?_)
          refine aops_cons rfl (w_callLR rfl rfl rfl cl_22 (.cons .nil (.cons (.refl _) .nil)) (c_laws_eqMailS ([] : List Mail) (by first | decide | (simp; done) | exact ⟨by decide, by decide⟩)) (closed_bool _) ?_)
          refine aops_cons rfl (w_pure rfl (p_not rfl) ?_)
          refine aops_cons rfl (w_pure rfl (p_move rfl) ?_)
          refine aops_guard_t rfl rfl rfl (w_pure rfl (p_move rfl) ?_)
          refine aops_guard_t rfl rfl rfl (w_pure rfl (p_move rfl) ?_)
          refine aops_guard_t rfl rfl rfl (w_pure rfl (p_neq_bsame um_4 rfl rfl) ?_)
          refine aops_cons rfl (w_pure rfl (p_pick_f rfl rfl) ?_)
          refine aops_nil ?_
          refine a_cond_f rfl ?_
          refine a_skip ?_
          refine a_seq ?_
          refine a_region ?_
          refine aops_cons rfl (w_pure rfl (p_assign rfl) ?_)
          refine aops_nil ?_
          refine a_seq ?_
          refine a_region ?_
          refine aops_cons rfl (w_pure rfl (p_move rfl) ?_)
          refine aops_cons rfl (w_pure rfl (p_move rfl) ?_)
          refine aops_cons rfl (w_callLR rfl rfl rfl cl_28 (.cons .nil (.cons (.refl _) .nil)) (c_laws_heldMailS 0 (by decide) _ (by omega) (by omega)) (closed_int _ _) ?_)
          refine aops_cons rfl (w_pure rfl (p_assign rfl) ?_)
          refine aops_nil ?_
          refine a_seq ?_
          refine a_seq ?_
          refine a_region ?_
          refine aops_cons rfl (w_pure rfl (p_move rfl) ?_)
          refine aops_cons rfl (w_pure rfl (p_lss rfl rfl) ?_)
          refine aops_nil ?_
          first | refine a_cond_d rfl (fun h7 => ?_) (fun h8 => ?_) | refine a_cond_n rfl (fun h7 => ?_) (fun h8 => ?_) | refine a_cond_nb rfl (fun h7 => ?_) (fun h8 => ?_) | refine a_cond rfl (fun h7 => ?_) (fun h8 => ?_)
          · (try simp only [Bool.not_eq_true', Bool.not_eq_false', Bool.not_eq_true, Bool.not_eq_false, decide_eq_true_eq, decide_eq_false_iff_not, List.length_map, List.length_range] at h7)
            refine a_seq ?_
            refine a_region ?_
            refine aops_cons rfl (w_pure rfl (p_assign rfl) ?_)
            refine aops_nil ?_
            refine a_ret ?_
            refine ret_ok (hands1 rfl (.tmp rfl)) (.nil _) ?_
            first | exact ⟨rfl, rfl⟩ | (exfalso; omega)
          · (try simp only [Bool.not_eq_true', Bool.not_eq_false', Bool.not_eq_true, Bool.not_eq_false, decide_eq_true_eq, decide_eq_false_iff_not, List.length_map, List.length_range] at h8)
            refine a_skip ?_
            refine a_seq ?_
            refine a_seq ?_
            refine a_region ?_
            refine aops_cons rfl (w_pure rfl (p_move rfl) ?_)
            refine aops_cons rfl (w_pure rfl (p_move rfl) ?_)
            refine aops_cons rfl (w_pure rfl (p_neq_same rfl rfl) ?_)
            refine aops_nil ?_
            refine a_cond_f rfl ?_
            refine a_skip ?_
            refine a_seq ?_
            refine a_region ?_
            refine aops_cons rfl (w_pure rfl (p_assign rfl) ?_)
            refine aops_nil ?_
            refine a_ret ?_
            refine ret_ok (hands1 rfl (.tmp rfl)) (.nil _) ?_
            first | exact ⟨rfl, rfl⟩ | (exfalso; omega)

end Go.Proofs.Ytlfbhpjdfdddcaa
