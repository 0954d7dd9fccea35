/-
  The walks of this part: each theorem is the contract of one function. Condition: none but those that it names.
-/
import Derived.Test.YtmdhojgkhbihaaaMailCd
import Derived.Test.YtmdhojgkhbihaaaMailCF
import Derived.Test.YtmdhojgkhbihaaaMailA
import Derived.Test.YtmdhojgkhbihaaaMailB
namespace Go.Proofs.Ytmdhojgkhbihaaa
open Go Go.Fw Go.Hv
attribute [local irreducible] awp Aops Aop ADraw ADrawAll ACalls
set_option maxRecDepth 4000
set_option linter.unusedSimpArgs false
set_option linter.unusedVariables false

theorem co_impl_mailsTo (f s q : Int) : ACalls Try.prog 63 [.int .i64 f, .int .i64 s, .int .i64 q] [] (RetOwn 26 3 ((setMails f s q 4).map eMail)) := by
  refine a_enter Try.func63 rfl rfl (fun w0 M0 => ?_)
  refine a_seq ?_
  refine a_region ?_
  refine aops_cons rfl (w_pure rfl (p_assign rfl) ?_)
  refine aops_nil ?_
  refine a_seq ?_
  refine a_region ?_
  refine aops_cons rfl (w_litM eMail [] rfl el_24 rfl rfl rfl rfl rfl fun b1 => ?_)
  refine aops_cons rfl (w_pure rfl (p_assign rfl) ?_)
  refine aops_nil ?_
  refine a_seq ?_
  refine a_seq ?_
  refine a_region ?_
  refine aops_cons rfl (w_pure rfl (p_move rfl) ?_)
  refine aops_nil ?_
  refine a_block ?_
  refine a_loop (ι := Nat × Nat × List Mail) (fun ⟨i, b, l⟩ => i ≤ 4 ∧ l = setMails f s q i) (fun ⟨i, b, l⟩ => [(10, .int .i64 (i : Int)), (7, .own 3 b 0 l.length)]) (fun ⟨i, b, l⟩ => [(b, .arr 26 3 (l.map eMail))]) (fun ⟨i, b, l⟩ => 4 - i) (0, b1, []) ⟨Nat.zero_le _, rfl⟩ (by repeat (first | exact Knows.nil | refine Knows.cons (by rfl) ?_)) (by repeat (first | exact Picks.nil _ | exact Pick.here _ _ _ | apply Pick.next | apply Picks.cons)) ?_
  rintro ⟨i, b, l⟩ ⟨hi, hI⟩
  have hln := setMails_len f s q i; rw [← hI] at hln
  refine a_seq ?_
  refine a_region ?_
  refine aops_cons rfl (w_pure rfl (p_lss rfl rfl) ?_)
  refine aops_nil ?_
  refine a_seq ?_
  first | refine a_cond_d rfl (fun h1 => ?_) (fun h2 => ?_) | refine a_cond_n rfl (fun h1 => ?_) (fun h2 => ?_) | refine a_cond_nb rfl (fun h1 => ?_) (fun h2 => ?_) | refine a_cond rfl (fun h1 => ?_) (fun h2 => ?_)
  · (try simp only [Bool.not_eq_true', Bool.not_eq_false', Bool.not_eq_true, Bool.not_eq_false, decide_eq_true_eq, decide_eq_false_iff_not, List.length_map, List.length_range] at h1)
    refine a_skip ?_
    refine a_seq ?_
    refine a_block ?_
    refine a_seq ?_
    refine a_region ?_
    refine aops_cons rfl (w_pure rfl (p_move rfl) ?_)
    refine aops_cons rfl (w_pure rfl (p_assign rfl) ?_)
    refine aops_nil ?_
    refine a_seq ?_
    refine a_region ?_
    refine aops_cons rfl (w_pure rfl (p_move rfl) ?_)
    refine aops_cons rfl (w_pure rfl (p_move rfl) ?_)
    refine aops_cons rfl (w_pure rfl (p_shr rfl rfl (by omega)) ?_)
    refine aops_cons rfl (w_pure rfl (p_bits .and (by decide) rfl rfl) ?_)
    refine aops_cons rfl (w_pure rfl (p_eql rfl rfl) ?_)
    refine aops_nil ?_
    first | refine a_cond_d rfl (fun h3 => ?_) (fun h4 => ?_) | refine a_cond_n rfl (fun h3 => ?_) (fun h4 => ?_) | refine a_cond_nb rfl (fun h3 => ?_) (fun h4 => ?_) | refine a_cond rfl (fun h3 => ?_) (fun h4 => ?_)
    · (try simp only [Bool.not_eq_true', Bool.not_eq_false', Bool.not_eq_true, Bool.not_eq_false, decide_eq_true_eq, decide_eq_false_iff_not, List.length_map, List.length_range] at h3)
      refine a_region ?_
      refine aops_cons rfl (w_pure rfl (p_move rfl) ?_)
      refine aops_cons rfl (w_pure rfl (p_move rfl) ?_)
      refine aops_cons rfl (w_pure rfl (p_move rfl) ?_)
      refine aops_cons rfl (w_pure rfl (p_move rfl) ?_)
      refine aops_cons rfl (w_pure rfl (p_build (cells := [_, _, _]) z_26 pl_26 rfl rfl) ?_)
      refine aops_cons rfl (w_lit_vM eMail [⟨f, (i : Int), q⟩] rfl el_24 rfl rfl rfl rfl rfl ?_)
      refine aops_cons rfl (w_appendM eMail rfl el_24 rfl rfl (by repeat (first | exact Pick.here _ _ _ | apply Pick.next)) rfl (.sl _) (fun _ => rfl) (fun _ => rfl) (by simp; omega) (by simp; omega) trivial fun b2 => ?_)
      refine aops_cons rfl (w_pure rfl (p_assign rfl) ?_)
      refine aops_nil ?_
      refine a_region ?_
      refine aops_cons rfl (w_pure rfl (p_add' rfl rfl ⟨by omega, by omega⟩) ?_)
      refine aops_cons rfl (w_pure rfl (p_move rfl) ?_)
      refine aops_nil ?_
      refine ⟨(i + 1, _, _), _, ?_, ?_, (by repeat (first | exact Knows.nil | refine Knows.cons (by rfl) ?_)), (by repeat (first | exact Back.refl _ _ | refine Back.cons (by rfl) ?_)), (by repeat (first | exact Picks.nil _ | exact Pick.here _ _ _ | apply Pick.next | apply Picks.cons))⟩
      · refine ⟨by omega, ?_⟩; rw [setMails, ← hI]; first | exact (if_pos (by assumption)).symm | exact (if_neg (by assumption)).symm
      · (try dsimp only); omega
    · (try simp only [Bool.not_eq_true', Bool.not_eq_false', Bool.not_eq_true, Bool.not_eq_false, decide_eq_true_eq, decide_eq_false_iff_not, List.length_map, List.length_range] at h4)
      refine a_skip ?_
      refine a_region ?_
      refine aops_cons rfl (w_pure rfl (p_add' rfl rfl ⟨by omega, by omega⟩) ?_)
      refine aops_cons rfl (w_pure rfl (p_move rfl) ?_)
      refine aops_nil ?_
      refine ⟨(i + 1, _, _), _, ?_, ?_, (by repeat (first | exact Knows.nil | refine Knows.cons (by rfl) ?_)), (by repeat (first | exact Back.refl _ _ | refine Back.cons (by rfl) ?_)), (by repeat (first | exact Picks.nil _ | exact Pick.here _ _ _ | apply Pick.next | apply Picks.cons))⟩
      · refine ⟨by omega, ?_⟩; rw [setMails, ← hI]; first | exact (if_pos (by assumption)).symm | exact (if_neg (by assumption)).symm
      · (try dsimp only); omega
  · (try simp only [Bool.not_eq_true', Bool.not_eq_false', Bool.not_eq_true, Bool.not_eq_false, decide_eq_true_eq, decide_eq_false_iff_not, List.length_map, List.length_range] at h2)
    refine a_exit ?_
    refine a_seq ?_
    refine a_region ?_
    refine aops_cons rfl (w_pure rfl (p_move rfl) ?_)
    refine aops_cons rfl (w_pure rfl (p_assign rfl) ?_)
    refine aops_nil ?_
    refine a_ret ?_
    refine ret_ok (hands1 rfl (.tmp rfl)) (.cons (.here _ _ _) (.nil _)) ?_
    have hx : i = 4 := (by omega); subst hx; subst hI; exact ⟨b, by rw [List.length_map], rfl⟩

theorem c_impl_mailsTo (f s q : Int) : ACalls Try.prog 63 [.int .i64 f, .int .i64 s, .int .i64 q] [] (Ret (.sl ((setMails f s q 4).map eMail))) := (co_impl_mailsTo f s q).freeze fun _ _ h => h.vw

theorem co_spec_l12Set (xs : List Mail) (hn : xs.length ≤ 1000) (f s q : Int) : ACalls Try.prog 60 [.sl (xs.map eMail), .int .i64 f, .int .i64 s, .int .i64 q] [] (RetOwn 26 3 ((ssTo xs f s q 4).map eMail)) := by
  refine a_enter Try.func60 rfl rfl (fun w0 M0 => ?_)
  refine a_seq ?_
  refine a_region ?_
  refine aops_cons rfl (w_pure rfl (p_assign rfl) ?_)
  refine aops_nil ?_
  refine a_seq ?_
  refine a_seq ?_
  refine a_region ?_
  refine aops_cons rfl (w_pure rfl (p_assign rfl) ?_)
  refine aops_nil ?_
  refine a_block ?_
  refine a_loop (ι := Nat × List Mail) (fun ⟨i, l⟩ => i ≤ 4 ∧ l = ssTo xs f s q i) (fun ⟨i, l⟩ => [(9, .int .i64 (i : Int)), (0, .sl (l.map eMail))]) (fun ⟨i, l⟩ => []) (fun ⟨i, l⟩ => 4 - i) (0, xs) ⟨Nat.zero_le _, rfl⟩ (by repeat (first | exact Knows.nil | refine Knows.cons (by rfl) ?_)) (by repeat (first | exact Picks.nil _ | exact Pick.here _ _ _ | apply Pick.next | apply Picks.cons)) ?_
  rintro ⟨i, l⟩ ⟨hi, hI⟩
  have hln := ssTo_len xs f s q i; rw [← hI] at hln
  refine a_seq ?_
  refine a_seq ?_
  refine a_region ?_
  refine aops_cons rfl (w_pure rfl (p_move rfl) ?_)
  refine aops_cons rfl (w_pure rfl (p_lss rfl rfl) ?_)
  refine aops_nil ?_
  first | refine a_cond_d rfl (fun h1 => ?_) (fun h2 => ?_) | refine a_cond_n rfl (fun h1 => ?_) (fun h2 => ?_) | refine a_cond_nb rfl (fun h1 => ?_) (fun h2 => ?_) | refine a_cond rfl (fun h1 => ?_) (fun h2 => ?_)
  · (try simp only [Bool.not_eq_true', Bool.not_eq_false', Bool.not_eq_true, Bool.not_eq_false, decide_eq_true_eq, decide_eq_false_iff_not, List.length_map, List.length_range] at h1)
    refine a_skip ?_
    refine a_seq ?_
    refine a_block ?_
    refine a_seq ?_
    refine a_region ?_
    refine aops_cons rfl (w_pure rfl (p_move rfl) ?_)
    refine aops_cons rfl (w_pure rfl (p_move rfl) ?_)
    refine aops_cons rfl (w_pure rfl (p_convert ui_3 um_48 rfl) ?_)
    refine aops_cons rfl (w_pure rfl (p_shr rfl rfl (by rw [u64_id (by omega) (by omega)]; omega)) ?_)
    refine aops_cons rfl (w_pure rfl (p_bits .and (by decide) rfl rfl) ?_)
    refine aops_cons rfl (w_pure rfl (p_eql rfl rfl) ?_)
    refine aops_nil ?_
    first | refine a_cond_d rfl (fun h3 => ?_) (fun h4 => ?_) | refine a_cond_n rfl (fun h3 => ?_) (fun h4 => ?_) | refine a_cond_nb rfl (fun h3 => ?_) (fun h4 => ?_) | refine a_cond rfl (fun h3 => ?_) (fun h4 => ?_)
    · (try simp only [Bool.not_eq_true', Bool.not_eq_false', Bool.not_eq_true, Bool.not_eq_false, decide_eq_true_eq, decide_eq_false_iff_not, List.length_map, List.length_range] at h3)
      refine a_region ?_
      refine aops_cons rfl (w_pure rfl (p_move rfl) ?_)
      refine aops_cons rfl (w_pure rfl (p_move rfl) ?_)
      refine aops_cons rfl (w_pure rfl (p_move rfl) ?_)
      refine aops_cons rfl (w_pure rfl (p_move rfl) ?_)
      refine aops_cons rfl (w_pure rfl (p_build (cells := [_, _, _]) z_26 pl_26 rfl rfl) ?_)
      refine aops_cons rfl (w_callR rfl rfl rfl cl_49 (c_spec_l12Send _ (by omega) ⟨_, _, _⟩) ?_)
      refine aops_cons rfl (w_pure rfl (p_assign rfl) ?_)
      refine aops_nil ?_
      refine a_region ?_
      refine aops_cons rfl (w_pure rfl (p_move rfl) ?_)
      refine aops_cons rfl (w_pure rfl (p_add' rfl rfl ⟨by omega, by omega⟩) ?_)
      refine aops_cons rfl (w_pure rfl (p_assign rfl) ?_)
      refine aops_nil ?_
      refine ⟨(i + 1, _), _, ?_, ?_, (by repeat (first | exact Knows.nil | refine Knows.cons (by rfl) ?_)), (by repeat (first | exact Back.refl _ _ | refine Back.cons (by rfl) ?_)), (by repeat (first | exact Picks.nil _ | exact Pick.here _ _ _ | apply Pick.next | apply Picks.cons))⟩
      · refine ⟨by omega, ?_⟩; rw [ssTo, ← hI]; have hu : bitAt s (IntKind.u64.wrap (i : Int)) ↔ bitAt s (i : Int) := by rw [u64_id (by omega) (by omega)]
        first | exact (if_pos (hu.mp (by assumption))).symm | exact (if_neg (fun h => absurd (hu.mpr h) (by assumption))).symm
      · (try dsimp only); omega
    · (try simp only [Bool.not_eq_true', Bool.not_eq_false', Bool.not_eq_true, Bool.not_eq_false, decide_eq_true_eq, decide_eq_false_iff_not, List.length_map, List.length_range] at h4)
      refine a_skip ?_
      refine a_region ?_
      refine aops_cons rfl (w_pure rfl (p_move rfl) ?_)
      refine aops_cons rfl (w_pure rfl (p_add' rfl rfl ⟨by omega, by omega⟩) ?_)
      refine aops_cons rfl (w_pure rfl (p_assign rfl) ?_)
      refine aops_nil ?_
      refine ⟨(i + 1, _), _, ?_, ?_, (by repeat (first | exact Knows.nil | refine Knows.cons (by rfl) ?_)), (by repeat (first | exact Back.refl _ _ | refine Back.cons (by rfl) ?_)), (by repeat (first | exact Picks.nil _ | exact Pick.here _ _ _ | apply Pick.next | apply Picks.cons))⟩
      · refine ⟨by omega, ?_⟩; rw [ssTo, ← hI]; have hu : bitAt s (IntKind.u64.wrap (i : Int)) ↔ bitAt s (i : Int) := by rw [u64_id (by omega) (by omega)]
        first | exact (if_pos (hu.mp (by assumption))).symm | exact (if_neg (fun h => absurd (hu.mpr h) (by assumption))).symm
      · (try dsimp only); omega
  · (try simp only [Bool.not_eq_true', Bool.not_eq_false', Bool.not_eq_true, Bool.not_eq_false, decide_eq_true_eq, decide_eq_false_iff_not, List.length_map, List.length_range] at h2)
    refine a_exit ?_
    refine a_seq ?_
    refine a_region ?_
    refine aops_cons rfl (w_litM eMail [] rfl el_24 rfl rfl rfl rfl rfl fun b1 => ?_)
    refine aops_cons rfl (w_pure rfl (p_move rfl) ?_)
    refine aops_cons rfl (w_appendM eMail rfl el_24 rfl rfl (by repeat (first | exact Pick.here _ _ _ | apply Pick.next)) rfl (.sl _) (fun _ => rfl) (fun _ => rfl) (by simp; omega) (by simp; omega) trivial fun b2 => ?_)
    rw [List.nil_append]
    refine aops_cons rfl (w_pure rfl (p_assign rfl) ?_)
    refine aops_nil ?_
    refine a_ret ?_
    refine ret_ok (hands1 rfl (.tmp rfl)) (.cons (.here _ _ _) (.nil _)) ?_
    have hx : i = 4 := (by omega); subst hx; subst hI; refine ⟨_, ?_, rfl⟩; rw [List.length_map]

theorem c_spec_l12Set (xs : List Mail) (hn : xs.length ≤ 1000) (f s q : Int) : ACalls Try.prog 60 [.sl (xs.map eMail), .int .i64 f, .int .i64 s, .int .i64 q] [] (Ret (.sl ((ssTo xs f s q 4).map eMail))) := (co_spec_l12Set xs hn f s q).freeze fun _ _ h => h.vw

theorem cy_spec_SendToSet (xs : List Mail) (hn : xs.length ≤ 1048576) (f s q : Int) (hA : GoodSet xs f s q) : ACalls Try.prog 22 [.sl (xs.map eMail), .int .i64 f, .int .i64 s, .int .i64 q] [] (Ret (.tup [.sl ((ssTo xs f s q 4).map eMail), .int .i64 (setCount xs f s q), .bool true])) := by
  obtain ⟨g1, g2, g3, g4, g5⟩ := id hA
  have q2 := ssTo_len xs f s q 4
  refine a_enter Try.func22 rfl rfl (fun w0 M0 => ?_)
  refine a_seq ?_
  refine a_region ?_
  refine aops_cons rfl (w_pure rfl (p_assign rfl) ?_)
  refine aops_cons rfl (w_pure rfl (p_assign rfl) ?_)
  refine aops_cons rfl (w_pure rfl (p_assign rfl) ?_)
  refine aops_nil ?_
  refine a_seq ?_
  refine a_seq ?_
  refine a_region ?_
  refine aops_cons rfl (w_pure rfl (p_move rfl) ?_)
  refine aops_cons rfl (w_callR rfl rfl rfl cl_48 (c_spec_l12Good _ (by first | omega | (have q1 := ‹IsBox xs›.2; have q2 := ssTo_len xs f s q 4; omega))) ?_)
  refine aops_cons rfl (w_pure rfl (p_not rfl) ?_)
  refine aops_cons rfl (w_pure rfl (p_move rfl) ?_)
  first | refine aops_split_d 15 rfl (fun h1 => ?_) (fun h2 => ?_) | refine aops_split 15 rfl (fun h1 => ?_) (fun h2 => ?_)
  · (try simp only [Bool.not_eq_true', Bool.not_eq_false', Bool.not_eq_true, Bool.not_eq_false, decide_eq_true_eq, decide_eq_false_iff_not, List.length_map, List.length_range] at h1)
    refine g_pass' rfl rfl rfl rfl rfl ?_
    refine g_pass' rfl rfl rfl rfl rfl ?_
    refine g_pass' rfl rfl rfl rfl rfl ?_
    refine g_pass' rfl rfl rfl rfl rfl ?_
    refine g_pass' rfl rfl rfl rfl rfl ?_
    refine aops_cons rfl (w_pure rfl (p_pick_t rfl rfl) ?_)
    refine aops_cons rfl (w_pure rfl (p_move rfl) ?_)
    refine g_pass' rfl rfl rfl rfl rfl ?_
    refine g_pass' rfl rfl rfl rfl rfl ?_
    refine g_pass' rfl rfl rfl rfl rfl ?_
    refine aops_cons rfl (w_pure rfl (p_pick_t rfl rfl) ?_)
    refine aops_nil ?_
    refine a_cond_t rfl ?_
    refine a_seq ?_
    refine a_region ?_
    refine aops_cons rfl (w_lit_vM eMail [] rfl el_24 rfl rfl rfl rfl rfl ?_)
    refine aops_cons rfl (w_pure rfl (p_assign rfl) ?_)
    refine aops_cons rfl (w_pure rfl (p_assign rfl) ?_)
    refine aops_cons rfl (w_pure rfl (p_assign rfl) ?_)
    refine aops_nil ?_
    refine a_ret ?_
    refine ret_ok (hands3 rfl (.tmp rfl) (.tmp rfl) (.tmp rfl)) (.nil _) ?_
    first | exact ⟨by (simp only [List.length_map]; rfl), rfl⟩ | (exfalso; first | contradiction | omega | exact absurd hA.1 (by assumption) | exact absurd hA.mail (by assumption) | exact absurd hA.box (by assumption))
  · (try simp only [Bool.not_eq_true', Bool.not_eq_false', Bool.not_eq_true, Bool.not_eq_false, decide_eq_true_eq, decide_eq_false_iff_not, List.length_map, List.length_range] at h2)
    refine aops_guard_t rfl rfl rfl (w_pure rfl (p_move rfl) ?_)
    refine aops_guard_t rfl rfl rfl (w_pure rfl (p_move rfl) ?_)
    refine aops_guard_t rfl rfl rfl (w_pure rfl (p_build (cells := [_, _, _]) z_26 pl_26 rfl rfl) ?_)
    refine aops_guard_t rfl rfl rfl (w_callR rfl rfl rfl cl_52 (c_spec_l12One ⟨_, _, _⟩) ?_)
    refine aops_guard_t rfl rfl rfl (w_pure rfl (p_not rfl) ?_)
    refine aops_cons rfl (w_pure rfl (p_pick_f rfl rfl) ?_)
    refine aops_cons rfl (w_pure rfl (p_move rfl) ?_)
    first | refine aops_split_d 22 rfl (fun h3 => ?_) (fun h4 => ?_) | refine aops_split 22 rfl (fun h3 => ?_) (fun h4 => ?_)
    · (try simp only [Bool.not_eq_true', Bool.not_eq_false', Bool.not_eq_true, Bool.not_eq_false, decide_eq_true_eq, decide_eq_false_iff_not, List.length_map, List.length_range] at h3)
      refine g_pass' rfl rfl rfl rfl rfl ?_
      refine g_pass' rfl rfl rfl rfl rfl ?_
      refine g_pass' rfl rfl rfl rfl rfl ?_
      refine aops_cons rfl (w_pure rfl (p_pick_t rfl rfl) ?_)
      refine aops_nil ?_
      refine a_cond_t rfl ?_
      refine a_seq ?_
      refine a_region ?_
      refine aops_cons rfl (w_lit_vM eMail [] rfl el_24 rfl rfl rfl rfl rfl ?_)
      refine aops_cons rfl (w_pure rfl (p_assign rfl) ?_)
      refine aops_cons rfl (w_pure rfl (p_assign rfl) ?_)
      refine aops_cons rfl (w_pure rfl (p_assign rfl) ?_)
      refine aops_nil ?_
      refine a_ret ?_
      refine ret_ok (hands3 rfl (.tmp rfl) (.tmp rfl) (.tmp rfl)) (.nil _) ?_
      first | exact ⟨by (simp only [List.length_map]; rfl), rfl⟩ | (exfalso; first | contradiction | omega | exact absurd hA.1 (by assumption) | exact absurd hA.mail (by assumption) | exact absurd hA.box (by assumption))
    · (try simp only [Bool.not_eq_true', Bool.not_eq_false', Bool.not_eq_true, Bool.not_eq_false, decide_eq_true_eq, decide_eq_false_iff_not, List.length_map, List.length_range] at h4)
      refine aops_guard_t rfl rfl rfl (w_pure rfl (p_move rfl) ?_)
      refine aops_guard_t rfl rfl rfl (w_callR rfl rfl rfl cl_64 (c_spec_l1In ..) ?_)
      refine aops_guard_t rfl rfl rfl (w_pure rfl (p_not rfl) ?_)
      refine aops_cons rfl (w_pure rfl (p_pick_f rfl rfl) ?_)
      refine aops_nil ?_
      first | refine a_cond_d rfl (fun h5 => ?_) (fun h6 => ?_) | refine a_cond_n rfl (fun h5 => ?_) (fun h6 => ?_) | refine a_cond_nb rfl (fun h5 => ?_) (fun h6 => ?_) | refine a_cond rfl (fun h5 => ?_) (fun h6 => ?_)
      · (try simp only [Bool.not_eq_true', Bool.not_eq_false', Bool.not_eq_true, Bool.not_eq_false, decide_eq_true_eq, decide_eq_false_iff_not, List.length_map, List.length_range] at h5)
        refine a_seq ?_
        refine a_region ?_
        refine aops_cons rfl (w_lit_vM eMail [] rfl el_24 rfl rfl rfl rfl rfl ?_)
        refine aops_cons rfl (w_pure rfl (p_assign rfl) ?_)
        refine aops_cons rfl (w_pure rfl (p_assign rfl) ?_)
        refine aops_cons rfl (w_pure rfl (p_assign rfl) ?_)
        refine aops_nil ?_
        refine a_ret ?_
        refine ret_ok (hands3 rfl (.tmp rfl) (.tmp rfl) (.tmp rfl)) (.nil _) ?_
        first | exact ⟨by (simp only [List.length_map]; rfl), rfl⟩ | (exfalso; first | contradiction | omega | exact absurd hA.1 (by assumption) | exact absurd hA.mail (by assumption) | exact absurd hA.box (by assumption))
      · (try simp only [Bool.not_eq_true', Bool.not_eq_false', Bool.not_eq_true, Bool.not_eq_false, decide_eq_true_eq, decide_eq_false_iff_not, List.length_map, List.length_range] at h6)
        refine a_skip ?_
        refine a_seq ?_
        refine a_region ?_
        refine aops_cons rfl (w_pure rfl (p_move rfl) ?_)
        refine aops_cons rfl (w_pure rfl (p_move rfl) ?_)
        refine aops_cons rfl (w_pure rfl (p_move rfl) ?_)
        refine aops_cons rfl (w_pure rfl (p_move rfl) ?_)
        refine aops_cons rfl (w_callR rfl rfl rfl cl_60 (c_spec_l12Set _ (by have q1 := ‹IsBox xs›.2; omega) _ _ _) ?_)
        refine aops_cons rfl (w_pure rfl (p_assign rfl) ?_)
        refine aops_nil ?_
        refine a_seq ?_
        refine a_seq ?_
        refine a_region ?_
        refine aops_cons rfl (w_pure rfl (p_move rfl) ?_)
        refine aops_cons rfl (w_callR rfl rfl rfl cl_48 (c_spec_l12Good _ (by first | omega | (have q1 := ‹IsBox xs›.2; have q2 := ssTo_len xs f s q 4; omega))) ?_)
        refine aops_cons rfl (w_pure rfl (p_not rfl) ?_)
        refine aops_nil ?_
        first | refine a_cond_d rfl (fun h7 => ?_) (fun h8 => ?_) | refine a_cond_n rfl (fun h7 => ?_) (fun h8 => ?_) | refine a_cond_nb rfl (fun h7 => ?_) (fun h8 => ?_) | refine a_cond rfl (fun h7 => ?_) (fun h8 => ?_)
        · (try simp only [Bool.not_eq_true', Bool.not_eq_false', Bool.not_eq_true, Bool.not_eq_false, decide_eq_true_eq, decide_eq_false_iff_not, List.length_map, List.length_range] at h7)
          refine a_seq ?_
          refine a_region ?_
          refine aops_cons rfl (w_lit_vM eMail [] rfl el_24 rfl rfl rfl rfl rfl ?_)
          refine aops_cons rfl (w_pure rfl (p_assign rfl) ?_)
          refine aops_cons rfl (w_pure rfl (p_assign rfl) ?_)
          refine aops_cons rfl (w_pure rfl (p_assign rfl) ?_)
          refine aops_nil ?_
          refine a_ret ?_
          refine ret_ok (hands3 rfl (.tmp rfl) (.tmp rfl) (.tmp rfl)) (.nil _) ?_
          first | exact ⟨by (simp only [List.length_map]; rfl), rfl⟩ | (exfalso; first | contradiction | omega | exact absurd hA.1 (by assumption) | exact absurd hA.mail (by assumption) | exact absurd hA.box (by assumption))
        · (try simp only [Bool.not_eq_true', Bool.not_eq_false', Bool.not_eq_true, Bool.not_eq_false, decide_eq_true_eq, decide_eq_false_iff_not, List.length_map, List.length_range] at h8)
          refine a_skip ?_
          refine a_seq ?_
          refine a_region ?_
          refine aops_cons rfl (w_pure rfl (p_move rfl) ?_)
          refine aops_cons rfl (w_pure rfl (p_move rfl) ?_)
          refine aops_cons rfl (w_pure rfl (p_len sl_24 rfl rfl) ?_)
          refine aops_cons rfl (w_pure rfl (p_move rfl) ?_)
          refine aops_cons rfl (w_pure rfl (p_len sl_24 rfl rfl) ?_)
          refine aops_cons rfl (w_pure rfl (p_sub' rfl rfl ⟨by simp only [List.length_map]; omega, by simp only [List.length_map]; omega⟩) ?_)
          refine aops_cons rfl (w_pure rfl (p_assign rfl) ?_)
          refine aops_cons rfl (w_pure rfl (p_assign rfl) ?_)
          refine aops_cons rfl (w_pure rfl (p_assign rfl) ?_)
          refine aops_nil ?_
          refine a_ret ?_
          refine ret_ok (hands3 rfl (.tmp rfl) (.tmp rfl) (.tmp rfl)) (.nil _) ?_
          first | exact ⟨by (simp only [List.length_map]; rfl), rfl⟩ | (exfalso; first | contradiction | omega | exact absurd hA.1 (by assumption) | exact absurd hA.mail (by assumption) | exact absurd hA.box (by assumption))

theorem cn_spec_SendToSet (xs : List Mail) (hn : xs.length ≤ 1048576) (f s q : Int) (hA : ¬ GoodSet xs f s q) : ACalls Try.prog 22 [.sl (xs.map eMail), .int .i64 f, .int .i64 s, .int .i64 q] [] (Ret (.tup [.sl ([] : List (List AV)), .int .i64 0, .bool false])) := by
  have q2 := ssTo_len xs f s q 4
  refine a_enter Try.func22 rfl rfl (fun w0 M0 => ?_)
  refine a_seq ?_
  refine a_region ?_
  refine aops_cons rfl (w_pure rfl (p_assign rfl) ?_)
  refine aops_cons rfl (w_pure rfl (p_assign rfl) ?_)
  refine aops_cons rfl (w_pure rfl (p_assign rfl) ?_)
  refine aops_nil ?_
  refine a_seq ?_
  refine a_seq ?_
  refine a_region ?_
  refine aops_cons rfl (w_pure rfl (p_move rfl) ?_)
  refine aops_cons rfl (w_callR rfl rfl rfl cl_48 (c_spec_l12Good _ (by first | omega | (have q1 := ‹IsBox xs›.2; have q2 := ssTo_len xs f s q 4; omega))) ?_)
  refine aops_cons rfl (w_pure rfl (p_not rfl) ?_)
  refine aops_cons rfl (w_pure rfl (p_move rfl) ?_)
  first | refine aops_split_d 15 rfl (fun h1 => ?_) (fun h2 => ?_) | refine aops_split 15 rfl (fun h1 => ?_) (fun h2 => ?_)
  · (try simp only [Bool.not_eq_true', Bool.not_eq_false', Bool.not_eq_true, Bool.not_eq_false, decide_eq_true_eq, decide_eq_false_iff_not, List.length_map, List.length_range] at h1)
    refine g_pass' rfl rfl rfl rfl rfl ?_
    refine g_pass' rfl rfl rfl rfl rfl ?_
    refine g_pass' rfl rfl rfl rfl rfl ?_
    refine g_pass' rfl rfl rfl rfl rfl ?_
    refine g_pass' rfl rfl rfl rfl rfl ?_
    refine aops_cons rfl (w_pure rfl (p_pick_t rfl rfl) ?_)
    refine aops_cons rfl (w_pure rfl (p_move rfl) ?_)
    refine g_pass' rfl rfl rfl rfl rfl ?_
    refine g_pass' rfl rfl rfl rfl rfl ?_
    refine g_pass' rfl rfl rfl rfl rfl ?_
    refine aops_cons rfl (w_pure rfl (p_pick_t rfl rfl) ?_)
    refine aops_nil ?_
    refine a_cond_t rfl ?_
    refine a_seq ?_
    refine a_region ?_
    refine aops_cons rfl (w_lit_vM eMail [] rfl el_24 rfl rfl rfl rfl rfl ?_)
    refine aops_cons rfl (w_pure rfl (p_assign rfl) ?_)
    refine aops_cons rfl (w_pure rfl (p_assign rfl) ?_)
    refine aops_cons rfl (w_pure rfl (p_assign rfl) ?_)
    refine aops_nil ?_
    refine a_ret ?_
    refine ret_ok (hands3 rfl (.tmp rfl) (.tmp rfl) (.tmp rfl)) (.nil _) ?_
    first | exact ⟨rfl, rfl⟩ | exact absurd (goodSet_of (by assumption) (by assumption) (by omega) (by assumption)) hA
  · (try simp only [Bool.not_eq_true', Bool.not_eq_false', Bool.not_eq_true, Bool.not_eq_false, decide_eq_true_eq, decide_eq_false_iff_not, List.length_map, List.length_range] at h2)
    refine aops_guard_t rfl rfl rfl (w_pure rfl (p_move rfl) ?_)
    refine aops_guard_t rfl rfl rfl (w_pure rfl (p_move rfl) ?_)
    refine aops_guard_t rfl rfl rfl (w_pure rfl (p_build (cells := [_, _, _]) z_26 pl_26 rfl rfl) ?_)
    refine aops_guard_t rfl rfl rfl (w_callR rfl rfl rfl cl_52 (c_spec_l12One ⟨_, _, _⟩) ?_)
    refine aops_guard_t rfl rfl rfl (w_pure rfl (p_not rfl) ?_)
    refine aops_cons rfl (w_pure rfl (p_pick_f rfl rfl) ?_)
    refine aops_cons rfl (w_pure rfl (p_move rfl) ?_)
    first | refine aops_split_d 22 rfl (fun h3 => ?_) (fun h4 => ?_) | refine aops_split 22 rfl (fun h3 => ?_) (fun h4 => ?_)
    · (try simp only [Bool.not_eq_true', Bool.not_eq_false', Bool.not_eq_true, Bool.not_eq_false, decide_eq_true_eq, decide_eq_false_iff_not, List.length_map, List.length_range] at h3)
      refine g_pass' rfl rfl rfl rfl rfl ?_
      refine g_pass' rfl rfl rfl rfl rfl ?_
      refine g_pass' rfl rfl rfl rfl rfl ?_
      refine aops_cons rfl (w_pure rfl (p_pick_t rfl rfl) ?_)
      refine aops_nil ?_
      refine a_cond_t rfl ?_
      refine a_seq ?_
      refine a_region ?_
      refine aops_cons rfl (w_lit_vM eMail [] rfl el_24 rfl rfl rfl rfl rfl ?_)
      refine aops_cons rfl (w_pure rfl (p_assign rfl) ?_)
      refine aops_cons rfl (w_pure rfl (p_assign rfl) ?_)
      refine aops_cons rfl (w_pure rfl (p_assign rfl) ?_)
      refine aops_nil ?_
      refine a_ret ?_
      refine ret_ok (hands3 rfl (.tmp rfl) (.tmp rfl) (.tmp rfl)) (.nil _) ?_
      first | exact ⟨rfl, rfl⟩ | exact absurd (goodSet_of (by assumption) (by assumption) (by omega) (by assumption)) hA
    · (try simp only [Bool.not_eq_true', Bool.not_eq_false', Bool.not_eq_true, Bool.not_eq_false, decide_eq_true_eq, decide_eq_false_iff_not, List.length_map, List.length_range] at h4)
      refine aops_guard_t rfl rfl rfl (w_pure rfl (p_move rfl) ?_)
      refine aops_guard_t rfl rfl rfl (w_callR rfl rfl rfl cl_64 (c_spec_l1In ..) ?_)
      refine aops_guard_t rfl rfl rfl (w_pure rfl (p_not rfl) ?_)
      refine aops_cons rfl (w_pure rfl (p_pick_f rfl rfl) ?_)
      refine aops_nil ?_
      first | refine a_cond_d rfl (fun h5 => ?_) (fun h6 => ?_) | refine a_cond_n rfl (fun h5 => ?_) (fun h6 => ?_) | refine a_cond_nb rfl (fun h5 => ?_) (fun h6 => ?_) | refine a_cond rfl (fun h5 => ?_) (fun h6 => ?_)
      · (try simp only [Bool.not_eq_true', Bool.not_eq_false', Bool.not_eq_true, Bool.not_eq_false, decide_eq_true_eq, decide_eq_false_iff_not, List.length_map, List.length_range] at h5)
        refine a_seq ?_
        refine a_region ?_
        refine aops_cons rfl (w_lit_vM eMail [] rfl el_24 rfl rfl rfl rfl rfl ?_)
        refine aops_cons rfl (w_pure rfl (p_assign rfl) ?_)
        refine aops_cons rfl (w_pure rfl (p_assign rfl) ?_)
        refine aops_cons rfl (w_pure rfl (p_assign rfl) ?_)
        refine aops_nil ?_
        refine a_ret ?_
        refine ret_ok (hands3 rfl (.tmp rfl) (.tmp rfl) (.tmp rfl)) (.nil _) ?_
        first | exact ⟨rfl, rfl⟩ | exact absurd (goodSet_of (by assumption) (by assumption) (by omega) (by assumption)) hA
      · (try simp only [Bool.not_eq_true', Bool.not_eq_false', Bool.not_eq_true, Bool.not_eq_false, decide_eq_true_eq, decide_eq_false_iff_not, List.length_map, List.length_range] at h6)
        refine a_skip ?_
        refine a_seq ?_
        refine a_region ?_
        refine aops_cons rfl (w_pure rfl (p_move rfl) ?_)
        refine aops_cons rfl (w_pure rfl (p_move rfl) ?_)
        refine aops_cons rfl (w_pure rfl (p_move rfl) ?_)
        refine aops_cons rfl (w_pure rfl (p_move rfl) ?_)
        refine aops_cons rfl (w_callR rfl rfl rfl cl_60 (c_spec_l12Set _ (by have q1 := ‹IsBox xs›.2; omega) _ _ _) ?_)
        refine aops_cons rfl (w_pure rfl (p_assign rfl) ?_)
        refine aops_nil ?_
        refine a_seq ?_
        refine a_seq ?_
        refine a_region ?_
        refine aops_cons rfl (w_pure rfl (p_move rfl) ?_)
        refine aops_cons rfl (w_callR rfl rfl rfl cl_48 (c_spec_l12Good _ (by first | omega | (have q1 := ‹IsBox xs›.2; have q2 := ssTo_len xs f s q 4; omega))) ?_)
        refine aops_cons rfl (w_pure rfl (p_not rfl) ?_)
        refine aops_nil ?_
        first | refine a_cond_d rfl (fun h7 => ?_) (fun h8 => ?_) | refine a_cond_n rfl (fun h7 => ?_) (fun h8 => ?_) | refine a_cond_nb rfl (fun h7 => ?_) (fun h8 => ?_) | refine a_cond rfl (fun h7 => ?_) (fun h8 => ?_)
        · (try simp only [Bool.not_eq_true', Bool.not_eq_false', Bool.not_eq_true, Bool.not_eq_false, decide_eq_true_eq, decide_eq_false_iff_not, List.length_map, List.length_range] at h7)
          refine a_seq ?_
          refine a_region ?_
          refine aops_cons rfl (w_lit_vM eMail [] rfl el_24 rfl rfl rfl rfl rfl ?_)
          refine aops_cons rfl (w_pure rfl (p_assign rfl) ?_)
          refine aops_cons rfl (w_pure rfl (p_assign rfl) ?_)
          refine aops_cons rfl (w_pure rfl (p_assign rfl) ?_)
          refine aops_nil ?_
          refine a_ret ?_
          refine ret_ok (hands3 rfl (.tmp rfl) (.tmp rfl) (.tmp rfl)) (.nil _) ?_
          first | exact ⟨rfl, rfl⟩ | exact absurd (goodSet_of (by assumption) (by assumption) (by omega) (by assumption)) hA
        · (try simp only [Bool.not_eq_true', Bool.not_eq_false', Bool.not_eq_true, Bool.not_eq_false, decide_eq_true_eq, decide_eq_false_iff_not, List.length_map, List.length_range] at h8)
          refine a_skip ?_
          refine a_seq ?_
          refine a_region ?_
          refine aops_cons rfl (w_pure rfl (p_move rfl) ?_)
          refine aops_cons rfl (w_pure rfl (p_move rfl) ?_)
          refine aops_cons rfl (w_pure rfl (p_len sl_24 rfl rfl) ?_)
          refine aops_cons rfl (w_pure rfl (p_move rfl) ?_)
          refine aops_cons rfl (w_pure rfl (p_len sl_24 rfl rfl) ?_)
          refine aops_cons rfl (w_pure rfl (p_sub' rfl rfl ⟨by simp only [List.length_map]; omega, by simp only [List.length_map]; omega⟩) ?_)
          refine aops_cons rfl (w_pure rfl (p_assign rfl) ?_)
          refine aops_cons rfl (w_pure rfl (p_assign rfl) ?_)
          refine aops_cons rfl (w_pure rfl (p_assign rfl) ?_)
          refine aops_nil ?_
          refine a_ret ?_
          refine ret_ok (hands3 rfl (.tmp rfl) (.tmp rfl) (.tmp rfl)) (.nil _) ?_
          first | exact ⟨rfl, rfl⟩ | exact absurd (goodSet_of (by assumption) (by assumption) (by omega) (by assumption)) hA

theorem cy_impl_SendToSet (xs : List Mail) (hn : xs.length ≤ 1048576) (f s q : Int) (hA : GoodSet xs f s q) : ACalls Try.prog 21 [.sl (xs.map eMail), .int .i64 f, .int .i64 s, .int .i64 q] [] (fun r st => ∃ b1, r = .tup [.own 3 b1 0 (ssTo xs f s q 4).length, .int .i64 (setCount xs f s q), .bool true] ∧ st = [(b1, .arr 26 3 ((ssTo xs f s q 4).map eMail))]) := by
  obtain ⟨g1, g2, g3, g4, g5⟩ := id hA
  have q2 := ssTo_len xs f s q 4
  refine a_enter Try.func21 rfl rfl (fun w0 M0 => ?_)
  refine a_seq ?_
  refine a_region ?_
  refine aops_cons rfl (w_pure rfl (p_assign rfl) ?_)
  refine aops_cons rfl (w_pure rfl (p_assign rfl) ?_)
  refine aops_cons rfl (w_pure rfl (p_assign rfl) ?_)
  refine aops_nil ?_
  refine a_seq ?_
  refine a_seq ?_
  refine a_region ?_
  refine aops_cons rfl (w_pure rfl (p_move rfl) ?_)
  refine aops_cons rfl (w_callR rfl rfl rfl cl_13 (c_impl_IsBox _ (by omega)) ?_)
  refine aops_cons rfl (w_pure rfl (p_not rfl) ?_)
  refine aops_cons rfl (w_pure rfl (p_move rfl) ?_)
  first | refine aops_split_d 14 rfl (fun h1 => ?_) (fun h2 => ?_) | refine aops_split 14 rfl (fun h1 => ?_) (fun h2 => ?_)
  · (try simp only [Bool.not_eq_true', Bool.not_eq_false', Bool.not_eq_true, Bool.not_eq_false, decide_eq_true_eq, decide_eq_false_iff_not, List.length_map, List.length_range] at h1)
    refine g_pass' rfl rfl rfl rfl rfl ?_
    refine g_pass' rfl rfl rfl rfl rfl ?_
    refine g_pass' rfl rfl rfl rfl rfl ?_
    refine aops_cons rfl (w_pure rfl (p_pick_t rfl rfl) ?_)
    refine aops_cons rfl (w_pure rfl (p_move rfl) ?_)
    refine g_pass' rfl rfl rfl rfl rfl ?_
    refine g_pass' rfl rfl rfl rfl rfl ?_
    refine g_pass' rfl rfl rfl rfl rfl ?_
    refine aops_cons rfl (w_pure rfl (p_pick_t rfl rfl) ?_)
    refine aops_cons rfl (w_pure rfl (p_move rfl) ?_)
    refine g_pass' rfl rfl rfl rfl rfl ?_
    refine g_pass' rfl rfl rfl rfl rfl ?_
    refine g_pass' rfl rfl rfl rfl rfl ?_
    refine aops_cons rfl (w_pure rfl (p_pick_t rfl rfl) ?_)
    refine aops_nil ?_
    refine a_cond_t rfl ?_
    refine a_seq ?_
    refine a_region ?_
    refine aops_cons rfl (w_pure rfl (p_assign rfl) ?_)
    refine aops_cons rfl (w_pure rfl (p_assign rfl) ?_)
    refine aops_cons rfl (w_pure rfl (p_assign rfl) ?_)
    refine aops_nil ?_
    refine a_ret ?_
    refine ret_ok (hands3 rfl (.tmp rfl) (.tmp rfl) (.tmp rfl)) (.nil _) ?_
    first | exact ⟨_, rfl, rfl⟩ | (exfalso; first | contradiction | omega | exact absurd hA.1 (by assumption) | exact absurd hA.mail (by assumption) | exact absurd hA.box (by assumption))
  · (try simp only [Bool.not_eq_true', Bool.not_eq_false', Bool.not_eq_true, Bool.not_eq_false, decide_eq_true_eq, decide_eq_false_iff_not, List.length_map, List.length_range] at h2)
    refine aops_guard_t rfl rfl rfl (w_pure rfl (p_move rfl) ?_)
    refine aops_guard_t rfl rfl rfl (w_callR rfl rfl rfl cl_50 (c_impl_isCpu ..) ?_)
    refine aops_guard_t rfl rfl rfl (w_pure rfl (p_not rfl) ?_)
    refine aops_cons rfl (w_pure rfl (p_pick_f rfl rfl) ?_)
    refine aops_cons rfl (w_pure rfl (p_move rfl) ?_)
    first | refine aops_split_d 19 rfl (fun h3 => ?_) (fun h4 => ?_) | refine aops_split 19 rfl (fun h3 => ?_) (fun h4 => ?_)
    · (try simp only [Bool.not_eq_true', Bool.not_eq_false', Bool.not_eq_true, Bool.not_eq_false, decide_eq_true_eq, decide_eq_false_iff_not, List.length_map, List.length_range] at h3)
      refine g_pass' rfl rfl rfl rfl rfl ?_
      refine g_pass' rfl rfl rfl rfl rfl ?_
      refine g_pass' rfl rfl rfl rfl rfl ?_
      refine aops_cons rfl (w_pure rfl (p_pick_t rfl rfl) ?_)
      refine aops_cons rfl (w_pure rfl (p_move rfl) ?_)
      refine g_pass' rfl rfl rfl rfl rfl ?_
      refine g_pass' rfl rfl rfl rfl rfl ?_
      refine g_pass' rfl rfl rfl rfl rfl ?_
      refine aops_cons rfl (w_pure rfl (p_pick_t rfl rfl) ?_)
      refine aops_nil ?_
      refine a_cond_t rfl ?_
      refine a_seq ?_
      refine a_region ?_
      refine aops_cons rfl (w_pure rfl (p_assign rfl) ?_)
      refine aops_cons rfl (w_pure rfl (p_assign rfl) ?_)
      refine aops_cons rfl (w_pure rfl (p_assign rfl) ?_)
      refine aops_nil ?_
      refine a_ret ?_
      refine ret_ok (hands3 rfl (.tmp rfl) (.tmp rfl) (.tmp rfl)) (.nil _) ?_
      first | exact ⟨_, rfl, rfl⟩ | (exfalso; first | contradiction | omega | exact absurd hA.1 (by assumption) | exact absurd hA.mail (by assumption) | exact absurd hA.box (by assumption))
    · (try simp only [Bool.not_eq_true', Bool.not_eq_false', Bool.not_eq_true, Bool.not_eq_false, decide_eq_true_eq, decide_eq_false_iff_not, List.length_map, List.length_range] at h4)
      refine aops_guard_t rfl rfl rfl (w_pure rfl (p_move rfl) ?_)
      refine aops_guard_t rfl rfl rfl (w_callR rfl rfl rfl cl_62 (c_impl_inside ..) ?_)
      refine aops_guard_t rfl rfl rfl (w_pure rfl (p_not rfl) ?_)
      refine aops_cons rfl (w_pure rfl (p_pick_f rfl rfl) ?_)
      refine aops_cons rfl (w_pure rfl (p_move rfl) ?_)
      first | refine aops_split_d 24 rfl (fun h5 => ?_) (fun h6 => ?_) | refine aops_split 24 rfl (fun h5 => ?_) (fun h6 => ?_)
      · (try simp only [Bool.not_eq_true', Bool.not_eq_false', Bool.not_eq_true, Bool.not_eq_false, decide_eq_true_eq, decide_eq_false_iff_not, List.length_map, List.length_range] at h5)
        refine g_pass' rfl rfl rfl rfl rfl ?_
        refine g_pass' rfl rfl rfl rfl rfl ?_
        refine g_pass' rfl rfl rfl rfl rfl ?_
        refine aops_cons rfl (w_pure rfl (p_pick_t rfl rfl) ?_)
        refine aops_nil ?_
        refine a_cond_t rfl ?_
        refine a_seq ?_
        refine a_region ?_
        refine aops_cons rfl (w_pure rfl (p_assign rfl) ?_)
        refine aops_cons rfl (w_pure rfl (p_assign rfl) ?_)
        refine aops_cons rfl (w_pure rfl (p_assign rfl) ?_)
        refine aops_nil ?_
        refine a_ret ?_
        refine ret_ok (hands3 rfl (.tmp rfl) (.tmp rfl) (.tmp rfl)) (.nil _) ?_
        first | exact ⟨_, rfl, rfl⟩ | (exfalso; first | contradiction | omega | exact absurd hA.1 (by assumption) | exact absurd hA.mail (by assumption) | exact absurd hA.box (by assumption))
      · (try simp only [Bool.not_eq_true', Bool.not_eq_false', Bool.not_eq_true, Bool.not_eq_false, decide_eq_true_eq, decide_eq_false_iff_not, List.length_map, List.length_range] at h6)
        refine aops_guard_t rfl rfl rfl (w_pure rfl (p_move rfl) ?_)
        refine aops_guard_t rfl rfl rfl (w_callR rfl rfl rfl cl_51 (c_impl_isMailIrq ..) ?_)
        refine aops_guard_t rfl rfl rfl (w_pure rfl (p_not rfl) ?_)
        refine aops_cons rfl (w_pure rfl (p_pick_f rfl rfl) ?_)
        refine aops_nil ?_
        first | refine a_cond_d rfl (fun h7 => ?_) (fun h8 => ?_) | refine a_cond_n rfl (fun h7 => ?_) (fun h8 => ?_) | refine a_cond_nb rfl (fun h7 => ?_) (fun h8 => ?_) | refine a_cond rfl (fun h7 => ?_) (fun h8 => ?_)
        · (try simp only [Bool.not_eq_true', Bool.not_eq_false', Bool.not_eq_true, Bool.not_eq_false, decide_eq_true_eq, decide_eq_false_iff_not, List.length_map, List.length_range] at h7)
          refine a_seq ?_
          refine a_region ?_
          refine aops_cons rfl (w_pure rfl (p_assign rfl) ?_)
          refine aops_cons rfl (w_pure rfl (p_assign rfl) ?_)
          refine aops_cons rfl (w_pure rfl (p_assign rfl) ?_)
          refine aops_nil ?_
          refine a_ret ?_
          refine ret_ok (hands3 rfl (.tmp rfl) (.tmp rfl) (.tmp rfl)) (.nil _) ?_
          first | exact ⟨_, rfl, rfl⟩ | (exfalso; first | contradiction | omega | exact absurd hA.1 (by assumption) | exact absurd hA.mail (by assumption) | exact absurd hA.box (by assumption))
        · (try simp only [Bool.not_eq_true', Bool.not_eq_false', Bool.not_eq_true, Bool.not_eq_false, decide_eq_true_eq, decide_eq_false_iff_not, List.length_map, List.length_range] at h8)
          refine a_skip ?_
          refine a_seq ?_
          refine a_region ?_
          refine aops_cons rfl (w_pure rfl (p_move rfl) ?_)
          refine aops_cons rfl (w_pure rfl (p_move rfl) ?_)
          refine aops_cons rfl (w_pure rfl (p_move rfl) ?_)
          refine aops_cons rfl (w_pure rfl (p_move rfl) ?_)
          refine aops_cons rfl (w_callR rfl rfl rfl cl_63 (c_impl_mailsTo _ _ _) ?_)
          refine aops_cons rfl (w_call rfl rfl rfl cl_47 (by have h := cy_impl_sendAll xs (setMails f s q 4) (by have q1 := ‹IsBox xs›.2; omega) (by have := setMails_len f s q 4; omega) (by rw [(allTo_set xs f s q 4)]; exact g5); rw [(allTo_set xs f s q 4)] at h; exact h) ?_)
          rintro _ _ ⟨b1, rfl, rfl⟩
          refine aops_cons rfl (w_pure rfl (p_extract rfl rfl) ?_)
          refine aops_cons rfl (w_pure rfl (p_extract rfl rfl) ?_)
          refine aops_cons rfl (w_pure rfl (p_extract rfl rfl) ?_)
          refine aops_cons rfl (w_pure rfl (p_assign rfl) ?_)
          refine aops_cons rfl (w_pure rfl (p_assign rfl) ?_)
          refine aops_cons rfl (w_pure rfl (p_assign rfl) ?_)
          refine aops_nil ?_
          refine a_ret ?_
          refine ret_ok (hands3 rfl (.tmp rfl) (.tmp rfl) (.tmp rfl)) (st' := [(b1, _)]) (.cons (by repeat (first | exact Pick.here _ _ _ | apply Pick.next)) (.nil _)) ?_
          first | exact ⟨_, rfl, rfl⟩ | (exfalso; first | contradiction | omega | exact absurd hA.1 (by assumption) | exact absurd hA.mail (by assumption) | exact absurd hA.box (by assumption))

theorem cf_impl_SendToSet (xs : List Mail) (hn : xs.length ≤ 1048576) (f s q : Int) (hA : GoodSet xs f s q) : ACalls Try.prog 21 [.sl (xs.map eMail), .int .i64 f, .int .i64 s, .int .i64 q] [] (Ret (.tup [.sl ((ssTo xs f s q 4).map eMail), .int .i64 (setCount xs f s q), .bool true])) :=
  (cy_impl_SendToSet xs hn f s q hA).freeze (by rintro _ _ ⟨_, rfl, rfl⟩; exact (.tup (.cons (.own (by repeat (first | exact List.Mem.head _ | apply List.Mem.tail)) (List.length_map _)) (.cons (.refl _) (.cons (.refl _) .nil)))))

theorem cn_impl_SendToSet (xs : List Mail) (hn : xs.length ≤ 1048576) (f s q : Int) (hA : ¬ GoodSet xs f s q) : ACalls Try.prog 21 [.sl (xs.map eMail), .int .i64 f, .int .i64 s, .int .i64 q] [] (Ret (.tup [.nil, .int .i64 0, .bool false])) := by
  refine a_enter Try.func21 rfl rfl (fun w0 M0 => ?_)
  refine a_seq ?_
  refine a_region ?_
  refine aops_cons rfl (w_pure rfl (p_assign rfl) ?_)
  refine aops_cons rfl (w_pure rfl (p_assign rfl) ?_)
  refine aops_cons rfl (w_pure rfl (p_assign rfl) ?_)
  refine aops_nil ?_
  refine a_seq ?_
  refine a_seq ?_
  refine a_region ?_
  refine aops_cons rfl (w_pure rfl (p_move rfl) ?_)
  refine aops_cons rfl (w_callR rfl rfl rfl cl_13 (c_impl_IsBox _ (by omega)) ?_)
  refine aops_cons rfl (w_pure rfl (p_not rfl) ?_)
  refine aops_cons rfl (w_pure rfl (p_move rfl) ?_)
  first | refine aops_split_d 14 rfl (fun h1 => ?_) (fun h2 => ?_) | refine aops_split 14 rfl (fun h1 => ?_) (fun h2 => ?_)
  · (try simp only [Bool.not_eq_true', Bool.not_eq_false', Bool.not_eq_true, Bool.not_eq_false, decide_eq_true_eq, decide_eq_false_iff_not, List.length_map, List.length_range] at h1)
    refine g_pass' rfl rfl rfl rfl rfl ?_
    refine g_pass' rfl rfl rfl rfl rfl ?_
    refine g_pass' rfl rfl rfl rfl rfl ?_
    refine aops_cons rfl (w_pure rfl (p_pick_t rfl rfl) ?_)
    refine aops_cons rfl (w_pure rfl (p_move rfl) ?_)
    refine g_pass' rfl rfl rfl rfl rfl ?_
    refine g_pass' rfl rfl rfl rfl rfl ?_
    refine g_pass' rfl rfl rfl rfl rfl ?_
    refine aops_cons rfl (w_pure rfl (p_pick_t rfl rfl) ?_)
    refine aops_cons rfl (w_pure rfl (p_move rfl) ?_)
    refine g_pass' rfl rfl rfl rfl rfl ?_
    refine g_pass' rfl rfl rfl rfl rfl ?_
    refine g_pass' rfl rfl rfl rfl rfl ?_
    refine aops_cons rfl (w_pure rfl (p_pick_t rfl rfl) ?_)
    refine aops_nil ?_
    refine a_cond_t rfl ?_
    refine a_seq ?_
    refine a_region ?_
    refine aops_cons rfl (w_pure rfl (p_assign rfl) ?_)
    refine aops_cons rfl (w_pure rfl (p_assign rfl) ?_)
    refine aops_cons rfl (w_pure rfl (p_assign rfl) ?_)
    refine aops_nil ?_
    refine a_ret ?_
    refine ret_ok (hands3 rfl (.tmp rfl) (.tmp rfl) (.tmp rfl)) (.nil _) ?_
    exact ⟨rfl, rfl⟩
  · (try simp only [Bool.not_eq_true', Bool.not_eq_false', Bool.not_eq_true, Bool.not_eq_false, decide_eq_true_eq, decide_eq_false_iff_not, List.length_map, List.length_range] at h2)
    refine aops_guard_t rfl rfl rfl (w_pure rfl (p_move rfl) ?_)
    refine aops_guard_t rfl rfl rfl (w_callR rfl rfl rfl cl_50 (c_impl_isCpu ..) ?_)
    refine aops_guard_t rfl rfl rfl (w_pure rfl (p_not rfl) ?_)
    refine aops_cons rfl (w_pure rfl (p_pick_f rfl rfl) ?_)
    refine aops_cons rfl (w_pure rfl (p_move rfl) ?_)
    first | refine aops_split_d 19 rfl (fun h3 => ?_) (fun h4 => ?_) | refine aops_split 19 rfl (fun h3 => ?_) (fun h4 => ?_)
    · (try simp only [Bool.not_eq_true', Bool.not_eq_false', Bool.not_eq_true, Bool.not_eq_false, decide_eq_true_eq, decide_eq_false_iff_not, List.length_map, List.length_range] at h3)
      refine g_pass' rfl rfl rfl rfl rfl ?_
      refine g_pass' rfl rfl rfl rfl rfl ?_
      refine g_pass' rfl rfl rfl rfl rfl ?_
      refine aops_cons rfl (w_pure rfl (p_pick_t rfl rfl) ?_)
      refine aops_cons rfl (w_pure rfl (p_move rfl) ?_)
      refine g_pass' rfl rfl rfl rfl rfl ?_
      refine g_pass' rfl rfl rfl rfl rfl ?_
      refine g_pass' rfl rfl rfl rfl rfl ?_
      refine aops_cons rfl (w_pure rfl (p_pick_t rfl rfl) ?_)
      refine aops_nil ?_
      refine a_cond_t rfl ?_
      refine a_seq ?_
      refine a_region ?_
      refine aops_cons rfl (w_pure rfl (p_assign rfl) ?_)
      refine aops_cons rfl (w_pure rfl (p_assign rfl) ?_)
      refine aops_cons rfl (w_pure rfl (p_assign rfl) ?_)
      refine aops_nil ?_
      refine a_ret ?_
      refine ret_ok (hands3 rfl (.tmp rfl) (.tmp rfl) (.tmp rfl)) (.nil _) ?_
      exact ⟨rfl, rfl⟩
    · (try simp only [Bool.not_eq_true', Bool.not_eq_false', Bool.not_eq_true, Bool.not_eq_false, decide_eq_true_eq, decide_eq_false_iff_not, List.length_map, List.length_range] at h4)
      refine aops_guard_t rfl rfl rfl (w_pure rfl (p_move rfl) ?_)
      refine aops_guard_t rfl rfl rfl (w_callR rfl rfl rfl cl_62 (c_impl_inside ..) ?_)
      refine aops_guard_t rfl rfl rfl (w_pure rfl (p_not rfl) ?_)
      refine aops_cons rfl (w_pure rfl (p_pick_f rfl rfl) ?_)
      refine aops_cons rfl (w_pure rfl (p_move rfl) ?_)
      first | refine aops_split_d 24 rfl (fun h5 => ?_) (fun h6 => ?_) | refine aops_split 24 rfl (fun h5 => ?_) (fun h6 => ?_)
      · (try simp only [Bool.not_eq_true', Bool.not_eq_false', Bool.not_eq_true, Bool.not_eq_false, decide_eq_true_eq, decide_eq_false_iff_not, List.length_map, List.length_range] at h5)
        refine g_pass' rfl rfl rfl rfl rfl ?_
        refine g_pass' rfl rfl rfl rfl rfl ?_
        refine g_pass' rfl rfl rfl rfl rfl ?_
        refine aops_cons rfl (w_pure rfl (p_pick_t rfl rfl) ?_)
        refine aops_nil ?_
        refine a_cond_t rfl ?_
        refine a_seq ?_
        refine a_region ?_
        refine aops_cons rfl (w_pure rfl (p_assign rfl) ?_)
        refine aops_cons rfl (w_pure rfl (p_assign rfl) ?_)
        refine aops_cons rfl (w_pure rfl (p_assign rfl) ?_)
        refine aops_nil ?_
        refine a_ret ?_
        refine ret_ok (hands3 rfl (.tmp rfl) (.tmp rfl) (.tmp rfl)) (.nil _) ?_
        exact ⟨rfl, rfl⟩
      · (try simp only [Bool.not_eq_true', Bool.not_eq_false', Bool.not_eq_true, Bool.not_eq_false, decide_eq_true_eq, decide_eq_false_iff_not, List.length_map, List.length_range] at h6)
        refine aops_guard_t rfl rfl rfl (w_pure rfl (p_move rfl) ?_)
        refine aops_guard_t rfl rfl rfl (w_callR rfl rfl rfl cl_51 (c_impl_isMailIrq ..) ?_)
        refine aops_guard_t rfl rfl rfl (w_pure rfl (p_not rfl) ?_)
        refine aops_cons rfl (w_pure rfl (p_pick_f rfl rfl) ?_)
        refine aops_nil ?_
        first | refine a_cond_d rfl (fun h7 => ?_) (fun h8 => ?_) | refine a_cond_n rfl (fun h7 => ?_) (fun h8 => ?_) | refine a_cond_nb rfl (fun h7 => ?_) (fun h8 => ?_) | refine a_cond rfl (fun h7 => ?_) (fun h8 => ?_)
        · (try simp only [Bool.not_eq_true', Bool.not_eq_false', Bool.not_eq_true, Bool.not_eq_false, decide_eq_true_eq, decide_eq_false_iff_not, List.length_map, List.length_range] at h7)
          refine a_seq ?_
          refine a_region ?_
          refine aops_cons rfl (w_pure rfl (p_assign rfl) ?_)
          refine aops_cons rfl (w_pure rfl (p_assign rfl) ?_)
          refine aops_cons rfl (w_pure rfl (p_assign rfl) ?_)
          refine aops_nil ?_
          refine a_ret ?_
          refine ret_ok (hands3 rfl (.tmp rfl) (.tmp rfl) (.tmp rfl)) (.nil _) ?_
          exact ⟨rfl, rfl⟩
        · (try simp only [Bool.not_eq_true', Bool.not_eq_false', Bool.not_eq_true, Bool.not_eq_false, decide_eq_true_eq, decide_eq_false_iff_not, List.length_map, List.length_range] at h8)
          refine a_skip ?_
          refine a_seq ?_
          refine a_region ?_
          refine aops_cons rfl (w_pure rfl (p_move rfl) ?_)
          refine aops_cons rfl (w_pure rfl (p_move rfl) ?_)
          refine aops_cons rfl (w_pure rfl (p_move rfl) ?_)
          refine aops_cons rfl (w_pure rfl (p_move rfl) ?_)
          refine aops_cons rfl (w_callR rfl rfl rfl cl_63 (c_impl_mailsTo _ _ _) ?_)
          refine aops_cons rfl (w_callR rfl rfl rfl cl_47 (cn_impl_sendAll xs (setMails f s q 4) (by have q1 := ‹IsBox xs›.2; omega) (by have := setMails_len f s q 4; omega) (by rw [(allTo_set xs f s q 4)]; exact Nat.lt_of_not_le (fun h => hA ⟨by assumption, by omega, by omega, by omega, h⟩))) ?_)
          refine aops_cons rfl (w_pure rfl (p_extract rfl rfl) ?_)
          refine aops_cons rfl (w_pure rfl (p_extract rfl rfl) ?_)
          refine aops_cons rfl (w_pure rfl (p_extract rfl rfl) ?_)
          refine aops_cons rfl (w_pure rfl (p_assign rfl) ?_)
          refine aops_cons rfl (w_pure rfl (p_assign rfl) ?_)
          refine aops_cons rfl (w_pure rfl (p_assign rfl) ?_)
          refine aops_nil ?_
          refine a_ret ?_
          refine ret_ok (hands3 rfl (.tmp rfl) (.tmp rfl) (.tmp rfl)) (.nil _) ?_
          exact ⟨rfl, rfl⟩





theorem cy_impl_SendToSet' (xs : List Mail) (hn : xs.length ≤ 1048576) (f s q : Int) (s' : Int) (e : s' = s) (hA : GoodSet xs f s q) : ACalls Try.prog 21 [.sl (xs.map eMail), .int .i64 f, .int .i64 s', .int .i64 q] [] (fun r st => ∃ b1, r = .tup [.own 3 b1 0 (ssTo xs f s q 4).length, .int .i64 (setCount xs f s q), .bool true] ∧ st = [(b1, .arr 26 3 ((ssTo xs f s q 4).map eMail))]) := by subst e; exact cy_impl_SendToSet xs hn f s' q hA

theorem cn_impl_SendToSet' (xs : List Mail) (hn : xs.length ≤ 1048576) (f s q : Int) (s' : Int) (e : s' = s) (hA : ¬ GoodSet xs f s q) : ACalls Try.prog 21 [.sl (xs.map eMail), .int .i64 f, .int .i64 s', .int .i64 q] [] (Ret (.tup [.nil, .int .i64 0, .bool false])) := by subst e; exact cn_impl_SendToSet xs hn f s' q hA

theorem cy_spec_SendToOthers (xs : List Mail) (hn : xs.length ≤ 1048576) (f q : Int) (hA : GoodOth xs f q) : ACalls Try.prog 19 [.sl (xs.map eMail), .int .i64 f, .int .i64 q] [] (Ret (.tup [.sl ((ssTo xs f (oth f) q 4).map eMail), .bool true])) := by
  obtain ⟨g1, g2, g3, g4⟩ := id hA
  have q2 := ssTo_len xs f (oth f) q 4
  obtain ⟨o1, o2, o3, o4, o5, o6⟩ := oth_is g2
  refine a_enter Try.func19 rfl rfl (fun w0 M0 => ?_)
  refine a_seq ?_
  refine a_region ?_
  refine aops_cons rfl (w_pure rfl (p_assign rfl) ?_)
  refine aops_cons rfl (w_pure rfl (p_assign rfl) ?_)
  refine aops_nil ?_
  refine a_seq ?_
  refine a_seq ?_
  refine a_region ?_
  refine aops_cons rfl (w_pure rfl (p_move rfl) ?_)
  refine aops_cons rfl (w_callR rfl rfl rfl cl_48 (c_spec_l12Good _ (by first | omega | (have q1 := ‹IsBox xs›.2; have q2 := ssTo_len xs f (oth f) q 4; omega))) ?_)
  refine aops_cons rfl (w_pure rfl (p_not rfl) ?_)
  refine aops_cons rfl (w_pure rfl (p_move rfl) ?_)
  first | refine aops_split_d 12 rfl (fun h1 => ?_) (fun h2 => ?_) | refine aops_split 12 rfl (fun h1 => ?_) (fun h2 => ?_)
  · (try simp only [Bool.not_eq_true', Bool.not_eq_false', Bool.not_eq_true, Bool.not_eq_false, decide_eq_true_eq, decide_eq_false_iff_not, List.length_map, List.length_range] at h1)
    refine g_pass' rfl rfl rfl rfl rfl ?_
    refine g_pass' rfl rfl rfl rfl rfl ?_
    refine g_pass' rfl rfl rfl rfl rfl ?_
    refine g_pass' rfl rfl rfl rfl rfl ?_
    refine g_pass' rfl rfl rfl rfl rfl ?_
    refine aops_cons rfl (w_pure rfl (p_pick_t rfl rfl) ?_)
    refine aops_nil ?_
    refine a_cond_t rfl ?_
    refine a_seq ?_
    refine a_region ?_
    refine aops_cons rfl (w_lit_vM eMail [] rfl el_24 rfl rfl rfl rfl rfl ?_)
    refine aops_cons rfl (w_pure rfl (p_assign rfl) ?_)
    refine aops_cons rfl (w_pure rfl (p_assign rfl) ?_)
    refine aops_nil ?_
    refine a_ret ?_
    refine ret_ok (hands2 rfl (.tmp rfl) (.tmp rfl)) (.nil _) ?_
    first | exact ⟨rfl, rfl⟩ | (exfalso; first | contradiction | omega | exact absurd hA.1 (by assumption) | exact absurd hA.set.mail (by assumption) | exact absurd hA.set.box (by assumption))
  · (try simp only [Bool.not_eq_true', Bool.not_eq_false', Bool.not_eq_true, Bool.not_eq_false, decide_eq_true_eq, decide_eq_false_iff_not, List.length_map, List.length_range] at h2)
    refine aops_guard_t rfl rfl rfl (w_pure rfl (p_move rfl) ?_)
    refine aops_guard_t rfl rfl rfl (w_pure rfl (p_move rfl) ?_)
    refine aops_guard_t rfl rfl rfl (w_pure rfl (p_build (cells := [_, _, _]) z_26 pl_26 rfl rfl) ?_)
    refine aops_guard_t rfl rfl rfl (w_callR rfl rfl rfl cl_52 (c_spec_l12One ⟨_, _, _⟩) ?_)
    refine aops_guard_t rfl rfl rfl (w_pure rfl (p_not rfl) ?_)
    refine aops_cons rfl (w_pure rfl (p_pick_f rfl rfl) ?_)
    refine aops_nil ?_
    first | refine a_cond_d rfl (fun h3 => ?_) (fun h4 => ?_) | refine a_cond_n rfl (fun h3 => ?_) (fun h4 => ?_) | refine a_cond_nb rfl (fun h3 => ?_) (fun h4 => ?_) | refine a_cond rfl (fun h3 => ?_) (fun h4 => ?_)
    · (try simp only [Bool.not_eq_true', Bool.not_eq_false', Bool.not_eq_true, Bool.not_eq_false, decide_eq_true_eq, decide_eq_false_iff_not, List.length_map, List.length_range] at h3)
      refine a_seq ?_
      refine a_region ?_
      refine aops_cons rfl (w_lit_vM eMail [] rfl el_24 rfl rfl rfl rfl rfl ?_)
      refine aops_cons rfl (w_pure rfl (p_assign rfl) ?_)
      refine aops_cons rfl (w_pure rfl (p_assign rfl) ?_)
      refine aops_nil ?_
      refine a_ret ?_
      refine ret_ok (hands2 rfl (.tmp rfl) (.tmp rfl)) (.nil _) ?_
      first | exact ⟨rfl, rfl⟩ | (exfalso; first | contradiction | omega | exact absurd hA.1 (by assumption) | exact absurd hA.set.mail (by assumption) | exact absurd hA.set.box (by assumption))
    · (try simp only [Bool.not_eq_true', Bool.not_eq_false', Bool.not_eq_true, Bool.not_eq_false, decide_eq_true_eq, decide_eq_false_iff_not, List.length_map, List.length_range] at h4)
      refine a_skip ?_
      refine a_seq ?_
      refine a_region ?_
      refine aops_cons rfl (w_pure rfl (p_move rfl) ?_)
      refine aops_cons rfl (w_pure rfl (p_move rfl) ?_)
      refine aops_cons rfl (w_pure rfl (p_move rfl) ?_)
      refine aops_cons rfl (w_pure rfl (p_convert ui_3 um_48 rfl) ?_)
      refine aops_cons rfl (w_pure rfl (p_shl rfl rfl (by have o1 : 0 ≤ f ∧ f ≤ 3 := (by first | omega | exact (‹IsMail _›).1); have o := oth_is o1; rw [o.2.2.2.2.2]; omega)) ?_)
      refine aops_cons rfl (w_pure rfl (p_sub' rfl rfl ⟨by have o := oth_is (show 0 ≤ f ∧ f ≤ 3 by first | omega | exact (‹IsMail _›).1); have o4 := o.2.2.2.1; have o5 := o.2.2.2.2.1; rw [← o.2.2.2.2.2] at o4 o5; unfold shl1 at o4 o5; omega, by have o := oth_is (show 0 ≤ f ∧ f ≤ 3 by first | omega | exact (‹IsMail _›).1); have o4 := o.2.2.2.1; have o5 := o.2.2.2.2.1; rw [← o.2.2.2.2.2] at o4 o5; unfold shl1 at o4 o5; omega⟩) ?_)
      refine aops_cons rfl (w_pure rfl (p_move rfl) ?_)
      refine aops_cons rfl (w_callR rfl rfl rfl cl_60 (show ACalls Try.prog 60 [.sl (xs.map eMail), .int .i64 f, .int .i64 (15 - shl1 (IntKind.u64.wrap f)), .int .i64 q] [] (Ret (.sl ((ssTo xs f (oth f) q 4).map eMail))) by rw [show 15 - shl1 (IntKind.u64.wrap f) = oth f by rw [(oth_is (show 0 ≤ f ∧ f ≤ 3 by first | omega | exact (‹IsMail _›).1)).2.2.2.2.2]; rfl]; exact c_spec_l12Set _ (by have q1 := ‹IsBox xs›.2; omega) _ _ _) ?_)
      refine aops_cons rfl (w_pure rfl (p_assign rfl) ?_)
      refine aops_nil ?_
      refine a_seq ?_
      refine a_seq ?_
      refine a_region ?_
      refine aops_cons rfl (w_pure rfl (p_move rfl) ?_)
      refine aops_cons rfl (w_callR rfl rfl rfl cl_48 (c_spec_l12Good _ (by first | omega | (have q1 := ‹IsBox xs›.2; have q2 := ssTo_len xs f (oth f) q 4; omega))) ?_)
      refine aops_cons rfl (w_pure rfl (p_not rfl) ?_)
      refine aops_nil ?_
      first | refine a_cond_d rfl (fun h5 => ?_) (fun h6 => ?_) | refine a_cond_n rfl (fun h5 => ?_) (fun h6 => ?_) | refine a_cond_nb rfl (fun h5 => ?_) (fun h6 => ?_) | refine a_cond rfl (fun h5 => ?_) (fun h6 => ?_)
      · (try simp only [Bool.not_eq_true', Bool.not_eq_false', Bool.not_eq_true, Bool.not_eq_false, decide_eq_true_eq, decide_eq_false_iff_not, List.length_map, List.length_range] at h5)
        refine a_seq ?_
        refine a_region ?_
        refine aops_cons rfl (w_lit_vM eMail [] rfl el_24 rfl rfl rfl rfl rfl ?_)
        refine aops_cons rfl (w_pure rfl (p_assign rfl) ?_)
        refine aops_cons rfl (w_pure rfl (p_assign rfl) ?_)
        refine aops_nil ?_
        refine a_ret ?_
        refine ret_ok (hands2 rfl (.tmp rfl) (.tmp rfl)) (.nil _) ?_
        first | exact ⟨rfl, rfl⟩ | (exfalso; first | contradiction | omega | exact absurd hA.1 (by assumption) | exact absurd hA.set.mail (by assumption) | exact absurd hA.set.box (by assumption))
      · (try simp only [Bool.not_eq_true', Bool.not_eq_false', Bool.not_eq_true, Bool.not_eq_false, decide_eq_true_eq, decide_eq_false_iff_not, List.length_map, List.length_range] at h6)
        refine a_skip ?_
        refine a_seq ?_
        refine a_region ?_
        refine aops_cons rfl (w_pure rfl (p_move rfl) ?_)
        refine aops_cons rfl (w_pure rfl (p_assign rfl) ?_)
        refine aops_cons rfl (w_pure rfl (p_assign rfl) ?_)
        refine aops_nil ?_
        refine a_ret ?_
        refine ret_ok (hands2 rfl (.tmp rfl) (.tmp rfl)) (.nil _) ?_
        first | exact ⟨rfl, rfl⟩ | (exfalso; first | contradiction | omega | exact absurd hA.1 (by assumption) | exact absurd hA.set.mail (by assumption) | exact absurd hA.set.box (by assumption))

theorem cn_spec_SendToOthers (xs : List Mail) (hn : xs.length ≤ 1048576) (f q : Int) (hA : ¬ GoodOth xs f q) : ACalls Try.prog 19 [.sl (xs.map eMail), .int .i64 f, .int .i64 q] [] (Ret (.tup [.sl ([] : List (List AV)), .bool false])) := by
  have q2 := ssTo_len xs f (oth f) q 4
  refine a_enter Try.func19 rfl rfl (fun w0 M0 => ?_)
  refine a_seq ?_
  refine a_region ?_
  refine aops_cons rfl (w_pure rfl (p_assign rfl) ?_)
  refine aops_cons rfl (w_pure rfl (p_assign rfl) ?_)
  refine aops_nil ?_
  refine a_seq ?_
  refine a_seq ?_
  refine a_region ?_
  refine aops_cons rfl (w_pure rfl (p_move rfl) ?_)
  refine aops_cons rfl (w_callR rfl rfl rfl cl_48 (c_spec_l12Good _ (by first | omega | (have q1 := ‹IsBox xs›.2; have q2 := ssTo_len xs f (oth f) q 4; omega))) ?_)
  refine aops_cons rfl (w_pure rfl (p_not rfl) ?_)
  refine aops_cons rfl (w_pure rfl (p_move rfl) ?_)
  first | refine aops_split_d 12 rfl (fun h1 => ?_) (fun h2 => ?_) | refine aops_split 12 rfl (fun h1 => ?_) (fun h2 => ?_)
  · (try simp only [Bool.not_eq_true', Bool.not_eq_false', Bool.not_eq_true, Bool.not_eq_false, decide_eq_true_eq, decide_eq_false_iff_not, List.length_map, List.length_range] at h1)
    refine g_pass' rfl rfl rfl rfl rfl ?_
    refine g_pass' rfl rfl rfl rfl rfl ?_
    refine g_pass' rfl rfl rfl rfl rfl ?_
    refine g_pass' rfl rfl rfl rfl rfl ?_
    refine g_pass' rfl rfl rfl rfl rfl ?_
    refine aops_cons rfl (w_pure rfl (p_pick_t rfl rfl) ?_)
    refine aops_nil ?_
    refine a_cond_t rfl ?_
    refine a_seq ?_
    refine a_region ?_
    refine aops_cons rfl (w_lit_vM eMail [] rfl el_24 rfl rfl rfl rfl rfl ?_)
    refine aops_cons rfl (w_pure rfl (p_assign rfl) ?_)
    refine aops_cons rfl (w_pure rfl (p_assign rfl) ?_)
    refine aops_nil ?_
    refine a_ret ?_
    refine ret_ok (hands2 rfl (.tmp rfl) (.tmp rfl)) (.nil _) ?_
    first | exact ⟨rfl, rfl⟩ | exact absurd (GoodOth.of (goodSet_of (by assumption) (by assumption) ⟨(oth_is (show 0 ≤ f ∧ f ≤ 3 by first | omega | exact (‹IsMail _›).1)).2.1, (oth_is (show 0 ≤ f ∧ f ≤ 3 by first | omega | exact (‹IsMail _›).1)).2.2.1⟩ (by assumption))) hA
  · (try simp only [Bool.not_eq_true', Bool.not_eq_false', Bool.not_eq_true, Bool.not_eq_false, decide_eq_true_eq, decide_eq_false_iff_not, List.length_map, List.length_range] at h2)
    refine aops_guard_t rfl rfl rfl (w_pure rfl (p_move rfl) ?_)
    refine aops_guard_t rfl rfl rfl (w_pure rfl (p_move rfl) ?_)
    refine aops_guard_t rfl rfl rfl (w_pure rfl (p_build (cells := [_, _, _]) z_26 pl_26 rfl rfl) ?_)
    refine aops_guard_t rfl rfl rfl (w_callR rfl rfl rfl cl_52 (c_spec_l12One ⟨_, _, _⟩) ?_)
    refine aops_guard_t rfl rfl rfl (w_pure rfl (p_not rfl) ?_)
    refine aops_cons rfl (w_pure rfl (p_pick_f rfl rfl) ?_)
    refine aops_nil ?_
    first | refine a_cond_d rfl (fun h3 => ?_) (fun h4 => ?_) | refine a_cond_n rfl (fun h3 => ?_) (fun h4 => ?_) | refine a_cond_nb rfl (fun h3 => ?_) (fun h4 => ?_) | refine a_cond rfl (fun h3 => ?_) (fun h4 => ?_)
    · (try simp only [Bool.not_eq_true', Bool.not_eq_false', Bool.not_eq_true, Bool.not_eq_false, decide_eq_true_eq, decide_eq_false_iff_not, List.length_map, List.length_range] at h3)
      refine a_seq ?_
      refine a_region ?_
      refine aops_cons rfl (w_lit_vM eMail [] rfl el_24 rfl rfl rfl rfl rfl ?_)
      refine aops_cons rfl (w_pure rfl (p_assign rfl) ?_)
      refine aops_cons rfl (w_pure rfl (p_assign rfl) ?_)
      refine aops_nil ?_
      refine a_ret ?_
      refine ret_ok (hands2 rfl (.tmp rfl) (.tmp rfl)) (.nil _) ?_
      first | exact ⟨rfl, rfl⟩ | exact absurd (GoodOth.of (goodSet_of (by assumption) (by assumption) ⟨(oth_is (show 0 ≤ f ∧ f ≤ 3 by first | omega | exact (‹IsMail _›).1)).2.1, (oth_is (show 0 ≤ f ∧ f ≤ 3 by first | omega | exact (‹IsMail _›).1)).2.2.1⟩ (by assumption))) hA
    · (try simp only [Bool.not_eq_true', Bool.not_eq_false', Bool.not_eq_true, Bool.not_eq_false, decide_eq_true_eq, decide_eq_false_iff_not, List.length_map, List.length_range] at h4)
      refine a_skip ?_
      refine a_seq ?_
      refine a_region ?_
      refine aops_cons rfl (w_pure rfl (p_move rfl) ?_)
      refine aops_cons rfl (w_pure rfl (p_move rfl) ?_)
      refine aops_cons rfl (w_pure rfl (p_move rfl) ?_)
      refine aops_cons rfl (w_pure rfl (p_convert ui_3 um_48 rfl) ?_)
      refine aops_cons rfl (w_pure rfl (p_shl rfl rfl (by have o1 : 0 ≤ f ∧ f ≤ 3 := (by first | omega | exact (‹IsMail _›).1); have o := oth_is o1; rw [o.2.2.2.2.2]; omega)) ?_)
      refine aops_cons rfl (w_pure rfl (p_sub' rfl rfl ⟨by have o := oth_is (show 0 ≤ f ∧ f ≤ 3 by first | omega | exact (‹IsMail _›).1); have o4 := o.2.2.2.1; have o5 := o.2.2.2.2.1; rw [← o.2.2.2.2.2] at o4 o5; unfold shl1 at o4 o5; omega, by have o := oth_is (show 0 ≤ f ∧ f ≤ 3 by first | omega | exact (‹IsMail _›).1); have o4 := o.2.2.2.1; have o5 := o.2.2.2.2.1; rw [← o.2.2.2.2.2] at o4 o5; unfold shl1 at o4 o5; omega⟩) ?_)
      refine aops_cons rfl (w_pure rfl (p_move rfl) ?_)
      refine aops_cons rfl (w_callR rfl rfl rfl cl_60 (show ACalls Try.prog 60 [.sl (xs.map eMail), .int .i64 f, .int .i64 (15 - shl1 (IntKind.u64.wrap f)), .int .i64 q] [] (Ret (.sl ((ssTo xs f (oth f) q 4).map eMail))) by rw [show 15 - shl1 (IntKind.u64.wrap f) = oth f by rw [(oth_is (show 0 ≤ f ∧ f ≤ 3 by first | omega | exact (‹IsMail _›).1)).2.2.2.2.2]; rfl]; exact c_spec_l12Set _ (by have q1 := ‹IsBox xs›.2; omega) _ _ _) ?_)
      refine aops_cons rfl (w_pure rfl (p_assign rfl) ?_)
      refine aops_nil ?_
      refine a_seq ?_
      refine a_seq ?_
      refine a_region ?_
      refine aops_cons rfl (w_pure rfl (p_move rfl) ?_)
      refine aops_cons rfl (w_callR rfl rfl rfl cl_48 (c_spec_l12Good _ (by first | omega | (have q1 := ‹IsBox xs›.2; have q2 := ssTo_len xs f (oth f) q 4; omega))) ?_)
      refine aops_cons rfl (w_pure rfl (p_not rfl) ?_)
      refine aops_nil ?_
      first | refine a_cond_d rfl (fun h5 => ?_) (fun h6 => ?_) | refine a_cond_n rfl (fun h5 => ?_) (fun h6 => ?_) | refine a_cond_nb rfl (fun h5 => ?_) (fun h6 => ?_) | refine a_cond rfl (fun h5 => ?_) (fun h6 => ?_)
      · (try simp only [Bool.not_eq_true', Bool.not_eq_false', Bool.not_eq_true, Bool.not_eq_false, decide_eq_true_eq, decide_eq_false_iff_not, List.length_map, List.length_range] at h5)
        refine a_seq ?_
        refine a_region ?_
        refine aops_cons rfl (w_lit_vM eMail [] rfl el_24 rfl rfl rfl rfl rfl ?_)
        refine aops_cons rfl (w_pure rfl (p_assign rfl) ?_)
        refine aops_cons rfl (w_pure rfl (p_assign rfl) ?_)
        refine aops_nil ?_
        refine a_ret ?_
        refine ret_ok (hands2 rfl (.tmp rfl) (.tmp rfl)) (.nil _) ?_
        first | exact ⟨rfl, rfl⟩ | exact absurd (GoodOth.of (goodSet_of (by assumption) (by assumption) ⟨(oth_is (show 0 ≤ f ∧ f ≤ 3 by first | omega | exact (‹IsMail _›).1)).2.1, (oth_is (show 0 ≤ f ∧ f ≤ 3 by first | omega | exact (‹IsMail _›).1)).2.2.1⟩ (by assumption))) hA
      · (try simp only [Bool.not_eq_true', Bool.not_eq_false', Bool.not_eq_true, Bool.not_eq_false, decide_eq_true_eq, decide_eq_false_iff_not, List.length_map, List.length_range] at h6)
        refine a_skip ?_
        refine a_seq ?_
        refine a_region ?_
        refine aops_cons rfl (w_pure rfl (p_move rfl) ?_)
        refine aops_cons rfl (w_pure rfl (p_assign rfl) ?_)
        refine aops_cons rfl (w_pure rfl (p_assign rfl) ?_)
        refine aops_nil ?_
        refine a_ret ?_
        refine ret_ok (hands2 rfl (.tmp rfl) (.tmp rfl)) (.nil _) ?_
        first | exact ⟨rfl, rfl⟩ | exact absurd (GoodOth.of (goodSet_of (by assumption) (by assumption) ⟨(oth_is (show 0 ≤ f ∧ f ≤ 3 by first | omega | exact (‹IsMail _›).1)).2.1, (oth_is (show 0 ≤ f ∧ f ≤ 3 by first | omega | exact (‹IsMail _›).1)).2.2.1⟩ (by assumption))) hA

theorem cy_impl_SendToOthers (xs : List Mail) (hn : xs.length ≤ 1048576) (f q : Int) (hA : GoodOth xs f q) : ACalls Try.prog 18 [.sl (xs.map eMail), .int .i64 f, .int .i64 q] [] (fun r st => ∃ b1, r = .tup [.own 3 b1 0 (ssTo xs f (oth f) q 4).length, .bool true] ∧ st = [(b1, .arr 26 3 ((ssTo xs f (oth f) q 4).map eMail))]) := by
  obtain ⟨g1, g2, g3, g4⟩ := id hA
  have q2 := ssTo_len xs f (oth f) q 4
  obtain ⟨o1, o2, o3, o4, o5, o6⟩ := oth_is g2
  refine a_enter Try.func18 rfl rfl (fun w0 M0 => ?_)
  refine a_seq ?_
  refine a_region ?_
  refine aops_cons rfl (w_pure rfl (p_assign rfl) ?_)
  refine aops_cons rfl (w_pure rfl (p_assign rfl) ?_)
  refine aops_nil ?_
  refine a_seq ?_
  refine a_seq ?_
  refine a_region ?_
  refine aops_cons rfl (w_pure rfl (p_move rfl) ?_)
  refine aops_cons rfl (w_callR rfl rfl rfl cl_50 (c_impl_isCpu ..) ?_)
  refine aops_cons rfl (w_pure rfl (p_not rfl) ?_)
  refine aops_nil ?_
  first | refine a_cond_d rfl (fun h1 => ?_) (fun h2 => ?_) | refine a_cond_n rfl (fun h1 => ?_) (fun h2 => ?_) | refine a_cond_nb rfl (fun h1 => ?_) (fun h2 => ?_) | refine a_cond rfl (fun h1 => ?_) (fun h2 => ?_)
  · (try simp only [Bool.not_eq_true', Bool.not_eq_false', Bool.not_eq_true, Bool.not_eq_false, decide_eq_true_eq, decide_eq_false_iff_not, List.length_map, List.length_range] at h1)
    refine a_seq ?_
    refine a_region ?_
    refine aops_cons rfl (w_pure rfl (p_assign rfl) ?_)
    refine aops_cons rfl (w_pure rfl (p_assign rfl) ?_)
    refine aops_nil ?_
    refine a_ret ?_
    refine ret_ok (hands2 rfl (.tmp rfl) (.tmp rfl)) (.nil _) ?_
    first | exact ⟨_, rfl, rfl⟩ | (exfalso; first | contradiction | omega | exact absurd hA.1 (by assumption) | exact absurd hA.set.mail (by assumption) | exact absurd hA.set.box (by assumption))
  · (try simp only [Bool.not_eq_true', Bool.not_eq_false', Bool.not_eq_true, Bool.not_eq_false, decide_eq_true_eq, decide_eq_false_iff_not, List.length_map, List.length_range] at h2)
    refine a_skip ?_
    refine a_seq ?_
    refine a_region ?_
    refine aops_cons rfl (w_pure rfl (p_move rfl) ?_)
    refine aops_cons rfl (w_pure rfl (p_move rfl) ?_)
    refine aops_cons rfl (w_pure rfl (p_move rfl) ?_)
    refine aops_cons rfl (w_pure rfl (p_shl rfl rfl (by omega)) ?_)
    refine aops_cons rfl (w_pure rfl (p_bits .andNot (by decide) rfl rfl) ?_)
    refine aops_cons rfl (w_pure rfl (p_move rfl) ?_)
    refine aops_cons rfl (w_call rfl rfl rfl cl_21 (cy_impl_SendToSet' xs hn f (oth f) q _ o1 hA.set) ?_)
    rintro _ _ ⟨b1, rfl, rfl⟩
    refine aops_cons rfl (w_pure rfl (p_move rfl) ?_)
    refine aops_cons rfl (w_pure rfl (p_extract rfl rfl) ?_)
    refine aops_cons rfl (w_pure rfl (p_extract rfl rfl) ?_)
    refine aops_cons rfl (w_pure rfl (p_extract rfl rfl) ?_)
    refine aops_cons rfl (w_pure rfl (p_assign rfl) ?_)
    refine aops_cons rfl (w_pure rfl (p_assign rfl) ?_)
    refine aops_cons rfl (w_pure rfl (p_assign rfl) ?_)
    refine aops_nil ?_
    refine a_seq ?_
    refine a_region ?_
    refine aops_cons rfl (w_pure rfl (p_move rfl) ?_)
    refine aops_cons rfl (w_pure rfl (p_move rfl) ?_)
    refine aops_cons rfl (w_pure rfl (p_assign rfl) ?_)
    refine aops_cons rfl (w_pure rfl (p_assign rfl) ?_)
    refine aops_nil ?_
    refine a_ret ?_
    refine ret_ok (hands2 rfl (.tmp rfl) (.tmp rfl)) (st' := [(b1, _)]) (.cons (by repeat (first | exact Pick.here _ _ _ | apply Pick.next)) (.nil _)) ?_
    first | exact ⟨_, rfl, rfl⟩ | (exfalso; first | contradiction | omega | exact absurd hA.1 (by assumption) | exact absurd hA.set.mail (by assumption) | exact absurd hA.set.box (by assumption))

theorem cf_impl_SendToOthers (xs : List Mail) (hn : xs.length ≤ 1048576) (f q : Int) (hA : GoodOth xs f q) : ACalls Try.prog 18 [.sl (xs.map eMail), .int .i64 f, .int .i64 q] [] (Ret (.tup [.sl ((ssTo xs f (oth f) q 4).map eMail), .bool true])) :=
  (cy_impl_SendToOthers xs hn f q hA).freeze (by rintro _ _ ⟨_, rfl, rfl⟩; exact (.tup (.cons (.own (by repeat (first | exact List.Mem.head _ | apply List.Mem.tail)) (List.length_map _)) (.cons (.refl _) .nil))))

theorem cn_impl_SendToOthers (xs : List Mail) (hn : xs.length ≤ 1048576) (f q : Int) (hA : ¬ GoodOth xs f q) : ACalls Try.prog 18 [.sl (xs.map eMail), .int .i64 f, .int .i64 q] [] (Ret (.tup [.nil, .bool false])) := by
  refine a_enter Try.func18 rfl rfl (fun w0 M0 => ?_)
  refine a_seq ?_
  refine a_region ?_
  refine aops_cons rfl (w_pure rfl (p_assign rfl) ?_)
  refine aops_cons rfl (w_pure rfl (p_assign rfl) ?_)
  refine aops_nil ?_
  refine a_seq ?_
  refine a_seq ?_
  refine a_region ?_
  refine aops_cons rfl (w_pure rfl (p_move rfl) ?_)
  refine aops_cons rfl (w_callR rfl rfl rfl cl_50 (c_impl_isCpu ..) ?_)
  refine aops_cons rfl (w_pure rfl (p_not rfl) ?_)
  refine aops_nil ?_
  first | refine a_cond_d rfl (fun h1 => ?_) (fun h2 => ?_) | refine a_cond_n rfl (fun h1 => ?_) (fun h2 => ?_) | refine a_cond_nb rfl (fun h1 => ?_) (fun h2 => ?_) | refine a_cond rfl (fun h1 => ?_) (fun h2 => ?_)
  · (try simp only [Bool.not_eq_true', Bool.not_eq_false', Bool.not_eq_true, Bool.not_eq_false, decide_eq_true_eq, decide_eq_false_iff_not, List.length_map, List.length_range] at h1)
    refine a_seq ?_
    refine a_region ?_
    refine aops_cons rfl (w_pure rfl (p_assign rfl) ?_)
    refine aops_cons rfl (w_pure rfl (p_assign rfl) ?_)
    refine aops_nil ?_
    refine a_ret ?_
    refine ret_ok (hands2 rfl (.tmp rfl) (.tmp rfl)) (.nil _) ?_
    exact ⟨rfl, rfl⟩
  · (try simp only [Bool.not_eq_true', Bool.not_eq_false', Bool.not_eq_true, Bool.not_eq_false, decide_eq_true_eq, decide_eq_false_iff_not, List.length_map, List.length_range] at h2)
    refine a_skip ?_
    refine a_seq ?_
    refine a_region ?_
    refine aops_cons rfl (w_pure rfl (p_move rfl) ?_)
    refine aops_cons rfl (w_pure rfl (p_move rfl) ?_)
    refine aops_cons rfl (w_pure rfl (p_move rfl) ?_)
    refine aops_cons rfl (w_pure rfl (p_shl rfl rfl (by omega)) ?_)
    refine aops_cons rfl (w_pure rfl (p_bits .andNot (by decide) rfl rfl) ?_)
    refine aops_cons rfl (w_pure rfl (p_move rfl) ?_)
    refine aops_cons rfl (w_callR rfl rfl rfl cl_21 (cn_impl_SendToSet' xs hn f (oth f) q _ (oth_is (show 0 ≤ f ∧ f ≤ 3 by first | omega | exact (‹IsMail _›).1)).1 (fun h => hA (.of h))) ?_)
    refine aops_cons rfl (w_pure rfl (p_move rfl) ?_)
    refine aops_cons rfl (w_pure rfl (p_extract rfl rfl) ?_)
    refine aops_cons rfl (w_pure rfl (p_extract rfl rfl) ?_)
    refine aops_cons rfl (w_pure rfl (p_extract rfl rfl) ?_)
    refine aops_cons rfl (w_pure rfl (p_assign rfl) ?_)
    refine aops_cons rfl (w_pure rfl (p_assign rfl) ?_)
    refine aops_cons rfl (w_pure rfl (p_assign rfl) ?_)
    refine aops_nil ?_
    refine a_seq ?_
    refine a_region ?_
    refine aops_cons rfl (w_pure rfl (p_move rfl) ?_)
    refine aops_cons rfl (w_pure rfl (p_move rfl) ?_)
    refine aops_cons rfl (w_pure rfl (p_assign rfl) ?_)
    refine aops_cons rfl (w_pure rfl (p_assign rfl) ?_)
    refine aops_nil ?_
    refine a_ret ?_
    refine ret_ok (hands2 rfl (.tmp rfl) (.tmp rfl)) (.nil _) ?_
    exact ⟨rfl, rfl⟩





end Go.Proofs.Ytmdhojgkhbihaaa
