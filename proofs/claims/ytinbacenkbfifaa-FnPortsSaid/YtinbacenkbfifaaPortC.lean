/-
  The walks of this part: each theorem is the contract of one function. Condition: none but those that it names.
-/
import Derived.Test.YtinbacenkbfifaaPortCd
import Derived.Test.YtinbacenkbfifaaPortCF
import Derived.Test.YtinbacenkbfifaaPortA
namespace Go.Proofs.Ytinbacenkbfifaa
open Go Go.Fw Go.Hv
attribute [local irreducible] awp Aops Aop ADraw ADrawAll ACalls
set_option maxRecDepth 4000
set_option linter.unusedSimpArgs false
set_option linter.unusedVariables false

theorem c_laws_markIntS (b : Nat) (xs : List Int) (hn : xs.length ≤ 1048576) (k : Int) (k0 : 0 ≤ k) (k1 : k ≤ 100000000) : ACalls Try.prog 45 [.own 1 b 0 xs.length, .int .i64 k] [(b, .arr 3 1 (xs.map eInt))] (fun r st => r = .int .i64 (k + 1 * xs.length) ∧ st = [(b, .arr 3 1 (((List.range xs.length).map (mkI k)).map eInt))]) := by
  refine a_enter Try.func45 rfl rfl (fun w0 M0 => ?_)
  refine a_seq ?_
  refine a_region ?_
  refine aops_cons rfl (w_pure rfl (p_assign rfl) ?_)
  refine aops_nil ?_
  refine a_seq ?_
  refine a_seq ?_
  refine a_region ?_
  refine aops_cons rfl (w_pure rfl (p_assign rfl) ?_)
  refine aops_nil ?_
  refine a_block ?_
  refine a_loop (ι := Nat × Int) (fun ⟨i, m⟩ => i ≤ xs.length ∧ m = k + 1 * i) (fun ⟨i, m⟩ => [(5, .int .i64 (i : Int)), (1, .int .i64 m)]) (fun ⟨i, m⟩ => [(b, .arr 3 1 ((putTo (mkI k) xs i).map eInt))]) (fun ⟨i, m⟩ => xs.length - i) (0, k) ⟨Nat.zero_le _, by simp⟩ (by repeat (first | exact Knows.nil | refine Knows.cons (by rfl) ?_)) (by repeat (first | exact Picks.nil _ | exact Pick.here _ _ _ | apply Pick.next | apply Picks.cons)) ?_
  rintro ⟨i, m⟩ ⟨hi, hI⟩
  subst hI
  refine a_seq ?_
  refine a_seq ?_
  refine a_region ?_
  refine aops_cons rfl (w_pure rfl (p_move rfl) ?_)
  refine aops_cons rfl (w_pure rfl (p_move rfl) ?_)
  refine aops_cons rfl (w_pure rfl (p_len sl_36 rfl rfl) ?_)
  refine aops_cons rfl (w_pure rfl (p_lss rfl rfl) ?_)
  refine aops_nil ?_
  first | refine a_cond_d rfl (fun h1 => ?_) (fun h2 => ?_) | refine a_cond_n rfl (fun h1 => ?_) (fun h2 => ?_) | refine a_cond_nb rfl (fun h1 => ?_) (fun h2 => ?_) | refine a_cond rfl (fun h1 => ?_) (fun h2 => ?_)
  · (try simp only [Bool.not_eq_true', Bool.not_eq_false', Bool.not_eq_true, Bool.not_eq_false, decide_eq_true_eq, decide_eq_false_iff_not, List.length_map, List.length_range] at h1)
    refine a_skip ?_
    refine a_seq ?_
    refine a_block ?_
    refine a_seq ?_
    refine a_region ?_
    refine aops_cons rfl (w_pure rfl (p_move rfl) ?_)
    refine aops_cons rfl (w_pure rfl (p_move rfl) ?_)
    refine aops_cons rfl (w_pure rfl (p_move rfl) ?_)
    refine aops_cons rfl (w_pure rfl (p_index_own0 _ rfl rfl rfl (by omega) es_36) ?_)
    refine aops_cons rfl (w_store_eM eInt (mkI k i) rfl rfl rfl (by repeat (first | exact Pick.here _ _ _ | apply Pick.next)) (by rw [putTo_length _ _ hi]; omega) cn_3 (by rfl) (by rfl) (by rfl) trivial ?_)
    rw [putTo_set _ _ (by omega)]
    refine aops_nil ?_
    refine a_region ?_
    refine aops_cons rfl (w_pure rfl (p_move rfl) ?_)
    refine aops_cons rfl (w_pure rfl (p_add' rfl rfl ⟨by omega, by omega⟩) ?_)
    refine aops_cons rfl (w_pure rfl (p_assign rfl) ?_)
    refine aops_nil ?_
    refine a_region ?_
    refine aops_cons rfl (w_pure rfl (p_move rfl) ?_)
    refine aops_cons rfl (w_pure rfl (p_add' rfl rfl ⟨by omega, by omega⟩) ?_)
    refine aops_cons rfl (w_pure rfl (p_assign rfl) ?_)
    refine aops_nil ?_
    refine ⟨(i + 1, _), _, ?_, ?_, (by repeat (first | exact Knows.nil | refine Knows.cons (by rfl) ?_)), (by repeat (first | exact Back.refl _ _ | refine Back.cons (by rfl) ?_)), (by repeat (first | exact Picks.nil _ | exact Pick.here _ _ _ | apply Pick.next | apply Picks.cons))⟩
    · exact ⟨by omega, by omega⟩
    · (try dsimp only); omega
  · (try simp only [Bool.not_eq_true', Bool.not_eq_false', Bool.not_eq_true, Bool.not_eq_false, decide_eq_true_eq, decide_eq_false_iff_not, List.length_map, List.length_range] at h2)
    refine a_exit ?_
    refine a_seq ?_
    refine a_region ?_
    refine aops_cons rfl (w_pure rfl (p_move rfl) ?_)
    refine aops_cons rfl (w_pure rfl (p_assign rfl) ?_)
    refine aops_nil ?_
    refine a_ret ?_
    refine ret_ok (hands1 rfl (.tmp rfl)) (.cons (.here _ _ _) (.nil _)) ?_
    have hx : i = xs.length := (by omega); subst hx; exact ⟨rfl, by rw [putTo_len _ _ (by omega) (Nat.le_refl _)]⟩

theorem cn_laws_markIntS (k : Int) : ACalls Try.prog 45 [.nil, .int .i64 k] [] (Ret (.int .i64 (k + 1 * (([] : List Int).length : Int)))) := by
  refine a_enter Try.func45 rfl rfl (fun w0 M0 => ?_)
  refine a_seq ?_
  refine a_region ?_
  refine aops_cons rfl (w_pure rfl (p_assign rfl) ?_)
  refine aops_nil ?_
  refine a_seq ?_
  refine a_seq ?_
  refine a_region ?_
  refine aops_cons rfl (w_pure rfl (p_assign rfl) ?_)
  refine aops_nil ?_
  refine a_block ?_
  refine a_loop (ι := Nat) (fun i => i ≤ 0) (fun i => [(5, .int .i64 (i : Int))]) (fun i => []) (fun i => 0 - i) 0 (Nat.zero_le _) (by repeat (first | exact Knows.nil | refine Knows.cons (by rfl) ?_)) (by repeat (first | exact Picks.nil _ | exact Pick.here _ _ _ | apply Pick.next | apply Picks.cons)) ?_
  rintro i hi
  skip
  refine a_seq ?_
  refine a_seq ?_
  refine a_region ?_
  refine aops_cons rfl (w_pure rfl (p_move rfl) ?_)
  refine aops_cons rfl (w_pure rfl (p_move rfl) ?_)
  refine aops_cons rfl (w_pure rfl (p_len sl_36 rfl rfl) ?_)
  refine aops_cons rfl (w_pure rfl (p_lss rfl rfl) ?_)
  refine aops_nil ?_
  first | refine a_cond_d rfl (fun h1 => ?_) (fun h2 => ?_) | refine a_cond_n rfl (fun h1 => ?_) (fun h2 => ?_) | refine a_cond_nb rfl (fun h1 => ?_) (fun h2 => ?_) | refine a_cond rfl (fun h1 => ?_) (fun h2 => ?_)
  · (try simp only [Bool.not_eq_true', Bool.not_eq_false', Bool.not_eq_true, Bool.not_eq_false, decide_eq_true_eq, decide_eq_false_iff_not, List.length_map, List.length_range] at h1); exfalso; omega
  · (try simp only [Bool.not_eq_true', Bool.not_eq_false', Bool.not_eq_true, Bool.not_eq_false, decide_eq_true_eq, decide_eq_false_iff_not, List.length_map, List.length_range] at h2)
    refine a_exit ?_
    refine a_seq ?_
    refine a_region ?_
    refine aops_cons rfl (w_pure rfl (p_move rfl) ?_)
    refine aops_cons rfl (w_pure rfl (p_assign rfl) ?_)
    refine aops_nil ?_
    refine a_ret ?_
    refine ret_ok (hands1 rfl (.tmp rfl)) (.nil _) ?_
    exact ⟨by simp, rfl⟩

theorem c_laws_heldIntS (n : Nat) (hn : n ≤ 1048576) (k : Int) (k0 : 0 ≤ k) (k1 : k ≤ 100000000) : ACalls Try.prog 46 [.sl (((List.range n).map (mkI k)).map eInt), .int .i64 k] [] (Ret (.int .i64 (k + 1 * n))) := by
  refine a_enter Try.func46 rfl rfl (fun w0 M0 => ?_)
  refine a_seq ?_
  refine a_region ?_
  refine aops_cons rfl (w_pure rfl (p_assign rfl) ?_)
  refine aops_nil ?_
  refine a_seq ?_
  refine a_seq ?_
  refine a_region ?_
  refine aops_cons rfl (w_pure rfl (p_assign rfl) ?_)
  refine aops_nil ?_
  refine a_block ?_
  refine a_loop (ι := Nat × Int) (fun ⟨i, m⟩ => i ≤ n ∧ m = k + 1 * i) (fun ⟨i, m⟩ => [(5, .int .i64 (i : Int)), (1, .int .i64 m)]) (fun ⟨i, m⟩ => []) (fun ⟨i, m⟩ => n - i) (0, k) ⟨Nat.zero_le _, by simp⟩ (by repeat (first | exact Knows.nil | refine Knows.cons (by rfl) ?_)) (by repeat (first | exact Picks.nil _ | exact Pick.here _ _ _ | apply Pick.next | apply Picks.cons)) ?_
  rintro ⟨i, m⟩ ⟨hi, hI⟩
  subst hI
  refine a_seq ?_
  refine a_seq ?_
  refine a_region ?_
  refine aops_cons rfl (w_pure rfl (p_move rfl) ?_)
  refine aops_cons rfl (w_pure rfl (p_move rfl) ?_)
  refine aops_cons rfl (w_pure rfl (p_len sl_36 rfl rfl) ?_)
  refine aops_cons rfl (w_pure rfl (p_lss rfl rfl) ?_)
  refine aops_nil ?_
  first | refine a_cond_d rfl (fun h1 => ?_) (fun h2 => ?_) | refine a_cond_n rfl (fun h1 => ?_) (fun h2 => ?_) | refine a_cond_nb rfl (fun h1 => ?_) (fun h2 => ?_) | refine a_cond rfl (fun h1 => ?_) (fun h2 => ?_)
  · (try simp only [Bool.not_eq_true', Bool.not_eq_false', Bool.not_eq_true, Bool.not_eq_false, decide_eq_true_eq, decide_eq_false_iff_not, List.length_map, List.length_range] at h1)
    refine a_skip ?_
    refine a_seq ?_
    refine a_block ?_
    refine a_seq ?_
    refine a_seq ?_
    refine a_region ?_
    refine aops_cons rfl (w_pure rfl (p_move rfl) ?_)
    refine aops_cons rfl (w_pure rfl (p_move rfl) ?_)
    refine aops_cons rfl (w_pure rfl (p_index_sl _ rfl rfl rfl (rowG _ _ _ (by omega)) es_36) ?_)
    refine aops_cons rfl (w_pure rfl (p_load_v ag_3 rfl (by rfl) noX) ?_)
    refine aops_cons rfl (w_pure rfl (p_move rfl) ?_)
    refine aops_cons rfl (w_pure rfl (p_neq_same rfl rfl) ?_)
    refine aops_nil ?_
    refine a_cond_f rfl ?_
    refine a_skip ?_
    refine a_region ?_
    refine aops_cons rfl (w_pure rfl (p_move rfl) ?_)
    refine aops_cons rfl (w_pure rfl (p_add' rfl rfl ⟨by omega, by omega⟩) ?_)
    refine aops_cons rfl (w_pure rfl (p_assign rfl) ?_)
    refine aops_nil ?_
    refine a_region ?_
    refine aops_cons rfl (w_pure rfl (p_move rfl) ?_)
    refine aops_cons rfl (w_pure rfl (p_add' rfl rfl ⟨by omega, by omega⟩) ?_)
    refine aops_cons rfl (w_pure rfl (p_assign rfl) ?_)
    refine aops_nil ?_
    refine ⟨(i + 1, _), _, ?_, ?_, (by repeat (first | exact Knows.nil | refine Knows.cons (by rfl) ?_)), (by repeat (first | exact Back.refl _ _ | refine Back.cons (by rfl) ?_)), (by repeat (first | exact Picks.nil _ | exact Pick.here _ _ _ | apply Pick.next | apply Picks.cons))⟩
    · exact ⟨by omega, by omega⟩
    · (try dsimp only); omega
  · (try simp only [Bool.not_eq_true', Bool.not_eq_false', Bool.not_eq_true, Bool.not_eq_false, decide_eq_true_eq, decide_eq_false_iff_not, List.length_map, List.length_range] at h2)
    refine a_exit ?_
    refine a_seq ?_
    refine a_region ?_
    refine aops_cons rfl (w_pure rfl (p_move rfl) ?_)
    refine aops_cons rfl (w_pure rfl (p_assign rfl) ?_)
    refine aops_nil ?_
    refine a_ret ?_
    refine ret_ok (hands1 rfl (.tmp rfl)) (.nil _) ?_
    have hx : i = n := (by omega); subst hx; exact ⟨rfl, rfl⟩

theorem co_laws_toPort (p : Port) (hn : SmallPort p) : ACalls Try.prog 27 [.agg (ePort p)] [] (fun r st => ∃ b1 b2, r = .agg [.own 1 b1 0 p.rx.length, .own 1 b2 0 p.tx.length, .int .i64 p.depth, .bool p.flag] ∧ st = [(b1, .arr 3 1 (p.rx.map eInt)), (b2, .arr 3 1 (p.tx.map eInt))]) := by
  have hs := hn
  simp only [SmallPort] at hs
  obtain ⟨hs0, hs1⟩ := hs
  refine a_enter Try.func27 rfl rfl (fun w0 M0 => ?_)
  refine a_seq ?_
  refine a_region ?_
  refine aops_cons rfl (w_box_v rfl rfl rfl ?_)
  refine aops_cons rfl (w_alloc rfl z_41 fun b1 => ?_)
  refine aops_nil ?_
  refine a_seq ?_
  refine a_region ?_
  refine aops_cons rfl (w_alloc rfl z_41 fun b2 => ?_)
  refine aops_nil ?_
  refine a_seq ?_
  refine a_region ?_
  refine aops_cons rfl (w_pure rfl (p_field_v fo_38_0 rfl) ?_)
  refine aops_cons rfl (w_pure rfl (p_load_v ag_36 rfl (by rfl) noX) ?_)
  refine aops_cons rfl (w_call rfl rfl rfl cl_61 ((co_laws_toIntS _ (by first | omega | assumption)).mono fun _ _ h => h.len) ?_)
  rintro _ _ ⟨b3, rfl, rfl⟩
  refine aops_cons rfl (w_pure rfl (p_field_box fo_41_0 rfl) ?_)
  refine aops_cons rfl (w_store (cells' := [_, _, _, _]) rfl rfl rfl (by repeat (first | exact Pick.here _ _ _ | apply Pick.next)) cn_36 (by rfl) (by rfl) (by rfl) trivial ?_)
  refine aops_nil ?_
  refine a_seq ?_
  refine a_region ?_
  refine aops_cons rfl (w_pure rfl (p_field_v fo_38_1 rfl) ?_)
  refine aops_cons rfl (w_pure rfl (p_load_v ag_36 rfl (by rfl) noX) ?_)
  refine aops_cons rfl (w_call rfl rfl rfl cl_61 ((co_laws_toIntS _ (by first | omega | assumption)).mono fun _ _ h => h.len) ?_)
  rintro _ _ ⟨b4, rfl, rfl⟩
  refine aops_cons rfl (w_pure rfl (p_field_box fo_41_1 rfl) ?_)
  refine aops_cons rfl (w_store (cells' := [_, _, _, _]) rfl rfl rfl (by repeat (first | exact Pick.here _ _ _ | apply Pick.next)) cn_36 (by rfl) (by rfl) (by rfl) trivial ?_)
  refine aops_nil ?_
  refine a_seq ?_
  refine a_region ?_
  refine aops_cons rfl (w_pure rfl (p_field_v fo_38_2 rfl) ?_)
  refine aops_cons rfl (w_pure rfl (p_load_v ag_3 rfl (by rfl) noX) ?_)
  refine aops_cons rfl (w_pure rfl (p_field_box fo_41_2 rfl) ?_)
  refine aops_cons rfl (w_store (cells' := [_, _, _, _]) rfl rfl rfl (by repeat (first | exact Pick.here _ _ _ | apply Pick.next)) cn_3 (by rfl) (by rfl) (by rfl) trivial ?_)
  refine aops_nil ?_
  refine a_seq ?_
  refine a_region ?_
  refine aops_cons rfl (w_pure rfl (p_field_v fo_38_3 rfl) ?_)
  refine aops_cons rfl (w_pure rfl (p_load_v ag_4 rfl (by rfl) noX) ?_)
  refine aops_cons rfl (w_pure rfl (p_field_box fo_41_3 rfl) ?_)
  refine aops_cons rfl (w_store (cells' := [_, _, _, _]) rfl rfl rfl (by repeat (first | exact Pick.here _ _ _ | apply Pick.next)) cn_4 (by rfl) (by rfl) (by rfl) trivial ?_)
  refine aops_nil ?_
  refine a_seq ?_
  refine a_region ?_
  refine aops_cons rfl (w_pure rfl (p_load_box_all ag_41 rfl (by repeat (first | exact Pick.here _ _ _ | apply Pick.next)) (by rfl) noX) ?_)
  refine aops_cons rfl (w_store (cells' := [_, _, _, _]) rfl rfl rfl (by repeat (first | exact Pick.here _ _ _ | apply Pick.next)) cn_41 (by rfl) (by rfl) (by rfl) trivial ?_)
  refine aops_nil ?_
  refine a_ret ?_
  refine ret_ok (hands1 rfl (.cell ag_41 rfl (by repeat (first | exact Pick.here _ _ _ | apply Pick.next)) (by rfl))) (st' := [(b3, _), (b4, _)]) (.cons (by repeat (first | exact Pick.here _ _ _ | apply Pick.next)) (.cons (by repeat (first | exact Pick.here _ _ _ | apply Pick.next)) (.nil _))) ?_
  exact ⟨_, _, rfl, rfl⟩

theorem c_laws_markPort (b1 b2 : Nat) (p : Port) (hn : SmallPort p) (k : Int) (k0 : 0 ≤ k) (k1 : k ≤ 50000000) : ACalls Try.prog 36 [.agg [.own 1 b1 0 p.rx.length, .own 1 b2 0 p.tx.length, .int .i64 p.depth, .bool p.flag], .int .i64 k] [(b1, .arr 3 1 (p.rx.map eInt)), (b2, .arr 3 1 (p.tx.map eInt))] (fun r st => r = .int .i64 (k + 1 * p.rx.length + 1 * p.tx.length) ∧ st = [(b1, .arr 3 1 (((List.range p.rx.length).map (mkI (k))).map eInt)), (b2, .arr 3 1 (((List.range p.tx.length).map (mkI (k + 1 * p.rx.length))).map eInt))]) := by
  have hs := hn
  simp only [SmallPort] at hs
  obtain ⟨hs0, hs1⟩ := hs
  refine a_enter Try.func36 rfl rfl (fun w0 M0 => ?_)
  refine a_seq ?_
  refine a_region ?_
  refine aops_cons rfl (w_box_v rfl rfl rfl ?_)
  refine aops_cons rfl (w_pure rfl (p_assign rfl) ?_)
  refine aops_nil ?_
  refine a_seq ?_
  refine a_region ?_
  refine aops_cons rfl (w_pure rfl (p_field_v fo_41_0 rfl) ?_)
  refine aops_cons rfl (w_pure rfl (p_load_v ag_36 rfl (by rfl) noX) ?_)
  refine aops_cons rfl (w_pure rfl (p_move rfl) ?_)
  refine aops_cons rfl (w_callM rfl rfl rfl cl_45 (.cons (by repeat (first | exact Pick.here _ _ _ | apply Pick.next)) (.nil _)) (.cons (.refl _) (.cons (.refl _) .nil)) (c_laws_markIntS _ _ (by first | omega | assumption) _ (by omega) (by omega)) trivial ?_)
  rintro _ _ ⟨rfl, rfl⟩
  refine ⟨(closed_int _ _), (closedS_cons (closedAll _ _ _ _ cl_eInt) closedS_nil), ?_⟩
  refine aops_cons rfl (w_pure rfl (p_assign rfl) ?_)
  refine aops_nil ?_
  refine a_seq ?_
  refine a_region ?_
  refine aops_cons rfl (w_pure rfl (p_field_v fo_41_1 rfl) ?_)
  refine aops_cons rfl (w_pure rfl (p_load_v ag_36 rfl (by rfl) noX) ?_)
  refine aops_cons rfl (w_pure rfl (p_move rfl) ?_)
  refine aops_cons rfl (w_callM rfl rfl rfl cl_45 (.cons (by repeat (first | exact Pick.here _ _ _ | apply Pick.next)) (.nil _)) (.cons (.refl _) (.cons (.refl _) .nil)) (c_laws_markIntS _ _ (by first | omega | assumption) _ (by omega) (by omega)) trivial ?_)
  rintro _ _ ⟨rfl, rfl⟩
  refine ⟨(closed_int _ _), (closedS_cons (closedAll _ _ _ _ cl_eInt) closedS_nil), ?_⟩
  refine aops_cons rfl (w_pure rfl (p_assign rfl) ?_)
  refine aops_nil ?_
  refine a_seq ?_
  refine a_region ?_
  refine aops_cons rfl (w_pure rfl (p_move rfl) ?_)
  refine aops_cons rfl (w_pure rfl (p_assign rfl) ?_)
  refine aops_nil ?_
  refine a_ret ?_
  refine ret_ok (hands1 rfl (.tmp rfl)) (st' := [(b1, _), (b2, _)]) (.cons (by repeat (first | exact Pick.here _ _ _ | apply Pick.next)) (.cons (by repeat (first | exact Pick.here _ _ _ | apply Pick.next)) (.nil _))) ?_
  exact ⟨rfl, rfl⟩

theorem cn_laws_markPort (s2 : Int) (s3 : Bool) (k : Int) : ACalls Try.prog 36 [.agg [.nil, .nil, .int .i64 s2, .bool s3], .int .i64 k] [] (Ret (.int .i64 (k + 1 * (([] : List Int).length : Int) + 1 * (([] : List Int).length : Int)))) := by
  refine a_enter Try.func36 rfl rfl (fun w0 M0 => ?_)
  refine a_seq ?_
  refine a_region ?_
  refine aops_cons rfl (w_box_v rfl rfl rfl ?_)
  refine aops_cons rfl (w_pure rfl (p_assign rfl) ?_)
  refine aops_nil ?_
  refine a_seq ?_
  refine a_region ?_
  refine aops_cons rfl (w_pure rfl (p_field_v fo_41_0 rfl) ?_)
  refine aops_cons rfl (w_pure rfl (p_load_v ag_36 rfl (by rfl) noX) ?_)
  refine aops_cons rfl (w_pure rfl (p_move rfl) ?_)
  refine aops_cons rfl (w_callR rfl rfl rfl cl_45 (cn_laws_markIntS ..) ?_)
  refine aops_cons rfl (w_pure rfl (p_assign rfl) ?_)
  refine aops_nil ?_
  refine a_seq ?_
  refine a_region ?_
  refine aops_cons rfl (w_pure rfl (p_field_v fo_41_1 rfl) ?_)
  refine aops_cons rfl (w_pure rfl (p_load_v ag_36 rfl (by rfl) noX) ?_)
  refine aops_cons rfl (w_pure rfl (p_move rfl) ?_)
  refine aops_cons rfl (w_callR rfl rfl rfl cl_45 (cn_laws_markIntS ..) ?_)
  refine aops_cons rfl (w_pure rfl (p_assign rfl) ?_)
  refine aops_nil ?_
  refine a_seq ?_
  refine a_region ?_
  refine aops_cons rfl (w_pure rfl (p_move rfl) ?_)
  refine aops_cons rfl (w_pure rfl (p_assign rfl) ?_)
  refine aops_nil ?_
  refine a_ret ?_
  refine ret_ok (hands1 rfl (.tmp rfl)) (.nil _) ?_
  exact ⟨rfl, rfl⟩

theorem c_laws_heldPort (p : Port) (hn : SmallPort p) (k : Int) (k0 : 0 ≤ k) (k1 : k ≤ 50000000) : ACalls Try.prog 37 [.agg [.sl (((List.range p.rx.length).map (mkI (k))).map eInt), .sl (((List.range p.tx.length).map (mkI (k + 1 * p.rx.length))).map eInt), .int .i64 p.depth, .bool p.flag], .int .i64 k] [] (Ret (.int .i64 (k + 1 * p.rx.length + 1 * p.tx.length))) := by
  have hs := hn
  simp only [SmallPort] at hs
  obtain ⟨hs0, hs1⟩ := hs
  refine a_enter Try.func37 rfl rfl (fun w0 M0 => ?_)
  refine a_seq ?_
  refine a_region ?_
  refine aops_cons rfl (w_box_v rfl rfl rfl ?_)
  refine aops_cons rfl (w_pure rfl (p_assign rfl) ?_)
  refine aops_nil ?_
  refine a_seq ?_
  refine a_region ?_
  refine aops_cons rfl (w_pure rfl (p_field_v fo_41_0 rfl) ?_)
  refine aops_cons rfl (w_pure rfl (p_load_v ag_36 rfl (by rfl) noX) ?_)
  refine aops_cons rfl (w_pure rfl (p_move rfl) ?_)
  refine aops_cons rfl (w_callLR rfl rfl rfl cl_46 (.cons (.refl _) (.cons (.refl _) .nil)) (c_laws_heldIntS _ (by first | omega | assumption) _ (by omega) (by omega)) (closed_int _ _) ?_)
  refine aops_cons rfl (w_pure rfl (p_assign rfl) ?_)
  refine aops_nil ?_
  refine a_seq ?_
  refine a_seq ?_
  refine a_region ?_
  refine aops_cons rfl (w_pure rfl (p_move rfl) ?_)
  refine aops_cons rfl (w_pure rfl (p_lss rfl rfl) ?_)
  refine aops_nil ?_
  first | refine a_cond_d rfl (fun h1 => ?_) (fun h2 => ?_) | refine a_cond_n rfl (fun h1 => ?_) (fun h2 => ?_) | refine a_cond_nb rfl (fun h1 => ?_) (fun h2 => ?_) | refine a_cond rfl (fun h1 => ?_) (fun h2 => ?_)
  · (try simp only [Bool.not_eq_true', Bool.not_eq_false', Bool.not_eq_true, Bool.not_eq_false, decide_eq_true_eq, decide_eq_false_iff_not, List.length_map, List.length_range] at h1)
    refine a_seq ?_
    refine a_region ?_
    refine aops_cons rfl (w_pure rfl (p_assign rfl) ?_)
    refine aops_nil ?_
    refine a_ret ?_
    refine ret_ok (hands1 rfl (.tmp rfl)) (.nil _) ?_
    first | exact ⟨rfl, rfl⟩ | (exfalso; omega)
  · (try simp only [Bool.not_eq_true', Bool.not_eq_false', Bool.not_eq_true, Bool.not_eq_false, decide_eq_true_eq, decide_eq_false_iff_not, List.length_map, List.length_range] at h2)
    refine a_skip ?_
    refine a_seq ?_
    refine a_region ?_
    refine aops_cons rfl (w_pure rfl (p_field_v fo_41_1 rfl) ?_)
    refine aops_cons rfl (w_pure rfl (p_load_v ag_36 rfl (by rfl) noX) ?_)
    refine aops_cons rfl (w_pure rfl (p_move rfl) ?_)
    refine aops_cons rfl (w_callLR rfl rfl rfl cl_46 (.cons (.refl _) (.cons (.refl _) .nil)) (c_laws_heldIntS _ (by first | omega | assumption) _ (by omega) (by omega)) (closed_int _ _) ?_)
    refine aops_cons rfl (w_pure rfl (p_assign rfl) ?_)
    refine aops_nil ?_
    refine a_seq ?_
    refine a_seq ?_
    refine a_region ?_
    refine aops_cons rfl (w_pure rfl (p_move rfl) ?_)
    refine aops_cons rfl (w_pure rfl (p_lss rfl rfl) ?_)
    refine aops_nil ?_
    first | refine a_cond_d rfl (fun h3 => ?_) (fun h4 => ?_) | refine a_cond_n rfl (fun h3 => ?_) (fun h4 => ?_) | refine a_cond_nb rfl (fun h3 => ?_) (fun h4 => ?_) | refine a_cond rfl (fun h3 => ?_) (fun h4 => ?_)
    · (try simp only [Bool.not_eq_true', Bool.not_eq_false', Bool.not_eq_true, Bool.not_eq_false, decide_eq_true_eq, decide_eq_false_iff_not, List.length_map, List.length_range] at h3)
      refine a_seq ?_
      refine a_region ?_
      refine aops_cons rfl (w_pure rfl (p_assign rfl) ?_)
      refine aops_nil ?_
      refine a_ret ?_
      refine ret_ok (hands1 rfl (.tmp rfl)) (.nil _) ?_
      first | exact ⟨rfl, rfl⟩ | (exfalso; omega)
    · (try simp only [Bool.not_eq_true', Bool.not_eq_false', Bool.not_eq_true, Bool.not_eq_false, decide_eq_true_eq, decide_eq_false_iff_not, List.length_map, List.length_range] at h4)
      refine a_skip ?_
      refine a_seq ?_
      refine a_region ?_
      refine aops_cons rfl (w_pure rfl (p_move rfl) ?_)
      refine aops_cons rfl (w_pure rfl (p_assign rfl) ?_)
      refine aops_nil ?_
      refine a_ret ?_
      refine ret_ok (hands1 rfl (.tmp rfl)) (.nil _) ?_
      first | exact ⟨rfl, rfl⟩ | (exfalso; omega)

theorem co_spec_l1Own (xs : List Int) (hn : xs.length ≤ 1048576) : ACalls Try.prog 70 [.sl (xs.map eInt)] [] (RetOwn 3 1 (xs.map eInt)) := by
  refine a_enter Try.func70 rfl rfl (fun w0 M0 => ?_)
  refine a_seq ?_
  refine a_region ?_
  refine aops_cons rfl (w_pure rfl (p_assign rfl) ?_)
  refine aops_nil ?_
  refine a_seq ?_
  refine a_region ?_
  refine aops_cons rfl (w_litM eInt [] rfl el_36 rfl rfl rfl rfl rfl fun b1 => ?_)
  refine aops_cons rfl (w_pure rfl (p_move rfl) ?_)
  refine aops_cons rfl (w_appendM eInt rfl el_36 rfl rfl (by repeat (first | exact Pick.here _ _ _ | apply Pick.next)) rfl (.sl _) (fun _ => rfl) (fun _ => rfl) (by simp; omega) (by simp; omega) trivial fun b2 => ?_)
  rw [List.nil_append]
  refine aops_cons rfl (w_pure rfl (p_assign rfl) ?_)
  refine aops_nil ?_
  refine a_ret ?_
  refine ret_ok (hands1 rfl (.tmp rfl)) (.cons (.here _ _ _) (.nil _)) ?_
  refine ⟨_, ?_, rfl⟩; rw [List.length_map]

theorem c_spec_l1Own (xs : List Int) (hn : xs.length ≤ 1048576) : ACalls Try.prog 70 [.sl (xs.map eInt)] [] (Ret (.sl (xs.map eInt))) := (co_spec_l1Own xs hn).freeze fun _ _ h => h.vw

theorem co_impl_copyInts (xs : List Int) (hn : xs.length ≤ 1048576) : ACalls Try.prog 69 [.sl (xs.map eInt)] [] (RetOwn 3 1 (xs.map eInt)) := by
  refine a_enter Try.func69 rfl rfl (fun w0 M0 => ?_)
  refine a_seq ?_
  refine a_region ?_
  refine aops_cons rfl (w_pure rfl (p_assign rfl) ?_)
  refine aops_nil ?_
  refine a_seq ?_
  refine a_region ?_
  refine aops_cons rfl (w_litM eInt [] rfl el_36 rfl rfl rfl rfl rfl fun b1 => ?_)
  refine aops_cons rfl (w_pure rfl (p_move rfl) ?_)
  refine aops_cons rfl (w_appendM eInt rfl el_36 rfl rfl (by repeat (first | exact Pick.here _ _ _ | apply Pick.next)) rfl (.sl _) (fun _ => rfl) (fun _ => rfl) (by simp; omega) (by simp; omega) trivial fun b2 => ?_)
  rw [List.nil_append]
  refine aops_cons rfl (w_pure rfl (p_assign rfl) ?_)
  refine aops_nil ?_
  refine a_ret ?_
  refine ret_ok (hands1 rfl (.tmp rfl)) (.cons (.here _ _ _) (.nil _)) ?_
  refine ⟨_, ?_, rfl⟩; rw [List.length_map]

theorem c_impl_copyInts (xs : List Int) (hn : xs.length ≤ 1048576) : ACalls Try.prog 69 [.sl (xs.map eInt)] [] (Ret (.sl (xs.map eInt))) := (co_impl_copyInts xs hn).freeze fun _ _ h => h.vw

theorem co_spec_l16With (p : Port) (rx tx : List Int) (h1 : rx.length ≤ 1048576) (h2 : tx.length ≤ 1048576) : ACalls Try.prog 67 [.agg (ePort p), .sl (rx.map eInt), .sl (tx.map eInt)] [] (fun r st => ∃ b1 b2, r = .agg [.own 1 b1 0 (withP p rx tx).rx.length, .own 1 b2 0 (withP p rx tx).tx.length, .int .i64 (withP p rx tx).depth, .bool (withP p rx tx).flag] ∧ st = [(b1, .arr 3 1 ((withP p rx tx).rx.map eInt)), (b2, .arr 3 1 ((withP p rx tx).tx.map eInt))]) := by
  refine a_enter Try.func67 rfl rfl (fun w0 M0 => ?_)
  refine a_seq ?_
  refine a_region ?_
  refine aops_cons rfl (w_box_v rfl rfl rfl ?_)
  refine aops_cons rfl (w_alloc rfl z_41 fun b1 => ?_)
  refine aops_nil ?_
  refine a_seq ?_
  refine a_draw [b1] (by kernel_rfl) ?_
  show ADraw _ _ _ _ _ _ 13 _ _ _ _
  refine d_take 0 rfl (by kernel_rfl) (by kernel_rfl) (by kernel_rfl) rfl (p_move rfl) ?_
  refine d_take 2 rfl (by kernel_rfl) (by kernel_rfl) (by kernel_rfl) rfl (p_move rfl) ?_
  refine d_take 4 rfl (by kernel_rfl) (by kernel_rfl) (by kernel_rfl) rfl (p_field_v fo_41_2 rfl) ?_
  refine d_load 5 rfl (by kernel_rfl) (by kernel_rfl) (by kernel_rfl) rfl (p_load_v ag_3 rfl (by rfl) (by simp [keys])) ?_
  refine d_take 6 rfl (by kernel_rfl) (by kernel_rfl) (by kernel_rfl) rfl (p_move rfl) ?_
  refine d_take 7 rfl (by kernel_rfl) (by kernel_rfl) (by kernel_rfl) rfl (p_len sl_36 rfl rfl) ?_
  refine d_take 8 rfl (by kernel_rfl) (by kernel_rfl) (by kernel_rfl) rfl (p_field_v fo_41_2 rfl) ?_
  refine d_load 9 rfl (by kernel_rfl) (by kernel_rfl) (by kernel_rfl) rfl (p_load_v ag_3 rfl (by rfl) (by simp [keys])) ?_
  refine d_take 10 rfl (by kernel_rfl) (by kernel_rfl) (by kernel_rfl) rfl (p_geq rfl rfl) ?_
  refine draw_all [1] (by kernel_rfl) (by simp) ?_
  refine all_cons rfl rfl ?_ ?_
  · skip
    refine w_call rfl rfl rfl cl_70 ((co_spec_l1Own _ (by first | omega | (simp only [List.length_append, List.length_cons, List.length_nil, List.length_take, List.length_drop]; omega) | (have q1 := IsPort.rx ‹IsPort p›; have q2 := IsPort.tx ‹IsPort p›; simp only [List.length_append, List.length_cons, List.length_nil, List.length_take, List.length_drop]; omega) | (have q1 := IsPort.rx ‹IsPort a›; have q2 := IsPort.rx ‹IsPort b›; simp only [List.length_append, List.length_cons, List.length_nil, List.length_take, List.length_drop]; omega))).mono fun _ _ h => h.len) ?_
    rintro _ _ ⟨b2, rfl, rfl⟩
    refine draw_all [3] (by kernel_rfl) (by simp) ?_
    refine all_cons rfl rfl ?_ ?_
    · skip
      refine w_call rfl rfl rfl cl_70 ((co_spec_l1Own _ (by first | omega | (simp only [List.length_append, List.length_cons, List.length_nil, List.length_take, List.length_drop]; omega) | (have q1 := IsPort.rx ‹IsPort p›; have q2 := IsPort.tx ‹IsPort p›; simp only [List.length_append, List.length_cons, List.length_nil, List.length_take, List.length_drop]; omega) | (have q1 := IsPort.rx ‹IsPort a›; have q2 := IsPort.rx ‹IsPort b›; simp only [List.length_append, List.length_cons, List.length_nil, List.length_take, List.length_drop]; omega))).mono fun _ _ h => h.len) ?_
      rintro _ _ ⟨b3, rfl, rfl⟩
      refine d_take 11 rfl (by kernel_rfl) (by kernel_rfl) (by kernel_rfl) rfl (p_build (cells := [_, _, _, _]) z_41 pl_41 rfl rfl) ?_
      refine draw_all [12] (by kernel_rfl) (by simp) ?_
      refine all_cons rfl rfl ?_ ?_
      · skip
        refine w_store (cells' := [_, _, _, _]) rfl rfl rfl (by repeat (first | exact Pick.here _ _ _ | apply Pick.next)) cn_41 (by rfl) (by rfl) (by rfl) (by first | (refine .inl ?_; simp; done) | (refine .inr ?_; simp [keys]; done)) ?_
        refine draw_done (by kernel_rfl) ?_
        refine a_ret ?_
        refine ret_ok (hands1 rfl (.cell ag_41 rfl (by repeat (first | exact Pick.here _ _ _ | apply Pick.next)) (by rfl))) (st' := [(b2, _), (b3, _)]) (.cons (by repeat (first | exact Pick.here _ _ _ | apply Pick.next)) (.cons (by repeat (first | exact Pick.here _ _ _ | apply Pick.next)) (.nil _))) ?_
        exact ⟨_, _, by simp only [List.length_map]; rfl, rfl⟩
      exact all_nil
    exact all_nil
  exact all_nil

theorem c_impl_portWith (p : Port) (b1 b2 n1 n2 : Nat) : ACalls Try.prog 68 [.agg (ePort p), .own 1 b1 0 n1, .own 1 b2 0 n2] [] (Ret (.agg [.own 1 b1 0 n1, .own 1 b2 0 n2, .int .i64 p.depth, .bool (decide (p.depth ≤ (n1 : Int)))])) := by
  refine a_enter Try.func68 rfl rfl (fun w0 M0 => ?_)
  refine a_seq ?_
  refine a_region ?_
  refine aops_cons rfl (w_box_v rfl rfl rfl ?_)
  refine aops_cons rfl (w_alloc rfl z_41 fun b1 => ?_)
  refine aops_nil ?_
  refine a_seq ?_
  refine a_region ?_
  refine aops_cons rfl (w_pure rfl (p_move rfl) ?_)
  refine aops_cons rfl (w_pure rfl (p_move rfl) ?_)
  refine aops_cons rfl (w_pure rfl (p_field_v fo_41_2 rfl) ?_)
  refine aops_cons rfl (w_pure rfl (p_load_v ag_3 rfl (by rfl) noX) ?_)
  refine aops_cons rfl (w_pure rfl (p_move rfl) ?_)
  refine aops_cons rfl (w_pure rfl (p_len sl_36 rfl rfl) ?_)
  refine aops_cons rfl (w_pure rfl (p_field_v fo_41_2 rfl) ?_)
  refine aops_cons rfl (w_pure rfl (p_load_v ag_3 rfl (by rfl) noX) ?_)
  refine aops_cons rfl (w_pure rfl (p_geq rfl rfl) ?_)
  refine aops_cons rfl (w_pure rfl (p_build (cells := [_, _, _, _]) z_41 pl_41 rfl rfl) ?_)
  refine aops_cons rfl (w_store (cells' := [_, _, _, _]) rfl rfl rfl (by repeat (first | exact Pick.here _ _ _ | apply Pick.next)) cn_41 (by rfl) (by rfl) (by rfl) trivial ?_)
  refine aops_nil ?_
  refine a_ret ?_
  refine ret_ok (hands1 rfl (.cell ag_41 rfl (by repeat (first | exact Pick.here _ _ _ | apply Pick.next)) (by rfl))) (.nil _) ?_
  exact ⟨rfl, rfl⟩

theorem co_spec_ReceiveByte (p : Port) (hn : SmallPort p) (b : Int) (hA : GoodRecv p b) : ACalls Try.prog 38 [.agg (ePort p), .int .i64 b] [] (fun r st => ∃ b1 b2, r = .tup [.agg [.own 1 b1 0 (recvP p b).rx.length, .own 1 b2 0 (recvP p b).tx.length, .int .i64 (recvP p b).depth, .bool (recvP p b).flag], .bool true] ∧ st = [(b1, .arr 3 1 ((recvP p b).rx.map eInt)), (b2, .arr 3 1 ((recvP p b).tx.map eInt))]) := by
  have hn1 : p.rx.length ≤ 1048576 := hn.1
  have hn2 : p.tx.length ≤ 1048576 := hn.2
  refine a_enter Try.func38 rfl rfl (fun w0 M0 => ?_)
  refine a_seq ?_
  refine a_region ?_
  refine aops_cons rfl (w_box_v rfl rfl rfl ?_)
  refine aops_cons rfl (w_alloc rfl z_41 fun b1 => ?_)
  refine aops_cons rfl (w_pure rfl (p_assign rfl) ?_)
  refine aops_nil ?_
  refine a_seq ?_
  refine a_seq ?_
  refine a_region ?_
  refine aops_cons rfl (w_pure rfl (p_load_v_all ag_41 rfl (by rfl) noX) ?_)
  refine aops_cons rfl (w_callR rfl rfl rfl cl_60 (c_spec_l16Port _ ‹_›) ?_)
  refine aops_cons rfl (w_pure rfl (p_not rfl) ?_)
  refine aops_cons rfl (w_pure rfl (p_move rfl) ?_)
  first | refine aops_split_d 9 rfl (fun h1 => ?_) (fun h2 => ?_) | refine aops_split 9 rfl (fun h1 => ?_) (fun h2 => ?_)
  · (try simp only [Bool.not_eq_true', Bool.not_eq_false', Bool.not_eq_true, Bool.not_eq_false, decide_eq_true_eq, decide_eq_false_iff_not, List.length_map, List.length_range] at h1)
    refine g_pass' rfl rfl rfl rfl rfl ?_
    refine g_pass' rfl rfl rfl rfl rfl ?_
    refine g_pass' rfl rfl rfl rfl rfl ?_
    refine aops_cons rfl (w_pure rfl (p_pick_t rfl rfl) ?_)
    refine aops_cons rfl (w_pure rfl (p_move rfl) ?_)
    refine g_pass' rfl rfl rfl rfl rfl ?_
    refine g_pass' rfl rfl rfl rfl rfl ?_
    refine g_pass' rfl rfl rfl rfl rfl ?_
    refine g_pass' rfl rfl rfl rfl rfl ?_
    refine aops_cons rfl (w_pure rfl (p_pick_t rfl rfl) ?_)
    refine aops_nil ?_
    refine a_cond_t rfl ?_
    refine a_seq ?_
    refine a_region ?_
    refine aops_cons rfl (w_pure rfl (p_build (cells := [_, _, _, _]) z_41 pl_41 rfl rfl) ?_)
    refine aops_cons rfl (w_store (cells' := [_, _, _, _]) rfl rfl rfl (by repeat (first | exact Pick.here _ _ _ | apply Pick.next)) cn_41 (by rfl) (by rfl) (by rfl) trivial ?_)
    refine aops_cons rfl (w_pure rfl (p_assign rfl) ?_)
    refine aops_nil ?_
    refine a_ret ?_
    refine ret_ok (hands2 rfl (.cell ag_41 rfl (by repeat (first | exact Pick.here _ _ _ | apply Pick.next)) (by rfl)) (.tmp rfl)) (.nil _) ?_
    first | exact ⟨_, _, rfl, rfl⟩ | exact absurd hA.1 (by assumption) | exact absurd hA.2.1 (by assumption) | (exfalso; have h1 := hA.2.1; have h2 := hA.2.2; omega)
  · (try simp only [Bool.not_eq_true', Bool.not_eq_false', Bool.not_eq_true, Bool.not_eq_false, decide_eq_true_eq, decide_eq_false_iff_not, List.length_map, List.length_range] at h2)
    refine aops_guard_t rfl rfl rfl (w_pure rfl (p_move rfl) ?_)
    refine aops_guard_t rfl rfl rfl (w_callR rfl rfl rfl cl_58 (c_spec_l1In ..) ?_)
    refine aops_guard_t rfl rfl rfl (w_pure rfl (p_not rfl) ?_)
    refine aops_cons rfl (w_pure rfl (p_pick_f rfl rfl) ?_)
    refine aops_cons rfl (w_pure rfl (p_move rfl) ?_)
    first | refine aops_split_d 14 rfl (fun h3 => ?_) (fun h4 => ?_) | refine aops_split 14 rfl (fun h3 => ?_) (fun h4 => ?_)
    · (try simp only [Bool.not_eq_true', Bool.not_eq_false', Bool.not_eq_true, Bool.not_eq_false, decide_eq_true_eq, decide_eq_false_iff_not, List.length_map, List.length_range] at h3)
      refine g_pass' rfl rfl rfl rfl rfl ?_
      refine g_pass' rfl rfl rfl rfl rfl ?_
      refine g_pass' rfl rfl rfl rfl rfl ?_
      refine g_pass' rfl rfl rfl rfl rfl ?_
      refine aops_cons rfl (w_pure rfl (p_pick_t rfl rfl) ?_)
      refine aops_nil ?_
      refine a_cond_t rfl ?_
      refine a_seq ?_
      refine a_region ?_
      refine aops_cons rfl (w_pure rfl (p_build (cells := [_, _, _, _]) z_41 pl_41 rfl rfl) ?_)
      refine aops_cons rfl (w_store (cells' := [_, _, _, _]) rfl rfl rfl (by repeat (first | exact Pick.here _ _ _ | apply Pick.next)) cn_41 (by rfl) (by rfl) (by rfl) trivial ?_)
      refine aops_cons rfl (w_pure rfl (p_assign rfl) ?_)
      refine aops_nil ?_
      refine a_ret ?_
      refine ret_ok (hands2 rfl (.cell ag_41 rfl (by repeat (first | exact Pick.here _ _ _ | apply Pick.next)) (by rfl)) (.tmp rfl)) (.nil _) ?_
      first | exact ⟨_, _, rfl, rfl⟩ | exact absurd hA.1 (by assumption) | exact absurd hA.2.1 (by assumption) | (exfalso; have h1 := hA.2.1; have h2 := hA.2.2; omega)
    · (try simp only [Bool.not_eq_true', Bool.not_eq_false', Bool.not_eq_true, Bool.not_eq_false, decide_eq_true_eq, decide_eq_false_iff_not, List.length_map, List.length_range] at h4)
      refine aops_guard_t rfl rfl rfl (w_pure rfl (p_field_v fo_41_0 rfl) ?_)
      refine aops_guard_t rfl rfl rfl (w_pure rfl (p_load_v ag_36 rfl (by rfl) noX) ?_)
      refine aops_guard_t rfl rfl rfl (w_pure rfl (p_len sl_36 rfl rfl) ?_)
      refine aops_guard_t rfl rfl rfl (w_pure rfl (p_eql rfl rfl) ?_)
      refine aops_cons rfl (w_pure rfl (p_pick_f rfl rfl) ?_)
      refine aops_nil ?_
      first | refine a_cond_d rfl (fun h5 => ?_) (fun h6 => ?_) | refine a_cond_n rfl (fun h5 => ?_) (fun h6 => ?_) | refine a_cond_nb rfl (fun h5 => ?_) (fun h6 => ?_) | refine a_cond rfl (fun h5 => ?_) (fun h6 => ?_)
      · (try simp only [Bool.not_eq_true', Bool.not_eq_false', Bool.not_eq_true, Bool.not_eq_false, decide_eq_true_eq, decide_eq_false_iff_not, List.length_map, List.length_range] at h5)
        refine a_seq ?_
        refine a_region ?_
        refine aops_cons rfl (w_pure rfl (p_build (cells := [_, _, _, _]) z_41 pl_41 rfl rfl) ?_)
        refine aops_cons rfl (w_store (cells' := [_, _, _, _]) rfl rfl rfl (by repeat (first | exact Pick.here _ _ _ | apply Pick.next)) cn_41 (by rfl) (by rfl) (by rfl) trivial ?_)
        refine aops_cons rfl (w_pure rfl (p_assign rfl) ?_)
        refine aops_nil ?_
        refine a_ret ?_
        refine ret_ok (hands2 rfl (.cell ag_41 rfl (by repeat (first | exact Pick.here _ _ _ | apply Pick.next)) (by rfl)) (.tmp rfl)) (.nil _) ?_
        first | exact ⟨_, _, rfl, rfl⟩ | exact absurd hA.1 (by assumption) | exact absurd hA.2.1 (by assumption) | (exfalso; have h1 := hA.2.1; have h2 := hA.2.2; omega)
      · (try simp only [Bool.not_eq_true', Bool.not_eq_false', Bool.not_eq_true, Bool.not_eq_false, decide_eq_true_eq, decide_eq_false_iff_not, List.length_map, List.length_range] at h6)
        refine a_skip ?_
        refine a_seq ?_
        refine a_draw [b1] (by kernel_rfl) ?_
        show ADraw _ _ _ _ _ _ 12 _ _ _ _
        refine d_load 0 rfl (by kernel_rfl) (by kernel_rfl) (by kernel_rfl) rfl (p_load_v_all ag_41 rfl (by rfl) (by simp [keys])) ?_
        refine d_take 1 rfl (by kernel_rfl) (by kernel_rfl) (by kernel_rfl) rfl (p_field_v fo_41_0 rfl) ?_
        refine d_load 2 rfl (by kernel_rfl) (by kernel_rfl) (by kernel_rfl) rfl (p_load_v ag_36 rfl (by rfl) (by simp [keys])) ?_
        refine d_take 4 rfl (by kernel_rfl) (by kernel_rfl) (by kernel_rfl) rfl (p_move rfl) ?_
        refine d_take 7 rfl (by kernel_rfl) (by kernel_rfl) (by kernel_rfl) rfl (p_field_v fo_41_1 rfl) ?_
        refine d_load 8 rfl (by kernel_rfl) (by kernel_rfl) (by kernel_rfl) rfl (p_load_v ag_36 rfl (by rfl) (by simp [keys])) ?_
        refine draw_all [3, 5] (by kernel_rfl) (by simp) ?_
        refine all_cons rfl rfl ?_ ?_
        · skip
          refine w_call rfl rfl rfl cl_70 ((co_spec_l1Own _ (by first | omega | (simp only [List.length_append, List.length_cons, List.length_nil, List.length_take, List.length_drop]; omega) | (have q1 := IsPort.rx ‹IsPort p›; have q2 := IsPort.tx ‹IsPort p›; simp only [List.length_append, List.length_cons, List.length_nil, List.length_take, List.length_drop]; omega) | (have q1 := IsPort.rx ‹IsPort a›; have q2 := IsPort.rx ‹IsPort b›; simp only [List.length_append, List.length_cons, List.length_nil, List.length_take, List.length_drop]; omega))).mono fun _ _ h => h.len) ?_
          rintro _ _ ⟨b2, rfl, rfl⟩
          refine draw_all [5] (by kernel_rfl) (by simp) ?_
          refine all_cons rfl rfl ?_ ?_
          · skip
            refine w_lit_vM eInt [b] rfl el_36 rfl rfl rfl rfl rfl ?_
            refine draw_all [6] (by kernel_rfl) (by simp) ?_
            refine all_cons rfl rfl ?_ ?_
            · skip
              refine w_appendM eInt rfl el_36 rfl rfl (by repeat (first | exact Pick.here _ _ _ | apply Pick.next)) rfl (.sl _) (fun _ => rfl) (fun _ => rfl) (by simp; omega) (by simp; omega) (by first | (refine .inl ?_; simp; done) | (refine .inr ?_; simp [keys]; done)) fun b3 => ?_
              refine draw_all [9] (by kernel_rfl) (by simp) ?_
              refine all_cons rfl rfl ?_ ?_
              · skip
                refine w_callL rfl rfl rfl cl_67 (.cons (.refl _) (.cons (.own (by repeat (first | exact List.Mem.head _ | apply List.Mem.tail)) (by first | (simp; done) | (simp [mkL]; done))) (.cons (.refl _) .nil))) (co_spec_l16With _ _ _ (by first | omega | (simp only [List.length_append, List.length_cons, List.length_nil, List.length_take, List.length_drop]; omega) | (have q1 := IsPort.rx ‹IsPort p›; have q2 := IsPort.tx ‹IsPort p›; simp only [List.length_append, List.length_cons, List.length_nil, List.length_take, List.length_drop]; omega) | (have q1 := IsPort.rx ‹IsPort a›; have q2 := IsPort.rx ‹IsPort b›; simp only [List.length_append, List.length_cons, List.length_nil, List.length_take, List.length_drop]; omega)) (by first | omega | (simp only [List.length_append, List.length_cons, List.length_nil, List.length_take, List.length_drop]; omega) | (have q1 := IsPort.rx ‹IsPort p›; have q2 := IsPort.tx ‹IsPort p›; simp only [List.length_append, List.length_cons, List.length_nil, List.length_take, List.length_drop]; omega) | (have q1 := IsPort.rx ‹IsPort a›; have q2 := IsPort.rx ‹IsPort b›; simp only [List.length_append, List.length_cons, List.length_nil, List.length_take, List.length_drop]; omega))) ?_
                rintro _ _ ⟨b4, b5, rfl, rfl⟩
                refine ⟨(closed_agg (all_cons' (closed_own _ _ _ _) (all_cons' (closed_own _ _ _ _) (all_cons' (closed_int _ _) (all_cons' (closed_bool _) all_nil'))))), (closedS_cons (closedAll _ _ _ _ cl_eInt) (closedS_cons (closedAll _ _ _ _ cl_eInt) closedS_nil)), ?_⟩
                refine draw_all [10] (by kernel_rfl) (by simp) ?_
                refine all_cons rfl rfl ?_ ?_
                · skip
                  refine w_store (cells' := [_, _, _, _]) rfl rfl rfl (by repeat (first | exact Pick.here _ _ _ | apply Pick.next)) cn_41 (by rfl) (by rfl) (by rfl) (by first | (refine .inl ?_; simp; done) | (refine .inr ?_; simp [keys]; done)) ?_
                  refine d_take 11 rfl (by kernel_rfl) (by kernel_rfl) (by kernel_rfl) rfl (p_assign rfl) ?_
                  refine draw_done (by kernel_rfl) ?_
                  refine a_ret ?_
                  refine ret_ok (hands2 rfl (.cell ag_41 rfl (by repeat (first | exact Pick.here _ _ _ | apply Pick.next)) (by rfl)) (.tmp rfl)) (st' := [(b4, _), (b5, _)]) (.cons (by repeat (first | exact Pick.here _ _ _ | apply Pick.next)) (.cons (by repeat (first | exact Pick.here _ _ _ | apply Pick.next)) (.nil _))) ?_
                  first | exact ⟨_, _, rfl, rfl⟩ | exact absurd hA.1 (by assumption) | exact absurd hA.2.1 (by assumption) | (exfalso; have h1 := hA.2.1; have h2 := hA.2.2; omega)
                exact all_nil
              exact all_nil
            exact all_nil
          exact all_nil
        refine all_cons rfl rfl ?_ ?_
        · skip
          refine w_lit_vM eInt [b] rfl el_36 rfl rfl rfl rfl rfl ?_
          refine draw_all [3] (by kernel_rfl) (by simp) ?_
          refine all_cons rfl rfl ?_ ?_
          · skip
            refine w_call rfl rfl rfl cl_70 ((co_spec_l1Own _ (by first | omega | (simp only [List.length_append, List.length_cons, List.length_nil, List.length_take, List.length_drop]; omega) | (have q1 := IsPort.rx ‹IsPort p›; have q2 := IsPort.tx ‹IsPort p›; simp only [List.length_append, List.length_cons, List.length_nil, List.length_take, List.length_drop]; omega) | (have q1 := IsPort.rx ‹IsPort a›; have q2 := IsPort.rx ‹IsPort b›; simp only [List.length_append, List.length_cons, List.length_nil, List.length_take, List.length_drop]; omega))).mono fun _ _ h => h.len) ?_
            rintro _ _ ⟨b6, rfl, rfl⟩
            refine draw_all [6] (by kernel_rfl) (by simp) ?_
            refine all_cons rfl rfl ?_ ?_
            · skip
              refine w_appendM eInt rfl el_36 rfl rfl (by repeat (first | exact Pick.here _ _ _ | apply Pick.next)) rfl (.sl _) (fun _ => rfl) (fun _ => rfl) (by simp; omega) (by simp; omega) (by first | (refine .inl ?_; simp; done) | (refine .inr ?_; simp [keys]; done)) fun b7 => ?_
              refine draw_all [9] (by kernel_rfl) (by simp) ?_
              refine all_cons rfl rfl ?_ ?_
              · skip
                refine w_callL rfl rfl rfl cl_67 (.cons (.refl _) (.cons (.own (by repeat (first | exact List.Mem.head _ | apply List.Mem.tail)) (by first | (simp; done) | (simp [mkL]; done))) (.cons (.refl _) .nil))) (co_spec_l16With _ _ _ (by first | omega | (simp only [List.length_append, List.length_cons, List.length_nil, List.length_take, List.length_drop]; omega) | (have q1 := IsPort.rx ‹IsPort p›; have q2 := IsPort.tx ‹IsPort p›; simp only [List.length_append, List.length_cons, List.length_nil, List.length_take, List.length_drop]; omega) | (have q1 := IsPort.rx ‹IsPort a›; have q2 := IsPort.rx ‹IsPort b›; simp only [List.length_append, List.length_cons, List.length_nil, List.length_take, List.length_drop]; omega)) (by first | omega | (simp only [List.length_append, List.length_cons, List.length_nil, List.length_take, List.length_drop]; omega) | (have q1 := IsPort.rx ‹IsPort p›; have q2 := IsPort.tx ‹IsPort p›; simp only [List.length_append, List.length_cons, List.length_nil, List.length_take, List.length_drop]; omega) | (have q1 := IsPort.rx ‹IsPort a›; have q2 := IsPort.rx ‹IsPort b›; simp only [List.length_append, List.length_cons, List.length_nil, List.length_take, List.length_drop]; omega))) ?_
                rintro _ _ ⟨b8, b9, rfl, rfl⟩
                refine ⟨(closed_agg (all_cons' (closed_own _ _ _ _) (all_cons' (closed_own _ _ _ _) (all_cons' (closed_int _ _) (all_cons' (closed_bool _) all_nil'))))), (closedS_cons (closedAll _ _ _ _ cl_eInt) (closedS_cons (closedAll _ _ _ _ cl_eInt) closedS_nil)), ?_⟩
                refine draw_all [10] (by kernel_rfl) (by simp) ?_
                refine all_cons rfl rfl ?_ ?_
                · skip
                  refine w_store (cells' := [_, _, _, _]) rfl rfl rfl (by repeat (first | exact Pick.here _ _ _ | apply Pick.next)) cn_41 (by rfl) (by rfl) (by rfl) (by first | (refine .inl ?_; simp; done) | (refine .inr ?_; simp [keys]; done)) ?_
                  refine d_take 11 rfl (by kernel_rfl) (by kernel_rfl) (by kernel_rfl) rfl (p_assign rfl) ?_
                  refine draw_done (by kernel_rfl) ?_
                  refine a_ret ?_
                  refine ret_ok (hands2 rfl (.cell ag_41 rfl (by repeat (first | exact Pick.here _ _ _ | apply Pick.next)) (by rfl)) (.tmp rfl)) (st' := [(b8, _), (b9, _)]) (.cons (by repeat (first | exact Pick.here _ _ _ | apply Pick.next)) (.cons (by repeat (first | exact Pick.here _ _ _ | apply Pick.next)) (.nil _))) ?_
                  first | exact ⟨_, _, rfl, rfl⟩ | exact absurd hA.1 (by assumption) | exact absurd hA.2.1 (by assumption) | (exfalso; have h1 := hA.2.1; have h2 := hA.2.2; omega)
                exact all_nil
              exact all_nil
            exact all_nil
          exact all_nil
        exact all_nil

theorem cy_spec_ReceiveByte (p : Port) (hn : SmallPort p) (b : Int) (hA : GoodRecv p b) : ACalls Try.prog 38 [.agg (ePort p), .int .i64 b] [] (Ret (.tup [.agg (ePort (recvP p b)), .bool true])) :=
  (co_spec_ReceiveByte p hn b hA).freeze (by rintro _ _ ⟨_, _, rfl, rfl⟩; exact (.tup (.cons (.agg (.cons (.own (by repeat (first | exact List.Mem.head _ | apply List.Mem.tail)) (List.length_map _)) (.cons (.own (by repeat (first | exact List.Mem.head _ | apply List.Mem.tail)) (List.length_map _)) (.cons (.refl _) (.cons (.refl _) .nil))))) (.cons (.refl _) .nil))))

theorem cn_spec_ReceiveByte (p : Port) (hn : SmallPort p) (b : Int) (hA : ¬ GoodRecv p b) : ACalls Try.prog 38 [.agg (ePort p), .int .i64 b] [] (Ret (.tup [.agg [.nil, .nil, .int .i64 0, .bool false], .bool false])) := by
  have hn1 : p.rx.length ≤ 1048576 := hn.1
  have hn2 : p.tx.length ≤ 1048576 := hn.2
  refine a_enter Try.func38 rfl rfl (fun w0 M0 => ?_)
  refine a_seq ?_
  refine a_region ?_
  refine aops_cons rfl (w_box_v rfl rfl rfl ?_)
  refine aops_cons rfl (w_alloc rfl z_41 fun b1 => ?_)
  refine aops_cons rfl (w_pure rfl (p_assign rfl) ?_)
  refine aops_nil ?_
  refine a_seq ?_
  refine a_seq ?_
  refine a_region ?_
  refine aops_cons rfl (w_pure rfl (p_load_v_all ag_41 rfl (by rfl) noX) ?_)
  refine aops_cons rfl (w_callR rfl rfl rfl cl_60 (c_spec_l16Port _ ‹_›) ?_)
  refine aops_cons rfl (w_pure rfl (p_not rfl) ?_)
  refine aops_cons rfl (w_pure rfl (p_move rfl) ?_)
  first | refine aops_split_d 9 rfl (fun h1 => ?_) (fun h2 => ?_) | refine aops_split 9 rfl (fun h1 => ?_) (fun h2 => ?_)
  · (try simp only [Bool.not_eq_true', Bool.not_eq_false', Bool.not_eq_true, Bool.not_eq_false, decide_eq_true_eq, decide_eq_false_iff_not, List.length_map, List.length_range] at h1)
    refine g_pass' rfl rfl rfl rfl rfl ?_
    refine g_pass' rfl rfl rfl rfl rfl ?_
    refine g_pass' rfl rfl rfl rfl rfl ?_
    refine aops_cons rfl (w_pure rfl (p_pick_t rfl rfl) ?_)
    refine aops_cons rfl (w_pure rfl (p_move rfl) ?_)
    refine g_pass' rfl rfl rfl rfl rfl ?_
    refine g_pass' rfl rfl rfl rfl rfl ?_
    refine g_pass' rfl rfl rfl rfl rfl ?_
    refine g_pass' rfl rfl rfl rfl rfl ?_
    refine aops_cons rfl (w_pure rfl (p_pick_t rfl rfl) ?_)
    refine aops_nil ?_
    refine a_cond_t rfl ?_
    refine a_seq ?_
    refine a_region ?_
    refine aops_cons rfl (w_pure rfl (p_build (cells := [_, _, _, _]) z_41 pl_41 rfl rfl) ?_)
    refine aops_cons rfl (w_store (cells' := [_, _, _, _]) rfl rfl rfl (by repeat (first | exact Pick.here _ _ _ | apply Pick.next)) cn_41 (by rfl) (by rfl) (by rfl) trivial ?_)
    refine aops_cons rfl (w_pure rfl (p_assign rfl) ?_)
    refine aops_nil ?_
    refine a_ret ?_
    refine ret_ok (hands2 rfl (.cell ag_41 rfl (by repeat (first | exact Pick.here _ _ _ | apply Pick.next)) (by rfl)) (.tmp rfl)) (.nil _) ?_
    first | exact ⟨rfl, rfl⟩ | exact absurd (show GoodRecv p b from ⟨by assumption, by omega, by omega⟩) hA | exact absurd (show GoodRecv p b from ⟨by assumption, by omega⟩) hA | exact absurd (show GoodRecv p b from ⟨by assumption, by assumption⟩) hA
  · (try simp only [Bool.not_eq_true', Bool.not_eq_false', Bool.not_eq_true, Bool.not_eq_false, decide_eq_true_eq, decide_eq_false_iff_not, List.length_map, List.length_range] at h2)
    refine aops_guard_t rfl rfl rfl (w_pure rfl (p_move rfl) ?_)
    refine aops_guard_t rfl rfl rfl (w_callR rfl rfl rfl cl_58 (c_spec_l1In ..) ?_)
    refine aops_guard_t rfl rfl rfl (w_pure rfl (p_not rfl) ?_)
    refine aops_cons rfl (w_pure rfl (p_pick_f rfl rfl) ?_)
    refine aops_cons rfl (w_pure rfl (p_move rfl) ?_)
    first | refine aops_split_d 14 rfl (fun h3 => ?_) (fun h4 => ?_) | refine aops_split 14 rfl (fun h3 => ?_) (fun h4 => ?_)
    · (try simp only [Bool.not_eq_true', Bool.not_eq_false', Bool.not_eq_true, Bool.not_eq_false, decide_eq_true_eq, decide_eq_false_iff_not, List.length_map, List.length_range] at h3)
      refine g_pass' rfl rfl rfl rfl rfl ?_
      refine g_pass' rfl rfl rfl rfl rfl ?_
      refine g_pass' rfl rfl rfl rfl rfl ?_
      refine g_pass' rfl rfl rfl rfl rfl ?_
      refine aops_cons rfl (w_pure rfl (p_pick_t rfl rfl) ?_)
      refine aops_nil ?_
      refine a_cond_t rfl ?_
      refine a_seq ?_
      refine a_region ?_
      refine aops_cons rfl (w_pure rfl (p_build (cells := [_, _, _, _]) z_41 pl_41 rfl rfl) ?_)
      refine aops_cons rfl (w_store (cells' := [_, _, _, _]) rfl rfl rfl (by repeat (first | exact Pick.here _ _ _ | apply Pick.next)) cn_41 (by rfl) (by rfl) (by rfl) trivial ?_)
      refine aops_cons rfl (w_pure rfl (p_assign rfl) ?_)
      refine aops_nil ?_
      refine a_ret ?_
      refine ret_ok (hands2 rfl (.cell ag_41 rfl (by repeat (first | exact Pick.here _ _ _ | apply Pick.next)) (by rfl)) (.tmp rfl)) (.nil _) ?_
      first | exact ⟨rfl, rfl⟩ | exact absurd (show GoodRecv p b from ⟨by assumption, by omega, by omega⟩) hA | exact absurd (show GoodRecv p b from ⟨by assumption, by omega⟩) hA | exact absurd (show GoodRecv p b from ⟨by assumption, by assumption⟩) hA
    · (try simp only [Bool.not_eq_true', Bool.not_eq_false', Bool.not_eq_true, Bool.not_eq_false, decide_eq_true_eq, decide_eq_false_iff_not, List.length_map, List.length_range] at h4)
      refine aops_guard_t rfl rfl rfl (w_pure rfl (p_field_v fo_41_0 rfl) ?_)
      refine aops_guard_t rfl rfl rfl (w_pure rfl (p_load_v ag_36 rfl (by rfl) noX) ?_)
      refine aops_guard_t rfl rfl rfl (w_pure rfl (p_len sl_36 rfl rfl) ?_)
      refine aops_guard_t rfl rfl rfl (w_pure rfl (p_eql rfl rfl) ?_)
      refine aops_cons rfl (w_pure rfl (p_pick_f rfl rfl) ?_)
      refine aops_nil ?_
      first | refine a_cond_d rfl (fun h5 => ?_) (fun h6 => ?_) | refine a_cond_n rfl (fun h5 => ?_) (fun h6 => ?_) | refine a_cond_nb rfl (fun h5 => ?_) (fun h6 => ?_) | refine a_cond rfl (fun h5 => ?_) (fun h6 => ?_)
      · (try simp only [Bool.not_eq_true', Bool.not_eq_false', Bool.not_eq_true, Bool.not_eq_false, decide_eq_true_eq, decide_eq_false_iff_not, List.length_map, List.length_range] at h5)
        refine a_seq ?_
        refine a_region ?_
        refine aops_cons rfl (w_pure rfl (p_build (cells := [_, _, _, _]) z_41 pl_41 rfl rfl) ?_)
        refine aops_cons rfl (w_store (cells' := [_, _, _, _]) rfl rfl rfl (by repeat (first | exact Pick.here _ _ _ | apply Pick.next)) cn_41 (by rfl) (by rfl) (by rfl) trivial ?_)
        refine aops_cons rfl (w_pure rfl (p_assign rfl) ?_)
        refine aops_nil ?_
        refine a_ret ?_
        refine ret_ok (hands2 rfl (.cell ag_41 rfl (by repeat (first | exact Pick.here _ _ _ | apply Pick.next)) (by rfl)) (.tmp rfl)) (.nil _) ?_
        first | exact ⟨rfl, rfl⟩ | exact absurd (show GoodRecv p b from ⟨by assumption, by omega, by omega⟩) hA | exact absurd (show GoodRecv p b from ⟨by assumption, by omega⟩) hA | exact absurd (show GoodRecv p b from ⟨by assumption, by assumption⟩) hA
      · (try simp only [Bool.not_eq_true', Bool.not_eq_false', Bool.not_eq_true, Bool.not_eq_false, decide_eq_true_eq, decide_eq_false_iff_not, List.length_map, List.length_range] at h6)
        refine a_skip ?_
        refine a_seq ?_
        refine a_draw [b1] (by kernel_rfl) ?_
        show ADraw _ _ _ _ _ _ 12 _ _ _ _
        refine d_load 0 rfl (by kernel_rfl) (by kernel_rfl) (by kernel_rfl) rfl (p_load_v_all ag_41 rfl (by rfl) (by simp [keys])) ?_
        refine d_take 1 rfl (by kernel_rfl) (by kernel_rfl) (by kernel_rfl) rfl (p_field_v fo_41_0 rfl) ?_
        refine d_load 2 rfl (by kernel_rfl) (by kernel_rfl) (by kernel_rfl) rfl (p_load_v ag_36 rfl (by rfl) (by simp [keys])) ?_
        refine d_take 4 rfl (by kernel_rfl) (by kernel_rfl) (by kernel_rfl) rfl (p_move rfl) ?_
        refine d_take 7 rfl (by kernel_rfl) (by kernel_rfl) (by kernel_rfl) rfl (p_field_v fo_41_1 rfl) ?_
        refine d_load 8 rfl (by kernel_rfl) (by kernel_rfl) (by kernel_rfl) rfl (p_load_v ag_36 rfl (by rfl) (by simp [keys])) ?_
        refine draw_all [3, 5] (by kernel_rfl) (by simp) ?_
        refine all_cons rfl rfl ?_ ?_
        · skip
          refine w_call rfl rfl rfl cl_70 ((co_spec_l1Own _ (by first | omega | (simp only [List.length_append, List.length_cons, List.length_nil, List.length_take, List.length_drop]; omega) | (have q1 := IsPort.rx ‹IsPort p›; have q2 := IsPort.tx ‹IsPort p›; simp only [List.length_append, List.length_cons, List.length_nil, List.length_take, List.length_drop]; omega) | (have q1 := IsPort.rx ‹IsPort a›; have q2 := IsPort.rx ‹IsPort b›; simp only [List.length_append, List.length_cons, List.length_nil, List.length_take, List.length_drop]; omega))).mono fun _ _ h => h.len) ?_
          rintro _ _ ⟨b2, rfl, rfl⟩
          refine draw_all [5] (by kernel_rfl) (by simp) ?_
          refine all_cons rfl rfl ?_ ?_
          · skip
            refine w_lit_vM eInt [b] rfl el_36 rfl rfl rfl rfl rfl ?_
            refine draw_all [6] (by kernel_rfl) (by simp) ?_
            refine all_cons rfl rfl ?_ ?_
            · skip
              refine w_appendM eInt rfl el_36 rfl rfl (by repeat (first | exact Pick.here _ _ _ | apply Pick.next)) rfl (.sl _) (fun _ => rfl) (fun _ => rfl) (by simp; omega) (by simp; omega) (by first | (refine .inl ?_; simp; done) | (refine .inr ?_; simp [keys]; done)) fun b3 => ?_
              refine draw_all [9] (by kernel_rfl) (by simp) ?_
              refine all_cons rfl rfl ?_ ?_
              · skip
                refine w_callL rfl rfl rfl cl_67 (.cons (.refl _) (.cons (.own (by repeat (first | exact List.Mem.head _ | apply List.Mem.tail)) (by first | (simp; done) | (simp [mkL]; done))) (.cons (.refl _) .nil))) (co_spec_l16With _ _ _ (by first | omega | (simp only [List.length_append, List.length_cons, List.length_nil, List.length_take, List.length_drop]; omega) | (have q1 := IsPort.rx ‹IsPort p›; have q2 := IsPort.tx ‹IsPort p›; simp only [List.length_append, List.length_cons, List.length_nil, List.length_take, List.length_drop]; omega) | (have q1 := IsPort.rx ‹IsPort a›; have q2 := IsPort.rx ‹IsPort b›; simp only [List.length_append, List.length_cons, List.length_nil, List.length_take, List.length_drop]; omega)) (by first | omega | (simp only [List.length_append, List.length_cons, List.length_nil, List.length_take, List.length_drop]; omega) | (have q1 := IsPort.rx ‹IsPort p›; have q2 := IsPort.tx ‹IsPort p›; simp only [List.length_append, List.length_cons, List.length_nil, List.length_take, List.length_drop]; omega) | (have q1 := IsPort.rx ‹IsPort a›; have q2 := IsPort.rx ‹IsPort b›; simp only [List.length_append, List.length_cons, List.length_nil, List.length_take, List.length_drop]; omega))) ?_
                rintro _ _ ⟨b4, b5, rfl, rfl⟩
                refine ⟨(closed_agg (all_cons' (closed_own _ _ _ _) (all_cons' (closed_own _ _ _ _) (all_cons' (closed_int _ _) (all_cons' (closed_bool _) all_nil'))))), (closedS_cons (closedAll _ _ _ _ cl_eInt) (closedS_cons (closedAll _ _ _ _ cl_eInt) closedS_nil)), ?_⟩
                refine draw_all [10] (by kernel_rfl) (by simp) ?_
                refine all_cons rfl rfl ?_ ?_
                · skip
                  refine w_store (cells' := [_, _, _, _]) rfl rfl rfl (by repeat (first | exact Pick.here _ _ _ | apply Pick.next)) cn_41 (by rfl) (by rfl) (by rfl) (by first | (refine .inl ?_; simp; done) | (refine .inr ?_; simp [keys]; done)) ?_
                  refine d_take 11 rfl (by kernel_rfl) (by kernel_rfl) (by kernel_rfl) rfl (p_assign rfl) ?_
                  refine draw_done (by kernel_rfl) ?_
                  refine a_ret ?_
                  refine ret_ok (hands2 rfl (.cell ag_41 rfl (by repeat (first | exact Pick.here _ _ _ | apply Pick.next)) (by rfl)) (.tmp rfl)) (st' := [(b4, _), (b5, _)]) (.cons (by repeat (first | exact Pick.here _ _ _ | apply Pick.next)) (.cons (by repeat (first | exact Pick.here _ _ _ | apply Pick.next)) (.nil _))) ?_
                  first | exact ⟨rfl, rfl⟩ | exact absurd (show GoodRecv p b from ⟨by assumption, by omega, by omega⟩) hA | exact absurd (show GoodRecv p b from ⟨by assumption, by omega⟩) hA | exact absurd (show GoodRecv p b from ⟨by assumption, by assumption⟩) hA
                exact all_nil
              exact all_nil
            exact all_nil
          exact all_nil
        refine all_cons rfl rfl ?_ ?_
        · skip
          refine w_lit_vM eInt [b] rfl el_36 rfl rfl rfl rfl rfl ?_
          refine draw_all [3] (by kernel_rfl) (by simp) ?_
          refine all_cons rfl rfl ?_ ?_
          · skip
            refine w_call rfl rfl rfl cl_70 ((co_spec_l1Own _ (by first | omega | (simp only [List.length_append, List.length_cons, List.length_nil, List.length_take, List.length_drop]; omega) | (have q1 := IsPort.rx ‹IsPort p›; have q2 := IsPort.tx ‹IsPort p›; simp only [List.length_append, List.length_cons, List.length_nil, List.length_take, List.length_drop]; omega) | (have q1 := IsPort.rx ‹IsPort a›; have q2 := IsPort.rx ‹IsPort b›; simp only [List.length_append, List.length_cons, List.length_nil, List.length_take, List.length_drop]; omega))).mono fun _ _ h => h.len) ?_
            rintro _ _ ⟨b6, rfl, rfl⟩
            refine draw_all [6] (by kernel_rfl) (by simp) ?_
            refine all_cons rfl rfl ?_ ?_
            · skip
              refine w_appendM eInt rfl el_36 rfl rfl (by repeat (first | exact Pick.here _ _ _ | apply Pick.next)) rfl (.sl _) (fun _ => rfl) (fun _ => rfl) (by simp; omega) (by simp; omega) (by first | (refine .inl ?_; simp; done) | (refine .inr ?_; simp [keys]; done)) fun b7 => ?_
              refine draw_all [9] (by kernel_rfl) (by simp) ?_
              refine all_cons rfl rfl ?_ ?_
              · skip
                refine w_callL rfl rfl rfl cl_67 (.cons (.refl _) (.cons (.own (by repeat (first | exact List.Mem.head _ | apply List.Mem.tail)) (by first | (simp; done) | (simp [mkL]; done))) (.cons (.refl _) .nil))) (co_spec_l16With _ _ _ (by first | omega | (simp only [List.length_append, List.length_cons, List.length_nil, List.length_take, List.length_drop]; omega) | (have q1 := IsPort.rx ‹IsPort p›; have q2 := IsPort.tx ‹IsPort p›; simp only [List.length_append, List.length_cons, List.length_nil, List.length_take, List.length_drop]; omega) | (have q1 := IsPort.rx ‹IsPort a›; have q2 := IsPort.rx ‹IsPort b›; simp only [List.length_append, List.length_cons, List.length_nil, List.length_take, List.length_drop]; omega)) (by first | omega | (simp only [List.length_append, List.length_cons, List.length_nil, List.length_take, List.length_drop]; omega) | (have q1 := IsPort.rx ‹IsPort p›; have q2 := IsPort.tx ‹IsPort p›; simp only [List.length_append, List.length_cons, List.length_nil, List.length_take, List.length_drop]; omega) | (have q1 := IsPort.rx ‹IsPort a›; have q2 := IsPort.rx ‹IsPort b›; simp only [List.length_append, List.length_cons, List.length_nil, List.length_take, List.length_drop]; omega))) ?_
                rintro _ _ ⟨b8, b9, rfl, rfl⟩
                refine ⟨(closed_agg (all_cons' (closed_own _ _ _ _) (all_cons' (closed_own _ _ _ _) (all_cons' (closed_int _ _) (all_cons' (closed_bool _) all_nil'))))), (closedS_cons (closedAll _ _ _ _ cl_eInt) (closedS_cons (closedAll _ _ _ _ cl_eInt) closedS_nil)), ?_⟩
                refine draw_all [10] (by kernel_rfl) (by simp) ?_
                refine all_cons rfl rfl ?_ ?_
                · skip
                  refine w_store (cells' := [_, _, _, _]) rfl rfl rfl (by repeat (first | exact Pick.here _ _ _ | apply Pick.next)) cn_41 (by rfl) (by rfl) (by rfl) (by first | (refine .inl ?_; simp; done) | (refine .inr ?_; simp [keys]; done)) ?_
                  refine d_take 11 rfl (by kernel_rfl) (by kernel_rfl) (by kernel_rfl) rfl (p_assign rfl) ?_
                  refine draw_done (by kernel_rfl) ?_
                  refine a_ret ?_
                  refine ret_ok (hands2 rfl (.cell ag_41 rfl (by repeat (first | exact Pick.here _ _ _ | apply Pick.next)) (by rfl)) (.tmp rfl)) (st' := [(b8, _), (b9, _)]) (.cons (by repeat (first | exact Pick.here _ _ _ | apply Pick.next)) (.cons (by repeat (first | exact Pick.here _ _ _ | apply Pick.next)) (.nil _))) ?_
                  first | exact ⟨rfl, rfl⟩ | exact absurd (show GoodRecv p b from ⟨by assumption, by omega, by omega⟩) hA | exact absurd (show GoodRecv p b from ⟨by assumption, by omega⟩) hA | exact absurd (show GoodRecv p b from ⟨by assumption, by assumption⟩) hA
                exact all_nil
              exact all_nil
            exact all_nil
          exact all_nil
        exact all_nil

theorem cy_impl_ReceiveByte (p : Port) (hn : SmallPort p) (b : Int) (hA : GoodRecv p b) : ACalls Try.prog 39 [.agg (ePort p), .int .i64 b] [] (fun r st => ∃ b1 b2, r = .tup [.agg [.own 1 b1 0 (recvP p b).rx.length, .own 1 b2 0 (recvP p b).tx.length, .int .i64 (recvP p b).depth, .bool (recvP p b).flag], .bool true] ∧ st = [(b1, .arr 3 1 ((recvP p b).rx.map eInt)), (b2, .arr 3 1 ((recvP p b).tx.map eInt))]) := by
  have hn1 : p.rx.length ≤ 1048576 := hn.1
  have hn2 : p.tx.length ≤ 1048576 := hn.2
  refine a_enter Try.func39 rfl rfl (fun w0 M0 => ?_)
  refine a_seq ?_
  refine a_region ?_
  refine aops_cons rfl (w_box_v rfl rfl rfl ?_)
  refine aops_cons rfl (w_alloc rfl z_41 fun b1 => ?_)
  refine aops_cons rfl (w_pure rfl (p_assign rfl) ?_)
  refine aops_nil ?_
  refine a_seq ?_
  refine a_seq ?_
  refine a_region ?_
  refine aops_cons rfl (w_pure rfl (p_load_v_all ag_41 rfl (by rfl) noX) ?_)
  refine aops_cons rfl (w_callR rfl rfl rfl cl_28 (c_impl_IsPort _ ‹_›) ?_)
  refine aops_cons rfl (w_pure rfl (p_not rfl) ?_)
  refine aops_cons rfl (w_pure rfl (p_move rfl) ?_)
  first | refine aops_split_d 9 rfl (fun h1 => ?_) (fun h2 => ?_) | refine aops_split 9 rfl (fun h1 => ?_) (fun h2 => ?_)
  · (try simp only [Bool.not_eq_true', Bool.not_eq_false', Bool.not_eq_true, Bool.not_eq_false, decide_eq_true_eq, decide_eq_false_iff_not, List.length_map, List.length_range] at h1)
    refine g_pass' rfl rfl rfl rfl rfl ?_
    refine g_pass' rfl rfl rfl rfl rfl ?_
    refine g_pass' rfl rfl rfl rfl rfl ?_
    refine aops_cons rfl (w_pure rfl (p_pick_t rfl rfl) ?_)
    refine aops_cons rfl (w_pure rfl (p_move rfl) ?_)
    refine g_pass' rfl rfl rfl rfl rfl ?_
    refine g_pass' rfl rfl rfl rfl rfl ?_
    refine g_pass' rfl rfl rfl rfl rfl ?_
    refine g_pass' rfl rfl rfl rfl rfl ?_
    refine aops_cons rfl (w_pure rfl (p_pick_t rfl rfl) ?_)
    refine aops_nil ?_
    refine a_cond_t rfl ?_
    refine a_seq ?_
    refine a_region ?_
    refine aops_cons rfl (w_pure rfl (p_build (cells := [_, _, _, _]) z_41 pl_41 rfl rfl) ?_)
    refine aops_cons rfl (w_store (cells' := [_, _, _, _]) rfl rfl rfl (by repeat (first | exact Pick.here _ _ _ | apply Pick.next)) cn_41 (by rfl) (by rfl) (by rfl) trivial ?_)
    refine aops_cons rfl (w_pure rfl (p_assign rfl) ?_)
    refine aops_nil ?_
    refine a_ret ?_
    refine ret_ok (hands2 rfl (.cell ag_41 rfl (by repeat (first | exact Pick.here _ _ _ | apply Pick.next)) (by rfl)) (.tmp rfl)) (.nil _) ?_
    first | exact ⟨_, _, rfl, rfl⟩ | exact absurd hA.1 (by assumption) | exact absurd hA.2.1 (by assumption) | (exfalso; have h1 := hA.2.1; have h2 := hA.2.2; omega)
  · (try simp only [Bool.not_eq_true', Bool.not_eq_false', Bool.not_eq_true, Bool.not_eq_false, decide_eq_true_eq, decide_eq_false_iff_not, List.length_map, List.length_range] at h2)
    refine aops_guard_t rfl rfl rfl (w_pure rfl (p_move rfl) ?_)
    refine aops_guard_t rfl rfl rfl (w_callR rfl rfl rfl cl_71 (c_impl_isByte ..) ?_)
    refine aops_guard_t rfl rfl rfl (w_pure rfl (p_not rfl) ?_)
    refine aops_cons rfl (w_pure rfl (p_pick_f rfl rfl) ?_)
    refine aops_cons rfl (w_pure rfl (p_move rfl) ?_)
    first | refine aops_split_d 14 rfl (fun h3 => ?_) (fun h4 => ?_) | refine aops_split 14 rfl (fun h3 => ?_) (fun h4 => ?_)
    · (try simp only [Bool.not_eq_true', Bool.not_eq_false', Bool.not_eq_true, Bool.not_eq_false, decide_eq_true_eq, decide_eq_false_iff_not, List.length_map, List.length_range] at h3)
      refine g_pass' rfl rfl rfl rfl rfl ?_
      refine g_pass' rfl rfl rfl rfl rfl ?_
      refine g_pass' rfl rfl rfl rfl rfl ?_
      refine g_pass' rfl rfl rfl rfl rfl ?_
      refine aops_cons rfl (w_pure rfl (p_pick_t rfl rfl) ?_)
      refine aops_nil ?_
      refine a_cond_t rfl ?_
      refine a_seq ?_
      refine a_region ?_
      refine aops_cons rfl (w_pure rfl (p_build (cells := [_, _, _, _]) z_41 pl_41 rfl rfl) ?_)
      refine aops_cons rfl (w_store (cells' := [_, _, _, _]) rfl rfl rfl (by repeat (first | exact Pick.here _ _ _ | apply Pick.next)) cn_41 (by rfl) (by rfl) (by rfl) trivial ?_)
      refine aops_cons rfl (w_pure rfl (p_assign rfl) ?_)
      refine aops_nil ?_
      refine a_ret ?_
      refine ret_ok (hands2 rfl (.cell ag_41 rfl (by repeat (first | exact Pick.here _ _ _ | apply Pick.next)) (by rfl)) (.tmp rfl)) (.nil _) ?_
      first | exact ⟨_, _, rfl, rfl⟩ | exact absurd hA.1 (by assumption) | exact absurd hA.2.1 (by assumption) | (exfalso; have h1 := hA.2.1; have h2 := hA.2.2; omega)
    · (try simp only [Bool.not_eq_true', Bool.not_eq_false', Bool.not_eq_true, Bool.not_eq_false, decide_eq_true_eq, decide_eq_false_iff_not, List.length_map, List.length_range] at h4)
      refine aops_guard_t rfl rfl rfl (w_pure rfl (p_field_v fo_41_0 rfl) ?_)
      refine aops_guard_t rfl rfl rfl (w_pure rfl (p_load_v ag_36 rfl (by rfl) noX) ?_)
      refine aops_guard_t rfl rfl rfl (w_pure rfl (p_len sl_36 rfl rfl) ?_)
      refine aops_guard_t rfl rfl rfl (w_pure rfl (p_eql rfl rfl) ?_)
      refine aops_cons rfl (w_pure rfl (p_pick_f rfl rfl) ?_)
      refine aops_nil ?_
      first | refine a_cond_d rfl (fun h5 => ?_) (fun h6 => ?_) | refine a_cond_n rfl (fun h5 => ?_) (fun h6 => ?_) | refine a_cond_nb rfl (fun h5 => ?_) (fun h6 => ?_) | refine a_cond rfl (fun h5 => ?_) (fun h6 => ?_)
      · (try simp only [Bool.not_eq_true', Bool.not_eq_false', Bool.not_eq_true, Bool.not_eq_false, decide_eq_true_eq, decide_eq_false_iff_not, List.length_map, List.length_range] at h5)
        refine a_seq ?_
        refine a_region ?_
        refine aops_cons rfl (w_pure rfl (p_build (cells := [_, _, _, _]) z_41 pl_41 rfl rfl) ?_)
        refine aops_cons rfl (w_store (cells' := [_, _, _, _]) rfl rfl rfl (by repeat (first | exact Pick.here _ _ _ | apply Pick.next)) cn_41 (by rfl) (by rfl) (by rfl) trivial ?_)
        refine aops_cons rfl (w_pure rfl (p_assign rfl) ?_)
        refine aops_nil ?_
        refine a_ret ?_
        refine ret_ok (hands2 rfl (.cell ag_41 rfl (by repeat (first | exact Pick.here _ _ _ | apply Pick.next)) (by rfl)) (.tmp rfl)) (.nil _) ?_
        first | exact ⟨_, _, rfl, rfl⟩ | exact absurd hA.1 (by assumption) | exact absurd hA.2.1 (by assumption) | (exfalso; have h1 := hA.2.1; have h2 := hA.2.2; omega)
      · (try simp only [Bool.not_eq_true', Bool.not_eq_false', Bool.not_eq_true, Bool.not_eq_false, decide_eq_true_eq, decide_eq_false_iff_not, List.length_map, List.length_range] at h6)
        refine a_skip ?_
        refine a_seq ?_
        refine a_draw [b1] (by kernel_rfl) ?_
        show ADraw _ _ _ _ _ _ 13 _ _ _ _
        refine d_load 0 rfl (by kernel_rfl) (by kernel_rfl) (by kernel_rfl) rfl (p_load_v_all ag_41 rfl (by rfl) (by simp [keys])) ?_
        refine d_take 1 rfl (by kernel_rfl) (by kernel_rfl) (by kernel_rfl) rfl (p_field_v fo_41_0 rfl) ?_
        refine d_load 2 rfl (by kernel_rfl) (by kernel_rfl) (by kernel_rfl) rfl (p_load_v ag_36 rfl (by rfl) (by simp [keys])) ?_
        refine d_take 4 rfl (by kernel_rfl) (by kernel_rfl) (by kernel_rfl) rfl (p_move rfl) ?_
        refine d_take 7 rfl (by kernel_rfl) (by kernel_rfl) (by kernel_rfl) rfl (p_field_v fo_41_1 rfl) ?_
        refine d_load 8 rfl (by kernel_rfl) (by kernel_rfl) (by kernel_rfl) rfl (p_load_v ag_36 rfl (by rfl) (by simp [keys])) ?_
        refine draw_all [3, 5] (by kernel_rfl) (by simp) ?_
        refine all_cons rfl rfl ?_ ?_
        · skip
          refine w_call rfl rfl rfl cl_69 ((co_impl_copyInts _ (by first | omega | (simp only [List.length_append, List.length_cons, List.length_nil, List.length_take, List.length_drop]; omega) | (have q1 := IsPort.rx ‹IsPort p›; have q2 := IsPort.tx ‹IsPort p›; simp only [List.length_append, List.length_cons, List.length_nil, List.length_take, List.length_drop]; omega) | (have q1 := IsPort.rx ‹IsPort a›; have q2 := IsPort.rx ‹IsPort b›; simp only [List.length_append, List.length_cons, List.length_nil, List.length_take, List.length_drop]; omega))).mono fun _ _ h => h.len) ?_
          rintro _ _ ⟨b2, rfl, rfl⟩
          refine draw_all [5] (by kernel_rfl) (by simp) ?_
          refine all_cons rfl rfl ?_ ?_
          · skip
            refine w_lit_vM eInt [b] rfl el_36 rfl rfl rfl rfl rfl ?_
            refine draw_all [6] (by kernel_rfl) (by simp) ?_
            refine all_cons rfl rfl ?_ ?_
            · skip
              refine w_appendM eInt rfl el_36 rfl rfl (by repeat (first | exact Pick.here _ _ _ | apply Pick.next)) rfl (.sl _) (fun _ => rfl) (fun _ => rfl) (by simp; omega) (by simp; omega) (by first | (refine .inl ?_; simp; done) | (refine .inr ?_; simp [keys]; done)) fun b3 => ?_
              refine draw_all [9] (by kernel_rfl) (by simp) ?_
              refine all_cons rfl rfl ?_ ?_
              · skip
                refine w_call rfl rfl rfl cl_69 ((co_impl_copyInts _ (by first | omega | (simp only [List.length_append, List.length_cons, List.length_nil, List.length_take, List.length_drop]; omega) | (have q1 := IsPort.rx ‹IsPort p›; have q2 := IsPort.tx ‹IsPort p›; simp only [List.length_append, List.length_cons, List.length_nil, List.length_take, List.length_drop]; omega) | (have q1 := IsPort.rx ‹IsPort a›; have q2 := IsPort.rx ‹IsPort b›; simp only [List.length_append, List.length_cons, List.length_nil, List.length_take, List.length_drop]; omega))).mono fun _ _ h => h.len) ?_
                rintro _ _ ⟨b4, rfl, rfl⟩
                refine draw_all [10] (by kernel_rfl) (by simp) ?_
                refine all_cons rfl rfl ?_ ?_
                · skip
                  refine w_callR rfl rfl rfl cl_68 (c_impl_portWith _ _ _ _ _) ?_
                  refine draw_all [11] (by kernel_rfl) (by simp) ?_
                  refine all_cons rfl rfl ?_ ?_
                  · skip
                    refine w_store (cells' := [_, _, _, _]) rfl rfl rfl (by repeat (first | exact Pick.here _ _ _ | apply Pick.next)) cn_41 (by rfl) (by rfl) (by rfl) (by first | (refine .inl ?_; simp; done) | (refine .inr ?_; simp [keys]; done)) ?_
                    refine d_take 12 rfl (by kernel_rfl) (by kernel_rfl) (by kernel_rfl) rfl (p_assign rfl) ?_
                    refine draw_done (by kernel_rfl) ?_
                    refine a_ret ?_
                    refine ret_ok (hands2 rfl (.cell ag_41 rfl (by repeat (first | exact Pick.here _ _ _ | apply Pick.next)) (by rfl)) (.tmp rfl)) (st' := [(b3, _), (b4, _)]) (.cons (by repeat (first | exact Pick.here _ _ _ | apply Pick.next)) (.cons (by repeat (first | exact Pick.here _ _ _ | apply Pick.next)) (.nil _))) ?_
                    first | exact ⟨_, _, rfl, rfl⟩ | exact absurd hA.1 (by assumption) | exact absurd hA.2.1 (by assumption) | (exfalso; have h1 := hA.2.1; have h2 := hA.2.2; omega)
                  exact all_nil
                exact all_nil
              exact all_nil
            exact all_nil
          exact all_nil
        refine all_cons rfl rfl ?_ ?_
        · skip
          refine w_lit_vM eInt [b] rfl el_36 rfl rfl rfl rfl rfl ?_
          refine draw_all [3] (by kernel_rfl) (by simp) ?_
          refine all_cons rfl rfl ?_ ?_
          · skip
            refine w_call rfl rfl rfl cl_69 ((co_impl_copyInts _ (by first | omega | (simp only [List.length_append, List.length_cons, List.length_nil, List.length_take, List.length_drop]; omega) | (have q1 := IsPort.rx ‹IsPort p›; have q2 := IsPort.tx ‹IsPort p›; simp only [List.length_append, List.length_cons, List.length_nil, List.length_take, List.length_drop]; omega) | (have q1 := IsPort.rx ‹IsPort a›; have q2 := IsPort.rx ‹IsPort b›; simp only [List.length_append, List.length_cons, List.length_nil, List.length_take, List.length_drop]; omega))).mono fun _ _ h => h.len) ?_
            rintro _ _ ⟨b5, rfl, rfl⟩
            refine draw_all [6] (by kernel_rfl) (by simp) ?_
            refine all_cons rfl rfl ?_ ?_
            · skip
              refine w_appendM eInt rfl el_36 rfl rfl (by repeat (first | exact Pick.here _ _ _ | apply Pick.next)) rfl (.sl _) (fun _ => rfl) (fun _ => rfl) (by simp; omega) (by simp; omega) (by first | (refine .inl ?_; simp; done) | (refine .inr ?_; simp [keys]; done)) fun b6 => ?_
              refine draw_all [9] (by kernel_rfl) (by simp) ?_
              refine all_cons rfl rfl ?_ ?_
              · skip
                refine w_call rfl rfl rfl cl_69 ((co_impl_copyInts _ (by first | omega | (simp only [List.length_append, List.length_cons, List.length_nil, List.length_take, List.length_drop]; omega) | (have q1 := IsPort.rx ‹IsPort p›; have q2 := IsPort.tx ‹IsPort p›; simp only [List.length_append, List.length_cons, List.length_nil, List.length_take, List.length_drop]; omega) | (have q1 := IsPort.rx ‹IsPort a›; have q2 := IsPort.rx ‹IsPort b›; simp only [List.length_append, List.length_cons, List.length_nil, List.length_take, List.length_drop]; omega))).mono fun _ _ h => h.len) ?_
                rintro _ _ ⟨b7, rfl, rfl⟩
                refine draw_all [10] (by kernel_rfl) (by simp) ?_
                refine all_cons rfl rfl ?_ ?_
                · skip
                  refine w_callR rfl rfl rfl cl_68 (c_impl_portWith _ _ _ _ _) ?_
                  refine draw_all [11] (by kernel_rfl) (by simp) ?_
                  refine all_cons rfl rfl ?_ ?_
                  · skip
                    refine w_store (cells' := [_, _, _, _]) rfl rfl rfl (by repeat (first | exact Pick.here _ _ _ | apply Pick.next)) cn_41 (by rfl) (by rfl) (by rfl) (by first | (refine .inl ?_; simp; done) | (refine .inr ?_; simp [keys]; done)) ?_
                    refine d_take 12 rfl (by kernel_rfl) (by kernel_rfl) (by kernel_rfl) rfl (p_assign rfl) ?_
                    refine draw_done (by kernel_rfl) ?_
                    refine a_ret ?_
                    refine ret_ok (hands2 rfl (.cell ag_41 rfl (by repeat (first | exact Pick.here _ _ _ | apply Pick.next)) (by rfl)) (.tmp rfl)) (st' := [(b6, _), (b7, _)]) (.cons (by repeat (first | exact Pick.here _ _ _ | apply Pick.next)) (.cons (by repeat (first | exact Pick.here _ _ _ | apply Pick.next)) (.nil _))) ?_
                    first | exact ⟨_, _, rfl, rfl⟩ | exact absurd hA.1 (by assumption) | exact absurd hA.2.1 (by assumption) | (exfalso; have h1 := hA.2.1; have h2 := hA.2.2; omega)
                  exact all_nil
                exact all_nil
              exact all_nil
            exact all_nil
          exact all_nil
        exact all_nil

theorem cf_impl_ReceiveByte (p : Port) (hn : SmallPort p) (b : Int) (hA : GoodRecv p b) : ACalls Try.prog 39 [.agg (ePort p), .int .i64 b] [] (Ret (.tup [.agg (ePort (recvP p b)), .bool true])) :=
  (cy_impl_ReceiveByte p hn b hA).freeze (by rintro _ _ ⟨_, _, rfl, rfl⟩; exact (.tup (.cons (.agg (.cons (.own (by repeat (first | exact List.Mem.head _ | apply List.Mem.tail)) (List.length_map _)) (.cons (.own (by repeat (first | exact List.Mem.head _ | apply List.Mem.tail)) (List.length_map _)) (.cons (.refl _) (.cons (.refl _) .nil))))) (.cons (.refl _) .nil))))

theorem cn_impl_ReceiveByte (p : Port) (hn : SmallPort p) (b : Int) (hA : ¬ GoodRecv p b) : ACalls Try.prog 39 [.agg (ePort p), .int .i64 b] [] (Ret (.tup [.agg [.nil, .nil, .int .i64 0, .bool false], .bool false])) := by
  have hn1 : p.rx.length ≤ 1048576 := hn.1
  have hn2 : p.tx.length ≤ 1048576 := hn.2
  refine a_enter Try.func39 rfl rfl (fun w0 M0 => ?_)
  refine a_seq ?_
  refine a_region ?_
  refine aops_cons rfl (w_box_v rfl rfl rfl ?_)
  refine aops_cons rfl (w_alloc rfl z_41 fun b1 => ?_)
  refine aops_cons rfl (w_pure rfl (p_assign rfl) ?_)
  refine aops_nil ?_
  refine a_seq ?_
  refine a_seq ?_
  refine a_region ?_
  refine aops_cons rfl (w_pure rfl (p_load_v_all ag_41 rfl (by rfl) noX) ?_)
  refine aops_cons rfl (w_callR rfl rfl rfl cl_28 (c_impl_IsPort _ ‹_›) ?_)
  refine aops_cons rfl (w_pure rfl (p_not rfl) ?_)
  refine aops_cons rfl (w_pure rfl (p_move rfl) ?_)
  first | refine aops_split_d 9 rfl (fun h1 => ?_) (fun h2 => ?_) | refine aops_split 9 rfl (fun h1 => ?_) (fun h2 => ?_)
  · (try simp only [Bool.not_eq_true', Bool.not_eq_false', Bool.not_eq_true, Bool.not_eq_false, decide_eq_true_eq, decide_eq_false_iff_not, List.length_map, List.length_range] at h1)
    refine g_pass' rfl rfl rfl rfl rfl ?_
    refine g_pass' rfl rfl rfl rfl rfl ?_
    refine g_pass' rfl rfl rfl rfl rfl ?_
    refine aops_cons rfl (w_pure rfl (p_pick_t rfl rfl) ?_)
    refine aops_cons rfl (w_pure rfl (p_move rfl) ?_)
    refine g_pass' rfl rfl rfl rfl rfl ?_
    refine g_pass' rfl rfl rfl rfl rfl ?_
    refine g_pass' rfl rfl rfl rfl rfl ?_
    refine g_pass' rfl rfl rfl rfl rfl ?_
    refine aops_cons rfl (w_pure rfl (p_pick_t rfl rfl) ?_)
    refine aops_nil ?_
    refine a_cond_t rfl ?_
    refine a_seq ?_
    refine a_region ?_
    refine aops_cons rfl (w_pure rfl (p_build (cells := [_, _, _, _]) z_41 pl_41 rfl rfl) ?_)
    refine aops_cons rfl (w_store (cells' := [_, _, _, _]) rfl rfl rfl (by repeat (first | exact Pick.here _ _ _ | apply Pick.next)) cn_41 (by rfl) (by rfl) (by rfl) trivial ?_)
    refine aops_cons rfl (w_pure rfl (p_assign rfl) ?_)
    refine aops_nil ?_
    refine a_ret ?_
    refine ret_ok (hands2 rfl (.cell ag_41 rfl (by repeat (first | exact Pick.here _ _ _ | apply Pick.next)) (by rfl)) (.tmp rfl)) (.nil _) ?_
    first | exact ⟨rfl, rfl⟩ | exact absurd (show GoodRecv p b from ⟨by assumption, by omega, by omega⟩) hA | exact absurd (show GoodRecv p b from ⟨by assumption, by omega⟩) hA | exact absurd (show GoodRecv p b from ⟨by assumption, by assumption⟩) hA
  · (try simp only [Bool.not_eq_true', Bool.not_eq_false', Bool.not_eq_true, Bool.not_eq_false, decide_eq_true_eq, decide_eq_false_iff_not, List.length_map, List.length_range] at h2)
    refine aops_guard_t rfl rfl rfl (w_pure rfl (p_move rfl) ?_)
    refine aops_guard_t rfl rfl rfl (w_callR rfl rfl rfl cl_71 (c_impl_isByte ..) ?_)
    refine aops_guard_t rfl rfl rfl (w_pure rfl (p_not rfl) ?_)
    refine aops_cons rfl (w_pure rfl (p_pick_f rfl rfl) ?_)
    refine aops_cons rfl (w_pure rfl (p_move rfl) ?_)
    first | refine aops_split_d 14 rfl (fun h3 => ?_) (fun h4 => ?_) | refine aops_split 14 rfl (fun h3 => ?_) (fun h4 => ?_)
    · (try simp only [Bool.not_eq_true', Bool.not_eq_false', Bool.not_eq_true, Bool.not_eq_false, decide_eq_true_eq, decide_eq_false_iff_not, List.length_map, List.length_range] at h3)
      refine g_pass' rfl rfl rfl rfl rfl ?_
      refine g_pass' rfl rfl rfl rfl rfl ?_
      refine g_pass' rfl rfl rfl rfl rfl ?_
      refine g_pass' rfl rfl rfl rfl rfl ?_
      refine aops_cons rfl (w_pure rfl (p_pick_t rfl rfl) ?_)
      refine aops_nil ?_
      refine a_cond_t rfl ?_
      refine a_seq ?_
      refine a_region ?_
      refine aops_cons rfl (w_pure rfl (p_build (cells := [_, _, _, _]) z_41 pl_41 rfl rfl) ?_)
      refine aops_cons rfl (w_store (cells' := [_, _, _, _]) rfl rfl rfl (by repeat (first | exact Pick.here _ _ _ | apply Pick.next)) cn_41 (by rfl) (by rfl) (by rfl) trivial ?_)
      refine aops_cons rfl (w_pure rfl (p_assign rfl) ?_)
      refine aops_nil ?_
      refine a_ret ?_
      refine ret_ok (hands2 rfl (.cell ag_41 rfl (by repeat (first | exact Pick.here _ _ _ | apply Pick.next)) (by rfl)) (.tmp rfl)) (.nil _) ?_
      first | exact ⟨rfl, rfl⟩ | exact absurd (show GoodRecv p b from ⟨by assumption, by omega, by omega⟩) hA | exact absurd (show GoodRecv p b from ⟨by assumption, by omega⟩) hA | exact absurd (show GoodRecv p b from ⟨by assumption, by assumption⟩) hA
    · (try simp only [Bool.not_eq_true', Bool.not_eq_false', Bool.not_eq_true, Bool.not_eq_false, decide_eq_true_eq, decide_eq_false_iff_not, List.length_map, List.length_range] at h4)
      refine aops_guard_t rfl rfl rfl (w_pure rfl (p_field_v fo_41_0 rfl) ?_)
      refine aops_guard_t rfl rfl rfl (w_pure rfl (p_load_v ag_36 rfl (by rfl) noX) ?_)
      refine aops_guard_t rfl rfl rfl (w_pure rfl (p_len sl_36 rfl rfl) ?_)
      refine aops_guard_t rfl rfl rfl (w_pure rfl (p_eql rfl rfl) ?_)
      refine aops_cons rfl (w_pure rfl (p_pick_f rfl rfl) ?_)
      refine aops_nil ?_
      first | refine a_cond_d rfl (fun h5 => ?_) (fun h6 => ?_) | refine a_cond_n rfl (fun h5 => ?_) (fun h6 => ?_) | refine a_cond_nb rfl (fun h5 => ?_) (fun h6 => ?_) | refine a_cond rfl (fun h5 => ?_) (fun h6 => ?_)
      · (try simp only [Bool.not_eq_true', Bool.not_eq_false', Bool.not_eq_true, Bool.not_eq_false, decide_eq_true_eq, decide_eq_false_iff_not, List.length_map, List.length_range] at h5)
        refine a_seq ?_
        refine a_region ?_
        refine aops_cons rfl (w_pure rfl (p_build (cells := [_, _, _, _]) z_41 pl_41 rfl rfl) ?_)
        refine aops_cons rfl (w_store (cells' := [_, _, _, _]) rfl rfl rfl (by repeat (first | exact Pick.here _ _ _ | apply Pick.next)) cn_41 (by rfl) (by rfl) (by rfl) trivial ?_)
        refine aops_cons rfl (w_pure rfl (p_assign rfl) ?_)
        refine aops_nil ?_
        refine a_ret ?_
        refine ret_ok (hands2 rfl (.cell ag_41 rfl (by repeat (first | exact Pick.here _ _ _ | apply Pick.next)) (by rfl)) (.tmp rfl)) (.nil _) ?_
        first | exact ⟨rfl, rfl⟩ | exact absurd (show GoodRecv p b from ⟨by assumption, by omega, by omega⟩) hA | exact absurd (show GoodRecv p b from ⟨by assumption, by omega⟩) hA | exact absurd (show GoodRecv p b from ⟨by assumption, by assumption⟩) hA
      · (try simp only [Bool.not_eq_true', Bool.not_eq_false', Bool.not_eq_true, Bool.not_eq_false, decide_eq_true_eq, decide_eq_false_iff_not, List.length_map, List.length_range] at h6)
        refine a_skip ?_
        refine a_seq ?_
        refine a_draw [b1] (by kernel_rfl) ?_
        show ADraw _ _ _ _ _ _ 13 _ _ _ _
        refine d_load 0 rfl (by kernel_rfl) (by kernel_rfl) (by kernel_rfl) rfl (p_load_v_all ag_41 rfl (by rfl) (by simp [keys])) ?_
        refine d_take 1 rfl (by kernel_rfl) (by kernel_rfl) (by kernel_rfl) rfl (p_field_v fo_41_0 rfl) ?_
        refine d_load 2 rfl (by kernel_rfl) (by kernel_rfl) (by kernel_rfl) rfl (p_load_v ag_36 rfl (by rfl) (by simp [keys])) ?_
        refine d_take 4 rfl (by kernel_rfl) (by kernel_rfl) (by kernel_rfl) rfl (p_move rfl) ?_
        refine d_take 7 rfl (by kernel_rfl) (by kernel_rfl) (by kernel_rfl) rfl (p_field_v fo_41_1 rfl) ?_
        refine d_load 8 rfl (by kernel_rfl) (by kernel_rfl) (by kernel_rfl) rfl (p_load_v ag_36 rfl (by rfl) (by simp [keys])) ?_
        refine draw_all [3, 5] (by kernel_rfl) (by simp) ?_
        refine all_cons rfl rfl ?_ ?_
        · skip
          refine w_call rfl rfl rfl cl_69 ((co_impl_copyInts _ (by first | omega | (simp only [List.length_append, List.length_cons, List.length_nil, List.length_take, List.length_drop]; omega) | (have q1 := IsPort.rx ‹IsPort p›; have q2 := IsPort.tx ‹IsPort p›; simp only [List.length_append, List.length_cons, List.length_nil, List.length_take, List.length_drop]; omega) | (have q1 := IsPort.rx ‹IsPort a›; have q2 := IsPort.rx ‹IsPort b›; simp only [List.length_append, List.length_cons, List.length_nil, List.length_take, List.length_drop]; omega))).mono fun _ _ h => h.len) ?_
          rintro _ _ ⟨b2, rfl, rfl⟩
          refine draw_all [5] (by kernel_rfl) (by simp) ?_
          refine all_cons rfl rfl ?_ ?_
          · skip
            refine w_lit_vM eInt [b] rfl el_36 rfl rfl rfl rfl rfl ?_
            refine draw_all [6] (by kernel_rfl) (by simp) ?_
            refine all_cons rfl rfl ?_ ?_
            · skip
              refine w_appendM eInt rfl el_36 rfl rfl (by repeat (first | exact Pick.here _ _ _ | apply Pick.next)) rfl (.sl _) (fun _ => rfl) (fun _ => rfl) (by simp; omega) (by simp; omega) (by first | (refine .inl ?_; simp; done) | (refine .inr ?_; simp [keys]; done)) fun b3 => ?_
              refine draw_all [9] (by kernel_rfl) (by simp) ?_
              refine all_cons rfl rfl ?_ ?_
              · skip
                refine w_call rfl rfl rfl cl_69 ((co_impl_copyInts _ (by first | omega | (simp only [List.length_append, List.length_cons, List.length_nil, List.length_take, List.length_drop]; omega) | (have q1 := IsPort.rx ‹IsPort p›; have q2 := IsPort.tx ‹IsPort p›; simp only [List.length_append, List.length_cons, List.length_nil, List.length_take, List.length_drop]; omega) | (have q1 := IsPort.rx ‹IsPort a›; have q2 := IsPort.rx ‹IsPort b›; simp only [List.length_append, List.length_cons, List.length_nil, List.length_take, List.length_drop]; omega))).mono fun _ _ h => h.len) ?_
                rintro _ _ ⟨b4, rfl, rfl⟩
                refine draw_all [10] (by kernel_rfl) (by simp) ?_
                refine all_cons rfl rfl ?_ ?_
                · skip
                  refine w_callR rfl rfl rfl cl_68 (c_impl_portWith _ _ _ _ _) ?_
                  refine draw_all [11] (by kernel_rfl) (by simp) ?_
                  refine all_cons rfl rfl ?_ ?_
                  · skip
                    refine w_store (cells' := [_, _, _, _]) rfl rfl rfl (by repeat (first | exact Pick.here _ _ _ | apply Pick.next)) cn_41 (by rfl) (by rfl) (by rfl) (by first | (refine .inl ?_; simp; done) | (refine .inr ?_; simp [keys]; done)) ?_
                    refine d_take 12 rfl (by kernel_rfl) (by kernel_rfl) (by kernel_rfl) rfl (p_assign rfl) ?_
                    refine draw_done (by kernel_rfl) ?_
                    refine a_ret ?_
                    refine ret_ok (hands2 rfl (.cell ag_41 rfl (by repeat (first | exact Pick.here _ _ _ | apply Pick.next)) (by rfl)) (.tmp rfl)) (st' := [(b3, _), (b4, _)]) (.cons (by repeat (first | exact Pick.here _ _ _ | apply Pick.next)) (.cons (by repeat (first | exact Pick.here _ _ _ | apply Pick.next)) (.nil _))) ?_
                    first | exact ⟨rfl, rfl⟩ | exact absurd (show GoodRecv p b from ⟨by assumption, by omega, by omega⟩) hA | exact absurd (show GoodRecv p b from ⟨by assumption, by omega⟩) hA | exact absurd (show GoodRecv p b from ⟨by assumption, by assumption⟩) hA
                  exact all_nil
                exact all_nil
              exact all_nil
            exact all_nil
          exact all_nil
        refine all_cons rfl rfl ?_ ?_
        · skip
          refine w_lit_vM eInt [b] rfl el_36 rfl rfl rfl rfl rfl ?_
          refine draw_all [3] (by kernel_rfl) (by simp) ?_
          refine all_cons rfl rfl ?_ ?_
          · skip
            refine w_call rfl rfl rfl cl_69 ((co_impl_copyInts _ (by first | omega | (simp only [List.length_append, List.length_cons, List.length_nil, List.length_take, List.length_drop]; omega) | (have q1 := IsPort.rx ‹IsPort p›; have q2 := IsPort.tx ‹IsPort p›; simp only [List.length_append, List.length_cons, List.length_nil, List.length_take, List.length_drop]; omega) | (have q1 := IsPort.rx ‹IsPort a›; have q2 := IsPort.rx ‹IsPort b›; simp only [List.length_append, List.length_cons, List.length_nil, List.length_take, List.length_drop]; omega))).mono fun _ _ h => h.len) ?_
            rintro _ _ ⟨b5, rfl, rfl⟩
            refine draw_all [6] (by kernel_rfl) (by simp) ?_
            refine all_cons rfl rfl ?_ ?_
            · skip
              refine w_appendM eInt rfl el_36 rfl rfl (by repeat (first | exact Pick.here _ _ _ | apply Pick.next)) rfl (.sl _) (fun _ => rfl) (fun _ => rfl) (by simp; omega) (by simp; omega) (by first | (refine .inl ?_; simp; done) | (refine .inr ?_; simp [keys]; done)) fun b6 => ?_
              refine draw_all [9] (by kernel_rfl) (by simp) ?_
              refine all_cons rfl rfl ?_ ?_
              · skip
                refine w_call rfl rfl rfl cl_69 ((co_impl_copyInts _ (by first | omega | (simp only [List.length_append, List.length_cons, List.length_nil, List.length_take, List.length_drop]; omega) | (have q1 := IsPort.rx ‹IsPort p›; have q2 := IsPort.tx ‹IsPort p›; simp only [List.length_append, List.length_cons, List.length_nil, List.length_take, List.length_drop]; omega) | (have q1 := IsPort.rx ‹IsPort a›; have q2 := IsPort.rx ‹IsPort b›; simp only [List.length_append, List.length_cons, List.length_nil, List.length_take, List.length_drop]; omega))).mono fun _ _ h => h.len) ?_
                rintro _ _ ⟨b7, rfl, rfl⟩
                refine draw_all [10] (by kernel_rfl) (by simp) ?_
                refine all_cons rfl rfl ?_ ?_
                · skip
                  refine w_callR rfl rfl rfl cl_68 (c_impl_portWith _ _ _ _ _) ?_
                  refine draw_all [11] (by kernel_rfl) (by simp) ?_
                  refine all_cons rfl rfl ?_ ?_
                  · skip
                    refine w_store (cells' := [_, _, _, _]) rfl rfl rfl (by repeat (first | exact Pick.here _ _ _ | apply Pick.next)) cn_41 (by rfl) (by rfl) (by rfl) (by first | (refine .inl ?_; simp; done) | (refine .inr ?_; simp [keys]; done)) ?_
                    refine d_take 12 rfl (by kernel_rfl) (by kernel_rfl) (by kernel_rfl) rfl (p_assign rfl) ?_
                    refine draw_done (by kernel_rfl) ?_
                    refine a_ret ?_
                    refine ret_ok (hands2 rfl (.cell ag_41 rfl (by repeat (first | exact Pick.here _ _ _ | apply Pick.next)) (by rfl)) (.tmp rfl)) (st' := [(b6, _), (b7, _)]) (.cons (by repeat (first | exact Pick.here _ _ _ | apply Pick.next)) (.cons (by repeat (first | exact Pick.here _ _ _ | apply Pick.next)) (.nil _))) ?_
                    first | exact ⟨rfl, rfl⟩ | exact absurd (show GoodRecv p b from ⟨by assumption, by omega, by omega⟩) hA | exact absurd (show GoodRecv p b from ⟨by assumption, by omega⟩) hA | exact absurd (show GoodRecv p b from ⟨by assumption, by assumption⟩) hA
                  exact all_nil
                exact all_nil
              exact all_nil
            exact all_nil
          exact all_nil
        exact all_nil

theorem c_laws_FnExactReceiveByte (p : Port) (_hc0 : okPort p) (b : Int) (_hc1 : InI b) : ACalls Try.prog 10 [.agg (ePort p), .int .i64 b] [] (Ret (.bool true)) := by
  have hm0 : p.rx.length ≤ 9223372036854775807 ∧ p.tx.length ≤ 9223372036854775807 := ⟨_hc0.1.2, _hc0.2.1.2⟩
  have hq0 : szPort p 1048576 ≤ 1048576 := szPort_ub (Int.le_refl _)
  by_cases hA : GoodRecv p b
  all_goals refine a_enter Try.func10 rfl rfl (fun w0 M0 => ?_)
  · skip
    refine a_seq ?_
    refine a_region ?_
    refine aops_cons rfl (w_box_v rfl rfl rfl ?_)
    refine aops_cons rfl (w_pure rfl (p_assign rfl) ?_)
    refine aops_nil ?_
    refine a_seq ?_
    refine a_region ?_
    refine aops_cons rfl (w_pure rfl (p_assign rfl) ?_)
    refine aops_nil ?_
    refine a_seq ?_
    refine a_region ?_
    refine aops_cons rfl (w_pure rfl (p_load_v_all ag_38 rfl (by rfl) noX) ?_)
    refine aops_cons rfl (w_pure rfl (p_move rfl) ?_)
    refine aops_cons rfl (w_callR rfl rfl rfl cl_25 (c_laws_szPort _ (by assumption) _ (by omega) (by omega)) ?_)
    refine aops_cons rfl (w_pure rfl (p_assign rfl) ?_)
    refine aops_nil ?_
    refine a_seq ?_
    refine a_seq ?_
    refine a_region ?_
    refine aops_cons rfl (w_pure rfl (p_move rfl) ?_)
    refine aops_cons rfl (w_pure rfl (p_lss rfl rfl) ?_)
    refine aops_nil ?_
    first | refine a_cond_d rfl (fun h1 => ?_) (fun h2 => ?_) | refine a_cond_n rfl (fun h1 => ?_) (fun h2 => ?_) | refine a_cond_nb rfl (fun h1 => ?_) (fun h2 => ?_) | refine a_cond rfl (fun h1 => ?_) (fun h2 => ?_)
    · (try simp only [Bool.not_eq_true', Bool.not_eq_false', Bool.not_eq_true, Bool.not_eq_false, decide_eq_true_eq, decide_eq_false_iff_not, List.length_map, List.length_range] at h1)
      refine a_seq ?_
      refine a_region ?_
      refine aops_cons rfl (w_pure rfl (p_assign rfl) ?_)
      refine aops_nil ?_
      refine a_ret ?_
      refine ret_ok (hands1 rfl (.tmp rfl)) (.nil _) ?_
      first | exact ⟨rfl, rfl⟩ | (exfalso; omega)
    · (try simp only [Bool.not_eq_true', Bool.not_eq_false', Bool.not_eq_true, Bool.not_eq_false, decide_eq_true_eq, decide_eq_false_iff_not, List.length_map, List.length_range] at h2)
      refine a_skip ?_
      refine a_seq ?_
      have hl0 : SmallPort p := szPort_le (left := 1048576) (by omega) (by omega) ‹_›; have hz0_ := hl0; simp only [SmallPort] at hz0_; obtain ⟨hz0_0, hz0_1⟩ := hz0_
      refine a_region ?_
      refine aops_cons rfl (w_pure rfl (p_load_v_all ag_38 rfl (by rfl) noX) ?_)
      refine aops_cons rfl (w_callR rfl rfl rfl cl_27 (c_laws_toPort p hl0) ?_)
      refine aops_cons rfl (w_pure rfl (p_move rfl) ?_)
      refine aops_cons rfl (w_callR rfl rfl rfl cl_38 (cy_spec_ReceiveByte p hl0 b hA) ?_)
      refine aops_cons rfl (w_pure rfl (p_move rfl) ?_)
      refine aops_cons rfl (w_pure rfl (p_extract rfl rfl) ?_)
      refine aops_cons rfl (w_pure rfl (p_extract rfl rfl) ?_)
      refine aops_cons rfl (w_alloc rfl z_41 fun b1 => ?_)
      refine aops_cons rfl (w_store (cells' := [_, _, _, _]) rfl rfl rfl (by repeat (first | exact Pick.here _ _ _ | apply Pick.next)) cn_41 (by rfl) (by rfl) (by rfl) trivial ?_)
      refine aops_cons rfl (w_pure rfl (p_assign rfl) ?_)
      refine aops_nil ?_
      refine a_seq ?_
      refine a_region ?_
      refine aops_cons rfl (w_pure rfl (p_load_v_all ag_38 rfl (by rfl) noX) ?_)
      refine aops_cons rfl (w_call rfl rfl rfl cl_27 (co_laws_toPort p hl0) ?_)
      rintro _ _ ⟨b2, b3, rfl, rfl⟩
      refine aops_cons rfl (w_alloc rfl z_41 fun b4 => ?_)
      refine aops_cons rfl (w_store (cells' := [_, _, _, _]) rfl rfl rfl (by repeat (first | exact Pick.here _ _ _ | apply Pick.next)) cn_41 (by rfl) (by rfl) (by rfl) trivial ?_)
      refine aops_nil ?_
      refine a_seq ?_
      refine a_region ?_
      refine aops_cons rfl (w_pure rfl (p_load_box_all ag_41 rfl (by repeat (first | exact Pick.here _ _ _ | apply Pick.next)) (by rfl) noX) ?_)
      refine aops_cons rfl (w_pure rfl (p_move rfl) ?_)
      refine aops_cons rfl (w_callL rfl rfl rfl cl_39 (.cons (.agg (.cons (.own (by repeat (first | exact List.Mem.head _ | apply List.Mem.tail)) (by first | (simp; done) | (simp [mkL]; done))) (.cons (.own (by repeat (first | exact List.Mem.head _ | apply List.Mem.tail)) (by first | (simp; done) | (simp [mkL]; done))) (.cons (.refl _) (.cons (.refl _) .nil))))) (.cons (.refl _) .nil)) (cy_impl_ReceiveByte p hl0 b hA) ?_)
      rintro _ _ ⟨b5, b6, rfl, rfl⟩
      refine ⟨(closed_tup (all_cons' (closed_agg (all_cons' (closed_own _ _ _ _) (all_cons' (closed_own _ _ _ _) (all_cons' (closed_int _ _) (all_cons' (closed_bool _) all_nil'))))) (all_cons' (closed_bool _) all_nil'))), (closedS_cons (closedAll _ _ _ _ cl_eInt) (closedS_cons (closedAll _ _ _ _ cl_eInt) closedS_nil)), ?_⟩
      refine aops_cons rfl (w_pure rfl (p_move rfl) ?_)
      refine aops_cons rfl (w_pure rfl (p_extract rfl rfl) ?_)
      refine aops_cons rfl (w_pure rfl (p_extract rfl rfl) ?_)
      refine aops_cons rfl (w_alloc rfl z_41 fun b7 => ?_)
      refine aops_cons rfl (w_store (cells' := [_, _, _, _]) rfl rfl rfl (by repeat (first | exact Pick.here _ _ _ | apply Pick.next)) cn_41 (by rfl) (by rfl) (by rfl) trivial ?_)
      refine aops_cons rfl (w_pure rfl (p_assign rfl) ?_)
      refine aops_nil ?_
      refine a_seq ?_
      refine a_seq ?_
      refine a_region ?_
      refine aops_cons rfl (w_pure rfl (p_load_box_all ag_41 rfl (by repeat (first | exact Pick.here _ _ _ | apply Pick.next)) (by rfl) noX) ?_)
      refine aops_cons rfl (w_pure rfl (p_load_box_all ag_41 rfl (by repeat (first | exact Pick.here _ _ _ | apply Pick.next)) (by rfl) noX) ?_)
      refine aops_cons rfl (w_callLR rfl rfl rfl cl_29 (.cons (.agg (.cons (.own (by repeat (first | exact List.Mem.head _ | apply List.Mem.tail)) (by first | (simp; done) | (simp [mkL]; done))) (.cons (.own (by repeat (first | exact List.Mem.head _ | apply List.Mem.tail)) (by first | (simp; done) | (simp [mkL]; done))) (.cons (.refl _) (.cons (.refl _) .nil))))) (.cons (.refl _) .nil)) (c_laws_eqPort (recvP p b) (small_recv hA)) (closed_bool _) ?_)
      refine aops_cons rfl (w_pure rfl (p_not rfl) ?_)
      refine aops_cons rfl (w_pure rfl (p_move rfl) ?_)
      refine aops_guard_t rfl rfl rfl (w_pure rfl (p_move rfl) ?_)
      refine aops_guard_t rfl rfl rfl (w_pure rfl (p_move rfl) ?_)
      refine aops_guard_t rfl rfl rfl (w_pure rfl (p_neq_bsame um_4 rfl rfl) ?_)
      refine aops_cons rfl (w_pure rfl (p_pick_f rfl rfl) ?_)
      refine aops_nil ?_
      refine a_cond_f rfl ?_
      refine a_skip ?_
      refine a_seq ?_
      refine a_seq ?_
      refine a_draw [] (by kernel_rfl) ?_
      show ADraw _ _ _ _ _ _ 5 _ _ _ _
      refine d_load 0 rfl (by kernel_rfl) (by kernel_rfl) (by kernel_rfl) rfl (p_load_box_all ag_41 rfl (by repeat (first | exact Pick.here _ _ _ | apply Pick.next)) (by rfl) noX) ?_
      refine d_load 1 rfl (by kernel_rfl) (by kernel_rfl) (by kernel_rfl) rfl (p_load_v_all ag_38 rfl (by rfl) noX) ?_
      refine draw_all [2] (by kernel_rfl) (by simp) ?_
      refine all_cons rfl rfl ?_ ?_
      · skip
        refine w_callR rfl rfl rfl cl_27 (c_laws_toPort p hl0) ?_
        refine draw_all [3] (by kernel_rfl) (by simp) ?_
        refine all_cons rfl rfl ?_ ?_
        · skip
          refine w_callLR rfl rfl rfl cl_29 (.cons (.agg (.cons (.own (by repeat (first | exact List.Mem.head _ | apply List.Mem.tail)) (by first | (simp; done) | (simp [mkL]; done))) (.cons (.own (by repeat (first | exact List.Mem.head _ | apply List.Mem.tail)) (by first | (simp; done) | (simp [mkL]; done))) (.cons (.refl _) (.cons (.refl _) .nil))))) (.cons (.refl _) .nil)) (c_laws_eqPort p hl0) (closed_bool _) ?_
          refine d_take 4 rfl (by kernel_rfl) (by kernel_rfl) (by kernel_rfl) rfl (p_not rfl) ?_
          refine draw_done (by kernel_rfl) ?_
          refine a_cond_f rfl ?_
          refine a_skip ?_
          refine a_seq ?_
          refine a_region ?_
          refine aops_cons rfl (w_pure rfl (p_assign rfl) ?_)
          refine aops_nil ?_
          refine a_seq ?_
          refine a_region ?_
          refine aops_cons rfl (w_pure rfl (p_load_box_all ag_41 rfl (by repeat (first | exact Pick.here _ _ _ | apply Pick.next)) (by rfl) noX) ?_)
          refine aops_cons rfl (w_pure rfl (p_move rfl) ?_)
          refine aops_cons rfl (w_callM rfl rfl rfl cl_36 (.cons (by repeat (first | exact Pick.here _ _ _ | apply Pick.next)) (.cons (by repeat (first | exact Pick.here _ _ _ | apply Pick.next)) (.nil _))) (.cons (.refl _) (.cons (.refl _) .nil)) (c_laws_markPort _ _ p hl0 _ (by omega) (by omega)) trivial ?_)
          rintro _ _ ⟨rfl, rfl⟩
          refine ⟨(closed_int _ _), (closedS_cons (closedAll _ _ _ _ cl_eInt) (closedS_cons (closedAll _ _ _ _ cl_eInt) closedS_nil)), ?_⟩
          refine aops_cons rfl (w_pure rfl (p_assign rfl) ?_)
          refine aops_nil ?_
          refine a_seq ?_
          refine a_seq ?_
          refine a_region ?_
          refine aops_cons rfl (w_pure rfl (p_move rfl) ?_)
          refine aops_cons rfl (w_pure rfl (p_lss rfl rfl) ?_)
          refine aops_cons rfl (w_pure rfl (p_move rfl) ?_)
          first | refine aops_split_d 55 rfl (fun h3 => ?_) (fun h4 => ?_) | refine aops_split 55 rfl (fun h3 => ?_) (fun h4 => ?_)
          · (try simp only [Bool.not_eq_true', Bool.not_eq_false', Bool.not_eq_true, Bool.not_eq_false, decide_eq_true_eq, decide_eq_false_iff_not, List.length_map, List.length_range] at h3)
            refine g_pass' rfl rfl rfl rfl rfl ?_
            refine g_pass' rfl rfl rfl rfl rfl ?_
            refine g_pass' rfl rfl rfl rfl rfl ?_
            refine g_pass' rfl rfl rfl rfl rfl ?_
            refine aops_cons rfl (w_pure rfl (p_pick_t rfl rfl) ?_)
            refine aops_cons rfl (w_pure rfl (p_move rfl) ?_)
            refine g_pass' rfl rfl rfl rfl rfl ?_
            refine g_pass' rfl rfl rfl rfl rfl ?_
            refine g_pass' rfl rfl rfl rfl rfl ?_
            refine aops_cons rfl (w_pure rfl (p_pick_t rfl rfl) ?_)
            refine aops_nil ?_
            refine a_cond_t rfl ?_
            refine a_seq ?_
            refine a_region ?_
            refine aops_cons rfl (w_pure rfl (p_assign rfl) ?_)
            refine aops_nil ?_
            refine a_ret ?_
            refine ret_ok (hands1 rfl (.tmp rfl)) (.nil _) ?_
            first | exact ⟨rfl, rfl⟩ | (exfalso; omega)
          · (try simp only [Bool.not_eq_true', Bool.not_eq_false', Bool.not_eq_true, Bool.not_eq_false, decide_eq_true_eq, decide_eq_false_iff_not, List.length_map, List.length_range] at h4)
            refine aops_guard_t rfl rfl rfl (w_pure rfl (p_load_box_all ag_41 rfl (by repeat (first | exact Pick.here _ _ _ | apply Pick.next)) (by rfl) noX) ?_)
            refine aops_guard_t rfl rfl rfl (w_pure rfl (p_load_box_all ag_41 rfl (by repeat (first | exact Pick.here _ _ _ | apply Pick.next)) (by rfl) noX) ?_)
            refine aops_guard_t rfl rfl rfl (w_callLR rfl rfl rfl cl_29 (.cons (.agg (.cons (.own (by repeat (first | exact List.Mem.head _ | apply List.Mem.tail)) (by first | (simp; done) | (simp [mkL]; done))) (.cons (.own (by repeat (first | exact List.Mem.head _ | apply List.Mem.tail)) (by first | (simp; done) | (simp [mkL]; done))) (.cons (.refl _) (.cons (.refl _) .nil))))) (.cons (.refl _) .nil)) (c_laws_eqPort (recvP p b) (small_recv hA)) (closed_bool _) ?_)
            refine aops_guard_t rfl rfl rfl (w_pure rfl (p_not rfl) ?_)
            refine aops_cons rfl (w_pure rfl (p_pick_f rfl rfl) ?_)
            refine aops_cons rfl (w_pure rfl (p_move rfl) ?_)
            refine aops_guard_t rfl rfl rfl (w_pure rfl (p_move rfl) ?_)
            refine aops_guard_t rfl rfl rfl (w_pure rfl (p_move rfl) ?_)
            refine aops_guard_t rfl rfl rfl (w_pure rfl (p_neq_bsame um_4 rfl rfl) ?_)
            refine aops_cons rfl (w_pure rfl (p_pick_f rfl rfl) ?_)
            refine aops_nil ?_
            refine a_cond_f rfl ?_
            refine a_skip ?_
            refine a_seq ?_
            refine a_region ?_
            refine aops_cons rfl (w_pure rfl (p_assign rfl) ?_)
            refine aops_nil ?_
            refine a_seq ?_
            refine a_region ?_
            refine aops_cons rfl (w_pure rfl (p_load_box_all ag_41 rfl (by repeat (first | exact Pick.here _ _ _ | apply Pick.next)) (by rfl) noX) ?_)
            refine aops_cons rfl (w_pure rfl (p_move rfl) ?_)
            refine aops_cons rfl (w_callM rfl rfl rfl cl_36 (.cons (by repeat (first | exact Pick.here _ _ _ | apply Pick.next)) (.cons (by repeat (first | exact Pick.here _ _ _ | apply Pick.next)) (.nil _))) (.cons (.refl _) (.cons (.refl _) .nil)) (c_laws_markPort _ _ (recvP p b) (small_recv hA) _ (by omega) (by omega)) trivial ?_)
            rintro _ _ ⟨rfl, rfl⟩
            refine ⟨(closed_int _ _), (closedS_cons (closedAll _ _ _ _ cl_eInt) (closedS_cons (closedAll _ _ _ _ cl_eInt) closedS_nil)), ?_⟩
            refine aops_cons rfl (w_pure rfl (p_assign rfl) ?_)
            refine aops_nil ?_
            refine a_seq ?_
            refine a_region ?_
            refine aops_cons rfl (w_pure rfl (p_assign rfl) ?_)
            refine aops_nil ?_
            refine a_seq ?_
            refine a_region ?_
            refine aops_cons rfl (w_pure rfl (p_load_box_all ag_41 rfl (by repeat (first | exact Pick.here _ _ _ | apply Pick.next)) (by rfl) noX) ?_)
            refine aops_cons rfl (w_pure rfl (p_move rfl) ?_)
            refine aops_cons rfl (w_callLR rfl rfl rfl cl_37 (.cons (.agg (.cons (.own (by repeat (first | exact List.Mem.head _ | apply List.Mem.tail)) (by first | (simp; done) | (simp [mkL]; done))) (.cons (.own (by repeat (first | exact List.Mem.head _ | apply List.Mem.tail)) (by first | (simp; done) | (simp [mkL]; done))) (.cons (.refl _) (.cons (.refl _) .nil))))) (.cons (.refl _) .nil)) (c_laws_heldPort (recvP p b) (small_recv hA) _ (by omega) (by omega)) (closed_int _ _) ?_)
            refine aops_cons rfl (w_pure rfl (p_assign rfl) ?_)
            refine aops_nil ?_
            refine a_seq ?_
            refine a_seq ?_
            refine a_region ?_
            refine aops_cons rfl (w_pure rfl (p_move rfl) ?_)
            refine aops_cons rfl (w_pure rfl (p_lss rfl rfl) ?_)
            refine aops_nil ?_
            first | refine a_cond_d rfl (fun h5 => ?_) (fun h6 => ?_) | refine a_cond_n rfl (fun h5 => ?_) (fun h6 => ?_) | refine a_cond_nb rfl (fun h5 => ?_) (fun h6 => ?_) | refine a_cond rfl (fun h5 => ?_) (fun h6 => ?_)
            · (try simp only [Bool.not_eq_true', Bool.not_eq_false', Bool.not_eq_true, Bool.not_eq_false, decide_eq_true_eq, decide_eq_false_iff_not, List.length_map, List.length_range] at h5)
              refine a_seq ?_
              refine a_region ?_
              refine aops_cons rfl (w_pure rfl (p_assign rfl) ?_)
              refine aops_nil ?_
              refine a_ret ?_
              refine ret_ok (hands1 rfl (.tmp rfl)) (.nil _) ?_
              first | exact ⟨rfl, rfl⟩ | (exfalso; omega)
            · (try simp only [Bool.not_eq_true', Bool.not_eq_false', Bool.not_eq_true, Bool.not_eq_false, decide_eq_true_eq, decide_eq_false_iff_not, List.length_map, List.length_range] at h6)
              refine a_skip ?_
              refine a_seq ?_
              refine a_seq ?_
              refine a_region ?_
              refine aops_cons rfl (w_pure rfl (p_move rfl) ?_)
              refine aops_cons rfl (w_pure rfl (p_move rfl) ?_)
              refine aops_cons rfl (w_pure rfl (p_neq_same rfl rfl) ?_)
              refine aops_nil ?_
              refine a_cond_f rfl ?_
              refine a_skip ?_
              refine a_seq ?_
              refine a_region ?_
              refine aops_cons rfl (w_pure rfl (p_load_v_all ag_38 rfl (by rfl) noX) ?_)
              refine aops_cons rfl (w_callR rfl rfl rfl cl_27 (c_laws_toPort p hl0) ?_)
              refine aops_cons rfl (w_pure rfl (p_move rfl) ?_)
              refine aops_cons rfl (w_callR rfl rfl rfl cl_39 (cf_impl_ReceiveByte p hl0 b hA) ?_)
              refine aops_cons rfl (w_pure rfl (p_move rfl) ?_)
              refine aops_cons rfl (w_pure rfl (p_extract rfl rfl) ?_)
              refine aops_cons rfl (w_pure rfl (p_extract rfl rfl) ?_)
              refine aops_cons rfl (w_alloc rfl z_41 fun b8 => ?_)
              refine aops_cons rfl (w_store (cells' := [_, _, _, _]) rfl rfl rfl (by repeat (first | exact Pick.here _ _ _ | apply Pick.next)) cn_41 (by rfl) (by rfl) (by rfl) trivial ?_)
              refine aops_cons rfl (w_pure rfl (p_assign rfl) ?_)
              refine aops_nil ?_
              refine a_seq ?_
              refine a_seq ?_
              refine a_region ?_
              refine aops_cons rfl (w_pure rfl (p_load_box_all ag_41 rfl (by repeat (first | exact Pick.here _ _ _ | apply Pick.next)) (by rfl) noX) ?_)
              refine aops_cons rfl (w_pure rfl (p_load_box_all ag_41 rfl (by repeat (first | exact Pick.here _ _ _ | apply Pick.next)) (by rfl) noX) ?_)
              refine aops_cons rfl (w_callLR rfl rfl rfl cl_29 (.cons (.refl _) (.cons (.refl _) .nil)) (c_laws_eqPort (recvP p b) (small_recv hA)) (closed_bool _) ?_)
              refine aops_cons rfl (w_pure rfl (p_not rfl) ?_)
              refine aops_cons rfl (w_pure rfl (p_move rfl) ?_)
              refine aops_guard_t rfl rfl rfl (w_pure rfl (p_move rfl) ?_)
              refine aops_guard_t rfl rfl rfl (w_pure rfl (p_move rfl) ?_)
              refine aops_guard_t rfl rfl rfl (w_pure rfl (p_neq_bsame um_4 rfl rfl) ?_)
              refine aops_cons rfl (w_pure rfl (p_pick_f rfl rfl) ?_)
              refine aops_nil ?_
              refine a_cond_f rfl ?_
              refine a_skip ?_
              refine a_seq ?_
              refine a_region ?_
              refine aops_cons rfl (w_pure rfl (p_assign rfl) ?_)
              refine aops_nil ?_
              refine a_seq ?_
              refine a_region ?_
              refine aops_cons rfl (w_pure rfl (p_load_box_all ag_41 rfl (by repeat (first | exact Pick.here _ _ _ | apply Pick.next)) (by rfl) noX) ?_)
              refine aops_cons rfl (w_pure rfl (p_move rfl) ?_)
              refine aops_cons rfl (w_callLR rfl rfl rfl cl_37 (.cons (.agg (.cons (.own (by repeat (first | exact List.Mem.head _ | apply List.Mem.tail)) (by first | (simp; done) | (simp [mkL]; done))) (.cons (.own (by repeat (first | exact List.Mem.head _ | apply List.Mem.tail)) (by first | (simp; done) | (simp [mkL]; done))) (.cons (.refl _) (.cons (.refl _) .nil))))) (.cons (.refl _) .nil)) (c_laws_heldPort (recvP p b) (small_recv hA) _ (by omega) (by omega)) (closed_int _ _) ?_)
              refine aops_cons rfl (w_pure rfl (p_assign rfl) ?_)
              refine aops_nil ?_
              refine a_seq ?_
              refine a_seq ?_
              refine a_region ?_
              refine aops_cons rfl (w_pure rfl (p_move rfl) ?_)
              refine aops_cons rfl (w_pure rfl (p_lss rfl rfl) ?_)
              refine aops_nil ?_
              first | refine a_cond_d rfl (fun h7 => ?_) (fun h8 => ?_) | refine a_cond_n rfl (fun h7 => ?_) (fun h8 => ?_) | refine a_cond_nb rfl (fun h7 => ?_) (fun h8 => ?_) | refine a_cond rfl (fun h7 => ?_) (fun h8 => ?_)
              · (try simp only [Bool.not_eq_true', Bool.not_eq_false', Bool.not_eq_true, Bool.not_eq_false, decide_eq_true_eq, decide_eq_false_iff_not, List.length_map, List.length_range] at h7)
                refine a_seq ?_
                refine a_region ?_
                refine aops_cons rfl (w_pure rfl (p_assign rfl) ?_)
                refine aops_nil ?_
                refine a_ret ?_
                refine ret_ok (hands1 rfl (.tmp rfl)) (.nil _) ?_
                first | exact ⟨rfl, rfl⟩ | (exfalso; omega)
              · (try simp only [Bool.not_eq_true', Bool.not_eq_false', Bool.not_eq_true, Bool.not_eq_false, decide_eq_true_eq, decide_eq_false_iff_not, List.length_map, List.length_range] at h8)
                refine a_skip ?_
                refine a_seq ?_
                refine a_seq ?_
                refine a_region ?_
                refine aops_cons rfl (w_pure rfl (p_move rfl) ?_)
                refine aops_cons rfl (w_pure rfl (p_move rfl) ?_)
                refine aops_cons rfl (w_pure rfl (p_neq_same rfl rfl) ?_)
                refine aops_nil ?_
                refine a_cond_f rfl ?_
                refine a_skip ?_
                refine a_seq ?_
                refine a_region ?_
                refine aops_cons rfl (w_pure rfl (p_assign rfl) ?_)
                refine aops_nil ?_
                refine a_ret ?_
                refine ret_ok (hands1 rfl (.tmp rfl)) (.nil _) ?_
                first | exact ⟨rfl, rfl⟩ | (exfalso; omega)
        exact all_nil
      exact all_nil
  · skip
    refine a_seq ?_
    refine a_region ?_
    refine aops_cons rfl (w_box_v rfl rfl rfl ?_)
    refine aops_cons rfl (w_pure rfl (p_assign rfl) ?_)
    refine aops_nil ?_
    refine a_seq ?_
    refine a_region ?_
    refine aops_cons rfl (w_pure rfl (p_assign rfl) ?_)
    refine aops_nil ?_
    refine a_seq ?_
    refine a_region ?_
    refine aops_cons rfl (w_pure rfl (p_load_v_all ag_38 rfl (by rfl) noX) ?_)
    refine aops_cons rfl (w_pure rfl (p_move rfl) ?_)
    refine aops_cons rfl (w_callR rfl rfl rfl cl_25 (c_laws_szPort _ (by assumption) _ (by omega) (by omega)) ?_)
    refine aops_cons rfl (w_pure rfl (p_assign rfl) ?_)
    refine aops_nil ?_
    refine a_seq ?_
    refine a_seq ?_
    refine a_region ?_
    refine aops_cons rfl (w_pure rfl (p_move rfl) ?_)
    refine aops_cons rfl (w_pure rfl (p_lss rfl rfl) ?_)
    refine aops_nil ?_
    first | refine a_cond_d rfl (fun h1 => ?_) (fun h2 => ?_) | refine a_cond_n rfl (fun h1 => ?_) (fun h2 => ?_) | refine a_cond_nb rfl (fun h1 => ?_) (fun h2 => ?_) | refine a_cond rfl (fun h1 => ?_) (fun h2 => ?_)
    · (try simp only [Bool.not_eq_true', Bool.not_eq_false', Bool.not_eq_true, Bool.not_eq_false, decide_eq_true_eq, decide_eq_false_iff_not, List.length_map, List.length_range] at h1)
      refine a_seq ?_
      refine a_region ?_
      refine aops_cons rfl (w_pure rfl (p_assign rfl) ?_)
      refine aops_nil ?_
      refine a_ret ?_
      refine ret_ok (hands1 rfl (.tmp rfl)) (.nil _) ?_
      first | exact ⟨rfl, rfl⟩ | (exfalso; omega)
    · (try simp only [Bool.not_eq_true', Bool.not_eq_false', Bool.not_eq_true, Bool.not_eq_false, decide_eq_true_eq, decide_eq_false_iff_not, List.length_map, List.length_range] at h2)
      refine a_skip ?_
      refine a_seq ?_
      have hl0 : SmallPort p := szPort_le (left := 1048576) (by omega) (by omega) ‹_›; have hz0_ := hl0; simp only [SmallPort] at hz0_; obtain ⟨hz0_0, hz0_1⟩ := hz0_
      refine a_region ?_
      refine aops_cons rfl (w_pure rfl (p_load_v_all ag_38 rfl (by rfl) noX) ?_)
      refine aops_cons rfl (w_callR rfl rfl rfl cl_27 (c_laws_toPort p hl0) ?_)
      refine aops_cons rfl (w_pure rfl (p_move rfl) ?_)
      refine aops_cons rfl (w_callR rfl rfl rfl cl_38 (cn_spec_ReceiveByte p hl0 b hA) ?_)
      refine aops_cons rfl (w_pure rfl (p_move rfl) ?_)
      refine aops_cons rfl (w_pure rfl (p_extract rfl rfl) ?_)
      refine aops_cons rfl (w_pure rfl (p_extract rfl rfl) ?_)
      refine aops_cons rfl (w_alloc rfl z_41 fun b1 => ?_)
      refine aops_cons rfl (w_store (cells' := [_, _, _, _]) rfl rfl rfl (by repeat (first | exact Pick.here _ _ _ | apply Pick.next)) cn_41 (by rfl) (by rfl) (by rfl) trivial ?_)
      refine aops_cons rfl (w_pure rfl (p_assign rfl) ?_)
      refine aops_nil ?_
      refine a_seq ?_
      refine a_region ?_
      refine aops_cons rfl (w_pure rfl (p_load_v_all ag_38 rfl (by rfl) noX) ?_)
      refine aops_cons rfl (w_call rfl rfl rfl cl_27 (co_laws_toPort p hl0) ?_)
      rintro _ _ ⟨b2, b3, rfl, rfl⟩
      refine aops_cons rfl (w_alloc rfl z_41 fun b4 => ?_)
      refine aops_cons rfl (w_store (cells' := [_, _, _, _]) rfl rfl rfl (by repeat (first | exact Pick.here _ _ _ | apply Pick.next)) cn_41 (by rfl) (by rfl) (by rfl) trivial ?_)
      refine aops_nil ?_
      refine a_seq ?_
      refine a_region ?_
      refine aops_cons rfl (w_pure rfl (p_load_box_all ag_41 rfl (by repeat (first | exact Pick.here _ _ _ | apply Pick.next)) (by rfl) noX) ?_)
      refine aops_cons rfl (w_pure rfl (p_move rfl) ?_)
      refine aops_cons rfl (w_callLR rfl rfl rfl cl_39 (.cons (.agg (.cons (.own (by repeat (first | exact List.Mem.head _ | apply List.Mem.tail)) (by first | (simp; done) | (simp [mkL]; done))) (.cons (.own (by repeat (first | exact List.Mem.head _ | apply List.Mem.tail)) (by first | (simp; done) | (simp [mkL]; done))) (.cons (.refl _) (.cons (.refl _) .nil))))) (.cons (.refl _) .nil)) (cn_impl_ReceiveByte p hl0 b hA) (closed_tup (all_cons' (closed_agg (all_cons' closed_nil (all_cons' closed_nil (all_cons' (closed_int _ _) (all_cons' (closed_bool _) all_nil'))))) (all_cons' (closed_bool _) all_nil'))) ?_)
      refine aops_cons rfl (w_pure rfl (p_move rfl) ?_)
      refine aops_cons rfl (w_pure rfl (p_extract rfl rfl) ?_)
      refine aops_cons rfl (w_pure rfl (p_extract rfl rfl) ?_)
      refine aops_cons rfl (w_alloc rfl z_41 fun b5 => ?_)
      refine aops_cons rfl (w_store (cells' := [_, _, _, _]) rfl rfl rfl (by repeat (first | exact Pick.here _ _ _ | apply Pick.next)) cn_41 (by rfl) (by rfl) (by rfl) trivial ?_)
      refine aops_cons rfl (w_pure rfl (p_assign rfl) ?_)
      refine aops_nil ?_
      refine a_seq ?_
      refine a_seq ?_
      refine a_region ?_
      refine aops_cons rfl (w_pure rfl (p_load_box_all ag_41 rfl (by repeat (first | exact Pick.here _ _ _ | apply Pick.next)) (by rfl) noX) ?_)
      refine aops_cons rfl (w_pure rfl (p_load_box_all ag_41 rfl (by repeat (first | exact Pick.here _ _ _ | apply Pick.next)) (by rfl) noX) ?_)
      refine aops_cons rfl (w_callLR rfl rfl rfl cl_29 (.cons (.agg (.cons .nil (.cons .nil (.cons (.refl _) (.cons (.refl _) .nil))))) (.cons (.agg (.cons .nil (.cons .nil (.cons (.refl _) (.cons (.refl _) .nil))))) .nil)) (c_laws_eqPort (⟨[], [], 0, false⟩ : Port) (by first | decide | (simp; done) | exact ⟨by decide, by decide⟩)) (closed_bool _) ?_)
      refine aops_cons rfl (w_pure rfl (p_not rfl) ?_)
      refine aops_cons rfl (w_pure rfl (p_move rfl) ?_)
      refine aops_guard_t rfl rfl rfl (w_pure rfl (p_move rfl) ?_)
      refine aops_guard_t rfl rfl rfl (w_pure rfl (p_move rfl) ?_)
      refine aops_guard_t rfl rfl rfl (w_pure rfl (p_neq_bsame um_4 rfl rfl) ?_)
      refine aops_cons rfl (w_pure rfl (p_pick_f rfl rfl) ?_)
      refine aops_nil ?_
      refine a_cond_f rfl ?_
      refine a_skip ?_
      refine a_seq ?_
      refine a_seq ?_
      refine a_draw [] (by kernel_rfl) ?_
      show ADraw _ _ _ _ _ _ 5 _ _ _ _
      refine d_load 0 rfl (by kernel_rfl) (by kernel_rfl) (by kernel_rfl) rfl (p_load_box_all ag_41 rfl (by repeat (first | exact Pick.here _ _ _ | apply Pick.next)) (by rfl) noX) ?_
      refine d_load 1 rfl (by kernel_rfl) (by kernel_rfl) (by kernel_rfl) rfl (p_load_v_all ag_38 rfl (by rfl) noX) ?_
      refine draw_all [2] (by kernel_rfl) (by simp) ?_
      refine all_cons rfl rfl ?_ ?_
      · skip
        refine w_callR rfl rfl rfl cl_27 (c_laws_toPort p hl0) ?_
        refine draw_all [3] (by kernel_rfl) (by simp) ?_
        refine all_cons rfl rfl ?_ ?_
        · skip
          refine w_callLR rfl rfl rfl cl_29 (.cons (.agg (.cons (.own (by repeat (first | exact List.Mem.head _ | apply List.Mem.tail)) (by first | (simp; done) | (simp [mkL]; done))) (.cons (.own (by repeat (first | exact List.Mem.head _ | apply List.Mem.tail)) (by first | (simp; done) | (simp [mkL]; done))) (.cons (.refl _) (.cons (.refl _) .nil))))) (.cons (.refl _) .nil)) (c_laws_eqPort p hl0) (closed_bool _) ?_
          refine d_take 4 rfl (by kernel_rfl) (by kernel_rfl) (by kernel_rfl) rfl (p_not rfl) ?_
          refine draw_done (by kernel_rfl) ?_
          refine a_cond_f rfl ?_
          refine a_skip ?_
          refine a_seq ?_
          refine a_region ?_
          refine aops_cons rfl (w_pure rfl (p_assign rfl) ?_)
          refine aops_nil ?_
          refine a_seq ?_
          refine a_region ?_
          refine aops_cons rfl (w_pure rfl (p_load_box_all ag_41 rfl (by repeat (first | exact Pick.here _ _ _ | apply Pick.next)) (by rfl) noX) ?_)
          refine aops_cons rfl (w_pure rfl (p_move rfl) ?_)
          refine aops_cons rfl (w_callM rfl rfl rfl cl_36 (.cons (by repeat (first | exact Pick.here _ _ _ | apply Pick.next)) (.cons (by repeat (first | exact Pick.here _ _ _ | apply Pick.next)) (.nil _))) (.cons (.refl _) (.cons (.refl _) .nil)) (c_laws_markPort _ _ p hl0 _ (by omega) (by omega)) trivial ?_)
          rintro _ _ ⟨rfl, rfl⟩
          refine ⟨(closed_int _ _), (closedS_cons (closedAll _ _ _ _ cl_eInt) (closedS_cons (closedAll _ _ _ _ cl_eInt) closedS_nil)), ?_⟩
          refine aops_cons rfl (w_pure rfl (p_assign rfl) ?_)
          refine aops_nil ?_
          refine a_seq ?_
          refine a_seq ?_
          refine a_region ?_
          refine aops_cons rfl (w_pure rfl (p_move rfl) ?_)
          refine aops_cons rfl (w_pure rfl (p_lss rfl rfl) ?_)
          refine aops_cons rfl (w_pure rfl (p_move rfl) ?_)
          first | refine aops_split_d 55 rfl (fun h3 => ?_) (fun h4 => ?_) | refine aops_split 55 rfl (fun h3 => ?_) (fun h4 => ?_)
          · (try simp only [Bool.not_eq_true', Bool.not_eq_false', Bool.not_eq_true, Bool.not_eq_false, decide_eq_true_eq, decide_eq_false_iff_not, List.length_map, List.length_range] at h3)
            refine g_pass' rfl rfl rfl rfl rfl ?_
            refine g_pass' rfl rfl rfl rfl rfl ?_
            refine g_pass' rfl rfl rfl rfl rfl ?_
            refine g_pass' rfl rfl rfl rfl rfl ?_
            refine aops_cons rfl (w_pure rfl (p_pick_t rfl rfl) ?_)
            refine aops_cons rfl (w_pure rfl (p_move rfl) ?_)
            refine g_pass' rfl rfl rfl rfl rfl ?_
            refine g_pass' rfl rfl rfl rfl rfl ?_
            refine g_pass' rfl rfl rfl rfl rfl ?_
            refine aops_cons rfl (w_pure rfl (p_pick_t rfl rfl) ?_)
            refine aops_nil ?_
            refine a_cond_t rfl ?_
            refine a_seq ?_
            refine a_region ?_
            refine aops_cons rfl (w_pure rfl (p_assign rfl) ?_)
            refine aops_nil ?_
            refine a_ret ?_
            refine ret_ok (hands1 rfl (.tmp rfl)) (.nil _) ?_
            first | exact ⟨rfl, rfl⟩ | (exfalso; omega)
          · (try simp only [Bool.not_eq_true', Bool.not_eq_false', Bool.not_eq_true, Bool.not_eq_false, decide_eq_true_eq, decide_eq_false_iff_not, List.length_map, List.length_range] at h4)
            refine aops_guard_t rfl rfl rfl (w_pure rfl (p_load_box_all ag_41 rfl (by repeat (first | exact Pick.here _ _ _ | apply Pick.next)) (by rfl) noX) ?_)
            refine aops_guard_t rfl rfl rfl (w_pure rfl (p_load_box_all ag_41 rfl (by repeat (first | exact Pick.here _ _ _ | apply Pick.next)) (by rfl) noX) ?_)
            refine aops_guard_t rfl rfl rfl (w_callLR rfl rfl rfl cl_29 (.cons (.agg (.cons .nil (.cons .nil (.cons (.refl _) (.cons (.refl _) .nil))))) (.cons (.agg (.cons .nil (.cons .nil (.cons (.refl _) (.cons (.refl _) .nil))))) .nil)) (c_laws_eqPort (⟨[], [], 0, false⟩ : Port) (by first | decide | (simp; done) | exact ⟨by decide, by decide⟩)) (closed_bool _) ?_)
            refine aops_guard_t rfl rfl rfl (w_pure rfl (p_not rfl) ?_)
            refine aops_cons rfl (w_pure rfl (p_pick_f rfl rfl) ?_)
            refine aops_cons rfl (w_pure rfl (p_move rfl) ?_)
            refine aops_guard_t rfl rfl rfl (w_pure rfl (p_move rfl) ?_)
            refine aops_guard_t rfl rfl rfl (w_pure rfl (p_move rfl) ?_)
            refine aops_guard_t rfl rfl rfl (w_pure rfl (p_neq_bsame um_4 rfl rfl) ?_)
            refine aops_cons rfl (w_pure rfl (p_pick_f rfl rfl) ?_)
            refine aops_nil ?_
            refine a_cond_f rfl ?_
            refine a_skip ?_
            refine a_seq ?_
            refine a_region ?_
            refine aops_cons rfl (w_pure rfl (p_assign rfl) ?_)
            refine aops_nil ?_
            refine a_seq ?_
            refine a_region ?_
            refine aops_cons rfl (w_pure rfl (p_load_box_all ag_41 rfl (by repeat (first | exact Pick.here _ _ _ | apply Pick.next)) (by rfl) noX) ?_)
            refine aops_cons rfl (w_pure rfl (p_move rfl) ?_)
            refine aops_cons rfl (w_callR rfl rfl rfl cl_36 (cn_laws_markPort ..) ?_)
            refine aops_cons rfl (w_pure rfl (p_assign rfl) ?_)
            refine aops_nil ?_
            refine a_seq ?_
            refine a_region ?_
            refine aops_cons rfl (w_pure rfl (p_assign rfl) ?_)
            refine aops_nil ?_
            refine a_seq ?_
            refine a_region ?_
            refine aops_cons rfl (w_pure rfl (p_load_box_all ag_41 rfl (by repeat (first | exact Pick.here _ _ _ | apply Pick.next)) (by rfl) noX) ?_)
            refine aops_cons rfl (w_pure rfl (p_move rfl) ?_)
            refine aops_cons rfl (w_callLR rfl rfl rfl cl_37 (.cons (.agg (.cons .nil (.cons .nil (.cons (.refl _) (.cons (.refl _) .nil))))) (.cons (.refl _) .nil)) (c_laws_heldPort (⟨[], [], 0, false⟩ : Port) (by first | decide | (simp; done) | exact ⟨by decide, by decide⟩) _ (by omega) (by omega)) (closed_int _ _) ?_)
            refine aops_cons rfl (w_pure rfl (p_assign rfl) ?_)
            refine aops_nil ?_
            refine a_seq ?_
            refine a_seq ?_
            refine a_region ?_
            refine aops_cons rfl (w_pure rfl (p_move rfl) ?_)
            refine aops_cons rfl (w_pure rfl (p_lss rfl rfl) ?_)
            refine aops_nil ?_
            first | refine a_cond_d rfl (fun h5 => ?_) (fun h6 => ?_) | refine a_cond_n rfl (fun h5 => ?_) (fun h6 => ?_) | refine a_cond_nb rfl (fun h5 => ?_) (fun h6 => ?_) | refine a_cond rfl (fun h5 => ?_) (fun h6 => ?_)
            · (try simp only [Bool.not_eq_true', Bool.not_eq_false', Bool.not_eq_true, Bool.not_eq_false, decide_eq_true_eq, decide_eq_false_iff_not, List.length_map, List.length_range] at h5)
              refine a_seq ?_
              refine a_region ?_
              refine aops_cons rfl (w_pure rfl (p_assign rfl) ?_)
              refine aops_nil ?_
              refine a_ret ?_
              refine ret_ok (hands1 rfl (.tmp rfl)) (.nil _) ?_
              first | exact ⟨rfl, rfl⟩ | (exfalso; omega)
            · (try simp only [Bool.not_eq_true', Bool.not_eq_false', Bool.not_eq_true, Bool.not_eq_false, decide_eq_true_eq, decide_eq_false_iff_not, List.length_map, List.length_range] at h6)
              refine a_skip ?_
              refine a_seq ?_
              refine a_seq ?_
              refine a_region ?_
              refine aops_cons rfl (w_pure rfl (p_move rfl) ?_)
              refine aops_cons rfl (w_pure rfl (p_move rfl) ?_)
              refine aops_cons rfl (w_pure rfl (p_neq_same rfl rfl) ?_)
              refine aops_nil ?_
              refine a_cond_f rfl ?_
              refine a_skip ?_
              refine a_seq ?_
              refine a_region ?_
              refine aops_cons rfl (w_pure rfl (p_load_v_all ag_38 rfl (by rfl) noX) ?_)
              refine aops_cons rfl (w_callR rfl rfl rfl cl_27 (c_laws_toPort p hl0) ?_)
              refine aops_cons rfl (w_pure rfl (p_move rfl) ?_)
              refine aops_cons rfl (w_callR rfl rfl rfl cl_39 (cn_impl_ReceiveByte p hl0 b hA) ?_)
              refine aops_cons rfl (w_pure rfl (p_move rfl) ?_)
              refine aops_cons rfl (w_pure rfl (p_extract rfl rfl) ?_)
              refine aops_cons rfl (w_pure rfl (p_extract rfl rfl) ?_)
              refine aops_cons rfl (w_alloc rfl z_41 fun b6 => ?_)
              refine aops_cons rfl (w_store (cells' := [_, _, _, _]) rfl rfl rfl (by repeat (first | exact Pick.here _ _ _ | apply Pick.next)) cn_41 (by rfl) (by rfl) (by rfl) trivial ?_)
              refine aops_cons rfl (w_pure rfl (p_assign rfl) ?_)
              refine aops_nil ?_
              refine a_seq ?_
              refine a_seq ?_
              refine a_region ?_
              refine aops_cons rfl (w_pure rfl (p_load_box_all ag_41 rfl (by repeat (first | exact Pick.here _ _ _ | apply Pick.next)) (by rfl) noX) ?_)
              refine aops_cons rfl (w_pure rfl (p_load_box_all ag_41 rfl (by repeat (first | exact Pick.here _ _ _ | apply Pick.next)) (by rfl) noX) ?_)
              refine aops_cons rfl (w_callLR rfl rfl rfl cl_29 (.cons (.agg (.cons .nil (.cons .nil (.cons (.refl _) (.cons (.refl _) .nil))))) (.cons (.agg (.cons .nil (.cons .nil (.cons (.refl _) (.cons (.refl _) .nil))))) .nil)) (c_laws_eqPort (⟨[], [], 0, false⟩ : Port) (by first | decide | (simp; done) | exact ⟨by decide, by decide⟩)) (closed_bool _) ?_)
              refine aops_cons rfl (w_pure rfl (p_not rfl) ?_)
              refine aops_cons rfl (w_pure rfl (p_move rfl) ?_)
              refine aops_guard_t rfl rfl rfl (w_pure rfl (p_move rfl) ?_)
              refine aops_guard_t rfl rfl rfl (w_pure rfl (p_move rfl) ?_)
              refine aops_guard_t rfl rfl rfl (w_pure rfl (p_neq_bsame um_4 rfl rfl) ?_)
              refine aops_cons rfl (w_pure rfl (p_pick_f rfl rfl) ?_)
              refine aops_nil ?_
              refine a_cond_f rfl ?_
              refine a_skip ?_
              refine a_seq ?_
              refine a_region ?_
              refine aops_cons rfl (w_pure rfl (p_assign rfl) ?_)
              refine aops_nil ?_
              refine a_seq ?_
              refine a_region ?_
              refine aops_cons rfl (w_pure rfl (p_load_box_all ag_41 rfl (by repeat (first | exact Pick.here _ _ _ | apply Pick.next)) (by rfl) noX) ?_)
              refine aops_cons rfl (w_pure rfl (p_move rfl) ?_)
              refine aops_cons rfl (w_callLR rfl rfl rfl cl_37 (.cons (.agg (.cons .nil (.cons .nil (.cons (.refl _) (.cons (.refl _) .nil))))) (.cons (.refl _) .nil)) (c_laws_heldPort (⟨[], [], 0, false⟩ : Port) (by first | decide | (simp; done) | exact ⟨by decide, by decide⟩) _ (by omega) (by omega)) (closed_int _ _) ?_)
              refine aops_cons rfl (w_pure rfl (p_assign rfl) ?_)
              refine aops_nil ?_
              refine a_seq ?_
              refine a_seq ?_
              refine a_region ?_
              refine aops_cons rfl (w_pure rfl (p_move rfl) ?_)
              refine aops_cons rfl (w_pure rfl (p_lss rfl rfl) ?_)
              refine aops_nil ?_
              first | refine a_cond_d rfl (fun h7 => ?_) (fun h8 => ?_) | refine a_cond_n rfl (fun h7 => ?_) (fun h8 => ?_) | refine a_cond_nb rfl (fun h7 => ?_) (fun h8 => ?_) | refine a_cond rfl (fun h7 => ?_) (fun h8 => ?_)
              · (try simp only [Bool.not_eq_true', Bool.not_eq_false', Bool.not_eq_true, Bool.not_eq_false, decide_eq_true_eq, decide_eq_false_iff_not, List.length_map, List.length_range] at h7)
                refine a_seq ?_
                refine a_region ?_
                refine aops_cons rfl (w_pure rfl (p_assign rfl) ?_)
                refine aops_nil ?_
                refine a_ret ?_
                refine ret_ok (hands1 rfl (.tmp rfl)) (.nil _) ?_
                first | exact ⟨rfl, rfl⟩ | (exfalso; omega)
              · (try simp only [Bool.not_eq_true', Bool.not_eq_false', Bool.not_eq_true, Bool.not_eq_false, decide_eq_true_eq, decide_eq_false_iff_not, List.length_map, List.length_range] at h8)
                refine a_skip ?_
                refine a_seq ?_
                refine a_seq ?_
                refine a_region ?_
                refine aops_cons rfl (w_pure rfl (p_move rfl) ?_)
                refine aops_cons rfl (w_pure rfl (p_move rfl) ?_)
                refine aops_cons rfl (w_pure rfl (p_neq_same rfl rfl) ?_)
                refine aops_nil ?_
                refine a_cond_f rfl ?_
                refine a_skip ?_
                refine a_seq ?_
                refine a_region ?_
                refine aops_cons rfl (w_pure rfl (p_assign rfl) ?_)
                refine aops_nil ?_
                refine a_ret ?_
                refine ret_ok (hands1 rfl (.tmp rfl)) (.nil _) ?_
                first | exact ⟨rfl, rfl⟩ | (exfalso; omega)
        exact all_nil
      exact all_nil

theorem co_spec_WritePort (p : Port) (hn : SmallPort p) (b : Int) (hA : GoodWrite p b) : ACalls Try.prog 40 [.agg (ePort p), .int .i64 b] [] (fun r st => ∃ b1 b2, r = .tup [.agg [.own 1 b1 0 (writeP p b).rx.length, .own 1 b2 0 (writeP p b).tx.length, .int .i64 (writeP p b).depth, .bool (writeP p b).flag], .bool true] ∧ st = [(b1, .arr 3 1 ((writeP p b).rx.map eInt)), (b2, .arr 3 1 ((writeP p b).tx.map eInt))]) := by
  have hn1 : p.rx.length ≤ 1048576 := hn.1
  have hn2 : p.tx.length ≤ 1048576 := hn.2
  refine a_enter Try.func40 rfl rfl (fun w0 M0 => ?_)
  refine a_seq ?_
  refine a_region ?_
  refine aops_cons rfl (w_box_v rfl rfl rfl ?_)
  refine aops_cons rfl (w_alloc rfl z_41 fun b1 => ?_)
  refine aops_cons rfl (w_pure rfl (p_assign rfl) ?_)
  refine aops_nil ?_
  refine a_seq ?_
  refine a_seq ?_
  refine a_region ?_
  refine aops_cons rfl (w_pure rfl (p_load_v_all ag_41 rfl (by rfl) noX) ?_)
  refine aops_cons rfl (w_callR rfl rfl rfl cl_60 (c_spec_l16Port _ ‹_›) ?_)
  refine aops_cons rfl (w_pure rfl (p_not rfl) ?_)
  refine aops_cons rfl (w_pure rfl (p_move rfl) ?_)
  first | refine aops_split_d 9 rfl (fun h1 => ?_) (fun h2 => ?_) | refine aops_split 9 rfl (fun h1 => ?_) (fun h2 => ?_)
  · (try simp only [Bool.not_eq_true', Bool.not_eq_false', Bool.not_eq_true, Bool.not_eq_false, decide_eq_true_eq, decide_eq_false_iff_not, List.length_map, List.length_range] at h1)
    refine g_pass' rfl rfl rfl rfl rfl ?_
    refine g_pass' rfl rfl rfl rfl rfl ?_
    refine g_pass' rfl rfl rfl rfl rfl ?_
    refine aops_cons rfl (w_pure rfl (p_pick_t rfl rfl) ?_)
    refine aops_cons rfl (w_pure rfl (p_move rfl) ?_)
    refine g_pass' rfl rfl rfl rfl rfl ?_
    refine g_pass' rfl rfl rfl rfl rfl ?_
    refine g_pass' rfl rfl rfl rfl rfl ?_
    refine g_pass' rfl rfl rfl rfl rfl ?_
    refine aops_cons rfl (w_pure rfl (p_pick_t rfl rfl) ?_)
    refine aops_nil ?_
    refine a_cond_t rfl ?_
    refine a_seq ?_
    refine a_region ?_
    refine aops_cons rfl (w_pure rfl (p_build (cells := [_, _, _, _]) z_41 pl_41 rfl rfl) ?_)
    refine aops_cons rfl (w_store (cells' := [_, _, _, _]) rfl rfl rfl (by repeat (first | exact Pick.here _ _ _ | apply Pick.next)) cn_41 (by rfl) (by rfl) (by rfl) trivial ?_)
    refine aops_cons rfl (w_pure rfl (p_assign rfl) ?_)
    refine aops_nil ?_
    refine a_ret ?_
    refine ret_ok (hands2 rfl (.cell ag_41 rfl (by repeat (first | exact Pick.here _ _ _ | apply Pick.next)) (by rfl)) (.tmp rfl)) (.nil _) ?_
    first | exact ⟨_, _, rfl, rfl⟩ | exact absurd hA.1 (by assumption) | exact absurd hA.2.1 (by assumption) | (exfalso; have h1 := hA.2.1; have h2 := hA.2.2; omega)
  · (try simp only [Bool.not_eq_true', Bool.not_eq_false', Bool.not_eq_true, Bool.not_eq_false, decide_eq_true_eq, decide_eq_false_iff_not, List.length_map, List.length_range] at h2)
    refine aops_guard_t rfl rfl rfl (w_pure rfl (p_move rfl) ?_)
    refine aops_guard_t rfl rfl rfl (w_callR rfl rfl rfl cl_58 (c_spec_l1In ..) ?_)
    refine aops_guard_t rfl rfl rfl (w_pure rfl (p_not rfl) ?_)
    refine aops_cons rfl (w_pure rfl (p_pick_f rfl rfl) ?_)
    refine aops_cons rfl (w_pure rfl (p_move rfl) ?_)
    first | refine aops_split_d 14 rfl (fun h3 => ?_) (fun h4 => ?_) | refine aops_split 14 rfl (fun h3 => ?_) (fun h4 => ?_)
    · (try simp only [Bool.not_eq_true', Bool.not_eq_false', Bool.not_eq_true, Bool.not_eq_false, decide_eq_true_eq, decide_eq_false_iff_not, List.length_map, List.length_range] at h3)
      refine g_pass' rfl rfl rfl rfl rfl ?_
      refine g_pass' rfl rfl rfl rfl rfl ?_
      refine g_pass' rfl rfl rfl rfl rfl ?_
      refine g_pass' rfl rfl rfl rfl rfl ?_
      refine aops_cons rfl (w_pure rfl (p_pick_t rfl rfl) ?_)
      refine aops_nil ?_
      refine a_cond_t rfl ?_
      refine a_seq ?_
      refine a_region ?_
      refine aops_cons rfl (w_pure rfl (p_build (cells := [_, _, _, _]) z_41 pl_41 rfl rfl) ?_)
      refine aops_cons rfl (w_store (cells' := [_, _, _, _]) rfl rfl rfl (by repeat (first | exact Pick.here _ _ _ | apply Pick.next)) cn_41 (by rfl) (by rfl) (by rfl) trivial ?_)
      refine aops_cons rfl (w_pure rfl (p_assign rfl) ?_)
      refine aops_nil ?_
      refine a_ret ?_
      refine ret_ok (hands2 rfl (.cell ag_41 rfl (by repeat (first | exact Pick.here _ _ _ | apply Pick.next)) (by rfl)) (.tmp rfl)) (.nil _) ?_
      first | exact ⟨_, _, rfl, rfl⟩ | exact absurd hA.1 (by assumption) | exact absurd hA.2.1 (by assumption) | (exfalso; have h1 := hA.2.1; have h2 := hA.2.2; omega)
    · (try simp only [Bool.not_eq_true', Bool.not_eq_false', Bool.not_eq_true, Bool.not_eq_false, decide_eq_true_eq, decide_eq_false_iff_not, List.length_map, List.length_range] at h4)
      refine aops_guard_t rfl rfl rfl (w_pure rfl (p_field_v fo_41_1 rfl) ?_)
      refine aops_guard_t rfl rfl rfl (w_pure rfl (p_load_v ag_36 rfl (by rfl) noX) ?_)
      refine aops_guard_t rfl rfl rfl (w_pure rfl (p_len sl_36 rfl rfl) ?_)
      refine aops_guard_t rfl rfl rfl (w_pure rfl (p_eql rfl rfl) ?_)
      refine aops_cons rfl (w_pure rfl (p_pick_f rfl rfl) ?_)
      refine aops_nil ?_
      first | refine a_cond_d rfl (fun h5 => ?_) (fun h6 => ?_) | refine a_cond_n rfl (fun h5 => ?_) (fun h6 => ?_) | refine a_cond_nb rfl (fun h5 => ?_) (fun h6 => ?_) | refine a_cond rfl (fun h5 => ?_) (fun h6 => ?_)
      · (try simp only [Bool.not_eq_true', Bool.not_eq_false', Bool.not_eq_true, Bool.not_eq_false, decide_eq_true_eq, decide_eq_false_iff_not, List.length_map, List.length_range] at h5)
        refine a_seq ?_
        refine a_region ?_
        refine aops_cons rfl (w_pure rfl (p_build (cells := [_, _, _, _]) z_41 pl_41 rfl rfl) ?_)
        refine aops_cons rfl (w_store (cells' := [_, _, _, _]) rfl rfl rfl (by repeat (first | exact Pick.here _ _ _ | apply Pick.next)) cn_41 (by rfl) (by rfl) (by rfl) trivial ?_)
        refine aops_cons rfl (w_pure rfl (p_assign rfl) ?_)
        refine aops_nil ?_
        refine a_ret ?_
        refine ret_ok (hands2 rfl (.cell ag_41 rfl (by repeat (first | exact Pick.here _ _ _ | apply Pick.next)) (by rfl)) (.tmp rfl)) (.nil _) ?_
        first | exact ⟨_, _, rfl, rfl⟩ | exact absurd hA.1 (by assumption) | exact absurd hA.2.1 (by assumption) | (exfalso; have h1 := hA.2.1; have h2 := hA.2.2; omega)
      · (try simp only [Bool.not_eq_true', Bool.not_eq_false', Bool.not_eq_true, Bool.not_eq_false, decide_eq_true_eq, decide_eq_false_iff_not, List.length_map, List.length_range] at h6)
        refine a_skip ?_
        refine a_seq ?_
        refine a_draw [b1] (by kernel_rfl) ?_
        show ADraw _ _ _ _ _ _ 12 _ _ _ _
        refine d_load 0 rfl (by kernel_rfl) (by kernel_rfl) (by kernel_rfl) rfl (p_load_v_all ag_41 rfl (by rfl) (by simp [keys])) ?_
        refine d_take 1 rfl (by kernel_rfl) (by kernel_rfl) (by kernel_rfl) rfl (p_field_v fo_41_0 rfl) ?_
        refine d_load 2 rfl (by kernel_rfl) (by kernel_rfl) (by kernel_rfl) rfl (p_load_v ag_36 rfl (by rfl) (by simp [keys])) ?_
        refine d_take 3 rfl (by kernel_rfl) (by kernel_rfl) (by kernel_rfl) rfl (p_field_v fo_41_1 rfl) ?_
        refine d_load 4 rfl (by kernel_rfl) (by kernel_rfl) (by kernel_rfl) rfl (p_load_v ag_36 rfl (by rfl) (by simp [keys])) ?_
        refine d_take 6 rfl (by kernel_rfl) (by kernel_rfl) (by kernel_rfl) rfl (p_move rfl) ?_
        refine draw_all [5, 7] (by kernel_rfl) (by simp) ?_
        refine all_cons rfl rfl ?_ ?_
        · skip
          refine w_call rfl rfl rfl cl_70 ((co_spec_l1Own _ (by first | omega | (simp only [List.length_append, List.length_cons, List.length_nil, List.length_take, List.length_drop]; omega) | (have q1 := IsPort.rx ‹IsPort p›; have q2 := IsPort.tx ‹IsPort p›; simp only [List.length_append, List.length_cons, List.length_nil, List.length_take, List.length_drop]; omega) | (have q1 := IsPort.rx ‹IsPort a›; have q2 := IsPort.rx ‹IsPort b›; simp only [List.length_append, List.length_cons, List.length_nil, List.length_take, List.length_drop]; omega))).mono fun _ _ h => h.len) ?_
          rintro _ _ ⟨b2, rfl, rfl⟩
          refine draw_all [7] (by kernel_rfl) (by simp) ?_
          refine all_cons rfl rfl ?_ ?_
          · skip
            refine w_lit_vM eInt [b] rfl el_36 rfl rfl rfl rfl rfl ?_
            refine draw_all [8] (by kernel_rfl) (by simp) ?_
            refine all_cons rfl rfl ?_ ?_
            · skip
              refine w_appendM eInt rfl el_36 rfl rfl (by repeat (first | exact Pick.here _ _ _ | apply Pick.next)) rfl (.sl _) (fun _ => rfl) (fun _ => rfl) (by simp; omega) (by simp; omega) (by first | (refine .inl ?_; simp; done) | (refine .inr ?_; simp [keys]; done)) fun b3 => ?_
              refine draw_all [9] (by kernel_rfl) (by simp) ?_
              refine all_cons rfl rfl ?_ ?_
              · skip
                refine w_callL rfl rfl rfl cl_67 (.cons (.refl _) (.cons (.refl _) (.cons (.own (by repeat (first | exact List.Mem.head _ | apply List.Mem.tail)) (by first | (simp; done) | (simp [mkL]; done))) .nil))) (co_spec_l16With _ _ _ (by first | omega | (simp only [List.length_append, List.length_cons, List.length_nil, List.length_take, List.length_drop]; omega) | (have q1 := IsPort.rx ‹IsPort p›; have q2 := IsPort.tx ‹IsPort p›; simp only [List.length_append, List.length_cons, List.length_nil, List.length_take, List.length_drop]; omega) | (have q1 := IsPort.rx ‹IsPort a›; have q2 := IsPort.rx ‹IsPort b›; simp only [List.length_append, List.length_cons, List.length_nil, List.length_take, List.length_drop]; omega)) (by first | omega | (simp only [List.length_append, List.length_cons, List.length_nil, List.length_take, List.length_drop]; omega) | (have q1 := IsPort.rx ‹IsPort p›; have q2 := IsPort.tx ‹IsPort p›; simp only [List.length_append, List.length_cons, List.length_nil, List.length_take, List.length_drop]; omega) | (have q1 := IsPort.rx ‹IsPort a›; have q2 := IsPort.rx ‹IsPort b›; simp only [List.length_append, List.length_cons, List.length_nil, List.length_take, List.length_drop]; omega))) ?_
                rintro _ _ ⟨b4, b5, rfl, rfl⟩
                refine ⟨(closed_agg (all_cons' (closed_own _ _ _ _) (all_cons' (closed_own _ _ _ _) (all_cons' (closed_int _ _) (all_cons' (closed_bool _) all_nil'))))), (closedS_cons (closedAll _ _ _ _ cl_eInt) (closedS_cons (closedAll _ _ _ _ cl_eInt) closedS_nil)), ?_⟩
                refine draw_all [10] (by kernel_rfl) (by simp) ?_
                refine all_cons rfl rfl ?_ ?_
                · skip
                  refine w_store (cells' := [_, _, _, _]) rfl rfl rfl (by repeat (first | exact Pick.here _ _ _ | apply Pick.next)) cn_41 (by rfl) (by rfl) (by rfl) (by first | (refine .inl ?_; simp; done) | (refine .inr ?_; simp [keys]; done)) ?_
                  refine d_take 11 rfl (by kernel_rfl) (by kernel_rfl) (by kernel_rfl) rfl (p_assign rfl) ?_
                  refine draw_done (by kernel_rfl) ?_
                  refine a_ret ?_
                  refine ret_ok (hands2 rfl (.cell ag_41 rfl (by repeat (first | exact Pick.here _ _ _ | apply Pick.next)) (by rfl)) (.tmp rfl)) (st' := [(b4, _), (b5, _)]) (.cons (by repeat (first | exact Pick.here _ _ _ | apply Pick.next)) (.cons (by repeat (first | exact Pick.here _ _ _ | apply Pick.next)) (.nil _))) ?_
                  first | exact ⟨_, _, rfl, rfl⟩ | exact absurd hA.1 (by assumption) | exact absurd hA.2.1 (by assumption) | (exfalso; have h1 := hA.2.1; have h2 := hA.2.2; omega)
                exact all_nil
              exact all_nil
            exact all_nil
          exact all_nil
        refine all_cons rfl rfl ?_ ?_
        · skip
          refine w_lit_vM eInt [b] rfl el_36 rfl rfl rfl rfl rfl ?_
          refine draw_all [5] (by kernel_rfl) (by simp) ?_
          refine all_cons rfl rfl ?_ ?_
          · skip
            refine w_call rfl rfl rfl cl_70 ((co_spec_l1Own _ (by first | omega | (simp only [List.length_append, List.length_cons, List.length_nil, List.length_take, List.length_drop]; omega) | (have q1 := IsPort.rx ‹IsPort p›; have q2 := IsPort.tx ‹IsPort p›; simp only [List.length_append, List.length_cons, List.length_nil, List.length_take, List.length_drop]; omega) | (have q1 := IsPort.rx ‹IsPort a›; have q2 := IsPort.rx ‹IsPort b›; simp only [List.length_append, List.length_cons, List.length_nil, List.length_take, List.length_drop]; omega))).mono fun _ _ h => h.len) ?_
            rintro _ _ ⟨b6, rfl, rfl⟩
            refine draw_all [8] (by kernel_rfl) (by simp) ?_
            refine all_cons rfl rfl ?_ ?_
            · skip
              refine w_appendM eInt rfl el_36 rfl rfl (by repeat (first | exact Pick.here _ _ _ | apply Pick.next)) rfl (.sl _) (fun _ => rfl) (fun _ => rfl) (by simp; omega) (by simp; omega) (by first | (refine .inl ?_; simp; done) | (refine .inr ?_; simp [keys]; done)) fun b7 => ?_
              refine draw_all [9] (by kernel_rfl) (by simp) ?_
              refine all_cons rfl rfl ?_ ?_
              · skip
                refine w_callL rfl rfl rfl cl_67 (.cons (.refl _) (.cons (.refl _) (.cons (.own (by repeat (first | exact List.Mem.head _ | apply List.Mem.tail)) (by first | (simp; done) | (simp [mkL]; done))) .nil))) (co_spec_l16With _ _ _ (by first | omega | (simp only [List.length_append, List.length_cons, List.length_nil, List.length_take, List.length_drop]; omega) | (have q1 := IsPort.rx ‹IsPort p›; have q2 := IsPort.tx ‹IsPort p›; simp only [List.length_append, List.length_cons, List.length_nil, List.length_take, List.length_drop]; omega) | (have q1 := IsPort.rx ‹IsPort a›; have q2 := IsPort.rx ‹IsPort b›; simp only [List.length_append, List.length_cons, List.length_nil, List.length_take, List.length_drop]; omega)) (by first | omega | (simp only [List.length_append, List.length_cons, List.length_nil, List.length_take, List.length_drop]; omega) | (have q1 := IsPort.rx ‹IsPort p›; have q2 := IsPort.tx ‹IsPort p›; simp only [List.length_append, List.length_cons, List.length_nil, List.length_take, List.length_drop]; omega) | (have q1 := IsPort.rx ‹IsPort a›; have q2 := IsPort.rx ‹IsPort b›; simp only [List.length_append, List.length_cons, List.length_nil, List.length_take, List.length_drop]; omega))) ?_
                rintro _ _ ⟨b8, b9, rfl, rfl⟩
                refine ⟨(closed_agg (all_cons' (closed_own _ _ _ _) (all_cons' (closed_own _ _ _ _) (all_cons' (closed_int _ _) (all_cons' (closed_bool _) all_nil'))))), (closedS_cons (closedAll _ _ _ _ cl_eInt) (closedS_cons (closedAll _ _ _ _ cl_eInt) closedS_nil)), ?_⟩
                refine draw_all [10] (by kernel_rfl) (by simp) ?_
                refine all_cons rfl rfl ?_ ?_
                · skip
                  refine w_store (cells' := [_, _, _, _]) rfl rfl rfl (by repeat (first | exact Pick.here _ _ _ | apply Pick.next)) cn_41 (by rfl) (by rfl) (by rfl) (by first | (refine .inl ?_; simp; done) | (refine .inr ?_; simp [keys]; done)) ?_
                  refine d_take 11 rfl (by kernel_rfl) (by kernel_rfl) (by kernel_rfl) rfl (p_assign rfl) ?_
                  refine draw_done (by kernel_rfl) ?_
                  refine a_ret ?_
                  refine ret_ok (hands2 rfl (.cell ag_41 rfl (by repeat (first | exact Pick.here _ _ _ | apply Pick.next)) (by rfl)) (.tmp rfl)) (st' := [(b8, _), (b9, _)]) (.cons (by repeat (first | exact Pick.here _ _ _ | apply Pick.next)) (.cons (by repeat (first | exact Pick.here _ _ _ | apply Pick.next)) (.nil _))) ?_
                  first | exact ⟨_, _, rfl, rfl⟩ | exact absurd hA.1 (by assumption) | exact absurd hA.2.1 (by assumption) | (exfalso; have h1 := hA.2.1; have h2 := hA.2.2; omega)
                exact all_nil
              exact all_nil
            exact all_nil
          exact all_nil
        exact all_nil

theorem cy_spec_WritePort (p : Port) (hn : SmallPort p) (b : Int) (hA : GoodWrite p b) : ACalls Try.prog 40 [.agg (ePort p), .int .i64 b] [] (Ret (.tup [.agg (ePort (writeP p b)), .bool true])) :=
  (co_spec_WritePort p hn b hA).freeze (by rintro _ _ ⟨_, _, rfl, rfl⟩; exact (.tup (.cons (.agg (.cons (.own (by repeat (first | exact List.Mem.head _ | apply List.Mem.tail)) (List.length_map _)) (.cons (.own (by repeat (first | exact List.Mem.head _ | apply List.Mem.tail)) (List.length_map _)) (.cons (.refl _) (.cons (.refl _) .nil))))) (.cons (.refl _) .nil))))

theorem cn_spec_WritePort (p : Port) (hn : SmallPort p) (b : Int) (hA : ¬ GoodWrite p b) : ACalls Try.prog 40 [.agg (ePort p), .int .i64 b] [] (Ret (.tup [.agg [.nil, .nil, .int .i64 0, .bool false], .bool false])) := by
  have hn1 : p.rx.length ≤ 1048576 := hn.1
  have hn2 : p.tx.length ≤ 1048576 := hn.2
  refine a_enter Try.func40 rfl rfl (fun w0 M0 => ?_)
  refine a_seq ?_
  refine a_region ?_
  refine aops_cons rfl (w_box_v rfl rfl rfl ?_)
  refine aops_cons rfl (w_alloc rfl z_41 fun b1 => ?_)
  refine aops_cons rfl (w_pure rfl (p_assign rfl) ?_)
  refine aops_nil ?_
  refine a_seq ?_
  refine a_seq ?_
  refine a_region ?_
  refine aops_cons rfl (w_pure rfl (p_load_v_all ag_41 rfl (by rfl) noX) ?_)
  refine aops_cons rfl (w_callR rfl rfl rfl cl_60 (c_spec_l16Port _ ‹_›) ?_)
  refine aops_cons rfl (w_pure rfl (p_not rfl) ?_)
  refine aops_cons rfl (w_pure rfl (p_move rfl) ?_)
  first | refine aops_split_d 9 rfl (fun h1 => ?_) (fun h2 => ?_) | refine aops_split 9 rfl (fun h1 => ?_) (fun h2 => ?_)
  · (try simp only [Bool.not_eq_true', Bool.not_eq_false', Bool.not_eq_true, Bool.not_eq_false, decide_eq_true_eq, decide_eq_false_iff_not, List.length_map, List.length_range] at h1)
    refine g_pass' rfl rfl rfl rfl rfl ?_
    refine g_pass' rfl rfl rfl rfl rfl ?_
    refine g_pass' rfl rfl rfl rfl rfl ?_
    refine aops_cons rfl (w_pure rfl (p_pick_t rfl rfl) ?_)
    refine aops_cons rfl (w_pure rfl (p_move rfl) ?_)
    refine g_pass' rfl rfl rfl rfl rfl ?_
    refine g_pass' rfl rfl rfl rfl rfl ?_
    refine g_pass' rfl rfl rfl rfl rfl ?_
    refine g_pass' rfl rfl rfl rfl rfl ?_
    refine aops_cons rfl (w_pure rfl (p_pick_t rfl rfl) ?_)
    refine aops_nil ?_
    refine a_cond_t rfl ?_
    refine a_seq ?_
    refine a_region ?_
    refine aops_cons rfl (w_pure rfl (p_build (cells := [_, _, _, _]) z_41 pl_41 rfl rfl) ?_)
    refine aops_cons rfl (w_store (cells' := [_, _, _, _]) rfl rfl rfl (by repeat (first | exact Pick.here _ _ _ | apply Pick.next)) cn_41 (by rfl) (by rfl) (by rfl) trivial ?_)
    refine aops_cons rfl (w_pure rfl (p_assign rfl) ?_)
    refine aops_nil ?_
    refine a_ret ?_
    refine ret_ok (hands2 rfl (.cell ag_41 rfl (by repeat (first | exact Pick.here _ _ _ | apply Pick.next)) (by rfl)) (.tmp rfl)) (.nil _) ?_
    first | exact ⟨rfl, rfl⟩ | exact absurd (show GoodWrite p b from ⟨by assumption, by omega, by omega⟩) hA | exact absurd (show GoodWrite p b from ⟨by assumption, by omega⟩) hA | exact absurd (show GoodWrite p b from ⟨by assumption, by assumption⟩) hA
  · (try simp only [Bool.not_eq_true', Bool.not_eq_false', Bool.not_eq_true, Bool.not_eq_false, decide_eq_true_eq, decide_eq_false_iff_not, List.length_map, List.length_range] at h2)
    refine aops_guard_t rfl rfl rfl (w_pure rfl (p_move rfl) ?_)
    refine aops_guard_t rfl rfl rfl (w_callR rfl rfl rfl cl_58 (c_spec_l1In ..) ?_)
    refine aops_guard_t rfl rfl rfl (w_pure rfl (p_not rfl) ?_)
    refine aops_cons rfl (w_pure rfl (p_pick_f rfl rfl) ?_)
    refine aops_cons rfl (w_pure rfl (p_move rfl) ?_)
    first | refine aops_split_d 14 rfl (fun h3 => ?_) (fun h4 => ?_) | refine aops_split 14 rfl (fun h3 => ?_) (fun h4 => ?_)
    · (try simp only [Bool.not_eq_true', Bool.not_eq_false', Bool.not_eq_true, Bool.not_eq_false, decide_eq_true_eq, decide_eq_false_iff_not, List.length_map, List.length_range] at h3)
      refine g_pass' rfl rfl rfl rfl rfl ?_
      refine g_pass' rfl rfl rfl rfl rfl ?_
      refine g_pass' rfl rfl rfl rfl rfl ?_
      refine g_pass' rfl rfl rfl rfl rfl ?_
      refine aops_cons rfl (w_pure rfl (p_pick_t rfl rfl) ?_)
      refine aops_nil ?_
      refine a_cond_t rfl ?_
      refine a_seq ?_
      refine a_region ?_
      refine aops_cons rfl (w_pure rfl (p_build (cells := [_, _, _, _]) z_41 pl_41 rfl rfl) ?_)
      refine aops_cons rfl (w_store (cells' := [_, _, _, _]) rfl rfl rfl (by repeat (first | exact Pick.here _ _ _ | apply Pick.next)) cn_41 (by rfl) (by rfl) (by rfl) trivial ?_)
      refine aops_cons rfl (w_pure rfl (p_assign rfl) ?_)
      refine aops_nil ?_
      refine a_ret ?_
      refine ret_ok (hands2 rfl (.cell ag_41 rfl (by repeat (first | exact Pick.here _ _ _ | apply Pick.next)) (by rfl)) (.tmp rfl)) (.nil _) ?_
      first | exact ⟨rfl, rfl⟩ | exact absurd (show GoodWrite p b from ⟨by assumption, by omega, by omega⟩) hA | exact absurd (show GoodWrite p b from ⟨by assumption, by omega⟩) hA | exact absurd (show GoodWrite p b from ⟨by assumption, by assumption⟩) hA
    · (try simp only [Bool.not_eq_true', Bool.not_eq_false', Bool.not_eq_true, Bool.not_eq_false, decide_eq_true_eq, decide_eq_false_iff_not, List.length_map, List.length_range] at h4)
      refine aops_guard_t rfl rfl rfl (w_pure rfl (p_field_v fo_41_1 rfl) ?_)
      refine aops_guard_t rfl rfl rfl (w_pure rfl (p_load_v ag_36 rfl (by rfl) noX) ?_)
      refine aops_guard_t rfl rfl rfl (w_pure rfl (p_len sl_36 rfl rfl) ?_)
      refine aops_guard_t rfl rfl rfl (w_pure rfl (p_eql rfl rfl) ?_)
      refine aops_cons rfl (w_pure rfl (p_pick_f rfl rfl) ?_)
      refine aops_nil ?_
      first | refine a_cond_d rfl (fun h5 => ?_) (fun h6 => ?_) | refine a_cond_n rfl (fun h5 => ?_) (fun h6 => ?_) | refine a_cond_nb rfl (fun h5 => ?_) (fun h6 => ?_) | refine a_cond rfl (fun h5 => ?_) (fun h6 => ?_)
      · (try simp only [Bool.not_eq_true', Bool.not_eq_false', Bool.not_eq_true, Bool.not_eq_false, decide_eq_true_eq, decide_eq_false_iff_not, List.length_map, List.length_range] at h5)
        refine a_seq ?_
        refine a_region ?_
        refine aops_cons rfl (w_pure rfl (p_build (cells := [_, _, _, _]) z_41 pl_41 rfl rfl) ?_)
        refine aops_cons rfl (w_store (cells' := [_, _, _, _]) rfl rfl rfl (by repeat (first | exact Pick.here _ _ _ | apply Pick.next)) cn_41 (by rfl) (by rfl) (by rfl) trivial ?_)
        refine aops_cons rfl (w_pure rfl (p_assign rfl) ?_)
        refine aops_nil ?_
        refine a_ret ?_
        refine ret_ok (hands2 rfl (.cell ag_41 rfl (by repeat (first | exact Pick.here _ _ _ | apply Pick.next)) (by rfl)) (.tmp rfl)) (.nil _) ?_
        first | exact ⟨rfl, rfl⟩ | exact absurd (show GoodWrite p b from ⟨by assumption, by omega, by omega⟩) hA | exact absurd (show GoodWrite p b from ⟨by assumption, by omega⟩) hA | exact absurd (show GoodWrite p b from ⟨by assumption, by assumption⟩) hA
      · (try simp only [Bool.not_eq_true', Bool.not_eq_false', Bool.not_eq_true, Bool.not_eq_false, decide_eq_true_eq, decide_eq_false_iff_not, List.length_map, List.length_range] at h6)
        refine a_skip ?_
        refine a_seq ?_
        refine a_draw [b1] (by kernel_rfl) ?_
        show ADraw _ _ _ _ _ _ 12 _ _ _ _
        refine d_load 0 rfl (by kernel_rfl) (by kernel_rfl) (by kernel_rfl) rfl (p_load_v_all ag_41 rfl (by rfl) (by simp [keys])) ?_
        refine d_take 1 rfl (by kernel_rfl) (by kernel_rfl) (by kernel_rfl) rfl (p_field_v fo_41_0 rfl) ?_
        refine d_load 2 rfl (by kernel_rfl) (by kernel_rfl) (by kernel_rfl) rfl (p_load_v ag_36 rfl (by rfl) (by simp [keys])) ?_
        refine d_take 3 rfl (by kernel_rfl) (by kernel_rfl) (by kernel_rfl) rfl (p_field_v fo_41_1 rfl) ?_
        refine d_load 4 rfl (by kernel_rfl) (by kernel_rfl) (by kernel_rfl) rfl (p_load_v ag_36 rfl (by rfl) (by simp [keys])) ?_
        refine d_take 6 rfl (by kernel_rfl) (by kernel_rfl) (by kernel_rfl) rfl (p_move rfl) ?_
        refine draw_all [5, 7] (by kernel_rfl) (by simp) ?_
        refine all_cons rfl rfl ?_ ?_
        · skip
          refine w_call rfl rfl rfl cl_70 ((co_spec_l1Own _ (by first | omega | (simp only [List.length_append, List.length_cons, List.length_nil, List.length_take, List.length_drop]; omega) | (have q1 := IsPort.rx ‹IsPort p›; have q2 := IsPort.tx ‹IsPort p›; simp only [List.length_append, List.length_cons, List.length_nil, List.length_take, List.length_drop]; omega) | (have q1 := IsPort.rx ‹IsPort a›; have q2 := IsPort.rx ‹IsPort b›; simp only [List.length_append, List.length_cons, List.length_nil, List.length_take, List.length_drop]; omega))).mono fun _ _ h => h.len) ?_
          rintro _ _ ⟨b2, rfl, rfl⟩
          refine draw_all [7] (by kernel_rfl) (by simp) ?_
          refine all_cons rfl rfl ?_ ?_
          · skip
            refine w_lit_vM eInt [b] rfl el_36 rfl rfl rfl rfl rfl ?_
            refine draw_all [8] (by kernel_rfl) (by simp) ?_
            refine all_cons rfl rfl ?_ ?_
            · skip
              refine w_appendM eInt rfl el_36 rfl rfl (by repeat (first | exact Pick.here _ _ _ | apply Pick.next)) rfl (.sl _) (fun _ => rfl) (fun _ => rfl) (by simp; omega) (by simp; omega) (by first | (refine .inl ?_; simp; done) | (refine .inr ?_; simp [keys]; done)) fun b3 => ?_
              refine draw_all [9] (by kernel_rfl) (by simp) ?_
              refine all_cons rfl rfl ?_ ?_
              · skip
                refine w_callL rfl rfl rfl cl_67 (.cons (.refl _) (.cons (.refl _) (.cons (.own (by repeat (first | exact List.Mem.head _ | apply List.Mem.tail)) (by first | (simp; done) | (simp [mkL]; done))) .nil))) (co_spec_l16With _ _ _ (by first | omega | (simp only [List.length_append, List.length_cons, List.length_nil, List.length_take, List.length_drop]; omega) | (have q1 := IsPort.rx ‹IsPort p›; have q2 := IsPort.tx ‹IsPort p›; simp only [List.length_append, List.length_cons, List.length_nil, List.length_take, List.length_drop]; omega) | (have q1 := IsPort.rx ‹IsPort a›; have q2 := IsPort.rx ‹IsPort b›; simp only [List.length_append, List.length_cons, List.length_nil, List.length_take, List.length_drop]; omega)) (by first | omega | (simp only [List.length_append, List.length_cons, List.length_nil, List.length_take, List.length_drop]; omega) | (have q1 := IsPort.rx ‹IsPort p›; have q2 := IsPort.tx ‹IsPort p›; simp only [List.length_append, List.length_cons, List.length_nil, List.length_take, List.length_drop]; omega) | (have q1 := IsPort.rx ‹IsPort a›; have q2 := IsPort.rx ‹IsPort b›; simp only [List.length_append, List.length_cons, List.length_nil, List.length_take, List.length_drop]; omega))) ?_
                rintro _ _ ⟨b4, b5, rfl, rfl⟩
                refine ⟨(closed_agg (all_cons' (closed_own _ _ _ _) (all_cons' (closed_own _ _ _ _) (all_cons' (closed_int _ _) (all_cons' (closed_bool _) all_nil'))))), (closedS_cons (closedAll _ _ _ _ cl_eInt) (closedS_cons (closedAll _ _ _ _ cl_eInt) closedS_nil)), ?_⟩
                refine draw_all [10] (by kernel_rfl) (by simp) ?_
                refine all_cons rfl rfl ?_ ?_
                · skip
                  refine w_store (cells' := [_, _, _, _]) rfl rfl rfl (by repeat (first | exact Pick.here _ _ _ | apply Pick.next)) cn_41 (by rfl) (by rfl) (by rfl) (by first | (refine .inl ?_; simp; done) | (refine .inr ?_; simp [keys]; done)) ?_
                  refine d_take 11 rfl (by kernel_rfl) (by kernel_rfl) (by kernel_rfl) rfl (p_assign rfl) ?_
                  refine draw_done (by kernel_rfl) ?_
                  refine a_ret ?_
                  refine ret_ok (hands2 rfl (.cell ag_41 rfl (by repeat (first | exact Pick.here _ _ _ | apply Pick.next)) (by rfl)) (.tmp rfl)) (st' := [(b4, _), (b5, _)]) (.cons (by repeat (first | exact Pick.here _ _ _ | apply Pick.next)) (.cons (by repeat (first | exact Pick.here _ _ _ | apply Pick.next)) (.nil _))) ?_
                  first | exact ⟨rfl, rfl⟩ | exact absurd (show GoodWrite p b from ⟨by assumption, by omega, by omega⟩) hA | exact absurd (show GoodWrite p b from ⟨by assumption, by omega⟩) hA | exact absurd (show GoodWrite p b from ⟨by assumption, by assumption⟩) hA
                exact all_nil
              exact all_nil
            exact all_nil
          exact all_nil
        refine all_cons rfl rfl ?_ ?_
        · skip
          refine w_lit_vM eInt [b] rfl el_36 rfl rfl rfl rfl rfl ?_
          refine draw_all [5] (by kernel_rfl) (by simp) ?_
          refine all_cons rfl rfl ?_ ?_
          · skip
            refine w_call rfl rfl rfl cl_70 ((co_spec_l1Own _ (by first | omega | (simp only [List.length_append, List.length_cons, List.length_nil, List.length_take, List.length_drop]; omega) | (have q1 := IsPort.rx ‹IsPort p›; have q2 := IsPort.tx ‹IsPort p›; simp only [List.length_append, List.length_cons, List.length_nil, List.length_take, List.length_drop]; omega) | (have q1 := IsPort.rx ‹IsPort a›; have q2 := IsPort.rx ‹IsPort b›; simp only [List.length_append, List.length_cons, List.length_nil, List.length_take, List.length_drop]; omega))).mono fun _ _ h => h.len) ?_
            rintro _ _ ⟨b6, rfl, rfl⟩
            refine draw_all [8] (by kernel_rfl) (by simp) ?_
            refine all_cons rfl rfl ?_ ?_
            · skip
              refine w_appendM eInt rfl el_36 rfl rfl (by repeat (first | exact Pick.here _ _ _ | apply Pick.next)) rfl (.sl _) (fun _ => rfl) (fun _ => rfl) (by simp; omega) (by simp; omega) (by first | (refine .inl ?_; simp; done) | (refine .inr ?_; simp [keys]; done)) fun b7 => ?_
              refine draw_all [9] (by kernel_rfl) (by simp) ?_
              refine all_cons rfl rfl ?_ ?_
              · skip
                refine w_callL rfl rfl rfl cl_67 (.cons (.refl _) (.cons (.refl _) (.cons (.own (by repeat (first | exact List.Mem.head _ | apply List.Mem.tail)) (by first | (simp; done) | (simp [mkL]; done))) .nil))) (co_spec_l16With _ _ _ (by first | omega | (simp only [List.length_append, List.length_cons, List.length_nil, List.length_take, List.length_drop]; omega) | (have q1 := IsPort.rx ‹IsPort p›; have q2 := IsPort.tx ‹IsPort p›; simp only [List.length_append, List.length_cons, List.length_nil, List.length_take, List.length_drop]; omega) | (have q1 := IsPort.rx ‹IsPort a›; have q2 := IsPort.rx ‹IsPort b›; simp only [List.length_append, List.length_cons, List.length_nil, List.length_take, List.length_drop]; omega)) (by first | omega | (simp only [List.length_append, List.length_cons, List.length_nil, List.length_take, List.length_drop]; omega) | (have q1 := IsPort.rx ‹IsPort p›; have q2 := IsPort.tx ‹IsPort p›; simp only [List.length_append, List.length_cons, List.length_nil, List.length_take, List.length_drop]; omega) | (have q1 := IsPort.rx ‹IsPort a›; have q2 := IsPort.rx ‹IsPort b›; simp only [List.length_append, List.length_cons, List.length_nil, List.length_take, List.length_drop]; omega))) ?_
                rintro _ _ ⟨b8, b9, rfl, rfl⟩
                refine ⟨(closed_agg (all_cons' (closed_own _ _ _ _) (all_cons' (closed_own _ _ _ _) (all_cons' (closed_int _ _) (all_cons' (closed_bool _) all_nil'))))), (closedS_cons (closedAll _ _ _ _ cl_eInt) (closedS_cons (closedAll _ _ _ _ cl_eInt) closedS_nil)), ?_⟩
                refine draw_all [10] (by kernel_rfl) (by simp) ?_
                refine all_cons rfl rfl ?_ ?_
                · skip
                  refine w_store (cells' := [_, _, _, _]) rfl rfl rfl (by repeat (first | exact Pick.here _ _ _ | apply Pick.next)) cn_41 (by rfl) (by rfl) (by rfl) (by first | (refine .inl ?_; simp; done) | (refine .inr ?_; simp [keys]; done)) ?_
                  refine d_take 11 rfl (by kernel_rfl) (by kernel_rfl) (by kernel_rfl) rfl (p_assign rfl) ?_
                  refine draw_done (by kernel_rfl) ?_
                  refine a_ret ?_
                  refine ret_ok (hands2 rfl (.cell ag_41 rfl (by repeat (first | exact Pick.here _ _ _ | apply Pick.next)) (by rfl)) (.tmp rfl)) (st' := [(b8, _), (b9, _)]) (.cons (by repeat (first | exact Pick.here _ _ _ | apply Pick.next)) (.cons (by repeat (first | exact Pick.here _ _ _ | apply Pick.next)) (.nil _))) ?_
                  first | exact ⟨rfl, rfl⟩ | exact absurd (show GoodWrite p b from ⟨by assumption, by omega, by omega⟩) hA | exact absurd (show GoodWrite p b from ⟨by assumption, by omega⟩) hA | exact absurd (show GoodWrite p b from ⟨by assumption, by assumption⟩) hA
                exact all_nil
              exact all_nil
            exact all_nil
          exact all_nil
        exact all_nil

theorem cy_impl_WritePort (p : Port) (hn : SmallPort p) (b : Int) (hA : GoodWrite p b) : ACalls Try.prog 41 [.agg (ePort p), .int .i64 b] [] (fun r st => ∃ b1 b2, r = .tup [.agg [.own 1 b1 0 (writeP p b).rx.length, .own 1 b2 0 (writeP p b).tx.length, .int .i64 (writeP p b).depth, .bool (writeP p b).flag], .bool true] ∧ st = [(b1, .arr 3 1 ((writeP p b).rx.map eInt)), (b2, .arr 3 1 ((writeP p b).tx.map eInt))]) := by
  have hn1 : p.rx.length ≤ 1048576 := hn.1
  have hn2 : p.tx.length ≤ 1048576 := hn.2
  refine a_enter Try.func41 rfl rfl (fun w0 M0 => ?_)
  refine a_seq ?_
  refine a_region ?_
  refine aops_cons rfl (w_box_v rfl rfl rfl ?_)
  refine aops_cons rfl (w_alloc rfl z_41 fun b1 => ?_)
  refine aops_cons rfl (w_pure rfl (p_assign rfl) ?_)
  refine aops_nil ?_
  refine a_seq ?_
  refine a_seq ?_
  refine a_region ?_
  refine aops_cons rfl (w_pure rfl (p_load_v_all ag_41 rfl (by rfl) noX) ?_)
  refine aops_cons rfl (w_callR rfl rfl rfl cl_28 (c_impl_IsPort _ ‹_›) ?_)
  refine aops_cons rfl (w_pure rfl (p_not rfl) ?_)
  refine aops_cons rfl (w_pure rfl (p_move rfl) ?_)
  first | refine aops_split_d 9 rfl (fun h1 => ?_) (fun h2 => ?_) | refine aops_split 9 rfl (fun h1 => ?_) (fun h2 => ?_)
  · (try simp only [Bool.not_eq_true', Bool.not_eq_false', Bool.not_eq_true, Bool.not_eq_false, decide_eq_true_eq, decide_eq_false_iff_not, List.length_map, List.length_range] at h1)
    refine g_pass' rfl rfl rfl rfl rfl ?_
    refine g_pass' rfl rfl rfl rfl rfl ?_
    refine g_pass' rfl rfl rfl rfl rfl ?_
    refine aops_cons rfl (w_pure rfl (p_pick_t rfl rfl) ?_)
    refine aops_cons rfl (w_pure rfl (p_move rfl) ?_)
    refine g_pass' rfl rfl rfl rfl rfl ?_
    refine g_pass' rfl rfl rfl rfl rfl ?_
    refine g_pass' rfl rfl rfl rfl rfl ?_
    refine g_pass' rfl rfl rfl rfl rfl ?_
    refine aops_cons rfl (w_pure rfl (p_pick_t rfl rfl) ?_)
    refine aops_nil ?_
    refine a_cond_t rfl ?_
    refine a_seq ?_
    refine a_region ?_
    refine aops_cons rfl (w_pure rfl (p_build (cells := [_, _, _, _]) z_41 pl_41 rfl rfl) ?_)
    refine aops_cons rfl (w_store (cells' := [_, _, _, _]) rfl rfl rfl (by repeat (first | exact Pick.here _ _ _ | apply Pick.next)) cn_41 (by rfl) (by rfl) (by rfl) trivial ?_)
    refine aops_cons rfl (w_pure rfl (p_assign rfl) ?_)
    refine aops_nil ?_
    refine a_ret ?_
    refine ret_ok (hands2 rfl (.cell ag_41 rfl (by repeat (first | exact Pick.here _ _ _ | apply Pick.next)) (by rfl)) (.tmp rfl)) (.nil _) ?_
    first | exact ⟨_, _, rfl, rfl⟩ | exact absurd hA.1 (by assumption) | exact absurd hA.2.1 (by assumption) | (exfalso; have h1 := hA.2.1; have h2 := hA.2.2; omega)
  · (try simp only [Bool.not_eq_true', Bool.not_eq_false', Bool.not_eq_true, Bool.not_eq_false, decide_eq_true_eq, decide_eq_false_iff_not, List.length_map, List.length_range] at h2)
    refine aops_guard_t rfl rfl rfl (w_pure rfl (p_move rfl) ?_)
    refine aops_guard_t rfl rfl rfl (w_callR rfl rfl rfl cl_71 (c_impl_isByte ..) ?_)
    refine aops_guard_t rfl rfl rfl (w_pure rfl (p_not rfl) ?_)
    refine aops_cons rfl (w_pure rfl (p_pick_f rfl rfl) ?_)
    refine aops_cons rfl (w_pure rfl (p_move rfl) ?_)
    first | refine aops_split_d 14 rfl (fun h3 => ?_) (fun h4 => ?_) | refine aops_split 14 rfl (fun h3 => ?_) (fun h4 => ?_)
    · (try simp only [Bool.not_eq_true', Bool.not_eq_false', Bool.not_eq_true, Bool.not_eq_false, decide_eq_true_eq, decide_eq_false_iff_not, List.length_map, List.length_range] at h3)
      refine g_pass' rfl rfl rfl rfl rfl ?_
      refine g_pass' rfl rfl rfl rfl rfl ?_
      refine g_pass' rfl rfl rfl rfl rfl ?_
      refine g_pass' rfl rfl rfl rfl rfl ?_
      refine aops_cons rfl (w_pure rfl (p_pick_t rfl rfl) ?_)
      refine aops_nil ?_
      refine a_cond_t rfl ?_
      refine a_seq ?_
      refine a_region ?_
      refine aops_cons rfl (w_pure rfl (p_build (cells := [_, _, _, _]) z_41 pl_41 rfl rfl) ?_)
      refine aops_cons rfl (w_store (cells' := [_, _, _, _]) rfl rfl rfl (by repeat (first | exact Pick.here _ _ _ | apply Pick.next)) cn_41 (by rfl) (by rfl) (by rfl) trivial ?_)
      refine aops_cons rfl (w_pure rfl (p_assign rfl) ?_)
      refine aops_nil ?_
      refine a_ret ?_
      refine ret_ok (hands2 rfl (.cell ag_41 rfl (by repeat (first | exact Pick.here _ _ _ | apply Pick.next)) (by rfl)) (.tmp rfl)) (.nil _) ?_
      first | exact ⟨_, _, rfl, rfl⟩ | exact absurd hA.1 (by assumption) | exact absurd hA.2.1 (by assumption) | (exfalso; have h1 := hA.2.1; have h2 := hA.2.2; omega)
    · (try simp only [Bool.not_eq_true', Bool.not_eq_false', Bool.not_eq_true, Bool.not_eq_false, decide_eq_true_eq, decide_eq_false_iff_not, List.length_map, List.length_range] at h4)
      refine aops_guard_t rfl rfl rfl (w_pure rfl (p_field_v fo_41_1 rfl) ?_)
      refine aops_guard_t rfl rfl rfl (w_pure rfl (p_load_v ag_36 rfl (by rfl) noX) ?_)
      refine aops_guard_t rfl rfl rfl (w_pure rfl (p_len sl_36 rfl rfl) ?_)
      refine aops_guard_t rfl rfl rfl (w_pure rfl (p_eql rfl rfl) ?_)
      refine aops_cons rfl (w_pure rfl (p_pick_f rfl rfl) ?_)
      refine aops_nil ?_
      first | refine a_cond_d rfl (fun h5 => ?_) (fun h6 => ?_) | refine a_cond_n rfl (fun h5 => ?_) (fun h6 => ?_) | refine a_cond_nb rfl (fun h5 => ?_) (fun h6 => ?_) | refine a_cond rfl (fun h5 => ?_) (fun h6 => ?_)
      · (try simp only [Bool.not_eq_true', Bool.not_eq_false', Bool.not_eq_true, Bool.not_eq_false, decide_eq_true_eq, decide_eq_false_iff_not, List.length_map, List.length_range] at h5)
        refine a_seq ?_
        refine a_region ?_
        refine aops_cons rfl (w_pure rfl (p_build (cells := [_, _, _, _]) z_41 pl_41 rfl rfl) ?_)
        refine aops_cons rfl (w_store (cells' := [_, _, _, _]) rfl rfl rfl (by repeat (first | exact Pick.here _ _ _ | apply Pick.next)) cn_41 (by rfl) (by rfl) (by rfl) trivial ?_)
        refine aops_cons rfl (w_pure rfl (p_assign rfl) ?_)
        refine aops_nil ?_
        refine a_ret ?_
        refine ret_ok (hands2 rfl (.cell ag_41 rfl (by repeat (first | exact Pick.here _ _ _ | apply Pick.next)) (by rfl)) (.tmp rfl)) (.nil _) ?_
        first | exact ⟨_, _, rfl, rfl⟩ | exact absurd hA.1 (by assumption) | exact absurd hA.2.1 (by assumption) | (exfalso; have h1 := hA.2.1; have h2 := hA.2.2; omega)
      · (try simp only [Bool.not_eq_true', Bool.not_eq_false', Bool.not_eq_true, Bool.not_eq_false, decide_eq_true_eq, decide_eq_false_iff_not, List.length_map, List.length_range] at h6)
        refine a_skip ?_
        refine a_seq ?_
        refine a_draw [b1] (by kernel_rfl) ?_
        show ADraw _ _ _ _ _ _ 13 _ _ _ _
        refine d_load 0 rfl (by kernel_rfl) (by kernel_rfl) (by kernel_rfl) rfl (p_load_v_all ag_41 rfl (by rfl) (by simp [keys])) ?_
        refine d_take 1 rfl (by kernel_rfl) (by kernel_rfl) (by kernel_rfl) rfl (p_field_v fo_41_0 rfl) ?_
        refine d_load 2 rfl (by kernel_rfl) (by kernel_rfl) (by kernel_rfl) rfl (p_load_v ag_36 rfl (by rfl) (by simp [keys])) ?_
        refine d_take 4 rfl (by kernel_rfl) (by kernel_rfl) (by kernel_rfl) rfl (p_field_v fo_41_1 rfl) ?_
        refine d_load 5 rfl (by kernel_rfl) (by kernel_rfl) (by kernel_rfl) rfl (p_load_v ag_36 rfl (by rfl) (by simp [keys])) ?_
        refine d_take 7 rfl (by kernel_rfl) (by kernel_rfl) (by kernel_rfl) rfl (p_move rfl) ?_
        refine draw_all [3, 8] (by kernel_rfl) (by simp) ?_
        refine all_cons rfl rfl ?_ ?_
        · skip
          refine w_call rfl rfl rfl cl_69 ((co_impl_copyInts _ (by first | omega | (simp only [List.length_append, List.length_cons, List.length_nil, List.length_take, List.length_drop]; omega) | (have q1 := IsPort.rx ‹IsPort p›; have q2 := IsPort.tx ‹IsPort p›; simp only [List.length_append, List.length_cons, List.length_nil, List.length_take, List.length_drop]; omega) | (have q1 := IsPort.rx ‹IsPort a›; have q2 := IsPort.rx ‹IsPort b›; simp only [List.length_append, List.length_cons, List.length_nil, List.length_take, List.length_drop]; omega))).mono fun _ _ h => h.len) ?_
          rintro _ _ ⟨b2, rfl, rfl⟩
          refine draw_all [6, 8] (by kernel_rfl) (by simp) ?_
          refine all_cons rfl rfl ?_ ?_
          · skip
            refine w_call rfl rfl rfl cl_69 ((co_impl_copyInts _ (by first | omega | (simp only [List.length_append, List.length_cons, List.length_nil, List.length_take, List.length_drop]; omega) | (have q1 := IsPort.rx ‹IsPort p›; have q2 := IsPort.tx ‹IsPort p›; simp only [List.length_append, List.length_cons, List.length_nil, List.length_take, List.length_drop]; omega) | (have q1 := IsPort.rx ‹IsPort a›; have q2 := IsPort.rx ‹IsPort b›; simp only [List.length_append, List.length_cons, List.length_nil, List.length_take, List.length_drop]; omega))).mono fun _ _ h => h.len) ?_
            rintro _ _ ⟨b3, rfl, rfl⟩
            refine draw_all [8] (by kernel_rfl) (by simp) ?_
            refine all_cons rfl rfl ?_ ?_
            · skip
              refine w_lit_vM eInt [b] rfl el_36 rfl rfl rfl rfl rfl ?_
              refine draw_all [9] (by kernel_rfl) (by simp) ?_
              refine all_cons rfl rfl ?_ ?_
              · skip
                refine w_appendM eInt rfl el_36 rfl rfl (by repeat (first | exact Pick.here _ _ _ | apply Pick.next)) rfl (.sl _) (fun _ => rfl) (fun _ => rfl) (by simp; omega) (by simp; omega) (by first | (refine .inl ?_; simp; done) | (refine .inr ?_; simp [keys]; done)) fun b4 => ?_
                refine draw_all [10] (by kernel_rfl) (by simp) ?_
                refine all_cons rfl rfl ?_ ?_
                · skip
                  refine w_callR rfl rfl rfl cl_68 (c_impl_portWith _ _ _ _ _) ?_
                  refine draw_all [11] (by kernel_rfl) (by simp) ?_
                  refine all_cons rfl rfl ?_ ?_
                  · skip
                    refine w_store (cells' := [_, _, _, _]) rfl rfl rfl (by repeat (first | exact Pick.here _ _ _ | apply Pick.next)) cn_41 (by rfl) (by rfl) (by rfl) (by first | (refine .inl ?_; simp; done) | (refine .inr ?_; simp [keys]; done)) ?_
                    refine d_take 12 rfl (by kernel_rfl) (by kernel_rfl) (by kernel_rfl) rfl (p_assign rfl) ?_
                    refine draw_done (by kernel_rfl) ?_
                    refine a_ret ?_
                    refine ret_ok (hands2 rfl (.cell ag_41 rfl (by repeat (first | exact Pick.here _ _ _ | apply Pick.next)) (by rfl)) (.tmp rfl)) (st' := [(b2, _), (b4, _)]) (.cons (by repeat (first | exact Pick.here _ _ _ | apply Pick.next)) (.cons (by repeat (first | exact Pick.here _ _ _ | apply Pick.next)) (.nil _))) ?_
                    first | exact ⟨_, _, rfl, rfl⟩ | exact absurd hA.1 (by assumption) | exact absurd hA.2.1 (by assumption) | (exfalso; have h1 := hA.2.1; have h2 := hA.2.2; omega)
                  exact all_nil
                exact all_nil
              exact all_nil
            exact all_nil
          refine all_cons rfl rfl ?_ ?_
          · skip
            refine w_lit_vM eInt [b] rfl el_36 rfl rfl rfl rfl rfl ?_
            refine draw_all [6] (by kernel_rfl) (by simp) ?_
            refine all_cons rfl rfl ?_ ?_
            · skip
              refine w_call rfl rfl rfl cl_69 ((co_impl_copyInts _ (by first | omega | (simp only [List.length_append, List.length_cons, List.length_nil, List.length_take, List.length_drop]; omega) | (have q1 := IsPort.rx ‹IsPort p›; have q2 := IsPort.tx ‹IsPort p›; simp only [List.length_append, List.length_cons, List.length_nil, List.length_take, List.length_drop]; omega) | (have q1 := IsPort.rx ‹IsPort a›; have q2 := IsPort.rx ‹IsPort b›; simp only [List.length_append, List.length_cons, List.length_nil, List.length_take, List.length_drop]; omega))).mono fun _ _ h => h.len) ?_
              rintro _ _ ⟨b5, rfl, rfl⟩
              refine draw_all [9] (by kernel_rfl) (by simp) ?_
              refine all_cons rfl rfl ?_ ?_
              · skip
                refine w_appendM eInt rfl el_36 rfl rfl (by repeat (first | exact Pick.here _ _ _ | apply Pick.next)) rfl (.sl _) (fun _ => rfl) (fun _ => rfl) (by simp; omega) (by simp; omega) (by first | (refine .inl ?_; simp; done) | (refine .inr ?_; simp [keys]; done)) fun b6 => ?_
                refine draw_all [10] (by kernel_rfl) (by simp) ?_
                refine all_cons rfl rfl ?_ ?_
                · skip
                  refine w_callR rfl rfl rfl cl_68 (c_impl_portWith _ _ _ _ _) ?_
                  refine draw_all [11] (by kernel_rfl) (by simp) ?_
                  refine all_cons rfl rfl ?_ ?_
                  · skip
                    refine w_store (cells' := [_, _, _, _]) rfl rfl rfl (by repeat (first | exact Pick.here _ _ _ | apply Pick.next)) cn_41 (by rfl) (by rfl) (by rfl) (by first | (refine .inl ?_; simp; done) | (refine .inr ?_; simp [keys]; done)) ?_
                    refine d_take 12 rfl (by kernel_rfl) (by kernel_rfl) (by kernel_rfl) rfl (p_assign rfl) ?_
                    refine draw_done (by kernel_rfl) ?_
                    refine a_ret ?_
                    refine ret_ok (hands2 rfl (.cell ag_41 rfl (by repeat (first | exact Pick.here _ _ _ | apply Pick.next)) (by rfl)) (.tmp rfl)) (st' := [(b2, _), (b6, _)]) (.cons (by repeat (first | exact Pick.here _ _ _ | apply Pick.next)) (.cons (by repeat (first | exact Pick.here _ _ _ | apply Pick.next)) (.nil _))) ?_
                    first | exact ⟨_, _, rfl, rfl⟩ | exact absurd hA.1 (by assumption) | exact absurd hA.2.1 (by assumption) | (exfalso; have h1 := hA.2.1; have h2 := hA.2.2; omega)
                  exact all_nil
                exact all_nil
              exact all_nil
            exact all_nil
          exact all_nil
        refine all_cons rfl rfl ?_ ?_
        · skip
          refine w_lit_vM eInt [b] rfl el_36 rfl rfl rfl rfl rfl ?_
          refine draw_all [3] (by kernel_rfl) (by simp) ?_
          refine all_cons rfl rfl ?_ ?_
          · skip
            refine w_call rfl rfl rfl cl_69 ((co_impl_copyInts _ (by first | omega | (simp only [List.length_append, List.length_cons, List.length_nil, List.length_take, List.length_drop]; omega) | (have q1 := IsPort.rx ‹IsPort p›; have q2 := IsPort.tx ‹IsPort p›; simp only [List.length_append, List.length_cons, List.length_nil, List.length_take, List.length_drop]; omega) | (have q1 := IsPort.rx ‹IsPort a›; have q2 := IsPort.rx ‹IsPort b›; simp only [List.length_append, List.length_cons, List.length_nil, List.length_take, List.length_drop]; omega))).mono fun _ _ h => h.len) ?_
            rintro _ _ ⟨b7, rfl, rfl⟩
            refine draw_all [6] (by kernel_rfl) (by simp) ?_
            refine all_cons rfl rfl ?_ ?_
            · skip
              refine w_call rfl rfl rfl cl_69 ((co_impl_copyInts _ (by first | omega | (simp only [List.length_append, List.length_cons, List.length_nil, List.length_take, List.length_drop]; omega) | (have q1 := IsPort.rx ‹IsPort p›; have q2 := IsPort.tx ‹IsPort p›; simp only [List.length_append, List.length_cons, List.length_nil, List.length_take, List.length_drop]; omega) | (have q1 := IsPort.rx ‹IsPort a›; have q2 := IsPort.rx ‹IsPort b›; simp only [List.length_append, List.length_cons, List.length_nil, List.length_take, List.length_drop]; omega))).mono fun _ _ h => h.len) ?_
              rintro _ _ ⟨b8, rfl, rfl⟩
              refine draw_all [9] (by kernel_rfl) (by simp) ?_
              refine all_cons rfl rfl ?_ ?_
              · skip
                refine w_appendM eInt rfl el_36 rfl rfl (by repeat (first | exact Pick.here _ _ _ | apply Pick.next)) rfl (.sl _) (fun _ => rfl) (fun _ => rfl) (by simp; omega) (by simp; omega) (by first | (refine .inl ?_; simp; done) | (refine .inr ?_; simp [keys]; done)) fun b9 => ?_
                refine draw_all [10] (by kernel_rfl) (by simp) ?_
                refine all_cons rfl rfl ?_ ?_
                · skip
                  refine w_callR rfl rfl rfl cl_68 (c_impl_portWith _ _ _ _ _) ?_
                  refine draw_all [11] (by kernel_rfl) (by simp) ?_
                  refine all_cons rfl rfl ?_ ?_
                  · skip
                    refine w_store (cells' := [_, _, _, _]) rfl rfl rfl (by repeat (first | exact Pick.here _ _ _ | apply Pick.next)) cn_41 (by rfl) (by rfl) (by rfl) (by first | (refine .inl ?_; simp; done) | (refine .inr ?_; simp [keys]; done)) ?_
                    refine d_take 12 rfl (by kernel_rfl) (by kernel_rfl) (by kernel_rfl) rfl (p_assign rfl) ?_
                    refine draw_done (by kernel_rfl) ?_
                    refine a_ret ?_
                    refine ret_ok (hands2 rfl (.cell ag_41 rfl (by repeat (first | exact Pick.here _ _ _ | apply Pick.next)) (by rfl)) (.tmp rfl)) (st' := [(b7, _), (b9, _)]) (.cons (by repeat (first | exact Pick.here _ _ _ | apply Pick.next)) (.cons (by repeat (first | exact Pick.here _ _ _ | apply Pick.next)) (.nil _))) ?_
                    first | exact ⟨_, _, rfl, rfl⟩ | exact absurd hA.1 (by assumption) | exact absurd hA.2.1 (by assumption) | (exfalso; have h1 := hA.2.1; have h2 := hA.2.2; omega)
                  exact all_nil
                exact all_nil
              exact all_nil
            exact all_nil
          exact all_nil
        exact all_nil

theorem cf_impl_WritePort (p : Port) (hn : SmallPort p) (b : Int) (hA : GoodWrite p b) : ACalls Try.prog 41 [.agg (ePort p), .int .i64 b] [] (Ret (.tup [.agg (ePort (writeP p b)), .bool true])) :=
  (cy_impl_WritePort p hn b hA).freeze (by rintro _ _ ⟨_, _, rfl, rfl⟩; exact (.tup (.cons (.agg (.cons (.own (by repeat (first | exact List.Mem.head _ | apply List.Mem.tail)) (List.length_map _)) (.cons (.own (by repeat (first | exact List.Mem.head _ | apply List.Mem.tail)) (List.length_map _)) (.cons (.refl _) (.cons (.refl _) .nil))))) (.cons (.refl _) .nil))))

theorem cn_impl_WritePort (p : Port) (hn : SmallPort p) (b : Int) (hA : ¬ GoodWrite p b) : ACalls Try.prog 41 [.agg (ePort p), .int .i64 b] [] (Ret (.tup [.agg [.nil, .nil, .int .i64 0, .bool false], .bool false])) := by
  have hn1 : p.rx.length ≤ 1048576 := hn.1
  have hn2 : p.tx.length ≤ 1048576 := hn.2
  refine a_enter Try.func41 rfl rfl (fun w0 M0 => ?_)
  refine a_seq ?_
  refine a_region ?_
  refine aops_cons rfl (w_box_v rfl rfl rfl ?_)
  refine aops_cons rfl (w_alloc rfl z_41 fun b1 => ?_)
  refine aops_cons rfl (w_pure rfl (p_assign rfl) ?_)
  refine aops_nil ?_
  refine a_seq ?_
  refine a_seq ?_
  refine a_region ?_
  refine aops_cons rfl (w_pure rfl (p_load_v_all ag_41 rfl (by rfl) noX) ?_)
  refine aops_cons rfl (w_callR rfl rfl rfl cl_28 (c_impl_IsPort _ ‹_›) ?_)
  refine aops_cons rfl (w_pure rfl (p_not rfl) ?_)
  refine aops_cons rfl (w_pure rfl (p_move rfl) ?_)
  first | refine aops_split_d 9 rfl (fun h1 => ?_) (fun h2 => ?_) | refine aops_split 9 rfl (fun h1 => ?_) (fun h2 => ?_)
  · (try simp only [Bool.not_eq_true', Bool.not_eq_false', Bool.not_eq_true, Bool.not_eq_false, decide_eq_true_eq, decide_eq_false_iff_not, List.length_map, List.length_range] at h1)
    refine g_pass' rfl rfl rfl rfl rfl ?_
    refine g_pass' rfl rfl rfl rfl rfl ?_
    refine g_pass' rfl rfl rfl rfl rfl ?_
    refine aops_cons rfl (w_pure rfl (p_pick_t rfl rfl) ?_)
    refine aops_cons rfl (w_pure rfl (p_move rfl) ?_)
    refine g_pass' rfl rfl rfl rfl rfl ?_
    refine g_pass' rfl rfl rfl rfl rfl ?_
    refine g_pass' rfl rfl rfl rfl rfl ?_
    refine g_pass' rfl rfl rfl rfl rfl ?_
    refine aops_cons rfl (w_pure rfl (p_pick_t rfl rfl) ?_)
    refine aops_nil ?_
    refine a_cond_t rfl ?_
    refine a_seq ?_
    refine a_region ?_
    refine aops_cons rfl (w_pure rfl (p_build (cells := [_, _, _, _]) z_41 pl_41 rfl rfl) ?_)
    refine aops_cons rfl (w_store (cells' := [_, _, _, _]) rfl rfl rfl (by repeat (first | exact Pick.here _ _ _ | apply Pick.next)) cn_41 (by rfl) (by rfl) (by rfl) trivial ?_)
    refine aops_cons rfl (w_pure rfl (p_assign rfl) ?_)
    refine aops_nil ?_
    refine a_ret ?_
    refine ret_ok (hands2 rfl (.cell ag_41 rfl (by repeat (first | exact Pick.here _ _ _ | apply Pick.next)) (by rfl)) (.tmp rfl)) (.nil _) ?_
    first | exact ⟨rfl, rfl⟩ | exact absurd (show GoodWrite p b from ⟨by assumption, by omega, by omega⟩) hA | exact absurd (show GoodWrite p b from ⟨by assumption, by omega⟩) hA | exact absurd (show GoodWrite p b from ⟨by assumption, by assumption⟩) hA
  · (try simp only [Bool.not_eq_true', Bool.not_eq_false', Bool.not_eq_true, Bool.not_eq_false, decide_eq_true_eq, decide_eq_false_iff_not, List.length_map, List.length_range] at h2)
    refine aops_guard_t rfl rfl rfl (w_pure rfl (p_move rfl) ?_)
    refine aops_guard_t rfl rfl rfl (w_callR rfl rfl rfl cl_71 (c_impl_isByte ..) ?_)
    refine aops_guard_t rfl rfl rfl (w_pure rfl (p_not rfl) ?_)
    refine aops_cons rfl (w_pure rfl (p_pick_f rfl rfl) ?_)
    refine aops_cons rfl (w_pure rfl (p_move rfl) ?_)
    first | refine aops_split_d 14 rfl (fun h3 => ?_) (fun h4 => ?_) | refine aops_split 14 rfl (fun h3 => ?_) (fun h4 => ?_)
    · (try simp only [Bool.not_eq_true', Bool.not_eq_false', Bool.not_eq_true, Bool.not_eq_false, decide_eq_true_eq, decide_eq_false_iff_not, List.length_map, List.length_range] at h3)
      refine g_pass' rfl rfl rfl rfl rfl ?_
      refine g_pass' rfl rfl rfl rfl rfl ?_
      refine g_pass' rfl rfl rfl rfl rfl ?_
      refine g_pass' rfl rfl rfl rfl rfl ?_
      refine aops_cons rfl (w_pure rfl (p_pick_t rfl rfl) ?_)
      refine aops_nil ?_
      refine a_cond_t rfl ?_
      refine a_seq ?_
      refine a_region ?_
      refine aops_cons rfl (w_pure rfl (p_build (cells := [_, _, _, _]) z_41 pl_41 rfl rfl) ?_)
      refine aops_cons rfl (w_store (cells' := [_, _, _, _]) rfl rfl rfl (by repeat (first | exact Pick.here _ _ _ | apply Pick.next)) cn_41 (by rfl) (by rfl) (by rfl) trivial ?_)
      refine aops_cons rfl (w_pure rfl (p_assign rfl) ?_)
      refine aops_nil ?_
      refine a_ret ?_
      refine ret_ok (hands2 rfl (.cell ag_41 rfl (by repeat (first | exact Pick.here _ _ _ | apply Pick.next)) (by rfl)) (.tmp rfl)) (.nil _) ?_
      first | exact ⟨rfl, rfl⟩ | exact absurd (show GoodWrite p b from ⟨by assumption, by omega, by omega⟩) hA | exact absurd (show GoodWrite p b from ⟨by assumption, by omega⟩) hA | exact absurd (show GoodWrite p b from ⟨by assumption, by assumption⟩) hA
    · (try simp only [Bool.not_eq_true', Bool.not_eq_false', Bool.not_eq_true, Bool.not_eq_false, decide_eq_true_eq, decide_eq_false_iff_not, List.length_map, List.length_range] at h4)
      refine aops_guard_t rfl rfl rfl (w_pure rfl (p_field_v fo_41_1 rfl) ?_)
      refine aops_guard_t rfl rfl rfl (w_pure rfl (p_load_v ag_36 rfl (by rfl) noX) ?_)
      refine aops_guard_t rfl rfl rfl (w_pure rfl (p_len sl_36 rfl rfl) ?_)
      refine aops_guard_t rfl rfl rfl (w_pure rfl (p_eql rfl rfl) ?_)
      refine aops_cons rfl (w_pure rfl (p_pick_f rfl rfl) ?_)
      refine aops_nil ?_
      first | refine a_cond_d rfl (fun h5 => ?_) (fun h6 => ?_) | refine a_cond_n rfl (fun h5 => ?_) (fun h6 => ?_) | refine a_cond_nb rfl (fun h5 => ?_) (fun h6 => ?_) | refine a_cond rfl (fun h5 => ?_) (fun h6 => ?_)
      · (try simp only [Bool.not_eq_true', Bool.not_eq_false', Bool.not_eq_true, Bool.not_eq_false, decide_eq_true_eq, decide_eq_false_iff_not, List.length_map, List.length_range] at h5)
        refine a_seq ?_
        refine a_region ?_
        refine aops_cons rfl (w_pure rfl (p_build (cells := [_, _, _, _]) z_41 pl_41 rfl rfl) ?_)
        refine aops_cons rfl (w_store (cells' := [_, _, _, _]) rfl rfl rfl (by repeat (first | exact Pick.here _ _ _ | apply Pick.next)) cn_41 (by rfl) (by rfl) (by rfl) trivial ?_)
        refine aops_cons rfl (w_pure rfl (p_assign rfl) ?_)
        refine aops_nil ?_
        refine a_ret ?_
        refine ret_ok (hands2 rfl (.cell ag_41 rfl (by repeat (first | exact Pick.here _ _ _ | apply Pick.next)) (by rfl)) (.tmp rfl)) (.nil _) ?_
        first | exact ⟨rfl, rfl⟩ | exact absurd (show GoodWrite p b from ⟨by assumption, by omega, by omega⟩) hA | exact absurd (show GoodWrite p b from ⟨by assumption, by omega⟩) hA | exact absurd (show GoodWrite p b from ⟨by assumption, by assumption⟩) hA
      · (try simp only [Bool.not_eq_true', Bool.not_eq_false', Bool.not_eq_true, Bool.not_eq_false, decide_eq_true_eq, decide_eq_false_iff_not, List.length_map, List.length_range] at h6)
        refine a_skip ?_
        refine a_seq ?_
        refine a_draw [b1] (by kernel_rfl) ?_
        show ADraw _ _ _ _ _ _ 13 _ _ _ _
        refine d_load 0 rfl (by kernel_rfl) (by kernel_rfl) (by kernel_rfl) rfl (p_load_v_all ag_41 rfl (by rfl) (by simp [keys])) ?_
        refine d_take 1 rfl (by kernel_rfl) (by kernel_rfl) (by kernel_rfl) rfl (p_field_v fo_41_0 rfl) ?_
        refine d_load 2 rfl (by kernel_rfl) (by kernel_rfl) (by kernel_rfl) rfl (p_load_v ag_36 rfl (by rfl) (by simp [keys])) ?_
        refine d_take 4 rfl (by kernel_rfl) (by kernel_rfl) (by kernel_rfl) rfl (p_field_v fo_41_1 rfl) ?_
        refine d_load 5 rfl (by kernel_rfl) (by kernel_rfl) (by kernel_rfl) rfl (p_load_v ag_36 rfl (by rfl) (by simp [keys])) ?_
        refine d_take 7 rfl (by kernel_rfl) (by kernel_rfl) (by kernel_rfl) rfl (p_move rfl) ?_
        refine draw_all [3, 8] (by kernel_rfl) (by simp) ?_
        refine all_cons rfl rfl ?_ ?_
        · skip
          refine w_call rfl rfl rfl cl_69 ((co_impl_copyInts _ (by first | omega | (simp only [List.length_append, List.length_cons, List.length_nil, List.length_take, List.length_drop]; omega) | (have q1 := IsPort.rx ‹IsPort p›; have q2 := IsPort.tx ‹IsPort p›; simp only [List.length_append, List.length_cons, List.length_nil, List.length_take, List.length_drop]; omega) | (have q1 := IsPort.rx ‹IsPort a›; have q2 := IsPort.rx ‹IsPort b›; simp only [List.length_append, List.length_cons, List.length_nil, List.length_take, List.length_drop]; omega))).mono fun _ _ h => h.len) ?_
          rintro _ _ ⟨b2, rfl, rfl⟩
          refine draw_all [6, 8] (by kernel_rfl) (by simp) ?_
          refine all_cons rfl rfl ?_ ?_
          · skip
            refine w_call rfl rfl rfl cl_69 ((co_impl_copyInts _ (by first | omega | (simp only [List.length_append, List.length_cons, List.length_nil, List.length_take, List.length_drop]; omega) | (have q1 := IsPort.rx ‹IsPort p›; have q2 := IsPort.tx ‹IsPort p›; simp only [List.length_append, List.length_cons, List.length_nil, List.length_take, List.length_drop]; omega) | (have q1 := IsPort.rx ‹IsPort a›; have q2 := IsPort.rx ‹IsPort b›; simp only [List.length_append, List.length_cons, List.length_nil, List.length_take, List.length_drop]; omega))).mono fun _ _ h => h.len) ?_
            rintro _ _ ⟨b3, rfl, rfl⟩
            refine draw_all [8] (by kernel_rfl) (by simp) ?_
            refine all_cons rfl rfl ?_ ?_
            · skip
              refine w_lit_vM eInt [b] rfl el_36 rfl rfl rfl rfl rfl ?_
              refine draw_all [9] (by kernel_rfl) (by simp) ?_
              refine all_cons rfl rfl ?_ ?_
              · skip
                refine w_appendM eInt rfl el_36 rfl rfl (by repeat (first | exact Pick.here _ _ _ | apply Pick.next)) rfl (.sl _) (fun _ => rfl) (fun _ => rfl) (by simp; omega) (by simp; omega) (by first | (refine .inl ?_; simp; done) | (refine .inr ?_; simp [keys]; done)) fun b4 => ?_
                refine draw_all [10] (by kernel_rfl) (by simp) ?_
                refine all_cons rfl rfl ?_ ?_
                · skip
                  refine w_callR rfl rfl rfl cl_68 (c_impl_portWith _ _ _ _ _) ?_
                  refine draw_all [11] (by kernel_rfl) (by simp) ?_
                  refine all_cons rfl rfl ?_ ?_
                  · skip
                    refine w_store (cells' := [_, _, _, _]) rfl rfl rfl (by repeat (first | exact Pick.here _ _ _ | apply Pick.next)) cn_41 (by rfl) (by rfl) (by rfl) (by first | (refine .inl ?_; simp; done) | (refine .inr ?_; simp [keys]; done)) ?_
                    refine d_take 12 rfl (by kernel_rfl) (by kernel_rfl) (by kernel_rfl) rfl (p_assign rfl) ?_
                    refine draw_done (by kernel_rfl) ?_
                    refine a_ret ?_
                    refine ret_ok (hands2 rfl (.cell ag_41 rfl (by repeat (first | exact Pick.here _ _ _ | apply Pick.next)) (by rfl)) (.tmp rfl)) (st' := [(b2, _), (b4, _)]) (.cons (by repeat (first | exact Pick.here _ _ _ | apply Pick.next)) (.cons (by repeat (first | exact Pick.here _ _ _ | apply Pick.next)) (.nil _))) ?_
                    first | exact ⟨rfl, rfl⟩ | exact absurd (show GoodWrite p b from ⟨by assumption, by omega, by omega⟩) hA | exact absurd (show GoodWrite p b from ⟨by assumption, by omega⟩) hA | exact absurd (show GoodWrite p b from ⟨by assumption, by assumption⟩) hA
                  exact all_nil
                exact all_nil
              exact all_nil
            exact all_nil
          refine all_cons rfl rfl ?_ ?_
          · skip
            refine w_lit_vM eInt [b] rfl el_36 rfl rfl rfl rfl rfl ?_
            refine draw_all [6] (by kernel_rfl) (by simp) ?_
            refine all_cons rfl rfl ?_ ?_
            · skip
              refine w_call rfl rfl rfl cl_69 ((co_impl_copyInts _ (by first | omega | (simp only [List.length_append, List.length_cons, List.length_nil, List.length_take, List.length_drop]; omega) | (have q1 := IsPort.rx ‹IsPort p›; have q2 := IsPort.tx ‹IsPort p›; simp only [List.length_append, List.length_cons, List.length_nil, List.length_take, List.length_drop]; omega) | (have q1 := IsPort.rx ‹IsPort a›; have q2 := IsPort.rx ‹IsPort b›; simp only [List.length_append, List.length_cons, List.length_nil, List.length_take, List.length_drop]; omega))).mono fun _ _ h => h.len) ?_
              rintro _ _ ⟨b5, rfl, rfl⟩
              refine draw_all [9] (by kernel_rfl) (by simp) ?_
              refine all_cons rfl rfl ?_ ?_
              · skip
                refine w_appendM eInt rfl el_36 rfl rfl (by repeat (first | exact Pick.here _ _ _ | apply Pick.next)) rfl (.sl _) (fun _ => rfl) (fun _ => rfl) (by simp; omega) (by simp; omega) (by first | (refine .inl ?_; simp; done) | (refine .inr ?_; simp [keys]; done)) fun b6 => ?_
                refine draw_all [10] (by kernel_rfl) (by simp) ?_
                refine all_cons rfl rfl ?_ ?_
                · skip
                  refine w_callR rfl rfl rfl cl_68 (c_impl_portWith _ _ _ _ _) ?_
                  refine draw_all [11] (by kernel_rfl) (by simp) ?_
                  refine all_cons rfl rfl ?_ ?_
                  · skip
                    refine w_store (cells' := [_, _, _, _]) rfl rfl rfl (by repeat (first | exact Pick.here _ _ _ | apply Pick.next)) cn_41 (by rfl) (by rfl) (by rfl) (by first | (refine .inl ?_; simp; done) | (refine .inr ?_; simp [keys]; done)) ?_
                    refine d_take 12 rfl (by kernel_rfl) (by kernel_rfl) (by kernel_rfl) rfl (p_assign rfl) ?_
                    refine draw_done (by kernel_rfl) ?_
                    refine a_ret ?_
                    refine ret_ok (hands2 rfl (.cell ag_41 rfl (by repeat (first | exact Pick.here _ _ _ | apply Pick.next)) (by rfl)) (.tmp rfl)) (st' := [(b2, _), (b6, _)]) (.cons (by repeat (first | exact Pick.here _ _ _ | apply Pick.next)) (.cons (by repeat (first | exact Pick.here _ _ _ | apply Pick.next)) (.nil _))) ?_
                    first | exact ⟨rfl, rfl⟩ | exact absurd (show GoodWrite p b from ⟨by assumption, by omega, by omega⟩) hA | exact absurd (show GoodWrite p b from ⟨by assumption, by omega⟩) hA | exact absurd (show GoodWrite p b from ⟨by assumption, by assumption⟩) hA
                  exact all_nil
                exact all_nil
              exact all_nil
            exact all_nil
          exact all_nil
        refine all_cons rfl rfl ?_ ?_
        · skip
          refine w_lit_vM eInt [b] rfl el_36 rfl rfl rfl rfl rfl ?_
          refine draw_all [3] (by kernel_rfl) (by simp) ?_
          refine all_cons rfl rfl ?_ ?_
          · skip
            refine w_call rfl rfl rfl cl_69 ((co_impl_copyInts _ (by first | omega | (simp only [List.length_append, List.length_cons, List.length_nil, List.length_take, List.length_drop]; omega) | (have q1 := IsPort.rx ‹IsPort p›; have q2 := IsPort.tx ‹IsPort p›; simp only [List.length_append, List.length_cons, List.length_nil, List.length_take, List.length_drop]; omega) | (have q1 := IsPort.rx ‹IsPort a›; have q2 := IsPort.rx ‹IsPort b›; simp only [List.length_append, List.length_cons, List.length_nil, List.length_take, List.length_drop]; omega))).mono fun _ _ h => h.len) ?_
            rintro _ _ ⟨b7, rfl, rfl⟩
            refine draw_all [6] (by kernel_rfl) (by simp) ?_
            refine all_cons rfl rfl ?_ ?_
            · skip
              refine w_call rfl rfl rfl cl_69 ((co_impl_copyInts _ (by first | omega | (simp only [List.length_append, List.length_cons, List.length_nil, List.length_take, List.length_drop]; omega) | (have q1 := IsPort.rx ‹IsPort p›; have q2 := IsPort.tx ‹IsPort p›; simp only [List.length_append, List.length_cons, List.length_nil, List.length_take, List.length_drop]; omega) | (have q1 := IsPort.rx ‹IsPort a›; have q2 := IsPort.rx ‹IsPort b›; simp only [List.length_append, List.length_cons, List.length_nil, List.length_take, List.length_drop]; omega))).mono fun _ _ h => h.len) ?_
              rintro _ _ ⟨b8, rfl, rfl⟩
              refine draw_all [9] (by kernel_rfl) (by simp) ?_
              refine all_cons rfl rfl ?_ ?_
              · skip
                refine w_appendM eInt rfl el_36 rfl rfl (by repeat (first | exact Pick.here _ _ _ | apply Pick.next)) rfl (.sl _) (fun _ => rfl) (fun _ => rfl) (by simp; omega) (by simp; omega) (by first | (refine .inl ?_; simp; done) | (refine .inr ?_; simp [keys]; done)) fun b9 => ?_
                refine draw_all [10] (by kernel_rfl) (by simp) ?_
                refine all_cons rfl rfl ?_ ?_
                · skip
                  refine w_callR rfl rfl rfl cl_68 (c_impl_portWith _ _ _ _ _) ?_
                  refine draw_all [11] (by kernel_rfl) (by simp) ?_
                  refine all_cons rfl rfl ?_ ?_
                  · skip
                    refine w_store (cells' := [_, _, _, _]) rfl rfl rfl (by repeat (first | exact Pick.here _ _ _ | apply Pick.next)) cn_41 (by rfl) (by rfl) (by rfl) (by first | (refine .inl ?_; simp; done) | (refine .inr ?_; simp [keys]; done)) ?_
                    refine d_take 12 rfl (by kernel_rfl) (by kernel_rfl) (by kernel_rfl) rfl (p_assign rfl) ?_
                    refine draw_done (by kernel_rfl) ?_
                    refine a_ret ?_
                    refine ret_ok (hands2 rfl (.cell ag_41 rfl (by repeat (first | exact Pick.here _ _ _ | apply Pick.next)) (by rfl)) (.tmp rfl)) (st' := [(b7, _), (b9, _)]) (.cons (by repeat (first | exact Pick.here _ _ _ | apply Pick.next)) (.cons (by repeat (first | exact Pick.here _ _ _ | apply Pick.next)) (.nil _))) ?_
                    first | exact ⟨rfl, rfl⟩ | exact absurd (show GoodWrite p b from ⟨by assumption, by omega, by omega⟩) hA | exact absurd (show GoodWrite p b from ⟨by assumption, by omega⟩) hA | exact absurd (show GoodWrite p b from ⟨by assumption, by assumption⟩) hA
                  exact all_nil
                exact all_nil
              exact all_nil
            exact all_nil
          exact all_nil
        exact all_nil

theorem c_laws_FnExactWritePort (p : Port) (_hc0 : okPort p) (b : Int) (_hc1 : InI b) : ACalls Try.prog 11 [.agg (ePort p), .int .i64 b] [] (Ret (.bool true)) := by
  have hm0 : p.rx.length ≤ 9223372036854775807 ∧ p.tx.length ≤ 9223372036854775807 := ⟨_hc0.1.2, _hc0.2.1.2⟩
  have hq0 : szPort p 1048576 ≤ 1048576 := szPort_ub (Int.le_refl _)
  by_cases hA : GoodWrite p b
  all_goals refine a_enter Try.func11 rfl rfl (fun w0 M0 => ?_)
  · skip
    refine a_seq ?_
    refine a_region ?_
    refine aops_cons rfl (w_box_v rfl rfl rfl ?_)
    refine aops_cons rfl (w_pure rfl (p_assign rfl) ?_)
    refine aops_nil ?_
    refine a_seq ?_
    refine a_region ?_
    refine aops_cons rfl (w_pure rfl (p_assign rfl) ?_)
    refine aops_nil ?_
    refine a_seq ?_
    refine a_region ?_
    refine aops_cons rfl (w_pure rfl (p_load_v_all ag_38 rfl (by rfl) noX) ?_)
    refine aops_cons rfl (w_pure rfl (p_move rfl) ?_)
    refine aops_cons rfl (w_callR rfl rfl rfl cl_25 (c_laws_szPort _ (by assumption) _ (by omega) (by omega)) ?_)
    refine aops_cons rfl (w_pure rfl (p_assign rfl) ?_)
    refine aops_nil ?_
    refine a_seq ?_
    refine a_seq ?_
    refine a_region ?_
    refine aops_cons rfl (w_pure rfl (p_move rfl) ?_)
    refine aops_cons rfl (w_pure rfl (p_lss rfl rfl) ?_)
    refine aops_nil ?_
    first | refine a_cond_d rfl (fun h1 => ?_) (fun h2 => ?_) | refine a_cond_n rfl (fun h1 => ?_) (fun h2 => ?_) | refine a_cond_nb rfl (fun h1 => ?_) (fun h2 => ?_) | refine a_cond rfl (fun h1 => ?_) (fun h2 => ?_)
    · (try simp only [Bool.not_eq_true', Bool.not_eq_false', Bool.not_eq_true, Bool.not_eq_false, decide_eq_true_eq, decide_eq_false_iff_not, List.length_map, List.length_range] at h1)
      refine a_seq ?_
      refine a_region ?_
      refine aops_cons rfl (w_pure rfl (p_assign rfl) ?_)
      refine aops_nil ?_
      refine a_ret ?_
      refine ret_ok (hands1 rfl (.tmp rfl)) (.nil _) ?_
      first | exact ⟨rfl, rfl⟩ | (exfalso; omega)
    · (try simp only [Bool.not_eq_true', Bool.not_eq_false', Bool.not_eq_true, Bool.not_eq_false, decide_eq_true_eq, decide_eq_false_iff_not, List.length_map, List.length_range] at h2)
      refine a_skip ?_
      refine a_seq ?_
      have hl0 : SmallPort p := szPort_le (left := 1048576) (by omega) (by omega) ‹_›; have hz0_ := hl0; simp only [SmallPort] at hz0_; obtain ⟨hz0_0, hz0_1⟩ := hz0_
      refine a_region ?_
      refine aops_cons rfl (w_pure rfl (p_load_v_all ag_38 rfl (by rfl) noX) ?_)
      refine aops_cons rfl (w_callR rfl rfl rfl cl_27 (c_laws_toPort p hl0) ?_)
      refine aops_cons rfl (w_pure rfl (p_move rfl) ?_)
      refine aops_cons rfl (w_callR rfl rfl rfl cl_40 (cy_spec_WritePort p hl0 b hA) ?_)
      refine aops_cons rfl (w_pure rfl (p_move rfl) ?_)
      refine aops_cons rfl (w_pure rfl (p_extract rfl rfl) ?_)
      refine aops_cons rfl (w_pure rfl (p_extract rfl rfl) ?_)
      refine aops_cons rfl (w_alloc rfl z_41 fun b1 => ?_)
      refine aops_cons rfl (w_store (cells' := [_, _, _, _]) rfl rfl rfl (by repeat (first | exact Pick.here _ _ _ | apply Pick.next)) cn_41 (by rfl) (by rfl) (by rfl) trivial ?_)
      refine aops_cons rfl (w_pure rfl (p_assign rfl) ?_)
      refine aops_nil ?_
      refine a_seq ?_
      refine a_region ?_
      refine aops_cons rfl (w_pure rfl (p_load_v_all ag_38 rfl (by rfl) noX) ?_)
      refine aops_cons rfl (w_call rfl rfl rfl cl_27 (co_laws_toPort p hl0) ?_)
      rintro _ _ ⟨b2, b3, rfl, rfl⟩
      refine aops_cons rfl (w_alloc rfl z_41 fun b4 => ?_)
      refine aops_cons rfl (w_store (cells' := [_, _, _, _]) rfl rfl rfl (by repeat (first | exact Pick.here _ _ _ | apply Pick.next)) cn_41 (by rfl) (by rfl) (by rfl) trivial ?_)
      refine aops_nil ?_
      refine a_seq ?_
      refine a_region ?_
      refine aops_cons rfl (w_pure rfl (p_load_box_all ag_41 rfl (by repeat (first | exact Pick.here _ _ _ | apply Pick.next)) (by rfl) noX) ?_)
      refine aops_cons rfl (w_pure rfl (p_move rfl) ?_)
      refine aops_cons rfl (w_callL rfl rfl rfl cl_41 (.cons (.agg (.cons (.own (by repeat (first | exact List.Mem.head _ | apply List.Mem.tail)) (by first | (simp; done) | (simp [mkL]; done))) (.cons (.own (by repeat (first | exact List.Mem.head _ | apply List.Mem.tail)) (by first | (simp; done) | (simp [mkL]; done))) (.cons (.refl _) (.cons (.refl _) .nil))))) (.cons (.refl _) .nil)) (cy_impl_WritePort p hl0 b hA) ?_)
      rintro _ _ ⟨b5, b6, rfl, rfl⟩
      refine ⟨(closed_tup (all_cons' (closed_agg (all_cons' (closed_own _ _ _ _) (all_cons' (closed_own _ _ _ _) (all_cons' (closed_int _ _) (all_cons' (closed_bool _) all_nil'))))) (all_cons' (closed_bool _) all_nil'))), (closedS_cons (closedAll _ _ _ _ cl_eInt) (closedS_cons (closedAll _ _ _ _ cl_eInt) closedS_nil)), ?_⟩
      refine aops_cons rfl (w_pure rfl (p_move rfl) ?_)
      refine aops_cons rfl (w_pure rfl (p_extract rfl rfl) ?_)
      refine aops_cons rfl (w_pure rfl (p_extract rfl rfl) ?_)
      refine aops_cons rfl (w_alloc rfl z_41 fun b7 => ?_)
      refine aops_cons rfl (w_store (cells' := [_, _, _, _]) rfl rfl rfl (by repeat (first | exact Pick.here _ _ _ | apply Pick.next)) cn_41 (by rfl) (by rfl) (by rfl) trivial ?_)
      refine aops_cons rfl (w_pure rfl (p_assign rfl) ?_)
      refine aops_nil ?_
      refine a_seq ?_
      refine a_seq ?_
      refine a_region ?_
      refine aops_cons rfl (w_pure rfl (p_load_box_all ag_41 rfl (by repeat (first | exact Pick.here _ _ _ | apply Pick.next)) (by rfl) noX) ?_)
      refine aops_cons rfl (w_pure rfl (p_load_box_all ag_41 rfl (by repeat (first | exact Pick.here _ _ _ | apply Pick.next)) (by rfl) noX) ?_)
      refine aops_cons rfl (w_callLR rfl rfl rfl cl_29 (.cons (.agg (.cons (.own (by repeat (first | exact List.Mem.head _ | apply List.Mem.tail)) (by first | (simp; done) | (simp [mkL]; done))) (.cons (.own (by repeat (first | exact List.Mem.head _ | apply List.Mem.tail)) (by first | (simp; done) | (simp [mkL]; done))) (.cons (.refl _) (.cons (.refl _) .nil))))) (.cons (.refl _) .nil)) (c_laws_eqPort (writeP p b) (small_write hA)) (closed_bool _) ?_)
      refine aops_cons rfl (w_pure rfl (p_not rfl) ?_)
      refine aops_cons rfl (w_pure rfl (p_move rfl) ?_)
      refine aops_guard_t rfl rfl rfl (w_pure rfl (p_move rfl) ?_)
      refine aops_guard_t rfl rfl rfl (w_pure rfl (p_move rfl) ?_)
      refine aops_guard_t rfl rfl rfl (w_pure rfl (p_neq_bsame um_4 rfl rfl) ?_)
      refine aops_cons rfl (w_pure rfl (p_pick_f rfl rfl) ?_)
      refine aops_nil ?_
      refine a_cond_f rfl ?_
      refine a_skip ?_
      refine a_seq ?_
      refine a_seq ?_
      refine a_draw [] (by kernel_rfl) ?_
      show ADraw _ _ _ _ _ _ 5 _ _ _ _
      refine d_load 0 rfl (by kernel_rfl) (by kernel_rfl) (by kernel_rfl) rfl (p_load_box_all ag_41 rfl (by repeat (first | exact Pick.here _ _ _ | apply Pick.next)) (by rfl) noX) ?_
      refine d_load 1 rfl (by kernel_rfl) (by kernel_rfl) (by kernel_rfl) rfl (p_load_v_all ag_38 rfl (by rfl) noX) ?_
      refine draw_all [2] (by kernel_rfl) (by simp) ?_
      refine all_cons rfl rfl ?_ ?_
      · skip
        refine w_callR rfl rfl rfl cl_27 (c_laws_toPort p hl0) ?_
        refine draw_all [3] (by kernel_rfl) (by simp) ?_
        refine all_cons rfl rfl ?_ ?_
        · skip
          refine w_callLR rfl rfl rfl cl_29 (.cons (.agg (.cons (.own (by repeat (first | exact List.Mem.head _ | apply List.Mem.tail)) (by first | (simp; done) | (simp [mkL]; done))) (.cons (.own (by repeat (first | exact List.Mem.head _ | apply List.Mem.tail)) (by first | (simp; done) | (simp [mkL]; done))) (.cons (.refl _) (.cons (.refl _) .nil))))) (.cons (.refl _) .nil)) (c_laws_eqPort p hl0) (closed_bool _) ?_
          refine d_take 4 rfl (by kernel_rfl) (by kernel_rfl) (by kernel_rfl) rfl (p_not rfl) ?_
          refine draw_done (by kernel_rfl) ?_
          refine a_cond_f rfl ?_
          refine a_skip ?_
          refine a_seq ?_
          refine a_region ?_
          refine aops_cons rfl (w_pure rfl (p_assign rfl) ?_)
          refine aops_nil ?_
          refine a_seq ?_
          refine a_region ?_
          refine aops_cons rfl (w_pure rfl (p_load_box_all ag_41 rfl (by repeat (first | exact Pick.here _ _ _ | apply Pick.next)) (by rfl) noX) ?_)
          refine aops_cons rfl (w_pure rfl (p_move rfl) ?_)
          refine aops_cons rfl (w_callM rfl rfl rfl cl_36 (.cons (by repeat (first | exact Pick.here _ _ _ | apply Pick.next)) (.cons (by repeat (first | exact Pick.here _ _ _ | apply Pick.next)) (.nil _))) (.cons (.refl _) (.cons (.refl _) .nil)) (c_laws_markPort _ _ p hl0 _ (by omega) (by omega)) trivial ?_)
          rintro _ _ ⟨rfl, rfl⟩
          refine ⟨(closed_int _ _), (closedS_cons (closedAll _ _ _ _ cl_eInt) (closedS_cons (closedAll _ _ _ _ cl_eInt) closedS_nil)), ?_⟩
          refine aops_cons rfl (w_pure rfl (p_assign rfl) ?_)
          refine aops_nil ?_
          refine a_seq ?_
          refine a_seq ?_
          refine a_region ?_
          refine aops_cons rfl (w_pure rfl (p_move rfl) ?_)
          refine aops_cons rfl (w_pure rfl (p_lss rfl rfl) ?_)
          refine aops_cons rfl (w_pure rfl (p_move rfl) ?_)
          first | refine aops_split_d 55 rfl (fun h3 => ?_) (fun h4 => ?_) | refine aops_split 55 rfl (fun h3 => ?_) (fun h4 => ?_)
          · (try simp only [Bool.not_eq_true', Bool.not_eq_false', Bool.not_eq_true, Bool.not_eq_false, decide_eq_true_eq, decide_eq_false_iff_not, List.length_map, List.length_range] at h3)
            refine g_pass' rfl rfl rfl rfl rfl ?_
            refine g_pass' rfl rfl rfl rfl rfl ?_
            refine g_pass' rfl rfl rfl rfl rfl ?_
            refine g_pass' rfl rfl rfl rfl rfl ?_
            refine aops_cons rfl (w_pure rfl (p_pick_t rfl rfl) ?_)
            refine aops_cons rfl (w_pure rfl (p_move rfl) ?_)
            refine g_pass' rfl rfl rfl rfl rfl ?_
            refine g_pass' rfl rfl rfl rfl rfl ?_
            refine g_pass' rfl rfl rfl rfl rfl ?_
            refine aops_cons rfl (w_pure rfl (p_pick_t rfl rfl) ?_)
            refine aops_nil ?_
            refine a_cond_t rfl ?_
            refine a_seq ?_
            refine a_region ?_
            refine aops_cons rfl (w_pure rfl (p_assign rfl) ?_)
            refine aops_nil ?_
            refine a_ret ?_
            refine ret_ok (hands1 rfl (.tmp rfl)) (.nil _) ?_
            first | exact ⟨rfl, rfl⟩ | (exfalso; omega)
          · (try simp only [Bool.not_eq_true', Bool.not_eq_false', Bool.not_eq_true, Bool.not_eq_false, decide_eq_true_eq, decide_eq_false_iff_not, List.length_map, List.length_range] at h4)
            refine aops_guard_t rfl rfl rfl (w_pure rfl (p_load_box_all ag_41 rfl (by repeat (first | exact Pick.here _ _ _ | apply Pick.next)) (by rfl) noX) ?_)
            refine aops_guard_t rfl rfl rfl (w_pure rfl (p_load_box_all ag_41 rfl (by repeat (first | exact Pick.here _ _ _ | apply Pick.next)) (by rfl) noX) ?_)
            refine aops_guard_t rfl rfl rfl (w_callLR rfl rfl rfl cl_29 (.cons (.agg (.cons (.own (by repeat (first | exact List.Mem.head _ | apply List.Mem.tail)) (by first | (simp; done) | (simp [mkL]; done))) (.cons (.own (by repeat (first | exact List.Mem.head _ | apply List.Mem.tail)) (by first | (simp; done) | (simp [mkL]; done))) (.cons (.refl _) (.cons (.refl _) .nil))))) (.cons (.refl _) .nil)) (c_laws_eqPort (writeP p b) (small_write hA)) (closed_bool _) ?_)
            refine aops_guard_t rfl rfl rfl (w_pure rfl (p_not rfl) ?_)
            refine aops_cons rfl (w_pure rfl (p_pick_f rfl rfl) ?_)
            refine aops_cons rfl (w_pure rfl (p_move rfl) ?_)
            refine aops_guard_t rfl rfl rfl (w_pure rfl (p_move rfl) ?_)
            refine aops_guard_t rfl rfl rfl (w_pure rfl (p_move rfl) ?_)
            refine aops_guard_t rfl rfl rfl (w_pure rfl (p_neq_bsame um_4 rfl rfl) ?_)
            refine aops_cons rfl (w_pure rfl (p_pick_f rfl rfl) ?_)
            refine aops_nil ?_
            refine a_cond_f rfl ?_
            refine a_skip ?_
            refine a_seq ?_
            refine a_region ?_
            refine aops_cons rfl (w_pure rfl (p_assign rfl) ?_)
            refine aops_nil ?_
            refine a_seq ?_
            refine a_region ?_
            refine aops_cons rfl (w_pure rfl (p_load_box_all ag_41 rfl (by repeat (first | exact Pick.here _ _ _ | apply Pick.next)) (by rfl) noX) ?_)
            refine aops_cons rfl (w_pure rfl (p_move rfl) ?_)
            refine aops_cons rfl (w_callM rfl rfl rfl cl_36 (.cons (by repeat (first | exact Pick.here _ _ _ | apply Pick.next)) (.cons (by repeat (first | exact Pick.here _ _ _ | apply Pick.next)) (.nil _))) (.cons (.refl _) (.cons (.refl _) .nil)) (c_laws_markPort _ _ (writeP p b) (small_write hA) _ (by omega) (by omega)) trivial ?_)
            rintro _ _ ⟨rfl, rfl⟩
            refine ⟨(closed_int _ _), (closedS_cons (closedAll _ _ _ _ cl_eInt) (closedS_cons (closedAll _ _ _ _ cl_eInt) closedS_nil)), ?_⟩
            refine aops_cons rfl (w_pure rfl (p_assign rfl) ?_)
            refine aops_nil ?_
            refine a_seq ?_
            refine a_region ?_
            refine aops_cons rfl (w_pure rfl (p_assign rfl) ?_)
            refine aops_nil ?_
            refine a_seq ?_
            refine a_region ?_
            refine aops_cons rfl (w_pure rfl (p_load_box_all ag_41 rfl (by repeat (first | exact Pick.here _ _ _ | apply Pick.next)) (by rfl) noX) ?_)
            refine aops_cons rfl (w_pure rfl (p_move rfl) ?_)
            refine aops_cons rfl (w_callLR rfl rfl rfl cl_37 (.cons (.agg (.cons (.own (by repeat (first | exact List.Mem.head _ | apply List.Mem.tail)) (by first | (simp; done) | (simp [mkL]; done))) (.cons (.own (by repeat (first | exact List.Mem.head _ | apply List.Mem.tail)) (by first | (simp; done) | (simp [mkL]; done))) (.cons (.refl _) (.cons (.refl _) .nil))))) (.cons (.refl _) .nil)) (c_laws_heldPort (writeP p b) (small_write hA) _ (by omega) (by omega)) (closed_int _ _) ?_)
            refine aops_cons rfl (w_pure rfl (p_assign rfl) ?_)
            refine aops_nil ?_
            refine a_seq ?_
            refine a_seq ?_
            refine a_region ?_
            refine aops_cons rfl (w_pure rfl (p_move rfl) ?_)
            refine aops_cons rfl (w_pure rfl (p_lss rfl rfl) ?_)
            refine aops_nil ?_
            first | refine a_cond_d rfl (fun h5 => ?_) (fun h6 => ?_) | refine a_cond_n rfl (fun h5 => ?_) (fun h6 => ?_) | refine a_cond_nb rfl (fun h5 => ?_) (fun h6 => ?_) | refine a_cond rfl (fun h5 => ?_) (fun h6 => ?_)
            · (try simp only [Bool.not_eq_true', Bool.not_eq_false', Bool.not_eq_true, Bool.not_eq_false, decide_eq_true_eq, decide_eq_false_iff_not, List.length_map, List.length_range] at h5)
              refine a_seq ?_
              refine a_region ?_
              refine aops_cons rfl (w_pure rfl (p_assign rfl) ?_)
              refine aops_nil ?_
              refine a_ret ?_
              refine ret_ok (hands1 rfl (.tmp rfl)) (.nil _) ?_
              first | exact ⟨rfl, rfl⟩ | (exfalso; omega)
            · (try simp only [Bool.not_eq_true', Bool.not_eq_false', Bool.not_eq_true, Bool.not_eq_false, decide_eq_true_eq, decide_eq_false_iff_not, List.length_map, List.length_range] at h6)
              refine a_skip ?_
              refine a_seq ?_
              refine a_seq ?_
              refine a_region ?_
              refine aops_cons rfl (w_pure rfl (p_move rfl) ?_)
              refine aops_cons rfl (w_pure rfl (p_move rfl) ?_)
              refine aops_cons rfl (w_pure rfl (p_neq_same rfl rfl) ?_)
              refine aops_nil ?_
              refine a_cond_f rfl ?_
              refine a_skip ?_
              refine a_seq ?_
              refine a_region ?_
              refine aops_cons rfl (w_pure rfl (p_load_v_all ag_38 rfl (by rfl) noX) ?_)
              refine aops_cons rfl (w_callR rfl rfl rfl cl_27 (c_laws_toPort p hl0) ?_)
              refine aops_cons rfl (w_pure rfl (p_move rfl) ?_)
              refine aops_cons rfl (w_callR rfl rfl rfl cl_41 (cf_impl_WritePort p hl0 b hA) ?_)
              refine aops_cons rfl (w_pure rfl (p_move rfl) ?_)
              refine aops_cons rfl (w_pure rfl (p_extract rfl rfl) ?_)
              refine aops_cons rfl (w_pure rfl (p_extract rfl rfl) ?_)
              refine aops_cons rfl (w_alloc rfl z_41 fun b8 => ?_)
              refine aops_cons rfl (w_store (cells' := [_, _, _, _]) rfl rfl rfl (by repeat (first | exact Pick.here _ _ _ | apply Pick.next)) cn_41 (by rfl) (by rfl) (by rfl) trivial ?_)
              refine aops_cons rfl (w_pure rfl (p_assign rfl) ?_)
              refine aops_nil ?_
              refine a_seq ?_
              refine a_seq ?_
              refine a_region ?_
              refine aops_cons rfl (w_pure rfl (p_load_box_all ag_41 rfl (by repeat (first | exact Pick.here _ _ _ | apply Pick.next)) (by rfl) noX) ?_)
              refine aops_cons rfl (w_pure rfl (p_load_box_all ag_41 rfl (by repeat (first | exact Pick.here _ _ _ | apply Pick.next)) (by rfl) noX) ?_)
              refine aops_cons rfl (w_callLR rfl rfl rfl cl_29 (.cons (.refl _) (.cons (.refl _) .nil)) (c_laws_eqPort (writeP p b) (small_write hA)) (closed_bool _) ?_)
              refine aops_cons rfl (w_pure rfl (p_not rfl) ?_)
              refine aops_cons rfl (w_pure rfl (p_move rfl) ?_)
              refine aops_guard_t rfl rfl rfl (w_pure rfl (p_move rfl) ?_)
              refine aops_guard_t rfl rfl rfl (w_pure rfl (p_move rfl) ?_)
              refine aops_guard_t rfl rfl rfl (w_pure rfl (p_neq_bsame um_4 rfl rfl) ?_)
              refine aops_cons rfl (w_pure rfl (p_pick_f rfl rfl) ?_)
              refine aops_nil ?_
              refine a_cond_f rfl ?_
              refine a_skip ?_
              refine a_seq ?_
              refine a_region ?_
              refine aops_cons rfl (w_pure rfl (p_assign rfl) ?_)
              refine aops_nil ?_
              refine a_seq ?_
              refine a_region ?_
              refine aops_cons rfl (w_pure rfl (p_load_box_all ag_41 rfl (by repeat (first | exact Pick.here _ _ _ | apply Pick.next)) (by rfl) noX) ?_)
              refine aops_cons rfl (w_pure rfl (p_move rfl) ?_)
              refine aops_cons rfl (w_callLR rfl rfl rfl cl_37 (.cons (.agg (.cons (.own (by repeat (first | exact List.Mem.head _ | apply List.Mem.tail)) (by first | (simp; done) | (simp [mkL]; done))) (.cons (.own (by repeat (first | exact List.Mem.head _ | apply List.Mem.tail)) (by first | (simp; done) | (simp [mkL]; done))) (.cons (.refl _) (.cons (.refl _) .nil))))) (.cons (.refl _) .nil)) (c_laws_heldPort (writeP p b) (small_write hA) _ (by omega) (by omega)) (closed_int _ _) ?_)
              refine aops_cons rfl (w_pure rfl (p_assign rfl) ?_)
              refine aops_nil ?_
              refine a_seq ?_
              refine a_seq ?_
              refine a_region ?_
              refine aops_cons rfl (w_pure rfl (p_move rfl) ?_)
              refine aops_cons rfl (w_pure rfl (p_lss rfl rfl) ?_)
              refine aops_nil ?_
              first | refine a_cond_d rfl (fun h7 => ?_) (fun h8 => ?_) | refine a_cond_n rfl (fun h7 => ?_) (fun h8 => ?_) | refine a_cond_nb rfl (fun h7 => ?_) (fun h8 => ?_) | refine a_cond rfl (fun h7 => ?_) (fun h8 => ?_)
              · (try simp only [Bool.not_eq_true', Bool.not_eq_false', Bool.not_eq_true, Bool.not_eq_false, decide_eq_true_eq, decide_eq_false_iff_not, List.length_map, List.length_range] at h7)
                refine a_seq ?_
                refine a_region ?_
                refine aops_cons rfl (w_pure rfl (p_assign rfl) ?_)
                refine aops_nil ?_
                refine a_ret ?_
                refine ret_ok (hands1 rfl (.tmp rfl)) (.nil _) ?_
                first | exact ⟨rfl, rfl⟩ | (exfalso; omega)
              · (try simp only [Bool.not_eq_true', Bool.not_eq_false', Bool.not_eq_true, Bool.not_eq_false, decide_eq_true_eq, decide_eq_false_iff_not, List.length_map, List.length_range] at h8)
                refine a_skip ?_
                refine a_seq ?_
                refine a_seq ?_
                refine a_region ?_
                refine aops_cons rfl (w_pure rfl (p_move rfl) ?_)
                refine aops_cons rfl (w_pure rfl (p_move rfl) ?_)
                refine aops_cons rfl (w_pure rfl (p_neq_same rfl rfl) ?_)
                refine aops_nil ?_
                refine a_cond_f rfl ?_
                refine a_skip ?_
                refine a_seq ?_
                refine a_region ?_
                refine aops_cons rfl (w_pure rfl (p_assign rfl) ?_)
                refine aops_nil ?_
                refine a_ret ?_
                refine ret_ok (hands1 rfl (.tmp rfl)) (.nil _) ?_
                first | exact ⟨rfl, rfl⟩ | (exfalso; omega)
        exact all_nil
      exact all_nil
  · skip
    refine a_seq ?_
    refine a_region ?_
    refine aops_cons rfl (w_box_v rfl rfl rfl ?_)
    refine aops_cons rfl (w_pure rfl (p_assign rfl) ?_)
    refine aops_nil ?_
    refine a_seq ?_
    refine a_region ?_
    refine aops_cons rfl (w_pure rfl (p_assign rfl) ?_)
    refine aops_nil ?_
    refine a_seq ?_
    refine a_region ?_
    refine aops_cons rfl (w_pure rfl (p_load_v_all ag_38 rfl (by rfl) noX) ?_)
    refine aops_cons rfl (w_pure rfl (p_move rfl) ?_)
    refine aops_cons rfl (w_callR rfl rfl rfl cl_25 (c_laws_szPort _ (by assumption) _ (by omega) (by omega)) ?_)
    refine aops_cons rfl (w_pure rfl (p_assign rfl) ?_)
    refine aops_nil ?_
    refine a_seq ?_
    refine a_seq ?_
    refine a_region ?_
    refine aops_cons rfl (w_pure rfl (p_move rfl) ?_)
    refine aops_cons rfl (w_pure rfl (p_lss rfl rfl) ?_)
    refine aops_nil ?_
    first | refine a_cond_d rfl (fun h1 => ?_) (fun h2 => ?_) | refine a_cond_n rfl (fun h1 => ?_) (fun h2 => ?_) | refine a_cond_nb rfl (fun h1 => ?_) (fun h2 => ?_) | refine a_cond rfl (fun h1 => ?_) (fun h2 => ?_)
    · (try simp only [Bool.not_eq_true', Bool.not_eq_false', Bool.not_eq_true, Bool.not_eq_false, decide_eq_true_eq, decide_eq_false_iff_not, List.length_map, List.length_range] at h1)
      refine a_seq ?_
      refine a_region ?_
      refine aops_cons rfl (w_pure rfl (p_assign rfl) ?_)
      refine aops_nil ?_
      refine a_ret ?_
      refine ret_ok (hands1 rfl (.tmp rfl)) (.nil _) ?_
      first | exact ⟨rfl, rfl⟩ | (exfalso; omega)
    · (try simp only [Bool.not_eq_true', Bool.not_eq_false', Bool.not_eq_true, Bool.not_eq_false, decide_eq_true_eq, decide_eq_false_iff_not, List.length_map, List.length_range] at h2)
      refine a_skip ?_
      refine a_seq ?_
      have hl0 : SmallPort p := szPort_le (left := 1048576) (by omega) (by omega) ‹_›; have hz0_ := hl0; simp only [SmallPort] at hz0_; obtain ⟨hz0_0, hz0_1⟩ := hz0_
      refine a_region ?_
      refine aops_cons rfl (w_pure rfl (p_load_v_all ag_38 rfl (by rfl) noX) ?_)
      refine aops_cons rfl (w_callR rfl rfl rfl cl_27 (c_laws_toPort p hl0) ?_)
      refine aops_cons rfl (w_pure rfl (p_move rfl) ?_)
      refine aops_cons rfl (w_callR rfl rfl rfl cl_40 (cn_spec_WritePort p hl0 b hA) ?_)
      refine aops_cons rfl (w_pure rfl (p_move rfl) ?_)
      refine aops_cons rfl (w_pure rfl (p_extract rfl rfl) ?_)
      refine aops_cons rfl (w_pure rfl (p_extract rfl rfl) ?_)
      refine aops_cons rfl (w_alloc rfl z_41 fun b1 => ?_)
      refine aops_cons rfl (w_store (cells' := [_, _, _, _]) rfl rfl rfl (by repeat (first | exact Pick.here _ _ _ | apply Pick.next)) cn_41 (by rfl) (by rfl) (by rfl) trivial ?_)
      refine aops_cons rfl (w_pure rfl (p_assign rfl) ?_)
      refine aops_nil ?_
      refine a_seq ?_
      refine a_region ?_
      refine aops_cons rfl (w_pure rfl (p_load_v_all ag_38 rfl (by rfl) noX) ?_)
      refine aops_cons rfl (w_call rfl rfl rfl cl_27 (co_laws_toPort p hl0) ?_)
      rintro _ _ ⟨b2, b3, rfl, rfl⟩
      refine aops_cons rfl (w_alloc rfl z_41 fun b4 => ?_)
      refine aops_cons rfl (w_store (cells' := [_, _, _, _]) rfl rfl rfl (by repeat (first | exact Pick.here _ _ _ | apply Pick.next)) cn_41 (by rfl) (by rfl) (by rfl) trivial ?_)
      refine aops_nil ?_
      refine a_seq ?_
      refine a_region ?_
      refine aops_cons rfl (w_pure rfl (p_load_box_all ag_41 rfl (by repeat (first | exact Pick.here _ _ _ | apply Pick.next)) (by rfl) noX) ?_)
      refine aops_cons rfl (w_pure rfl (p_move rfl) ?_)
      refine aops_cons rfl (w_callLR rfl rfl rfl cl_41 (.cons (.agg (.cons (.own (by repeat (first | exact List.Mem.head _ | apply List.Mem.tail)) (by first | (simp; done) | (simp [mkL]; done))) (.cons (.own (by repeat (first | exact List.Mem.head _ | apply List.Mem.tail)) (by first | (simp; done) | (simp [mkL]; done))) (.cons (.refl _) (.cons (.refl _) .nil))))) (.cons (.refl _) .nil)) (cn_impl_WritePort p hl0 b hA) (closed_tup (all_cons' (closed_agg (all_cons' closed_nil (all_cons' closed_nil (all_cons' (closed_int _ _) (all_cons' (closed_bool _) all_nil'))))) (all_cons' (closed_bool _) all_nil'))) ?_)
      refine aops_cons rfl (w_pure rfl (p_move rfl) ?_)
      refine aops_cons rfl (w_pure rfl (p_extract rfl rfl) ?_)
      refine aops_cons rfl (w_pure rfl (p_extract rfl rfl) ?_)
      refine aops_cons rfl (w_alloc rfl z_41 fun b5 => ?_)
      refine aops_cons rfl (w_store (cells' := [_, _, _, _]) rfl rfl rfl (by repeat (first | exact Pick.here _ _ _ | apply Pick.next)) cn_41 (by rfl) (by rfl) (by rfl) trivial ?_)
      refine aops_cons rfl (w_pure rfl (p_assign rfl) ?_)
      refine aops_nil ?_
      refine a_seq ?_
      refine a_seq ?_
      refine a_region ?_
      refine aops_cons rfl (w_pure rfl (p_load_box_all ag_41 rfl (by repeat (first | exact Pick.here _ _ _ | apply Pick.next)) (by rfl) noX) ?_)
      refine aops_cons rfl (w_pure rfl (p_load_box_all ag_41 rfl (by repeat (first | exact Pick.here _ _ _ | apply Pick.next)) (by rfl) noX) ?_)
      refine aops_cons rfl (w_callLR rfl rfl rfl cl_29 (.cons (.agg (.cons .nil (.cons .nil (.cons (.refl _) (.cons (.refl _) .nil))))) (.cons (.agg (.cons .nil (.cons .nil (.cons (.refl _) (.cons (.refl _) .nil))))) .nil)) (c_laws_eqPort (⟨[], [], 0, false⟩ : Port) (by first | decide | (simp; done) | exact ⟨by decide, by decide⟩)) (closed_bool _) ?_)
      refine aops_cons rfl (w_pure rfl (p_not rfl) ?_)
      refine aops_cons rfl (w_pure rfl (p_move rfl) ?_)
      refine aops_guard_t rfl rfl rfl (w_pure rfl (p_move rfl) ?_)
      refine aops_guard_t rfl rfl rfl (w_pure rfl (p_move rfl) ?_)
      refine aops_guard_t rfl rfl rfl (w_pure rfl (p_neq_bsame um_4 rfl rfl) ?_)
      refine aops_cons rfl (w_pure rfl (p_pick_f rfl rfl) ?_)
      refine aops_nil ?_
      refine a_cond_f rfl ?_
      refine a_skip ?_
      refine a_seq ?_
      refine a_seq ?_
      refine a_draw [] (by kernel_rfl) ?_
      show ADraw _ _ _ _ _ _ 5 _ _ _ _
      refine d_load 0 rfl (by kernel_rfl) (by kernel_rfl) (by kernel_rfl) rfl (p_load_box_all ag_41 rfl (by repeat (first | exact Pick.here _ _ _ | apply Pick.next)) (by rfl) noX) ?_
      refine d_load 1 rfl (by kernel_rfl) (by kernel_rfl) (by kernel_rfl) rfl (p_load_v_all ag_38 rfl (by rfl) noX) ?_
      refine draw_all [2] (by kernel_rfl) (by simp) ?_
      refine all_cons rfl rfl ?_ ?_
      · skip
        refine w_callR rfl rfl rfl cl_27 (c_laws_toPort p hl0) ?_
        refine draw_all [3] (by kernel_rfl) (by simp) ?_
        refine all_cons rfl rfl ?_ ?_
        · skip
          refine w_callLR rfl rfl rfl cl_29 (.cons (.agg (.cons (.own (by repeat (first | exact List.Mem.head _ | apply List.Mem.tail)) (by first | (simp; done) | (simp [mkL]; done))) (.cons (.own (by repeat (first | exact List.Mem.head _ | apply List.Mem.tail)) (by first | (simp; done) | (simp [mkL]; done))) (.cons (.refl _) (.cons (.refl _) .nil))))) (.cons (.refl _) .nil)) (c_laws_eqPort p hl0) (closed_bool _) ?_
          refine d_take 4 rfl (by kernel_rfl) (by kernel_rfl) (by kernel_rfl) rfl (p_not rfl) ?_
          refine draw_done (by kernel_rfl) ?_
          refine a_cond_f rfl ?_
          refine a_skip ?_
          refine a_seq ?_
          refine a_region ?_
          refine aops_cons rfl (w_pure rfl (p_assign rfl) ?_)
          refine aops_nil ?_
          refine a_seq ?_
          refine a_region ?_
          refine aops_cons rfl (w_pure rfl (p_load_box_all ag_41 rfl (by repeat (first | exact Pick.here _ _ _ | apply Pick.next)) (by rfl) noX) ?_)
          refine aops_cons rfl (w_pure rfl (p_move rfl) ?_)
          refine aops_cons rfl (w_callM rfl rfl rfl cl_36 (.cons (by repeat (first | exact Pick.here _ _ _ | apply Pick.next)) (.cons (by repeat (first | exact Pick.here _ _ _ | apply Pick.next)) (.nil _))) (.cons (.refl _) (.cons (.refl _) .nil)) (c_laws_markPort _ _ p hl0 _ (by omega) (by omega)) trivial ?_)
          rintro _ _ ⟨rfl, rfl⟩
          refine ⟨(closed_int _ _), (closedS_cons (closedAll _ _ _ _ cl_eInt) (closedS_cons (closedAll _ _ _ _ cl_eInt) closedS_nil)), ?_⟩
          refine aops_cons rfl (w_pure rfl (p_assign rfl) ?_)
          refine aops_nil ?_
          refine a_seq ?_
          refine a_seq ?_
          refine a_region ?_
          refine aops_cons rfl (w_pure rfl (p_move rfl) ?_)
          refine aops_cons rfl (w_pure rfl (p_lss rfl rfl) ?_)
          refine aops_cons rfl (w_pure rfl (p_move rfl) ?_)
          first | refine aops_split_d 55 rfl (fun h3 => ?_) (fun h4 => ?_) | refine aops_split 55 rfl (fun h3 => ?_) (fun h4 => ?_)
          · (try simp only [Bool.not_eq_true', Bool.not_eq_false', Bool.not_eq_true, Bool.not_eq_false, decide_eq_true_eq, decide_eq_false_iff_not, List.length_map, List.length_range] at h3)
            refine g_pass' rfl rfl rfl rfl rfl ?_
            refine g_pass' rfl rfl rfl rfl rfl ?_
            refine g_pass' rfl rfl rfl rfl rfl ?_
            refine g_pass' rfl rfl rfl rfl rfl ?_
            refine aops_cons rfl (w_pure rfl (p_pick_t rfl rfl) ?_)
            refine aops_cons rfl (w_pure rfl (p_move rfl) ?_)
            refine g_pass' rfl rfl rfl rfl rfl ?_
            refine g_pass' rfl rfl rfl rfl rfl ?_
            refine g_pass' rfl rfl rfl rfl rfl ?_
            refine aops_cons rfl (w_pure rfl (p_pick_t rfl rfl) ?_)
            refine aops_nil ?_
            refine a_cond_t rfl ?_
            refine a_seq ?_
            refine a_region ?_
            refine aops_cons rfl (w_pure rfl (p_assign rfl) ?_)
            refine aops_nil ?_
            refine a_ret ?_
            refine ret_ok (hands1 rfl (.tmp rfl)) (.nil _) ?_
            first | exact ⟨rfl, rfl⟩ | (exfalso; omega)
          · (try simp only [Bool.not_eq_true', Bool.not_eq_false', Bool.not_eq_true, Bool.not_eq_false, decide_eq_true_eq, decide_eq_false_iff_not, List.length_map, List.length_range] at h4)
            refine aops_guard_t rfl rfl rfl (w_pure rfl (p_load_box_all ag_41 rfl (by repeat (first | exact Pick.here _ _ _ | apply Pick.next)) (by rfl) noX) ?_)
            refine aops_guard_t rfl rfl rfl (w_pure rfl (p_load_box_all ag_41 rfl (by repeat (first | exact Pick.here _ _ _ | apply Pick.next)) (by rfl) noX) ?_)
            refine aops_guard_t rfl rfl rfl (w_callLR rfl rfl rfl cl_29 (.cons (.agg (.cons .nil (.cons .nil (.cons (.refl _) (.cons (.refl _) .nil))))) (.cons (.agg (.cons .nil (.cons .nil (.cons (.refl _) (.cons (.refl _) .nil))))) .nil)) (c_laws_eqPort (⟨[], [], 0, false⟩ : Port) (by first | decide | (simp; done) | exact ⟨by decide, by decide⟩)) (closed_bool _) ?_)
            refine aops_guard_t rfl rfl rfl (w_pure rfl (p_not rfl) ?_)
            refine aops_cons rfl (w_pure rfl (p_pick_f rfl rfl) ?_)
            refine aops_cons rfl (w_pure rfl (p_move rfl) ?_)
            refine aops_guard_t rfl rfl rfl (w_pure rfl (p_move rfl) ?_)
            refine aops_guard_t rfl rfl rfl (w_pure rfl (p_move rfl) ?_)
            refine aops_guard_t rfl rfl rfl (w_pure rfl (p_neq_bsame um_4 rfl rfl) ?_)
            refine aops_cons rfl (w_pure rfl (p_pick_f rfl rfl) ?_)
            refine aops_nil ?_
            refine a_cond_f rfl ?_
            refine a_skip ?_
            refine a_seq ?_
            refine a_region ?_
            refine aops_cons rfl (w_pure rfl (p_assign rfl) ?_)
            refine aops_nil ?_
            refine a_seq ?_
            refine a_region ?_
            refine aops_cons rfl (w_pure rfl (p_load_box_all ag_41 rfl (by repeat (first | exact Pick.here _ _ _ | apply Pick.next)) (by rfl) noX) ?_)
            refine aops_cons rfl (w_pure rfl (p_move rfl) ?_)
            refine aops_cons rfl (w_callR rfl rfl rfl cl_36 (cn_laws_markPort ..) ?_)
            refine aops_cons rfl (w_pure rfl (p_assign rfl) ?_)
            refine aops_nil ?_
            refine a_seq ?_
            refine a_region ?_
            refine aops_cons rfl (w_pure rfl (p_assign rfl) ?_)
            refine aops_nil ?_
            refine a_seq ?_
            refine a_region ?_
            refine aops_cons rfl (w_pure rfl (p_load_box_all ag_41 rfl (by repeat (first | exact Pick.here _ _ _ | apply Pick.next)) (by rfl) noX) ?_)
            refine aops_cons rfl (w_pure rfl (p_move rfl) ?_)
            refine aops_cons rfl (w_callLR rfl rfl rfl cl_37 (.cons (.agg (.cons .nil (.cons .nil (.cons (.refl _) (.cons (.refl _) .nil))))) (.cons (.refl _) .nil)) (c_laws_heldPort (⟨[], [], 0, false⟩ : Port) (by first | decide | (simp; done) | exact ⟨by decide, by decide⟩) _ (by omega) (by omega)) (closed_int _ _) ?_)
            refine aops_cons rfl (w_pure rfl (p_assign rfl) ?_)
            refine aops_nil ?_
            refine a_seq ?_
            refine a_seq ?_
            refine a_region ?_
            refine aops_cons rfl (w_pure rfl (p_move rfl) ?_)
            refine aops_cons rfl (w_pure rfl (p_lss rfl rfl) ?_)
            refine aops_nil ?_
            first | refine a_cond_d rfl (fun h5 => ?_) (fun h6 => ?_) | refine a_cond_n rfl (fun h5 => ?_) (fun h6 => ?_) | refine a_cond_nb rfl (fun h5 => ?_) (fun h6 => ?_) | refine a_cond rfl (fun h5 => ?_) (fun h6 => ?_)
            · (try simp only [Bool.not_eq_true', Bool.not_eq_false', Bool.not_eq_true, Bool.not_eq_false, decide_eq_true_eq, decide_eq_false_iff_not, List.length_map, List.length_range] at h5)
              refine a_seq ?_
              refine a_region ?_
              refine aops_cons rfl (w_pure rfl (p_assign rfl) ?_)
              refine aops_nil ?_
              refine a_ret ?_
              refine ret_ok (hands1 rfl (.tmp rfl)) (.nil _) ?_
              first | exact ⟨rfl, rfl⟩ | (exfalso; omega)
            · (try simp only [Bool.not_eq_true', Bool.not_eq_false', Bool.not_eq_true, Bool.not_eq_false, decide_eq_true_eq, decide_eq_false_iff_not, List.length_map, List.length_range] at h6)
              refine a_skip ?_
              refine a_seq ?_
              refine a_seq ?_
              refine a_region ?_
              refine aops_cons rfl (w_pure rfl (p_move rfl) ?_)
              refine aops_cons rfl (w_pure rfl (p_move rfl) ?_)
              refine aops_cons rfl (w_pure rfl (p_neq_same rfl rfl) ?_)
              refine aops_nil ?_
              refine a_cond_f rfl ?_
              refine a_skip ?_
              refine a_seq ?_
              refine a_region ?_
              refine aops_cons rfl (w_pure rfl (p_load_v_all ag_38 rfl (by rfl) noX) ?_)
              refine aops_cons rfl (w_callR rfl rfl rfl cl_27 (c_laws_toPort p hl0) ?_)
              refine aops_cons rfl (w_pure rfl (p_move rfl) ?_)
              refine aops_cons rfl (w_callR rfl rfl rfl cl_41 (cn_impl_WritePort p hl0 b hA) ?_)
              refine aops_cons rfl (w_pure rfl (p_move rfl) ?_)
              refine aops_cons rfl (w_pure rfl (p_extract rfl rfl) ?_)
              refine aops_cons rfl (w_pure rfl (p_extract rfl rfl) ?_)
              refine aops_cons rfl (w_alloc rfl z_41 fun b6 => ?_)
              refine aops_cons rfl (w_store (cells' := [_, _, _, _]) rfl rfl rfl (by repeat (first | exact Pick.here _ _ _ | apply Pick.next)) cn_41 (by rfl) (by rfl) (by rfl) trivial ?_)
              refine aops_cons rfl (w_pure rfl (p_assign rfl) ?_)
              refine aops_nil ?_
              refine a_seq ?_
              refine a_seq ?_
              refine a_region ?_
              refine aops_cons rfl (w_pure rfl (p_load_box_all ag_41 rfl (by repeat (first | exact Pick.here _ _ _ | apply Pick.next)) (by rfl) noX) ?_)
              refine aops_cons rfl (w_pure rfl (p_load_box_all ag_41 rfl (by repeat (first | exact Pick.here _ _ _ | apply Pick.next)) (by rfl) noX) ?_)
              refine aops_cons rfl (w_callLR rfl rfl rfl cl_29 (.cons (.agg (.cons .nil (.cons .nil (.cons (.refl _) (.cons (.refl _) .nil))))) (.cons (.agg (.cons .nil (.cons .nil (.cons (.refl _) (.cons (.refl _) .nil))))) .nil)) (c_laws_eqPort (⟨[], [], 0, false⟩ : Port) (by first | decide | (simp; done) | exact ⟨by decide, by decide⟩)) (closed_bool _) ?_)
              refine aops_cons rfl (w_pure rfl (p_not rfl) ?_)
              refine aops_cons rfl (w_pure rfl (p_move rfl) ?_)
              refine aops_guard_t rfl rfl rfl (w_pure rfl (p_move rfl) ?_)
              refine aops_guard_t rfl rfl rfl (w_pure rfl (p_move rfl) ?_)
              refine aops_guard_t rfl rfl rfl (w_pure rfl (p_neq_bsame um_4 rfl rfl) ?_)
              refine aops_cons rfl (w_pure rfl (p_pick_f rfl rfl) ?_)
              refine aops_nil ?_
              refine a_cond_f rfl ?_
              refine a_skip ?_
              refine a_seq ?_
              refine a_region ?_
              refine aops_cons rfl (w_pure rfl (p_assign rfl) ?_)
              refine aops_nil ?_
              refine a_seq ?_
              refine a_region ?_
              refine aops_cons rfl (w_pure rfl (p_load_box_all ag_41 rfl (by repeat (first | exact Pick.here _ _ _ | apply Pick.next)) (by rfl) noX) ?_)
              refine aops_cons rfl (w_pure rfl (p_move rfl) ?_)
              refine aops_cons rfl (w_callLR rfl rfl rfl cl_37 (.cons (.agg (.cons .nil (.cons .nil (.cons (.refl _) (.cons (.refl _) .nil))))) (.cons (.refl _) .nil)) (c_laws_heldPort (⟨[], [], 0, false⟩ : Port) (by first | decide | (simp; done) | exact ⟨by decide, by decide⟩) _ (by omega) (by omega)) (closed_int _ _) ?_)
              refine aops_cons rfl (w_pure rfl (p_assign rfl) ?_)
              refine aops_nil ?_
              refine a_seq ?_
              refine a_seq ?_
              refine a_region ?_
              refine aops_cons rfl (w_pure rfl (p_move rfl) ?_)
              refine aops_cons rfl (w_pure rfl (p_lss rfl rfl) ?_)
              refine aops_nil ?_
              first | refine a_cond_d rfl (fun h7 => ?_) (fun h8 => ?_) | refine a_cond_n rfl (fun h7 => ?_) (fun h8 => ?_) | refine a_cond_nb rfl (fun h7 => ?_) (fun h8 => ?_) | refine a_cond rfl (fun h7 => ?_) (fun h8 => ?_)
              · (try simp only [Bool.not_eq_true', Bool.not_eq_false', Bool.not_eq_true, Bool.not_eq_false, decide_eq_true_eq, decide_eq_false_iff_not, List.length_map, List.length_range] at h7)
                refine a_seq ?_
                refine a_region ?_
                refine aops_cons rfl (w_pure rfl (p_assign rfl) ?_)
                refine aops_nil ?_
                refine a_ret ?_
                refine ret_ok (hands1 rfl (.tmp rfl)) (.nil _) ?_
                first | exact ⟨rfl, rfl⟩ | (exfalso; omega)
              · (try simp only [Bool.not_eq_true', Bool.not_eq_false', Bool.not_eq_true, Bool.not_eq_false, decide_eq_true_eq, decide_eq_false_iff_not, List.length_map, List.length_range] at h8)
                refine a_skip ?_
                refine a_seq ?_
                refine a_seq ?_
                refine a_region ?_
                refine aops_cons rfl (w_pure rfl (p_move rfl) ?_)
                refine aops_cons rfl (w_pure rfl (p_move rfl) ?_)
                refine aops_cons rfl (w_pure rfl (p_neq_same rfl rfl) ?_)
                refine aops_nil ?_
                refine a_cond_f rfl ?_
                refine a_skip ?_
                refine a_seq ?_
                refine a_region ?_
                refine aops_cons rfl (w_pure rfl (p_assign rfl) ?_)
                refine aops_nil ?_
                refine a_ret ?_
                refine ret_ok (hands1 rfl (.tmp rfl)) (.nil _) ?_
                first | exact ⟨rfl, rfl⟩ | (exfalso; omega)
        exact all_nil
      exact all_nil

end Go.Proofs.Ytinbacenkbfifaa
