/-
  The walks of this part: each theorem is the contract of one function. Condition: none but those that it names.
-/
import Derived.Test.YtejlhpmmgjfllaaCtxBd
import Derived.Test.YtejlhpmmgjfllaaCtxBF
import Derived.Test.YtejlhpmmgjfllaaCtxA
namespace Go.Proofs.Ytejlhpmmgjfllaa
open Go Go.Fw Go.Hv
attribute [local irreducible] awp Aops Aop ADraw ADrawAll ACalls
set_option maxRecDepth 4000
set_option linter.unusedSimpArgs false
set_option linter.unusedVariables false

theorem c_laws_markIntS (b : Nat) (xs : List Int) (hn : xs.length ≤ 1048576) (k : Int) (k0 : 0 ≤ k) (k1 : k ≤ 100000000) : ACalls Try.prog 19 [.own 1 b 0 xs.length, .int .i64 k] [(b, .arr 3 1 (xs.map eInt))] (fun r st => r = .int .i64 (k + 1 * xs.length) ∧ st = [(b, .arr 3 1 (((List.range xs.length).map (mkI k)).map eInt))]) := by
  refine a_enter Try.func19 rfl rfl (fun w0 M0 => ?_)
  refine a_seq ?_
  refine a_region ?_
  refine aops_cons rfl (w_pure rfl (p_assign rfl) ?_)
  refine aops_nil ?_
  refine a_seq ?_
  refine a_seq ?_
  refine a_region ?_
  refine aops_cons rfl (w_pure rfl (p_assign rfl) ?_)
  refine aops_nil ?_
  refine a_block ?_
  refine a_loop (ι := Nat × Int) (fun ⟨i, m⟩ => i ≤ xs.length ∧ m = k + 1 * i) (fun ⟨i, m⟩ => [(5, .int .i64 (i : Int)), (1, .int .i64 m)]) (fun ⟨i, m⟩ => [(b, .arr 3 1 ((putTo (mkI k) xs i).map eInt))]) (fun ⟨i, m⟩ => xs.length - i) (0, k) ⟨Nat.zero_le _, by simp⟩ (by repeat (first | exact Knows.nil | refine Knows.cons (by rfl) ?_)) (by repeat (first | exact Picks.nil _ | exact Pick.here _ _ _ | apply Pick.next | apply Picks.cons)) ?_
  rintro ⟨i, m⟩ ⟨hi, hI⟩
  subst hI
  refine a_seq ?_
  refine a_seq ?_
  refine a_region ?_
  refine aops_cons rfl (w_pure rfl (p_move rfl) ?_)
  refine aops_cons rfl (w_pure rfl (p_move rfl) ?_)
  refine aops_cons rfl (w_pure rfl (p_len sl_22 rfl rfl) ?_)
  refine aops_cons rfl (w_pure rfl (p_lss rfl rfl) ?_)
  refine aops_nil ?_
  first | refine a_cond_d rfl (fun h1 => ?_) (fun h2 => ?_) | refine a_cond_n rfl (fun h1 => ?_) (fun h2 => ?_) | refine a_cond_nb rfl (fun h1 => ?_) (fun h2 => ?_) | refine a_cond rfl (fun h1 => ?_) (fun h2 => ?_)
  · (try simp only [Bool.not_eq_true', Bool.not_eq_false', Bool.not_eq_true, Bool.not_eq_false, decide_eq_true_eq, decide_eq_false_iff_not, List.length_map, List.length_range] at h1)
    refine a_skip ?_
    refine a_seq ?_
    refine a_block ?_
    refine a_seq ?_
    refine a_region ?_
    refine aops_cons rfl (w_pure rfl (p_move rfl) ?_)
    refine aops_cons rfl (w_pure rfl (p_move rfl) ?_)
    refine aops_cons rfl (w_pure rfl (p_move rfl) ?_)
    refine aops_cons rfl (w_pure rfl (p_index_own0 _ rfl rfl rfl (by omega) es_22) ?_)
    refine aops_cons rfl (w_store_eM eInt (mkI k i) rfl rfl rfl (by repeat (first | exact Pick.here _ _ _ | apply Pick.next)) (by rw [putTo_length _ _ hi]; omega) cn_3 (by rfl) (by rfl) (by rfl) trivial ?_)
    rw [putTo_set _ _ (by omega)]
    refine aops_nil ?_
    refine a_region ?_
    refine aops_cons rfl (w_pure rfl (p_move rfl) ?_)
    refine aops_cons rfl (w_pure rfl (p_add' rfl rfl ⟨by omega, by omega⟩) ?_)
    refine aops_cons rfl (w_pure rfl (p_assign rfl) ?_)
    refine aops_nil ?_
    refine a_region ?_
    refine aops_cons rfl (w_pure rfl (p_move rfl) ?_)
    refine aops_cons rfl (w_pure rfl (p_add' rfl rfl ⟨by omega, by omega⟩) ?_)
    refine aops_cons rfl (w_pure rfl (p_assign rfl) ?_)
    refine aops_nil ?_
    refine ⟨(i + 1, _), _, ?_, ?_, (by repeat (first | exact Knows.nil | refine Knows.cons (by rfl) ?_)), (by repeat (first | exact Back.refl _ _ | refine Back.cons (by rfl) ?_)), (by repeat (first | exact Picks.nil _ | exact Pick.here _ _ _ | apply Pick.next | apply Picks.cons))⟩
    · exact ⟨by omega, by omega⟩
    · (try dsimp only); omega
  · (try simp only [Bool.not_eq_true', Bool.not_eq_false', Bool.not_eq_true, Bool.not_eq_false, decide_eq_true_eq, decide_eq_false_iff_not, List.length_map, List.length_range] at h2)
    refine a_exit ?_
    refine a_seq ?_
    refine a_region ?_
    refine aops_cons rfl (w_pure rfl (p_move rfl) ?_)
    refine aops_cons rfl (w_pure rfl (p_assign rfl) ?_)
    refine aops_nil ?_
    refine a_ret ?_
    refine ret_ok (hands1 rfl (.tmp rfl)) (.cons (.here _ _ _) (.nil _)) ?_
    have hx : i = xs.length := (by omega); subst hx; exact ⟨rfl, by rw [putTo_len _ _ (by omega) (Nat.le_refl _)]⟩

theorem cn_laws_markIntS (k : Int) : ACalls Try.prog 19 [.nil, .int .i64 k] [] (Ret (.int .i64 (k + 1 * (([] : List Int).length : Int)))) := by
  refine a_enter Try.func19 rfl rfl (fun w0 M0 => ?_)
  refine a_seq ?_
  refine a_region ?_
  refine aops_cons rfl (w_pure rfl (p_assign rfl) ?_)
  refine aops_nil ?_
  refine a_seq ?_
  refine a_seq ?_
  refine a_region ?_
  refine aops_cons rfl (w_pure rfl (p_assign rfl) ?_)
  refine aops_nil ?_
  refine a_block ?_
  refine a_loop (ι := Nat) (fun i => i ≤ 0) (fun i => [(5, .int .i64 (i : Int))]) (fun i => []) (fun i => 0 - i) 0 (Nat.zero_le _) (by repeat (first | exact Knows.nil | refine Knows.cons (by rfl) ?_)) (by repeat (first | exact Picks.nil _ | exact Pick.here _ _ _ | apply Pick.next | apply Picks.cons)) ?_
  rintro i hi
  skip
  refine a_seq ?_
  refine a_seq ?_
  refine a_region ?_
  refine aops_cons rfl (w_pure rfl (p_move rfl) ?_)
  refine aops_cons rfl (w_pure rfl (p_move rfl) ?_)
  refine aops_cons rfl (w_pure rfl (p_len sl_22 rfl rfl) ?_)
  refine aops_cons rfl (w_pure rfl (p_lss rfl rfl) ?_)
  refine aops_nil ?_
  first | refine a_cond_d rfl (fun h1 => ?_) (fun h2 => ?_) | refine a_cond_n rfl (fun h1 => ?_) (fun h2 => ?_) | refine a_cond_nb rfl (fun h1 => ?_) (fun h2 => ?_) | refine a_cond rfl (fun h1 => ?_) (fun h2 => ?_)
  · (try simp only [Bool.not_eq_true', Bool.not_eq_false', Bool.not_eq_true, Bool.not_eq_false, decide_eq_true_eq, decide_eq_false_iff_not, List.length_map, List.length_range] at h1); exfalso; omega
  · (try simp only [Bool.not_eq_true', Bool.not_eq_false', Bool.not_eq_true, Bool.not_eq_false, decide_eq_true_eq, decide_eq_false_iff_not, List.length_map, List.length_range] at h2)
    refine a_exit ?_
    refine a_seq ?_
    refine a_region ?_
    refine aops_cons rfl (w_pure rfl (p_move rfl) ?_)
    refine aops_cons rfl (w_pure rfl (p_assign rfl) ?_)
    refine aops_nil ?_
    refine a_ret ?_
    refine ret_ok (hands1 rfl (.tmp rfl)) (.nil _) ?_
    exact ⟨by simp, rfl⟩

theorem c_laws_heldIntS (n : Nat) (hn : n ≤ 1048576) (k : Int) (k0 : 0 ≤ k) (k1 : k ≤ 100000000) : ACalls Try.prog 20 [.sl (((List.range n).map (mkI k)).map eInt), .int .i64 k] [] (Ret (.int .i64 (k + 1 * n))) := by
  refine a_enter Try.func20 rfl rfl (fun w0 M0 => ?_)
  refine a_seq ?_
  refine a_region ?_
  refine aops_cons rfl (w_pure rfl (p_assign rfl) ?_)
  refine aops_nil ?_
  refine a_seq ?_
  refine a_seq ?_
  refine a_region ?_
  refine aops_cons rfl (w_pure rfl (p_assign rfl) ?_)
  refine aops_nil ?_
  refine a_block ?_
  refine a_loop (ι := Nat × Int) (fun ⟨i, m⟩ => i ≤ n ∧ m = k + 1 * i) (fun ⟨i, m⟩ => [(5, .int .i64 (i : Int)), (1, .int .i64 m)]) (fun ⟨i, m⟩ => []) (fun ⟨i, m⟩ => n - i) (0, k) ⟨Nat.zero_le _, by simp⟩ (by repeat (first | exact Knows.nil | refine Knows.cons (by rfl) ?_)) (by repeat (first | exact Picks.nil _ | exact Pick.here _ _ _ | apply Pick.next | apply Picks.cons)) ?_
  rintro ⟨i, m⟩ ⟨hi, hI⟩
  subst hI
  refine a_seq ?_
  refine a_seq ?_
  refine a_region ?_
  refine aops_cons rfl (w_pure rfl (p_move rfl) ?_)
  refine aops_cons rfl (w_pure rfl (p_move rfl) ?_)
  refine aops_cons rfl (w_pure rfl (p_len sl_22 rfl rfl) ?_)
  refine aops_cons rfl (w_pure rfl (p_lss rfl rfl) ?_)
  refine aops_nil ?_
  first | refine a_cond_d rfl (fun h1 => ?_) (fun h2 => ?_) | refine a_cond_n rfl (fun h1 => ?_) (fun h2 => ?_) | refine a_cond_nb rfl (fun h1 => ?_) (fun h2 => ?_) | refine a_cond rfl (fun h1 => ?_) (fun h2 => ?_)
  · (try simp only [Bool.not_eq_true', Bool.not_eq_false', Bool.not_eq_true, Bool.not_eq_false, decide_eq_true_eq, decide_eq_false_iff_not, List.length_map, List.length_range] at h1)
    refine a_skip ?_
    refine a_seq ?_
    refine a_block ?_
    refine a_seq ?_
    refine a_seq ?_
    refine a_region ?_
    refine aops_cons rfl (w_pure rfl (p_move rfl) ?_)
    refine aops_cons rfl (w_pure rfl (p_move rfl) ?_)
    refine aops_cons rfl (w_pure rfl (p_index_sl _ rfl rfl rfl (rowG _ _ _ (by omega)) es_22) ?_)
    refine aops_cons rfl (w_pure rfl (p_load_v ag_3 rfl (by rfl) noX) ?_)
    refine aops_cons rfl (w_pure rfl (p_move rfl) ?_)
    refine aops_cons rfl (w_pure rfl (p_neq_same rfl rfl) ?_)
    refine aops_nil ?_
    refine a_cond_f rfl ?_
    refine a_skip ?_
    refine a_region ?_
    refine aops_cons rfl (w_pure rfl (p_move rfl) ?_)
    refine aops_cons rfl (w_pure rfl (p_add' rfl rfl ⟨by omega, by omega⟩) ?_)
    refine aops_cons rfl (w_pure rfl (p_assign rfl) ?_)
    refine aops_nil ?_
    refine a_region ?_
    refine aops_cons rfl (w_pure rfl (p_move rfl) ?_)
    refine aops_cons rfl (w_pure rfl (p_add' rfl rfl ⟨by omega, by omega⟩) ?_)
    refine aops_cons rfl (w_pure rfl (p_assign rfl) ?_)
    refine aops_nil ?_
    refine ⟨(i + 1, _), _, ?_, ?_, (by repeat (first | exact Knows.nil | refine Knows.cons (by rfl) ?_)), (by repeat (first | exact Back.refl _ _ | refine Back.cons (by rfl) ?_)), (by repeat (first | exact Picks.nil _ | exact Pick.here _ _ _ | apply Pick.next | apply Picks.cons))⟩
    · exact ⟨by omega, by omega⟩
    · (try dsimp only); omega
  · (try simp only [Bool.not_eq_true', Bool.not_eq_false', Bool.not_eq_true, Bool.not_eq_false, decide_eq_true_eq, decide_eq_false_iff_not, List.length_map, List.length_range] at h2)
    refine a_exit ?_
    refine a_seq ?_
    refine a_region ?_
    refine aops_cons rfl (w_pure rfl (p_move rfl) ?_)
    refine aops_cons rfl (w_pure rfl (p_assign rfl) ?_)
    refine aops_nil ?_
    refine a_ret ?_
    refine ret_ok (hands1 rfl (.tmp rfl)) (.nil _) ?_
    have hx : i = n := (by omega); subst hx; exact ⟨rfl, rfl⟩

theorem c_laws_markRegisters (b1 : Nat) (p : Registers) (hn : SmallR p) (k : Int) (k0 : 0 ≤ k) (k1 : k ≤ 50000000) : ACalls Try.prog 66 [.agg [.own 1 b1 0 p.words.length, .int .i64 p.pc, .bool p.f, .bool p.g], .int .i64 k] [(b1, .arr 3 1 (p.words.map eInt))] (fun r st => r = .int .i64 (k + 1 * p.words.length) ∧ st = [(b1, .arr 3 1 (((List.range p.words.length).map (mkI (k))).map eInt))]) := by
  have hs := hn
  simp only [SmallR] at hs
  refine a_enter Try.func66 rfl rfl (fun w0 M0 => ?_)
  refine a_seq ?_
  refine a_region ?_
  refine aops_cons rfl (w_box_v rfl rfl rfl ?_)
  refine aops_cons rfl (w_pure rfl (p_assign rfl) ?_)
  refine aops_nil ?_
  refine a_seq ?_
  refine a_region ?_
  refine aops_cons rfl (w_pure rfl (p_field_v fo_30_0 rfl) ?_)
  refine aops_cons rfl (w_pure rfl (p_load_v ag_22 rfl (by rfl) noX) ?_)
  refine aops_cons rfl (w_pure rfl (p_move rfl) ?_)
  refine aops_cons rfl (w_callM rfl rfl rfl cl_19 (.cons (by repeat (first | exact Pick.here _ _ _ | apply Pick.next)) (.nil _)) (.cons (.refl _) (.cons (.refl _) .nil)) (c_laws_markIntS _ _ (by first | omega | assumption) _ (by first | omega | (simp; done) | (simp; omega)) (by first | omega | (simp; done) | (simp; omega))) trivial ?_)
  rintro _ _ ⟨rfl, rfl⟩
  refine ⟨(closed_int _ _), (closedS_cons (closedAll _ _ _ _ cl_eInt) closedS_nil), ?_⟩
  refine aops_cons rfl (w_pure rfl (p_assign rfl) ?_)
  refine aops_nil ?_
  refine a_seq ?_
  refine a_region ?_
  refine aops_cons rfl (w_pure rfl (p_move rfl) ?_)
  refine aops_cons rfl (w_pure rfl (p_assign rfl) ?_)
  refine aops_nil ?_
  refine a_ret ?_
  refine ret_ok (hands1 rfl (.tmp rfl)) (st' := [(b1, _)]) (.cons (by repeat (first | exact Pick.here _ _ _ | apply Pick.next)) (.nil _)) ?_
  exact ⟨rfl, rfl⟩

theorem cn_laws_markRegisters (s1 : Int) (s2 : Bool) (s3 : Bool) (k : Int) : ACalls Try.prog 66 [.agg [.nil, .int .i64 s1, .bool s2, .bool s3], .int .i64 k] [] (Ret (.int .i64 (k + 1 * (([] : List Int).length : Int)))) := by
  refine a_enter Try.func66 rfl rfl (fun w0 M0 => ?_)
  refine a_seq ?_
  refine a_region ?_
  refine aops_cons rfl (w_box_v rfl rfl rfl ?_)
  refine aops_cons rfl (w_pure rfl (p_assign rfl) ?_)
  refine aops_nil ?_
  refine a_seq ?_
  refine a_region ?_
  refine aops_cons rfl (w_pure rfl (p_field_v fo_30_0 rfl) ?_)
  refine aops_cons rfl (w_pure rfl (p_load_v ag_22 rfl (by rfl) noX) ?_)
  refine aops_cons rfl (w_pure rfl (p_move rfl) ?_)
  refine aops_cons rfl (w_callR rfl rfl rfl cl_19 (cn_laws_markIntS ..) ?_)
  refine aops_cons rfl (w_pure rfl (p_assign rfl) ?_)
  refine aops_nil ?_
  refine a_seq ?_
  refine a_region ?_
  refine aops_cons rfl (w_pure rfl (p_move rfl) ?_)
  refine aops_cons rfl (w_pure rfl (p_assign rfl) ?_)
  refine aops_nil ?_
  refine a_ret ?_
  refine ret_ok (hands1 rfl (.tmp rfl)) (.nil _) ?_
  exact ⟨rfl, rfl⟩

theorem c_laws_markContext (b1 : Nat) (p : Context) (hn : SmallC p) (k : Int) (k0 : 0 ≤ k) (k1 : k ≤ 50000000) : ACalls Try.prog 18 [.agg [.int .i64 p.id, .own 1 b1 0 p.regs.words.length, .int .i64 p.regs.pc, .bool p.regs.f, .bool p.regs.g, .int .i64 p.wait, .int .i64 p.pend], .int .i64 k] [(b1, .arr 3 1 (p.regs.words.map eInt))] (fun r st => r = .int .i64 (k + 1 * p.regs.words.length) ∧ st = [(b1, .arr 3 1 (((List.range p.regs.words.length).map (mkI (k))).map eInt))]) := by
  have hs := hn
  simp only [SmallC] at hs
  refine a_enter Try.func18 rfl rfl (fun w0 M0 => ?_)
  refine a_seq ?_
  refine a_region ?_
  refine aops_cons rfl (w_box_v rfl rfl rfl ?_)
  refine aops_cons rfl (w_pure rfl (p_assign rfl) ?_)
  refine aops_nil ?_
  refine a_seq ?_
  refine a_region ?_
  refine aops_cons rfl (w_pure rfl (p_field_v fo_32_1 rfl) ?_)
  refine aops_cons rfl (w_pure rfl (p_load_v_agg (cs' := [_, _, _, _]) ag_30 rfl (by rfl) (by rfl) noX) ?_)
  refine aops_cons rfl (w_pure rfl (p_move rfl) ?_)
  refine aops_cons rfl (w_callM rfl rfl rfl cl_66 (.cons (by repeat (first | exact Pick.here _ _ _ | apply Pick.next)) (.nil _)) (.cons (.refl _) (.cons (.refl _) .nil)) (c_laws_markRegisters _ _ (by first | omega | assumption) _ (by first | omega | (simp; done) | (simp; omega)) (by first | omega | (simp; done) | (simp; omega))) trivial ?_)
  rintro _ _ ⟨rfl, rfl⟩
  refine ⟨(closed_int _ _), (closedS_cons (closedAll _ _ _ _ cl_eInt) closedS_nil), ?_⟩
  refine aops_cons rfl (w_pure rfl (p_assign rfl) ?_)
  refine aops_nil ?_
  refine a_seq ?_
  refine a_region ?_
  refine aops_cons rfl (w_pure rfl (p_move rfl) ?_)
  refine aops_cons rfl (w_pure rfl (p_assign rfl) ?_)
  refine aops_nil ?_
  refine a_ret ?_
  refine ret_ok (hands1 rfl (.tmp rfl)) (st' := [(b1, _)]) (.cons (by repeat (first | exact Pick.here _ _ _ | apply Pick.next)) (.nil _)) ?_
  exact ⟨rfl, rfl⟩

theorem cn_laws_markContext (s0 : Int) (s2 : Int) (s3 : Bool) (s4 : Bool) (s5 : Int) (s6 : Int) (k : Int) : ACalls Try.prog 18 [.agg [.int .i64 s0, .nil, .int .i64 s2, .bool s3, .bool s4, .int .i64 s5, .int .i64 s6], .int .i64 k] [] (Ret (.int .i64 (k + 1 * (([] : List Int).length : Int)))) := by
  refine a_enter Try.func18 rfl rfl (fun w0 M0 => ?_)
  refine a_seq ?_
  refine a_region ?_
  refine aops_cons rfl (w_box_v rfl rfl rfl ?_)
  refine aops_cons rfl (w_pure rfl (p_assign rfl) ?_)
  refine aops_nil ?_
  refine a_seq ?_
  refine a_region ?_
  refine aops_cons rfl (w_pure rfl (p_field_v fo_32_1 rfl) ?_)
  refine aops_cons rfl (w_pure rfl (p_load_v_agg (cs' := [_, _, _, _]) ag_30 rfl (by rfl) (by rfl) noX) ?_)
  refine aops_cons rfl (w_pure rfl (p_move rfl) ?_)
  refine aops_cons rfl (w_callR rfl rfl rfl cl_66 (cn_laws_markRegisters ..) ?_)
  refine aops_cons rfl (w_pure rfl (p_assign rfl) ?_)
  refine aops_nil ?_
  refine a_seq ?_
  refine a_region ?_
  refine aops_cons rfl (w_pure rfl (p_move rfl) ?_)
  refine aops_cons rfl (w_pure rfl (p_assign rfl) ?_)
  refine aops_nil ?_
  refine a_ret ?_
  refine ret_ok (hands1 rfl (.tmp rfl)) (.nil _) ?_
  exact ⟨rfl, rfl⟩

theorem c_laws_heldRegisters (p : Registers) (hn : SmallR p) (k : Int) (k0 : 0 ≤ k) (k1 : k ≤ 50000000) : ACalls Try.prog 102 [.agg [.sl (((List.range p.words.length).map (mkI (k))).map eInt), .int .i64 p.pc, .bool p.f, .bool p.g], .int .i64 k] [] (Ret (.int .i64 (k + 1 * p.words.length))) := by
  have hs := hn
  simp only [SmallR] at hs
  refine a_enter Try.func102 rfl rfl (fun w0 M0 => ?_)
  refine a_seq ?_
  refine a_region ?_
  refine aops_cons rfl (w_box_v rfl rfl rfl ?_)
  refine aops_cons rfl (w_pure rfl (p_assign rfl) ?_)
  refine aops_nil ?_
  refine a_seq ?_
  refine a_region ?_
  refine aops_cons rfl (w_pure rfl (p_field_v fo_30_0 rfl) ?_)
  refine aops_cons rfl (w_pure rfl (p_load_v ag_22 rfl (by rfl) noX) ?_)
  refine aops_cons rfl (w_pure rfl (p_move rfl) ?_)
  refine aops_cons rfl (w_callLR rfl rfl rfl cl_20 (.cons (.refl _) (.cons (.refl _) .nil)) (c_laws_heldIntS _ (by first | omega | assumption) _ (by first | omega | (simp; done) | (simp; omega)) (by first | omega | (simp; done) | (simp; omega))) (closed_int _ _) ?_)
  refine aops_cons rfl (w_pure rfl (p_assign rfl) ?_)
  refine aops_nil ?_
  refine a_seq ?_
  refine a_seq ?_
  refine a_region ?_
  refine aops_cons rfl (w_pure rfl (p_move rfl) ?_)
  refine aops_cons rfl (w_pure rfl (p_lss rfl rfl) ?_)
  refine aops_nil ?_
  first | refine a_cond_d rfl (fun h1 => ?_) (fun h2 => ?_) | refine a_cond_n rfl (fun h1 => ?_) (fun h2 => ?_) | refine a_cond_nb rfl (fun h1 => ?_) (fun h2 => ?_) | refine a_cond rfl (fun h1 => ?_) (fun h2 => ?_)
  · (try simp only [Bool.not_eq_true', Bool.not_eq_false', Bool.not_eq_true, Bool.not_eq_false, decide_eq_true_eq, decide_eq_false_iff_not, List.length_map, List.length_range] at h1)
    refine a_seq ?_
    refine a_region ?_
    refine aops_cons rfl (w_pure rfl (p_assign rfl) ?_)
    refine aops_nil ?_
    refine a_ret ?_
    refine ret_ok (hands1 rfl (.tmp rfl)) (.nil _) ?_
    first | exact ⟨rfl, rfl⟩ | (exfalso; omega)
  · (try simp only [Bool.not_eq_true', Bool.not_eq_false', Bool.not_eq_true, Bool.not_eq_false, decide_eq_true_eq, decide_eq_false_iff_not, List.length_map, List.length_range] at h2)
    refine a_skip ?_
    refine a_seq ?_
    refine a_region ?_
    refine aops_cons rfl (w_pure rfl (p_move rfl) ?_)
    refine aops_cons rfl (w_pure rfl (p_assign rfl) ?_)
    refine aops_nil ?_
    refine a_ret ?_
    refine ret_ok (hands1 rfl (.tmp rfl)) (.nil _) ?_
    first | exact ⟨rfl, rfl⟩ | (exfalso; omega)

theorem c_laws_heldContext (p : Context) (hn : SmallC p) (k : Int) (k0 : 0 ≤ k) (k1 : k ≤ 50000000) : ACalls Try.prog 59 [.agg [.int .i64 p.id, .sl (((List.range p.regs.words.length).map (mkI (k))).map eInt), .int .i64 p.regs.pc, .bool p.regs.f, .bool p.regs.g, .int .i64 p.wait, .int .i64 p.pend], .int .i64 k] [] (Ret (.int .i64 (k + 1 * p.regs.words.length))) := by
  have hs := hn
  simp only [SmallC] at hs
  refine a_enter Try.func59 rfl rfl (fun w0 M0 => ?_)
  refine a_seq ?_
  refine a_region ?_
  refine aops_cons rfl (w_box_v rfl rfl rfl ?_)
  refine aops_cons rfl (w_pure rfl (p_assign rfl) ?_)
  refine aops_nil ?_
  refine a_seq ?_
  refine a_region ?_
  refine aops_cons rfl (w_pure rfl (p_field_v fo_32_1 rfl) ?_)
  refine aops_cons rfl (w_pure rfl (p_load_v_agg (cs' := [_, _, _, _]) ag_30 rfl (by rfl) (by rfl) noX) ?_)
  refine aops_cons rfl (w_pure rfl (p_move rfl) ?_)
  refine aops_cons rfl (w_callLR rfl rfl rfl cl_102 (.cons (.refl _) (.cons (.refl _) .nil)) (c_laws_heldRegisters _ (by first | omega | assumption) _ (by first | omega | (simp; done) | (simp; omega)) (by first | omega | (simp; done) | (simp; omega))) (closed_int _ _) ?_)
  refine aops_cons rfl (w_pure rfl (p_assign rfl) ?_)
  refine aops_nil ?_
  refine a_seq ?_
  refine a_seq ?_
  refine a_region ?_
  refine aops_cons rfl (w_pure rfl (p_move rfl) ?_)
  refine aops_cons rfl (w_pure rfl (p_lss rfl rfl) ?_)
  refine aops_nil ?_
  first | refine a_cond_d rfl (fun h1 => ?_) (fun h2 => ?_) | refine a_cond_n rfl (fun h1 => ?_) (fun h2 => ?_) | refine a_cond_nb rfl (fun h1 => ?_) (fun h2 => ?_) | refine a_cond rfl (fun h1 => ?_) (fun h2 => ?_)
  · (try simp only [Bool.not_eq_true', Bool.not_eq_false', Bool.not_eq_true, Bool.not_eq_false, decide_eq_true_eq, decide_eq_false_iff_not, List.length_map, List.length_range] at h1)
    refine a_seq ?_
    refine a_region ?_
    refine aops_cons rfl (w_pure rfl (p_assign rfl) ?_)
    refine aops_nil ?_
    refine a_ret ?_
    refine ret_ok (hands1 rfl (.tmp rfl)) (.nil _) ?_
    first | exact ⟨rfl, rfl⟩ | (exfalso; omega)
  · (try simp only [Bool.not_eq_true', Bool.not_eq_false', Bool.not_eq_true, Bool.not_eq_false, decide_eq_true_eq, decide_eq_false_iff_not, List.length_map, List.length_range] at h2)
    refine a_skip ?_
    refine a_seq ?_
    refine a_region ?_
    refine aops_cons rfl (w_pure rfl (p_move rfl) ?_)
    refine aops_cons rfl (w_pure rfl (p_assign rfl) ?_)
    refine aops_nil ?_
    refine a_ret ?_
    refine ret_ok (hands1 rfl (.tmp rfl)) (.nil _) ?_
    first | exact ⟨rfl, rfl⟩ | (exfalso; omega)

theorem co_spec_l1Own (xs : List Int) (hn : xs.length ≤ 1048576) : ACalls Try.prog 94 [.sl (xs.map eInt)] [] (RetOwn 3 1 (xs.map eInt)) := by
  refine a_enter Try.func94 rfl rfl (fun w0 M0 => ?_)
  refine a_seq ?_
  refine a_region ?_
  refine aops_cons rfl (w_pure rfl (p_assign rfl) ?_)
  refine aops_nil ?_
  refine a_seq ?_
  refine a_region ?_
  refine aops_cons rfl (w_litM eInt [] rfl el_22 rfl rfl rfl rfl rfl fun b1 => ?_)
  refine aops_cons rfl (w_pure rfl (p_move rfl) ?_)
  refine aops_cons rfl (w_appendM eInt rfl el_22 rfl rfl (by repeat (first | exact Pick.here _ _ _ | apply Pick.next)) rfl (.sl _) (fun _ => rfl) (fun _ => rfl) (by simp; omega) (by simp; omega) trivial fun b2 => ?_)
  rw [List.nil_append]
  refine aops_cons rfl (w_pure rfl (p_assign rfl) ?_)
  refine aops_nil ?_
  refine a_ret ?_
  refine ret_ok (hands1 rfl (.tmp rfl)) (.cons (.here _ _ _) (.nil _)) ?_
  refine ⟨_, ?_, rfl⟩; rw [List.length_map]

theorem c_spec_l1Own (xs : List Int) (hn : xs.length ≤ 1048576) : ACalls Try.prog 94 [.sl (xs.map eInt)] [] (Ret (.sl (xs.map eInt))) := (co_spec_l1Own xs hn).freeze fun _ _ h => h.vw

theorem co_impl_copyInts (xs : List Int) (hn : xs.length ≤ 1048576) : ACalls Try.prog 86 [.sl (xs.map eInt)] [] (RetOwn 3 1 (xs.map eInt)) := by
  refine a_enter Try.func86 rfl rfl (fun w0 M0 => ?_)
  refine a_seq ?_
  refine a_region ?_
  refine aops_cons rfl (w_pure rfl (p_assign rfl) ?_)
  refine aops_nil ?_
  refine a_seq ?_
  refine a_region ?_
  refine aops_cons rfl (w_litM eInt [] rfl el_22 rfl rfl rfl rfl rfl fun b1 => ?_)
  refine aops_cons rfl (w_pure rfl (p_move rfl) ?_)
  refine aops_cons rfl (w_appendM eInt rfl el_22 rfl rfl (by repeat (first | exact Pick.here _ _ _ | apply Pick.next)) rfl (.sl _) (fun _ => rfl) (fun _ => rfl) (by simp; omega) (by simp; omega) trivial fun b2 => ?_)
  rw [List.nil_append]
  refine aops_cons rfl (w_pure rfl (p_assign rfl) ?_)
  refine aops_nil ?_
  refine a_ret ?_
  refine ret_ok (hands1 rfl (.tmp rfl)) (.cons (.here _ _ _) (.nil _)) ?_
  refine ⟨_, ?_, rfl⟩; rw [List.length_map]

theorem c_impl_copyInts (xs : List Int) (hn : xs.length ≤ 1048576) : ACalls Try.prog 86 [.sl (xs.map eInt)] [] (Ret (.sl (xs.map eInt))) := (co_impl_copyInts xs hn).freeze fun _ _ h => h.vw

theorem c_impl_checkWord (xs : List Int) (hn : xs.length ≤ 11) (hw : ∀ j, j < xs.length → NotWord xs j = false) : ACalls Try.prog 85 [.sl (xs.map eInt)] [] (Ret (.int .i64 (chk xs))) := by
  refine a_enter Try.func85 rfl rfl (fun w0 M0 => ?_)
  refine a_seq ?_
  refine a_region ?_
  refine aops_cons rfl (w_pure rfl (p_assign rfl) ?_)
  refine aops_nil ?_
  refine a_seq ?_
  refine a_region ?_
  refine aops_cons rfl (w_pure rfl (p_assign rfl) ?_)
  refine aops_nil ?_
  refine a_seq ?_
  refine a_seq ?_
  refine a_region ?_
  refine aops_cons rfl (w_pure rfl (p_move rfl) ?_)
  refine aops_cons rfl (w_pure rfl (p_len sl_22 rfl rfl) ?_)
  refine aops_cons rfl (w_pure rfl (p_move rfl) ?_)
  refine aops_nil ?_
  refine a_block ?_
  refine a_loop (ι := Nat) (fun i => i ≤ xs.length) (fun i => [(8, .int .i64 (i : Int)), (3, .int .i64 (sumTo xs i))]) (fun i => []) (fun i => xs.length - i) 0 (Nat.zero_le _) (by repeat (first | exact Knows.nil | refine Knows.cons (by rfl) ?_)) (by repeat (first | exact Picks.nil _ | exact Pick.here _ _ _ | apply Pick.next | apply Picks.cons)) ?_
  rintro i hi
  skip
  refine a_seq ?_
  refine a_region ?_
  refine aops_cons rfl (w_pure rfl (p_lss rfl rfl) ?_)
  refine aops_nil ?_
  refine a_seq ?_
  first | refine a_cond_d rfl (fun h1 => ?_) (fun h2 => ?_) | refine a_cond_n rfl (fun h1 => ?_) (fun h2 => ?_) | refine a_cond_nb rfl (fun h1 => ?_) (fun h2 => ?_) | refine a_cond rfl (fun h1 => ?_) (fun h2 => ?_)
  · (try simp only [Bool.not_eq_true', Bool.not_eq_false', Bool.not_eq_true, Bool.not_eq_false, decide_eq_true_eq, decide_eq_false_iff_not, List.length_map, List.length_range] at h1)
    refine a_skip ?_
    refine a_seq ?_
    refine a_block ?_
    refine a_seq ?_
    refine a_region ?_
    refine aops_cons rfl (w_pure rfl (p_move rfl) ?_)
    refine aops_cons rfl (w_pure rfl (p_index_sl _ rfl rfl rfl (rowD _ _ (0 : Int) (by omega)) es_22) ?_)
    refine aops_cons rfl (w_pure rfl (p_load_v ag_3 rfl (by rfl) noX) ?_)
    refine aops_cons rfl (w_pure rfl (p_assign rfl) ?_)
    refine aops_cons rfl (w_pure rfl (p_assign rfl) ?_)
    refine aops_nil ?_
    refine a_region ?_
    refine aops_cons rfl (w_pure rfl (p_move rfl) ?_)
    refine aops_cons rfl (w_pure rfl (p_move rfl) ?_)
    refine aops_cons rfl (w_pure rfl (p_move rfl) ?_)
    refine aops_cons rfl (w_pure rfl (p_add' rfl rfl ⟨by omega, by omega⟩) ?_)
    refine aops_cons rfl (w_pure rfl (p_mul' rfl rfl ⟨by have hb := sumTo_b hw hn i (by omega); have hm := mul_b (a := (i : Int) + 1) (word_b hw (show i < xs.length by omega)) (by omega) (by omega); omega, by have hb := sumTo_b hw hn i (by omega); have hm := mul_b (a := (i : Int) + 1) (word_b hw (show i < xs.length by omega)) (by omega) (by omega); omega⟩) ?_)
    refine aops_cons rfl (w_pure rfl (p_add' rfl rfl ⟨by have hb := sumTo_b hw hn i (by omega); have hm := mul_b (a := (i : Int) + 1) (word_b hw (show i < xs.length by omega)) (by omega) (by omega); omega, by have hb := sumTo_b hw hn i (by omega); have hm := mul_b (a := (i : Int) + 1) (word_b hw (show i < xs.length by omega)) (by omega) (by omega); omega⟩) ?_)
    refine aops_cons rfl (w_pure rfl (p_assign rfl) ?_)
    refine aops_nil ?_
    refine a_region ?_
    refine aops_cons rfl (w_pure rfl (p_add' rfl rfl ⟨by omega, by omega⟩) ?_)
    refine aops_cons rfl (w_pure rfl (p_move rfl) ?_)
    refine aops_nil ?_
    refine ⟨(i + 1), _, ?_, ?_, (by repeat (first | exact Knows.nil | refine Knows.cons (by rfl) ?_)), (by repeat (first | exact Back.refl _ _ | refine Back.cons (by rfl) ?_)), (by repeat (first | exact Picks.nil _ | exact Pick.here _ _ _ | apply Pick.next | apply Picks.cons))⟩
    · omega
    · (try dsimp only); omega
  · (try simp only [Bool.not_eq_true', Bool.not_eq_false', Bool.not_eq_true, Bool.not_eq_false, decide_eq_true_eq, decide_eq_false_iff_not, List.length_map, List.length_range] at h2)
    refine a_exit ?_
    refine a_seq ?_
    have hx : i = xs.length := (by omega); subst hx; have hs0 := (sumTo_b hw hn xs.length (Nat.le_refl _)).1
    refine a_region ?_
    refine aops_cons rfl (w_pure rfl (p_move rfl) ?_)
    refine aops_cons rfl (w_pure rfl (p_rem' rfl rfl (by omega) (by omega)) ?_)
    refine aops_cons rfl (w_pure rfl (p_assign rfl) ?_)
    refine aops_nil ?_
    refine a_ret ?_
    refine ret_ok (hands1 rfl (.tmp rfl)) (.nil _) ?_
    exact ⟨rfl, rfl⟩

theorem c_spec_l14Check (xs : List Int) (hn : xs.length ≤ 11) (hw : ∀ j, j < xs.length → NotWord xs j = false) : ACalls Try.prog 92 [.sl (xs.map eInt)] [] (Ret (.int .i64 (chk xs))) := by
  refine a_enter Try.func92 rfl rfl (fun w0 M0 => ?_)
  refine a_seq ?_
  refine a_region ?_
  refine aops_cons rfl (w_pure rfl (p_assign rfl) ?_)
  refine aops_nil ?_
  refine a_seq ?_
  refine a_region ?_
  refine aops_cons rfl (w_pure rfl (p_assign rfl) ?_)
  refine aops_nil ?_
  refine a_seq ?_
  refine a_seq ?_
  refine a_region ?_
  refine aops_cons rfl (w_pure rfl (p_assign rfl) ?_)
  refine aops_nil ?_
  refine a_block ?_
  refine a_loop (ι := Nat) (fun i => i ≤ xs.length) (fun i => [(4, .int .i64 (i : Int)), (3, .int .i64 (sumTo xs i))]) (fun i => []) (fun i => xs.length - i) 0 (Nat.zero_le _) (by repeat (first | exact Knows.nil | refine Knows.cons (by rfl) ?_)) (by repeat (first | exact Picks.nil _ | exact Pick.here _ _ _ | apply Pick.next | apply Picks.cons)) ?_
  rintro i hi
  skip
  refine a_seq ?_
  refine a_seq ?_
  refine a_region ?_
  refine aops_cons rfl (w_pure rfl (p_move rfl) ?_)
  refine aops_cons rfl (w_pure rfl (p_move rfl) ?_)
  refine aops_cons rfl (w_pure rfl (p_len sl_22 rfl rfl) ?_)
  refine aops_cons rfl (w_pure rfl (p_lss rfl rfl) ?_)
  refine aops_nil ?_
  first | refine a_cond_d rfl (fun h1 => ?_) (fun h2 => ?_) | refine a_cond_n rfl (fun h1 => ?_) (fun h2 => ?_) | refine a_cond_nb rfl (fun h1 => ?_) (fun h2 => ?_) | refine a_cond rfl (fun h1 => ?_) (fun h2 => ?_)
  · (try simp only [Bool.not_eq_true', Bool.not_eq_false', Bool.not_eq_true, Bool.not_eq_false, decide_eq_true_eq, decide_eq_false_iff_not, List.length_map, List.length_range] at h1)
    refine a_skip ?_
    refine a_seq ?_
    refine a_block ?_
    refine a_region ?_
    refine aops_cons rfl (w_pure rfl (p_move rfl) ?_)
    refine aops_cons rfl (w_pure rfl (p_move rfl) ?_)
    refine aops_cons rfl (w_pure rfl (p_add' rfl rfl ⟨by omega, by omega⟩) ?_)
    refine aops_cons rfl (w_pure rfl (p_move rfl) ?_)
    refine aops_cons rfl (w_pure rfl (p_move rfl) ?_)
    refine aops_cons rfl (w_pure rfl (p_index_sl _ rfl rfl rfl (rowD _ _ (0 : Int) (by omega)) es_22) ?_)
    refine aops_cons rfl (w_pure rfl (p_load_v ag_3 rfl (by rfl) noX) ?_)
    refine aops_cons rfl (w_pure rfl (p_mul' rfl rfl ⟨by rw [Int.mul_comm]; have hb := sumTo_b hw hn i (by omega); have hm := mul_b (a := (i : Int) + 1) (word_b hw (show i < xs.length by omega)) (by omega) (by omega); omega, by rw [Int.mul_comm]; have hb := sumTo_b hw hn i (by omega); have hm := mul_b (a := (i : Int) + 1) (word_b hw (show i < xs.length by omega)) (by omega) (by omega); omega⟩) ?_)
    rw [Int.mul_comm]
    refine aops_cons rfl (w_pure rfl (p_add' rfl rfl ⟨by have hb := sumTo_b hw hn i (by omega); have hm := mul_b (a := (i : Int) + 1) (word_b hw (show i < xs.length by omega)) (by omega) (by omega); omega, by have hb := sumTo_b hw hn i (by omega); have hm := mul_b (a := (i : Int) + 1) (word_b hw (show i < xs.length by omega)) (by omega) (by omega); omega⟩) ?_)
    refine aops_cons rfl (w_pure rfl (p_assign rfl) ?_)
    refine aops_nil ?_
    refine a_region ?_
    refine aops_cons rfl (w_pure rfl (p_move rfl) ?_)
    refine aops_cons rfl (w_pure rfl (p_add' rfl rfl ⟨by omega, by omega⟩) ?_)
    refine aops_cons rfl (w_pure rfl (p_assign rfl) ?_)
    refine aops_nil ?_
    refine ⟨(i + 1), _, ?_, ?_, (by repeat (first | exact Knows.nil | refine Knows.cons (by rfl) ?_)), (by repeat (first | exact Back.refl _ _ | refine Back.cons (by rfl) ?_)), (by repeat (first | exact Picks.nil _ | exact Pick.here _ _ _ | apply Pick.next | apply Picks.cons))⟩
    · omega
    · (try dsimp only); omega
  · (try simp only [Bool.not_eq_true', Bool.not_eq_false', Bool.not_eq_true, Bool.not_eq_false, decide_eq_true_eq, decide_eq_false_iff_not, List.length_map, List.length_range] at h2)
    refine a_exit ?_
    refine a_seq ?_
    have hx : i = xs.length := (by omega); subst hx; have hs0 := (sumTo_b hw hn xs.length (Nat.le_refl _)).1
    refine a_region ?_
    refine aops_cons rfl (w_pure rfl (p_move rfl) ?_)
    refine aops_cons rfl (w_pure rfl (p_rem' rfl rfl (by omega) (by omega)) ?_)
    refine aops_cons rfl (w_pure rfl (p_assign rfl) ?_)
    refine aops_nil ?_
    refine a_ret ?_
    refine ret_ok (hands1 rfl (.tmp rfl)) (.nil _) ?_
    exact ⟨rfl, rfl⟩

theorem c_impl_LoadContext_1 (n : Int) : ACalls Try.prog 83 [.int .i64 n] [] (Ret (.bool (!decide (0 ≤ n ∧ n ≤ 65535)))) := by
  refine a_enter Try.func83 rfl rfl (fun w0 M0 => ?_)
  refine a_seq ?_
  refine a_region ?_
  refine aops_cons rfl (w_pure rfl (p_assign rfl) ?_)
  refine aops_nil ?_
  refine a_seq ?_
  refine a_region ?_
  refine aops_cons rfl (w_pure rfl (p_move rfl) ?_)
  refine aops_cons rfl (w_callR rfl rfl rfl cl_84 (c_impl_isWord16 ..) ?_)
  refine aops_cons rfl (w_pure rfl (p_not rfl) ?_)
  refine aops_cons rfl (w_pure rfl (p_assign rfl) ?_)
  refine aops_nil ?_
  refine a_ret ?_
  refine ret_ok (hands1 rfl (.tmp rfl)) (.nil _) ?_
  exact ⟨rfl, rfl⟩

theorem c_load_IndexFunc (xs : List Int) (hn : xs.length ≤ 1048576) : ACalls Try.prog 110 [.sl (xs.map eInt), .fn 83 []] [] (Ret (.int .i64 (first (NotWord xs) xs.length))) := by
  refine a_enter Try.func110 rfl rfl (fun w0 M0 => ?_)
  refine a_seq ?_
  refine a_region ?_
  refine aops_cons rfl (w_pure rfl (p_assign rfl) ?_)
  refine aops_nil ?_
  refine a_seq ?_
  refine a_seq ?_
  refine a_region ?_
  refine aops_cons rfl (w_pure rfl (p_move rfl) ?_)
  refine aops_cons rfl (w_pure rfl (p_len sl_22 rfl rfl) ?_)
  refine aops_cons rfl (w_pure rfl (p_move rfl) ?_)
  refine aops_nil ?_
  refine a_block ?_
  refine a_loop (ι := Nat) (fun i => i ≤ xs.length ∧ ∀ j, j < i → NotWord xs j = false) (fun i => [(8, .int .i64 (i : Int))]) (fun i => []) (fun i => xs.length - i) 0 ⟨Nat.zero_le _, below_zero⟩ (by repeat (first | exact Knows.nil | refine Knows.cons (by rfl) ?_)) (by repeat (first | exact Picks.nil _ | exact Pick.here _ _ _ | apply Pick.next | apply Picks.cons)) ?_
  rintro i ⟨hi, hI⟩
  skip
  refine a_seq ?_
  refine a_region ?_
  refine aops_cons rfl (w_pure rfl (p_lss rfl rfl) ?_)
  refine aops_nil ?_
  refine a_seq ?_
  first | refine a_cond_d rfl (fun h1 => ?_) (fun h2 => ?_) | refine a_cond_n rfl (fun h1 => ?_) (fun h2 => ?_) | refine a_cond_nb rfl (fun h1 => ?_) (fun h2 => ?_) | refine a_cond rfl (fun h1 => ?_) (fun h2 => ?_)
  · (try simp only [Bool.not_eq_true', Bool.not_eq_false', Bool.not_eq_true, Bool.not_eq_false, decide_eq_true_eq, decide_eq_false_iff_not, List.length_map, List.length_range] at h1)
    refine a_skip ?_
    refine a_seq ?_
    refine a_block ?_
    refine a_seq ?_
    refine a_region ?_
    refine aops_cons rfl (w_pure rfl (p_move rfl) ?_)
    refine aops_cons rfl (w_pure rfl (p_assign rfl) ?_)
    refine aops_nil ?_
    refine a_seq ?_
    refine a_region ?_
    refine aops_cons rfl (w_pure rfl (p_move rfl) ?_)
    refine aops_cons rfl (w_pure rfl (p_move rfl) ?_)
    refine aops_cons rfl (w_pure rfl (p_move rfl) ?_)
    refine aops_cons rfl (w_pure rfl (p_index_sl _ rfl rfl rfl (rowD _ _ (0 : Int) (by omega)) es_22) ?_)
    refine aops_cons rfl (w_pure rfl (p_load_v ag_3 rfl (by rfl) noX) ?_)
    refine aops_cons rfl (w_callR rfl rfl rfl cl_83 (c_impl_LoadContext_1 ..) ?_)
    refine aops_nil ?_
    first | refine a_cond_d rfl (fun h3 => ?_) (fun h4 => ?_) | refine a_cond_n rfl (fun h3 => ?_) (fun h4 => ?_) | refine a_cond_nb rfl (fun h3 => ?_) (fun h4 => ?_) | refine a_cond rfl (fun h3 => ?_) (fun h4 => ?_)
    · (try simp only [Bool.not_eq_true', Bool.not_eq_false', Bool.not_eq_true, Bool.not_eq_false, decide_eq_true_eq, decide_eq_false_iff_not, List.length_map, List.length_range] at h3)
      refine a_seq ?_
      refine a_region ?_
      refine aops_cons rfl (w_pure rfl (p_move rfl) ?_)
      refine aops_cons rfl (w_pure rfl (p_assign rfl) ?_)
      refine aops_nil ?_
      refine a_ret ?_
      refine ret_ok (hands1 rfl (.tmp rfl)) (.nil _) ?_
      first | (refine And.intro (congrArg (AV.int .i64) (first_none fun j hj => ?_).symm) rfl; exact hI j (by omega)) | (refine And.intro (congrArg (AV.int .i64) (first_at (i := i) (by omega) hI (show NotWord xs i = true by unfold NotWord; rw [decide_eq_false (by assumption)]; rfl)).symm) rfl)
    · (try simp only [Bool.not_eq_true', Bool.not_eq_false', Bool.not_eq_true, Bool.not_eq_false, decide_eq_true_eq, decide_eq_false_iff_not, List.length_map, List.length_range] at h4)
      refine a_skip ?_
      refine a_region ?_
      refine aops_cons rfl (w_pure rfl (p_add' rfl rfl ⟨by omega, by omega⟩) ?_)
      refine aops_cons rfl (w_pure rfl (p_move rfl) ?_)
      refine aops_nil ?_
      refine ⟨(i + 1), _, ?_, ?_, (by repeat (first | exact Knows.nil | refine Knows.cons (by rfl) ?_)), (by repeat (first | exact Back.refl _ _ | refine Back.cons (by rfl) ?_)), (by repeat (first | exact Picks.nil _ | exact Pick.here _ _ _ | apply Pick.next | apply Picks.cons))⟩
      · exact ⟨by omega, below_succ hI (show NotWord xs i = false by unfold NotWord; rw [decide_eq_true (by assumption)]; rfl)⟩
      · (try dsimp only); omega
  · (try simp only [Bool.not_eq_true', Bool.not_eq_false', Bool.not_eq_true, Bool.not_eq_false, decide_eq_true_eq, decide_eq_false_iff_not, List.length_map, List.length_range] at h2)
    refine a_exit ?_
    refine a_seq ?_
    refine a_region ?_
    refine aops_cons rfl (w_pure rfl (p_assign rfl) ?_)
    refine aops_nil ?_
    refine a_ret ?_
    refine ret_ok (hands1 rfl (.tmp rfl)) (.nil _) ?_
    first | (refine And.intro (congrArg (AV.int .i64) (first_none fun j hj => ?_).symm) rfl; exact hI j (by omega)) | (refine And.intro (congrArg (AV.int .i64) (first_at (i := i) (by omega) hI (show NotWord xs i = true by unfold NotWord; rw [decide_eq_false (by assumption)]; rfl)).symm) rfl)

theorem c_load_ContainsFunc (xs : List Int) (hn : xs.length ≤ 1048576) : ACalls Try.prog 82 [.sl (xs.map eInt), .fn 83 []] [] (Ret (.bool (decide (0 ≤ first (NotWord xs) xs.length)))) := by
  refine a_enter Try.func82 rfl rfl (fun w0 M0 => ?_)
  refine a_seq ?_
  refine a_region ?_
  refine aops_cons rfl (w_pure rfl (p_assign rfl) ?_)
  refine aops_nil ?_
  refine a_seq ?_
  refine a_region ?_
  refine aops_cons rfl (w_pure rfl (p_move rfl) ?_)
  refine aops_cons rfl (w_pure rfl (p_move rfl) ?_)
  refine aops_cons rfl (w_callR rfl rfl rfl cl_110 (c_load_IndexFunc _ (by omega)) ?_)
  refine aops_cons rfl (w_pure rfl (p_geq rfl rfl) ?_)
  refine aops_cons rfl (w_pure rfl (p_assign rfl) ?_)
  refine aops_nil ?_
  refine a_ret ?_
  refine ret_ok (hands1 rfl (.tmp rfl)) (.nil _) ?_
  exact ⟨rfl, rfl⟩

theorem c_load_IsContext (xs : List Int) : ACalls Try.prog 42 [.agg (eContext (ctxI xs))] [] (Ret (.bool (decide (IsContext (ctxOf xs))))) := by
  have := c_impl_IsContext (ctxI xs) (small_ctxOf xs)
  rwa [dec_ctxI] at this

theorem cy_spec_LoadContext (xs : List Int) (hn : xs.length ≤ 1048576) (hA : GoodLoad xs) : ACalls Try.prog 46 [.sl (xs.map eInt)] [] (Ret (.tup [.agg (eContext (ctxOf xs)), .int .i64 0, .bool true])) := by
  refine a_enter Try.func46 rfl rfl (fun w0 M0 => ?_)
  refine a_seq ?_
  refine a_region ?_
  refine aops_cons rfl (w_alloc rfl z_32 fun b1 => ?_)
  refine aops_cons rfl (w_pure rfl (p_assign rfl) ?_)
  refine aops_cons rfl (w_pure rfl (p_assign rfl) ?_)
  refine aops_nil ?_
  refine a_seq ?_
  refine a_seq ?_
  refine a_region ?_
  refine aops_cons rfl (w_pure rfl (p_move rfl) ?_)
  refine aops_cons rfl (w_pure rfl (p_len sl_22 rfl rfl) ?_)
  refine aops_cons rfl (w_pure rfl (p_neq rfl rfl) ?_)
  refine aops_nil ?_
  first | refine a_cond_d rfl (fun h1 => ?_) (fun h2 => ?_) | refine a_cond_n rfl (fun h1 => ?_) (fun h2 => ?_) | refine a_cond_nb rfl (fun h1 => ?_) (fun h2 => ?_) | refine a_cond rfl (fun h1 => ?_) (fun h2 => ?_)
  · (try simp only [Bool.not_eq_true', Bool.not_eq_false', Bool.not_eq_true, Bool.not_eq_false, decide_eq_true_eq, decide_eq_false_iff_not, List.length_map, List.length_range] at h1)
    refine a_seq ?_
    have HX : ¬ WordsOk xs := (by first | exact (fun h => absurd h.1 (by omega)))
    refine a_region ?_
    refine aops_cons rfl (w_pure rfl (p_build (cells := [_, _, _, _, _, _, _]) z_32 pl_32 rfl rfl) ?_)
    refine aops_cons rfl (w_store (cells' := [_, _, _, _, _, _, _]) rfl rfl rfl (by repeat (first | exact Pick.here _ _ _ | apply Pick.next)) cn_32 (by rfl) (by rfl) (by rfl) trivial ?_)
    refine aops_cons rfl (w_pure rfl (p_assign rfl) ?_)
    refine aops_cons rfl (w_pure rfl (p_assign rfl) ?_)
    refine aops_nil ?_
    refine a_ret ?_
    refine ret_ok (hands3 rfl (.cell ag_32 rfl (by repeat (first | exact Pick.here _ _ _ | apply Pick.next)) (by rfl)) (.tmp rfl) (.tmp rfl)) (.nil _) ?_
    first | exact ⟨rfl, rfl⟩ | (exfalso; first | contradiction | exact absurd hA.1 (by assumption) | exact absurd hA.2.1 (by assumption) | exact absurd hA.2.2.1 (by assumption) | exact absurd hA.2.2.1.symm (by assumption) | exact absurd hA.2.2.2.1 (by assumption) | (have h1 := hA.2.2.2.2; have h2 := hA.1.1; have h3 := hA.1.2; have h4 := hA.2.1; have h5 := hA.2.2.1; omega))
  · (try simp only [Bool.not_eq_true', Bool.not_eq_false', Bool.not_eq_true, Bool.not_eq_false, decide_eq_true_eq, decide_eq_false_iff_not, List.length_map, List.length_range] at h2)
    refine a_skip ?_
    refine a_seq ?_
    refine a_seq ?_
    refine a_region ?_
    refine aops_cons rfl (w_pure rfl (p_assign rfl) ?_)
    refine aops_nil ?_
    refine a_block ?_
    refine a_loop (ι := Nat) (fun i => i ≤ 11 ∧ ∀ j, j < i → NotWord xs j = false) (fun i => [(5, .int .i64 (i : Int))]) (fun i => []) (fun i => 11 - i) 0 ⟨Nat.zero_le _, below_zero⟩ (by repeat (first | exact Knows.nil | refine Knows.cons (by rfl) ?_)) (by repeat (first | exact Picks.nil _ | exact Pick.here _ _ _ | apply Pick.next | apply Picks.cons)) ?_
    rintro i ⟨hi, hI⟩
    skip
    refine a_seq ?_
    refine a_seq ?_
    refine a_region ?_
    refine aops_cons rfl (w_pure rfl (p_move rfl) ?_)
    refine aops_cons rfl (w_pure rfl (p_lss rfl rfl) ?_)
    refine aops_nil ?_
    first | refine a_cond_d rfl (fun h3 => ?_) (fun h4 => ?_) | refine a_cond_n rfl (fun h3 => ?_) (fun h4 => ?_) | refine a_cond_nb rfl (fun h3 => ?_) (fun h4 => ?_) | refine a_cond rfl (fun h3 => ?_) (fun h4 => ?_)
    · (try simp only [Bool.not_eq_true', Bool.not_eq_false', Bool.not_eq_true, Bool.not_eq_false, decide_eq_true_eq, decide_eq_false_iff_not, List.length_map, List.length_range] at h3)
      refine a_skip ?_
      refine a_seq ?_
      refine a_block ?_
      refine a_seq ?_
      refine a_region ?_
      refine aops_cons rfl (w_pure rfl (p_move rfl) ?_)
      refine aops_cons rfl (w_pure rfl (p_move rfl) ?_)
      refine aops_cons rfl (w_pure rfl (p_index_sl i rfl rfl rfl (rowD _ _ (0 : Int) (by omega)) es_22) ?_)
      refine aops_cons rfl (w_pure rfl (p_load_v ag_3 rfl (by rfl) noX) ?_)
      refine aops_cons rfl (w_callR rfl rfl rfl cl_93 (c_spec_l1In ..) ?_)
      refine aops_cons rfl (w_pure rfl (p_not rfl) ?_)
      refine aops_nil ?_
      first | refine a_cond_d rfl (fun h5 => ?_) (fun h6 => ?_) | refine a_cond_n rfl (fun h5 => ?_) (fun h6 => ?_) | refine a_cond_nb rfl (fun h5 => ?_) (fun h6 => ?_) | refine a_cond rfl (fun h5 => ?_) (fun h6 => ?_)
      · (try simp only [Bool.not_eq_true', Bool.not_eq_false', Bool.not_eq_true, Bool.not_eq_false, decide_eq_true_eq, decide_eq_false_iff_not, List.length_map, List.length_range] at h5)
        refine a_seq ?_
        have HX : ¬ WordsOk xs := wordsOk_not (by omega) hI (show NotWord xs i = true by unfold NotWord; rw [decide_eq_false (by assumption)]; rfl)
        refine a_region ?_
        refine aops_cons rfl (w_pure rfl (p_build (cells := [_, _, _, _, _, _, _]) z_32 pl_32 rfl rfl) ?_)
        refine aops_cons rfl (w_store (cells' := [_, _, _, _, _, _, _]) rfl rfl rfl (by repeat (first | exact Pick.here _ _ _ | apply Pick.next)) cn_32 (by rfl) (by rfl) (by rfl) trivial ?_)
        refine aops_cons rfl (w_pure rfl (p_assign rfl) ?_)
        refine aops_cons rfl (w_pure rfl (p_assign rfl) ?_)
        refine aops_nil ?_
        refine a_ret ?_
        refine ret_ok (hands3 rfl (.cell ag_32 rfl (by repeat (first | exact Pick.here _ _ _ | apply Pick.next)) (by rfl)) (.tmp rfl) (.tmp rfl)) (.nil _) ?_
        first | exact ⟨rfl, rfl⟩ | (exfalso; first | contradiction | exact absurd hA.1 (by assumption) | exact absurd hA.2.1 (by assumption) | exact absurd hA.2.2.1 (by assumption) | exact absurd hA.2.2.1.symm (by assumption) | exact absurd hA.2.2.2.1 (by assumption) | (have h1 := hA.2.2.2.2; have h2 := hA.1.1; have h3 := hA.1.2; have h4 := hA.2.1; have h5 := hA.2.2.1; omega))
      · (try simp only [Bool.not_eq_true', Bool.not_eq_false', Bool.not_eq_true, Bool.not_eq_false, decide_eq_true_eq, decide_eq_false_iff_not, List.length_map, List.length_range] at h6)
        refine a_skip ?_
        refine a_region ?_
        refine aops_cons rfl (w_pure rfl (p_move rfl) ?_)
        refine aops_cons rfl (w_pure rfl (p_add' rfl rfl ⟨by omega, by omega⟩) ?_)
        refine aops_cons rfl (w_pure rfl (p_assign rfl) ?_)
        refine aops_nil ?_
        refine ⟨(i + 1), _, ?_, ?_, (by repeat (first | exact Knows.nil | refine Knows.cons (by rfl) ?_)), (by repeat (first | exact Back.refl _ _ | refine Back.cons (by rfl) ?_)), (by repeat (first | exact Picks.nil _ | exact Pick.here _ _ _ | apply Pick.next | apply Picks.cons))⟩
        · exact ⟨by omega, below_succ hI (show NotWord xs i = false by unfold NotWord; rw [decide_eq_true (by assumption)]; rfl)⟩
        · (try dsimp only); omega
    · (try simp only [Bool.not_eq_true', Bool.not_eq_false', Bool.not_eq_true, Bool.not_eq_false, decide_eq_true_eq, decide_eq_false_iff_not, List.length_map, List.length_range] at h4)
      refine a_exit ?_
      refine a_seq ?_
      refine a_block ?_
      refine a_seq ?_
      have HL : xs.length = 11 := (by omega); have HW : ∀ j, j < 11 → NotWord xs j = false := fun j hj => hI j (by omega); have HV : WordsOk xs := wordsOk_of HL HW (Nat.le_refl _); have hw1 := word_b HW (j := 1) (by omega); have hw7 := word_b HW (j := 7) (by omega)
      refine a_region ?_
      refine aops_cons rfl (w_pure rfl (p_move rfl) ?_)
      refine aops_cons rfl (w_pure rfl (p_index_sl 0 rfl rfl rfl (rowD _ _ (0 : Int) (by first | omega | (rw [HL]; decide))) es_22) ?_)
      refine aops_cons rfl (w_pure rfl (p_load_v ag_3 rfl (by rfl) noX) ?_)
      refine aops_cons rfl (w_pure rfl (p_neq rfl rfl) ?_)
      refine aops_cons rfl (w_pure rfl (p_assign rfl) ?_)
      refine aops_nil ?_
      first | refine a_cond_d rfl (fun h7 => ?_) (fun h8 => ?_) | refine a_cond_n rfl (fun h7 => ?_) (fun h8 => ?_) | refine a_cond_nb rfl (fun h7 => ?_) (fun h8 => ?_) | refine a_cond rfl (fun h7 => ?_) (fun h8 => ?_)
      · (try simp only [Bool.not_eq_true', Bool.not_eq_false', Bool.not_eq_true, Bool.not_eq_false, decide_eq_true_eq, decide_eq_false_iff_not, List.length_map, List.length_range] at h7)
        refine a_seq ?_
        refine a_region ?_
        refine aops_cons rfl (w_pure rfl (p_build (cells := [_, _, _, _, _, _, _]) z_32 pl_32 rfl rfl) ?_)
        refine aops_cons rfl (w_store (cells' := [_, _, _, _, _, _, _]) rfl rfl rfl (by repeat (first | exact Pick.here _ _ _ | apply Pick.next)) cn_32 (by rfl) (by rfl) (by rfl) trivial ?_)
        refine aops_cons rfl (w_pure rfl (p_assign rfl) ?_)
        refine aops_cons rfl (w_pure rfl (p_assign rfl) ?_)
        refine aops_nil ?_
        refine a_ret ?_
        refine ret_ok (hands3 rfl (.cell ag_32 rfl (by repeat (first | exact Pick.here _ _ _ | apply Pick.next)) (by rfl)) (.tmp rfl) (.tmp rfl)) (.nil _) ?_
        first | exact ⟨rfl, rfl⟩ | (exfalso; first | contradiction | exact absurd hA.1 (by assumption) | exact absurd hA.2.1 (by assumption) | exact absurd hA.2.2.1 (by assumption) | exact absurd hA.2.2.1.symm (by assumption) | exact absurd hA.2.2.2.1 (by assumption) | (have h1 := hA.2.2.2.2; have h2 := hA.1.1; have h3 := hA.1.2; have h4 := hA.2.1; have h5 := hA.2.2.1; omega))
      · (try simp only [Bool.not_eq_true', Bool.not_eq_false', Bool.not_eq_true, Bool.not_eq_false, decide_eq_true_eq, decide_eq_false_iff_not, List.length_map, List.length_range] at h8)
        refine a_seq ?_
        refine a_draw [] (by kernel_rfl) ?_
        show ADraw _ _ _ _ _ _ 8 _ _ _ _
        refine d_take 0 rfl (by kernel_rfl) (by kernel_rfl) (by kernel_rfl) rfl (p_move rfl) ?_
        refine d_take 1 rfl (by kernel_rfl) (by kernel_rfl) (by kernel_rfl) rfl (p_slice_sl 0 10 es_22 rfl rfl (hi_some rfl rfl) (Nat.zero_le _) (by rw [List.length_map]; omega) (lenAll _ _ (fun _ => rfl)) (show ((xs.map eInt).take 10).drop 0 = (xs.take 10).map eInt by rw [List.drop_zero, List.map_take])) ?_
        refine d_take 3 rfl (by kernel_rfl) (by kernel_rfl) (by kernel_rfl) rfl (p_move rfl) ?_
        refine d_take 4 rfl (by kernel_rfl) (by kernel_rfl) (by kernel_rfl) rfl (p_index_sl 10 rfl rfl rfl (rowD _ _ (0 : Int) (by first | omega | (rw [HL]; decide))) es_22) ?_
        refine d_load 5 rfl (by kernel_rfl) (by kernel_rfl) (by kernel_rfl) rfl (p_load_v ag_3 rfl (by rfl) noX) ?_
        refine draw_all [2] (by kernel_rfl) (by simp) ?_
        refine all_cons rfl rfl ?_ ?_
        · skip
          refine w_callR rfl rfl rfl cl_92 (c_spec_l14Check (xs.take 10) (by rw [List.length_take]; omega) (fun j hj => words_take HW (by omega) j (by rw [List.length_take] at hj; omega))) ?_
          refine d_take 6 rfl (by kernel_rfl) (by kernel_rfl) (by kernel_rfl) rfl (p_neq rfl rfl) ?_
          refine d_take 7 rfl (by kernel_rfl) (by kernel_rfl) (by kernel_rfl) rfl (p_assign rfl) ?_
          refine draw_done (by kernel_rfl) ?_
          first | refine a_cond_d rfl (fun h9 => ?_) (fun h10 => ?_) | refine a_cond_n rfl (fun h9 => ?_) (fun h10 => ?_) | refine a_cond_nb rfl (fun h9 => ?_) (fun h10 => ?_) | refine a_cond rfl (fun h9 => ?_) (fun h10 => ?_)
          · (try simp only [Bool.not_eq_true', Bool.not_eq_false', Bool.not_eq_true, Bool.not_eq_false, decide_eq_true_eq, decide_eq_false_iff_not, List.length_map, List.length_range] at h9)
            refine a_seq ?_
            refine a_region ?_
            refine aops_cons rfl (w_pure rfl (p_build (cells := [_, _, _, _, _, _, _]) z_32 pl_32 rfl rfl) ?_)
            refine aops_cons rfl (w_store (cells' := [_, _, _, _, _, _, _]) rfl rfl rfl (by repeat (first | exact Pick.here _ _ _ | apply Pick.next)) cn_32 (by rfl) (by rfl) (by rfl) trivial ?_)
            refine aops_cons rfl (w_pure rfl (p_assign rfl) ?_)
            refine aops_cons rfl (w_pure rfl (p_assign rfl) ?_)
            refine aops_nil ?_
            refine a_ret ?_
            refine ret_ok (hands3 rfl (.cell ag_32 rfl (by repeat (first | exact Pick.here _ _ _ | apply Pick.next)) (by rfl)) (.tmp rfl) (.tmp rfl)) (.nil _) ?_
            first | exact ⟨rfl, rfl⟩ | (exfalso; first | contradiction | exact absurd hA.1 (by assumption) | exact absurd hA.2.1 (by assumption) | exact absurd hA.2.2.1 (by assumption) | exact absurd hA.2.2.1.symm (by assumption) | exact absurd hA.2.2.2.1 (by assumption) | (have h1 := hA.2.2.2.2; have h2 := hA.1.1; have h3 := hA.1.2; have h4 := hA.2.1; have h5 := hA.2.2.1; omega))
          · (try simp only [Bool.not_eq_true', Bool.not_eq_false', Bool.not_eq_true, Bool.not_eq_false, decide_eq_true_eq, decide_eq_false_iff_not, List.length_map, List.length_range] at h10)
            refine a_skip ?_
            refine a_seq ?_
            refine a_draw [] (by kernel_rfl) ?_
            show ADraw _ _ _ _ _ _ 29 _ _ _ _
            refine d_take 0 rfl (by kernel_rfl) (by kernel_rfl) (by kernel_rfl) rfl (p_move rfl) ?_
            refine d_take 1 rfl (by kernel_rfl) (by kernel_rfl) (by kernel_rfl) rfl (p_index_sl 1 rfl rfl rfl (rowD _ _ (0 : Int) (by first | omega | (rw [HL]; decide))) es_22) ?_
            refine d_load 2 rfl (by kernel_rfl) (by kernel_rfl) (by kernel_rfl) rfl (p_load_v ag_3 rfl (by rfl) noX) ?_
            refine d_take 3 rfl (by kernel_rfl) (by kernel_rfl) (by kernel_rfl) rfl (p_move rfl) ?_
            refine d_take 4 rfl (by kernel_rfl) (by kernel_rfl) (by kernel_rfl) rfl (p_slice_sl 2 6 es_22 rfl (lo_some rfl rfl) (hi_some rfl rfl) (by decide) (by rw [List.length_map]; omega) (lenAll _ _ (fun _ => rfl)) (show ((xs.map eInt).take 6).drop 2 = ((xs.take 6).drop 2).map eInt by rw [List.map_drop, List.map_take])) ?_
            refine d_take 6 rfl (by kernel_rfl) (by kernel_rfl) (by kernel_rfl) rfl (p_move rfl) ?_
            refine d_take 7 rfl (by kernel_rfl) (by kernel_rfl) (by kernel_rfl) rfl (p_index_sl 6 rfl rfl rfl (rowD _ _ (0 : Int) (by first | omega | (rw [HL]; decide))) es_22) ?_
            refine d_load 8 rfl (by kernel_rfl) (by kernel_rfl) (by kernel_rfl) rfl (p_load_v ag_3 rfl (by rfl) noX) ?_
            refine d_take 9 rfl (by kernel_rfl) (by kernel_rfl) (by kernel_rfl) rfl (p_move rfl) ?_
            refine d_take 10 rfl (by kernel_rfl) (by kernel_rfl) (by kernel_rfl) rfl (p_index_sl 7 rfl rfl rfl (rowD _ _ (0 : Int) (by first | omega | (rw [HL]; decide))) es_22) ?_
            refine d_load 11 rfl (by kernel_rfl) (by kernel_rfl) (by kernel_rfl) rfl (p_load_v ag_3 rfl (by rfl) noX) ?_
            refine d_take 12 rfl (by kernel_rfl) (by kernel_rfl) (by kernel_rfl) rfl (p_rem' rfl rfl (by omega) (by omega)) ?_
            refine d_take 13 rfl (by kernel_rfl) (by kernel_rfl) (by kernel_rfl) rfl (p_eql rfl rfl) ?_
            refine d_take 14 rfl (by kernel_rfl) (by kernel_rfl) (by kernel_rfl) rfl (p_move rfl) ?_
            refine d_take 15 rfl (by kernel_rfl) (by kernel_rfl) (by kernel_rfl) rfl (p_index_sl 7 rfl rfl rfl (rowD _ _ (0 : Int) (by first | omega | (rw [HL]; decide))) es_22) ?_
            refine d_load 16 rfl (by kernel_rfl) (by kernel_rfl) (by kernel_rfl) rfl (p_load_v ag_3 rfl (by rfl) noX) ?_
            refine d_take 17 rfl (by kernel_rfl) (by kernel_rfl) (by kernel_rfl) rfl (p_quo' rfl rfl (by omega) (by omega) (by omega)) ?_
            refine d_take 18 rfl (by kernel_rfl) (by kernel_rfl) (by kernel_rfl) rfl (p_eql rfl rfl) ?_
            refine d_take 20 rfl (by kernel_rfl) (by kernel_rfl) (by kernel_rfl) rfl (p_move rfl) ?_
            refine d_take 21 rfl (by kernel_rfl) (by kernel_rfl) (by kernel_rfl) rfl (p_index_sl 8 rfl rfl rfl (rowD _ _ (0 : Int) (by first | omega | (rw [HL]; decide))) es_22) ?_
            refine d_load 22 rfl (by kernel_rfl) (by kernel_rfl) (by kernel_rfl) rfl (p_load_v ag_3 rfl (by rfl) noX) ?_
            refine d_take 23 rfl (by kernel_rfl) (by kernel_rfl) (by kernel_rfl) rfl (p_move rfl) ?_
            refine d_take 24 rfl (by kernel_rfl) (by kernel_rfl) (by kernel_rfl) rfl (p_index_sl 9 rfl rfl rfl (rowD _ _ (0 : Int) (by first | omega | (rw [HL]; decide))) es_22) ?_
            refine d_load 25 rfl (by kernel_rfl) (by kernel_rfl) (by kernel_rfl) rfl (p_load_v ag_3 rfl (by rfl) noX) ?_
            refine draw_all [5, 27] (by kernel_rfl) (by simp) ?_
            refine all_cons rfl rfl ?_ ?_
            · skip
              refine w_callR rfl rfl rfl cl_94 (c_spec_l1Own _ (by first | omega | (simp only [List.length_append, List.length_cons, List.length_nil, List.length_take, List.length_drop]; omega))) ?_
              refine d_take 19 rfl (by kernel_rfl) (by kernel_rfl) (by kernel_rfl) rfl (p_build (cells := [_, _, _, _]) z_30 pl_30 rfl rfl) ?_
              refine d_take 26 rfl (by kernel_rfl) (by kernel_rfl) (by kernel_rfl) rfl (p_build (cells := [_, _, _, _, _, _, _]) z_32 pl_32 rfl rfl) ?_
              refine draw_all [27] (by kernel_rfl) (by simp) ?_
              refine all_cons rfl rfl ?_ ?_
              · skip
                refine w_alloc rfl z_32 fun b2 => ?_
                refine draw_all [28] (by kernel_rfl) (by simp) ?_
                refine all_cons rfl rfl ?_ ?_
                · skip
                  refine w_store (cells' := [_, _, _, _, _, _, _]) rfl rfl rfl (by repeat (first | exact Pick.here _ _ _ | apply Pick.next)) cn_32 (by rfl) (by rfl) (by rfl) (by first | (refine .inl ?_; simp; done) | (refine .inr ?_; simp [keys]; done)) ?_
                  refine draw_done (by kernel_rfl) ?_
                  refine a_seq ?_
                  refine a_seq ?_
                  refine a_region ?_
                  refine aops_cons rfl (w_pure rfl (p_load_box_all ag_32 rfl (by repeat (first | exact Pick.here _ _ _ | apply Pick.next)) (by rfl) noX) ?_)
                  refine aops_cons rfl (w_callR rfl rfl rfl cl_61 (c_spec_l14One (ctxOf xs) (small_ctxOf xs)) ?_)
                  refine aops_cons rfl (w_pure rfl (p_not rfl) ?_)
                  refine aops_cons rfl (w_pure rfl (p_move rfl) ?_)
                  first | refine aops_split_d 67 rfl (fun h11 => ?_) (fun h12 => ?_) | refine aops_split 67 rfl (fun h11 => ?_) (fun h12 => ?_)
                  · (try simp only [Bool.not_eq_true', Bool.not_eq_false', Bool.not_eq_true, Bool.not_eq_false, decide_eq_true_eq, decide_eq_false_iff_not, List.length_map, List.length_range] at h11)
                    refine g_pass' rfl rfl rfl rfl rfl ?_
                    refine g_pass' rfl rfl rfl rfl rfl ?_
                    refine g_pass' rfl rfl rfl rfl rfl ?_
                    refine g_pass' rfl rfl rfl rfl rfl ?_
                    refine aops_cons rfl (w_pure rfl (p_pick_t rfl rfl) ?_)
                    refine aops_nil ?_
                    refine a_cond_t rfl ?_
                    refine a_seq ?_
                    refine a_region ?_
                    refine aops_cons rfl (w_pure rfl (p_build (cells := [_, _, _, _, _, _, _]) z_32 pl_32 rfl rfl) ?_)
                    refine aops_cons rfl (w_store (cells' := [_, _, _, _, _, _, _]) rfl rfl rfl (by repeat (first | exact Pick.here _ _ _ | apply Pick.next)) cn_32 (by rfl) (by rfl) (by rfl) trivial ?_)
                    refine aops_cons rfl (w_pure rfl (p_assign rfl) ?_)
                    refine aops_cons rfl (w_pure rfl (p_assign rfl) ?_)
                    refine aops_nil ?_
                    refine a_ret ?_
                    refine ret_ok (hands3 rfl (.cell ag_32 rfl (by repeat (first | exact Pick.here _ _ _ | apply Pick.next)) (by rfl)) (.tmp rfl) (.tmp rfl)) (.nil _) ?_
                    first | exact ⟨rfl, rfl⟩ | (exfalso; first | contradiction | exact absurd hA.1 (by assumption) | exact absurd hA.2.1 (by assumption) | exact absurd hA.2.2.1 (by assumption) | exact absurd hA.2.2.1.symm (by assumption) | exact absurd hA.2.2.2.1 (by assumption) | (have h1 := hA.2.2.2.2; have h2 := hA.1.1; have h3 := hA.1.2; have h4 := hA.2.1; have h5 := hA.2.2.1; omega))
                  · (try simp only [Bool.not_eq_true', Bool.not_eq_false', Bool.not_eq_true, Bool.not_eq_false, decide_eq_true_eq, decide_eq_false_iff_not, List.length_map, List.length_range] at h12)
                    refine aops_guard_t rfl rfl rfl (w_pure rfl (p_move rfl) ?_)
                    refine aops_guard_t rfl rfl rfl (w_pure rfl (p_index_sl 7 rfl rfl rfl (rowD _ _ (0 : Int) (by first | omega | (rw [HL]; decide))) es_22) ?_)
                    refine aops_guard_t rfl rfl rfl (w_pure rfl (p_load_v ag_3 rfl (by rfl) noX) ?_)
                    refine aops_guard_t rfl rfl rfl (w_pure rfl (p_gtr rfl rfl) ?_)
                    refine aops_cons rfl (w_pure rfl (p_pick_f rfl rfl) ?_)
                    refine aops_nil ?_
                    first | refine a_cond_d rfl (fun h13 => ?_) (fun h14 => ?_) | refine a_cond_n rfl (fun h13 => ?_) (fun h14 => ?_) | refine a_cond_nb rfl (fun h13 => ?_) (fun h14 => ?_) | refine a_cond rfl (fun h13 => ?_) (fun h14 => ?_)
                    · (try simp only [Bool.not_eq_true', Bool.not_eq_false', Bool.not_eq_true, Bool.not_eq_false, decide_eq_true_eq, decide_eq_false_iff_not, List.length_map, List.length_range] at h13)
                      refine a_seq ?_
                      refine a_region ?_
                      refine aops_cons rfl (w_pure rfl (p_build (cells := [_, _, _, _, _, _, _]) z_32 pl_32 rfl rfl) ?_)
                      refine aops_cons rfl (w_store (cells' := [_, _, _, _, _, _, _]) rfl rfl rfl (by repeat (first | exact Pick.here _ _ _ | apply Pick.next)) cn_32 (by rfl) (by rfl) (by rfl) trivial ?_)
                      refine aops_cons rfl (w_pure rfl (p_assign rfl) ?_)
                      refine aops_cons rfl (w_pure rfl (p_assign rfl) ?_)
                      refine aops_nil ?_
                      refine a_ret ?_
                      refine ret_ok (hands3 rfl (.cell ag_32 rfl (by repeat (first | exact Pick.here _ _ _ | apply Pick.next)) (by rfl)) (.tmp rfl) (.tmp rfl)) (.nil _) ?_
                      first | exact ⟨rfl, rfl⟩ | (exfalso; first | contradiction | exact absurd hA.1 (by assumption) | exact absurd hA.2.1 (by assumption) | exact absurd hA.2.2.1 (by assumption) | exact absurd hA.2.2.1.symm (by assumption) | exact absurd hA.2.2.2.1 (by assumption) | (have h1 := hA.2.2.2.2; have h2 := hA.1.1; have h3 := hA.1.2; have h4 := hA.2.1; have h5 := hA.2.2.1; omega))
                    · (try simp only [Bool.not_eq_true', Bool.not_eq_false', Bool.not_eq_true, Bool.not_eq_false, decide_eq_true_eq, decide_eq_false_iff_not, List.length_map, List.length_range] at h14)
                      refine a_skip ?_
                      refine a_seq ?_
                      refine a_region ?_
                      refine aops_cons rfl (w_pure rfl (p_load_box_all ag_32 rfl (by repeat (first | exact Pick.here _ _ _ | apply Pick.next)) (by rfl) noX) ?_)
                      refine aops_cons rfl (w_store (cells' := [_, _, _, _, _, _, _]) rfl rfl rfl (by repeat (first | exact Pick.here _ _ _ | apply Pick.next)) cn_32 (by rfl) (by rfl) (by rfl) trivial ?_)
                      refine aops_cons rfl (w_pure rfl (p_assign rfl) ?_)
                      refine aops_cons rfl (w_pure rfl (p_assign rfl) ?_)
                      refine aops_nil ?_
                      refine a_ret ?_
                      refine ret_ok (hands3 rfl (.cell ag_32 rfl (by repeat (first | exact Pick.here _ _ _ | apply Pick.next)) (by rfl)) (.tmp rfl) (.tmp rfl)) (.nil _) ?_
                      first | exact ⟨rfl, rfl⟩ | (exfalso; first | contradiction | exact absurd hA.1 (by assumption) | exact absurd hA.2.1 (by assumption) | exact absurd hA.2.2.1 (by assumption) | exact absurd hA.2.2.1.symm (by assumption) | exact absurd hA.2.2.2.1 (by assumption) | (have h1 := hA.2.2.2.2; have h2 := hA.1.1; have h3 := hA.1.2; have h4 := hA.2.1; have h5 := hA.2.2.1; omega))
                exact all_nil
              exact all_nil
            refine all_cons rfl rfl ?_ ?_
            · skip
              refine w_alloc rfl z_32 fun b3 => ?_
              refine draw_all [5] (by kernel_rfl) (by simp) ?_
              refine all_cons rfl rfl ?_ ?_
              · skip
                refine w_callR rfl rfl rfl cl_94 (c_spec_l1Own _ (by first | omega | (simp only [List.length_append, List.length_cons, List.length_nil, List.length_take, List.length_drop]; omega))) ?_
                refine d_take 19 rfl (by kernel_rfl) (by kernel_rfl) (by kernel_rfl) rfl (p_build (cells := [_, _, _, _]) z_30 pl_30 rfl rfl) ?_
                refine d_take 26 rfl (by kernel_rfl) (by kernel_rfl) (by kernel_rfl) rfl (p_build (cells := [_, _, _, _, _, _, _]) z_32 pl_32 rfl rfl) ?_
                refine draw_all [28] (by kernel_rfl) (by simp) ?_
                refine all_cons rfl rfl ?_ ?_
                · skip
                  refine w_store (cells' := [_, _, _, _, _, _, _]) rfl rfl rfl (by repeat (first | exact Pick.here _ _ _ | apply Pick.next)) cn_32 (by rfl) (by rfl) (by rfl) (by first | (refine .inl ?_; simp; done) | (refine .inr ?_; simp [keys]; done)) ?_
                  refine draw_done (by kernel_rfl) ?_
                  refine a_seq ?_
                  refine a_seq ?_
                  refine a_region ?_
                  refine aops_cons rfl (w_pure rfl (p_load_box_all ag_32 rfl (by repeat (first | exact Pick.here _ _ _ | apply Pick.next)) (by rfl) noX) ?_)
                  refine aops_cons rfl (w_callR rfl rfl rfl cl_61 (c_spec_l14One (ctxOf xs) (small_ctxOf xs)) ?_)
                  refine aops_cons rfl (w_pure rfl (p_not rfl) ?_)
                  refine aops_cons rfl (w_pure rfl (p_move rfl) ?_)
                  first | refine aops_split_d 67 rfl (fun h15 => ?_) (fun h16 => ?_) | refine aops_split 67 rfl (fun h15 => ?_) (fun h16 => ?_)
                  · (try simp only [Bool.not_eq_true', Bool.not_eq_false', Bool.not_eq_true, Bool.not_eq_false, decide_eq_true_eq, decide_eq_false_iff_not, List.length_map, List.length_range] at h15)
                    refine g_pass' rfl rfl rfl rfl rfl ?_
                    refine g_pass' rfl rfl rfl rfl rfl ?_
                    refine g_pass' rfl rfl rfl rfl rfl ?_
                    refine g_pass' rfl rfl rfl rfl rfl ?_
                    refine aops_cons rfl (w_pure rfl (p_pick_t rfl rfl) ?_)
                    refine aops_nil ?_
                    refine a_cond_t rfl ?_
                    refine a_seq ?_
                    refine a_region ?_
                    refine aops_cons rfl (w_pure rfl (p_build (cells := [_, _, _, _, _, _, _]) z_32 pl_32 rfl rfl) ?_)
                    refine aops_cons rfl (w_store (cells' := [_, _, _, _, _, _, _]) rfl rfl rfl (by repeat (first | exact Pick.here _ _ _ | apply Pick.next)) cn_32 (by rfl) (by rfl) (by rfl) trivial ?_)
                    refine aops_cons rfl (w_pure rfl (p_assign rfl) ?_)
                    refine aops_cons rfl (w_pure rfl (p_assign rfl) ?_)
                    refine aops_nil ?_
                    refine a_ret ?_
                    refine ret_ok (hands3 rfl (.cell ag_32 rfl (by repeat (first | exact Pick.here _ _ _ | apply Pick.next)) (by rfl)) (.tmp rfl) (.tmp rfl)) (.nil _) ?_
                    first | exact ⟨rfl, rfl⟩ | (exfalso; first | contradiction | exact absurd hA.1 (by assumption) | exact absurd hA.2.1 (by assumption) | exact absurd hA.2.2.1 (by assumption) | exact absurd hA.2.2.1.symm (by assumption) | exact absurd hA.2.2.2.1 (by assumption) | (have h1 := hA.2.2.2.2; have h2 := hA.1.1; have h3 := hA.1.2; have h4 := hA.2.1; have h5 := hA.2.2.1; omega))
                  · (try simp only [Bool.not_eq_true', Bool.not_eq_false', Bool.not_eq_true, Bool.not_eq_false, decide_eq_true_eq, decide_eq_false_iff_not, List.length_map, List.length_range] at h16)
                    refine aops_guard_t rfl rfl rfl (w_pure rfl (p_move rfl) ?_)
                    refine aops_guard_t rfl rfl rfl (w_pure rfl (p_index_sl 7 rfl rfl rfl (rowD _ _ (0 : Int) (by first | omega | (rw [HL]; decide))) es_22) ?_)
                    refine aops_guard_t rfl rfl rfl (w_pure rfl (p_load_v ag_3 rfl (by rfl) noX) ?_)
                    refine aops_guard_t rfl rfl rfl (w_pure rfl (p_gtr rfl rfl) ?_)
                    refine aops_cons rfl (w_pure rfl (p_pick_f rfl rfl) ?_)
                    refine aops_nil ?_
                    first | refine a_cond_d rfl (fun h17 => ?_) (fun h18 => ?_) | refine a_cond_n rfl (fun h17 => ?_) (fun h18 => ?_) | refine a_cond_nb rfl (fun h17 => ?_) (fun h18 => ?_) | refine a_cond rfl (fun h17 => ?_) (fun h18 => ?_)
                    · (try simp only [Bool.not_eq_true', Bool.not_eq_false', Bool.not_eq_true, Bool.not_eq_false, decide_eq_true_eq, decide_eq_false_iff_not, List.length_map, List.length_range] at h17)
                      refine a_seq ?_
                      refine a_region ?_
                      refine aops_cons rfl (w_pure rfl (p_build (cells := [_, _, _, _, _, _, _]) z_32 pl_32 rfl rfl) ?_)
                      refine aops_cons rfl (w_store (cells' := [_, _, _, _, _, _, _]) rfl rfl rfl (by repeat (first | exact Pick.here _ _ _ | apply Pick.next)) cn_32 (by rfl) (by rfl) (by rfl) trivial ?_)
                      refine aops_cons rfl (w_pure rfl (p_assign rfl) ?_)
                      refine aops_cons rfl (w_pure rfl (p_assign rfl) ?_)
                      refine aops_nil ?_
                      refine a_ret ?_
                      refine ret_ok (hands3 rfl (.cell ag_32 rfl (by repeat (first | exact Pick.here _ _ _ | apply Pick.next)) (by rfl)) (.tmp rfl) (.tmp rfl)) (.nil _) ?_
                      first | exact ⟨rfl, rfl⟩ | (exfalso; first | contradiction | exact absurd hA.1 (by assumption) | exact absurd hA.2.1 (by assumption) | exact absurd hA.2.2.1 (by assumption) | exact absurd hA.2.2.1.symm (by assumption) | exact absurd hA.2.2.2.1 (by assumption) | (have h1 := hA.2.2.2.2; have h2 := hA.1.1; have h3 := hA.1.2; have h4 := hA.2.1; have h5 := hA.2.2.1; omega))
                    · (try simp only [Bool.not_eq_true', Bool.not_eq_false', Bool.not_eq_true, Bool.not_eq_false, decide_eq_true_eq, decide_eq_false_iff_not, List.length_map, List.length_range] at h18)
                      refine a_skip ?_
                      refine a_seq ?_
                      refine a_region ?_
                      refine aops_cons rfl (w_pure rfl (p_load_box_all ag_32 rfl (by repeat (first | exact Pick.here _ _ _ | apply Pick.next)) (by rfl) noX) ?_)
                      refine aops_cons rfl (w_store (cells' := [_, _, _, _, _, _, _]) rfl rfl rfl (by repeat (first | exact Pick.here _ _ _ | apply Pick.next)) cn_32 (by rfl) (by rfl) (by rfl) trivial ?_)
                      refine aops_cons rfl (w_pure rfl (p_assign rfl) ?_)
                      refine aops_cons rfl (w_pure rfl (p_assign rfl) ?_)
                      refine aops_nil ?_
                      refine a_ret ?_
                      refine ret_ok (hands3 rfl (.cell ag_32 rfl (by repeat (first | exact Pick.here _ _ _ | apply Pick.next)) (by rfl)) (.tmp rfl) (.tmp rfl)) (.nil _) ?_
                      first | exact ⟨rfl, rfl⟩ | (exfalso; first | contradiction | exact absurd hA.1 (by assumption) | exact absurd hA.2.1 (by assumption) | exact absurd hA.2.2.1 (by assumption) | exact absurd hA.2.2.1.symm (by assumption) | exact absurd hA.2.2.2.1 (by assumption) | (have h1 := hA.2.2.2.2; have h2 := hA.1.1; have h3 := hA.1.2; have h4 := hA.2.1; have h5 := hA.2.2.1; omega))
                exact all_nil
              exact all_nil
            exact all_nil
        exact all_nil

theorem cn_spec_LoadContext (xs : List Int) (hn : xs.length ≤ 1048576) (hA : ¬ GoodLoad xs) : ACalls Try.prog 46 [.sl (xs.map eInt)] [] (Ret (.tup [.agg [.int .i64 0, .nil, .int .i64 0, .bool false, .bool false, .int .i64 0, .int .i64 0], .int .i64 (codeL xs), .bool false])) := by
  refine a_enter Try.func46 rfl rfl (fun w0 M0 => ?_)
  refine a_seq ?_
  refine a_region ?_
  refine aops_cons rfl (w_alloc rfl z_32 fun b1 => ?_)
  refine aops_cons rfl (w_pure rfl (p_assign rfl) ?_)
  refine aops_cons rfl (w_pure rfl (p_assign rfl) ?_)
  refine aops_nil ?_
  refine a_seq ?_
  refine a_seq ?_
  refine a_region ?_
  refine aops_cons rfl (w_pure rfl (p_move rfl) ?_)
  refine aops_cons rfl (w_pure rfl (p_len sl_22 rfl rfl) ?_)
  refine aops_cons rfl (w_pure rfl (p_neq rfl rfl) ?_)
  refine aops_nil ?_
  first | refine a_cond_d rfl (fun h1 => ?_) (fun h2 => ?_) | refine a_cond_n rfl (fun h1 => ?_) (fun h2 => ?_) | refine a_cond_nb rfl (fun h1 => ?_) (fun h2 => ?_) | refine a_cond rfl (fun h1 => ?_) (fun h2 => ?_)
  · (try simp only [Bool.not_eq_true', Bool.not_eq_false', Bool.not_eq_true, Bool.not_eq_false, decide_eq_true_eq, decide_eq_false_iff_not, List.length_map, List.length_range] at h1)
    refine a_seq ?_
    have HX : ¬ WordsOk xs := (by first | exact (fun h => absurd h.1 (by omega)))
    refine a_region ?_
    refine aops_cons rfl (w_pure rfl (p_build (cells := [_, _, _, _, _, _, _]) z_32 pl_32 rfl rfl) ?_)
    refine aops_cons rfl (w_store (cells' := [_, _, _, _, _, _, _]) rfl rfl rfl (by repeat (first | exact Pick.here _ _ _ | apply Pick.next)) cn_32 (by rfl) (by rfl) (by rfl) trivial ?_)
    refine aops_cons rfl (w_pure rfl (p_assign rfl) ?_)
    refine aops_cons rfl (w_pure rfl (p_assign rfl) ?_)
    refine aops_nil ?_
    refine a_ret ?_
    refine ret_ok (hands3 rfl (.cell ag_32 rfl (by repeat (first | exact Pick.here _ _ _ | apply Pick.next)) (by rfl)) (.tmp rfl) (.tmp rfl)) (.nil _) ?_
    first | (rw [code1 HX]; exact ⟨rfl, rfl⟩) | (rw [code2 HV (by assumption)]; exact ⟨rfl, rfl⟩) | (rw [code3 HV (by omega) (by omega)]; exact ⟨rfl, rfl⟩) | (rw [code4 HV (by omega) (by omega)]; exact ⟨rfl, rfl⟩) | exact absurd (show GoodLoad xs from ⟨HV, by omega, by omega, by assumption, by omega⟩) hA
  · (try simp only [Bool.not_eq_true', Bool.not_eq_false', Bool.not_eq_true, Bool.not_eq_false, decide_eq_true_eq, decide_eq_false_iff_not, List.length_map, List.length_range] at h2)
    refine a_skip ?_
    refine a_seq ?_
    refine a_seq ?_
    refine a_region ?_
    refine aops_cons rfl (w_pure rfl (p_assign rfl) ?_)
    refine aops_nil ?_
    refine a_block ?_
    refine a_loop (ι := Nat) (fun i => i ≤ 11 ∧ ∀ j, j < i → NotWord xs j = false) (fun i => [(5, .int .i64 (i : Int))]) (fun i => []) (fun i => 11 - i) 0 ⟨Nat.zero_le _, below_zero⟩ (by repeat (first | exact Knows.nil | refine Knows.cons (by rfl) ?_)) (by repeat (first | exact Picks.nil _ | exact Pick.here _ _ _ | apply Pick.next | apply Picks.cons)) ?_
    rintro i ⟨hi, hI⟩
    skip
    refine a_seq ?_
    refine a_seq ?_
    refine a_region ?_
    refine aops_cons rfl (w_pure rfl (p_move rfl) ?_)
    refine aops_cons rfl (w_pure rfl (p_lss rfl rfl) ?_)
    refine aops_nil ?_
    first | refine a_cond_d rfl (fun h3 => ?_) (fun h4 => ?_) | refine a_cond_n rfl (fun h3 => ?_) (fun h4 => ?_) | refine a_cond_nb rfl (fun h3 => ?_) (fun h4 => ?_) | refine a_cond rfl (fun h3 => ?_) (fun h4 => ?_)
    · (try simp only [Bool.not_eq_true', Bool.not_eq_false', Bool.not_eq_true, Bool.not_eq_false, decide_eq_true_eq, decide_eq_false_iff_not, List.length_map, List.length_range] at h3)
      refine a_skip ?_
      refine a_seq ?_
      refine a_block ?_
      refine a_seq ?_
      refine a_region ?_
      refine aops_cons rfl (w_pure rfl (p_move rfl) ?_)
      refine aops_cons rfl (w_pure rfl (p_move rfl) ?_)
      refine aops_cons rfl (w_pure rfl (p_index_sl i rfl rfl rfl (rowD _ _ (0 : Int) (by omega)) es_22) ?_)
      refine aops_cons rfl (w_pure rfl (p_load_v ag_3 rfl (by rfl) noX) ?_)
      refine aops_cons rfl (w_callR rfl rfl rfl cl_93 (c_spec_l1In ..) ?_)
      refine aops_cons rfl (w_pure rfl (p_not rfl) ?_)
      refine aops_nil ?_
      first | refine a_cond_d rfl (fun h5 => ?_) (fun h6 => ?_) | refine a_cond_n rfl (fun h5 => ?_) (fun h6 => ?_) | refine a_cond_nb rfl (fun h5 => ?_) (fun h6 => ?_) | refine a_cond rfl (fun h5 => ?_) (fun h6 => ?_)
      · (try simp only [Bool.not_eq_true', Bool.not_eq_false', Bool.not_eq_true, Bool.not_eq_false, decide_eq_true_eq, decide_eq_false_iff_not, List.length_map, List.length_range] at h5)
        refine a_seq ?_
        have HX : ¬ WordsOk xs := wordsOk_not (by omega) hI (show NotWord xs i = true by unfold NotWord; rw [decide_eq_false (by assumption)]; rfl)
        refine a_region ?_
        refine aops_cons rfl (w_pure rfl (p_build (cells := [_, _, _, _, _, _, _]) z_32 pl_32 rfl rfl) ?_)
        refine aops_cons rfl (w_store (cells' := [_, _, _, _, _, _, _]) rfl rfl rfl (by repeat (first | exact Pick.here _ _ _ | apply Pick.next)) cn_32 (by rfl) (by rfl) (by rfl) trivial ?_)
        refine aops_cons rfl (w_pure rfl (p_assign rfl) ?_)
        refine aops_cons rfl (w_pure rfl (p_assign rfl) ?_)
        refine aops_nil ?_
        refine a_ret ?_
        refine ret_ok (hands3 rfl (.cell ag_32 rfl (by repeat (first | exact Pick.here _ _ _ | apply Pick.next)) (by rfl)) (.tmp rfl) (.tmp rfl)) (.nil _) ?_
        first | (rw [code1 HX]; exact ⟨rfl, rfl⟩) | (rw [code2 HV (by assumption)]; exact ⟨rfl, rfl⟩) | (rw [code3 HV (by omega) (by omega)]; exact ⟨rfl, rfl⟩) | (rw [code4 HV (by omega) (by omega)]; exact ⟨rfl, rfl⟩) | exact absurd (show GoodLoad xs from ⟨HV, by omega, by omega, by assumption, by omega⟩) hA
      · (try simp only [Bool.not_eq_true', Bool.not_eq_false', Bool.not_eq_true, Bool.not_eq_false, decide_eq_true_eq, decide_eq_false_iff_not, List.length_map, List.length_range] at h6)
        refine a_skip ?_
        refine a_region ?_
        refine aops_cons rfl (w_pure rfl (p_move rfl) ?_)
        refine aops_cons rfl (w_pure rfl (p_add' rfl rfl ⟨by omega, by omega⟩) ?_)
        refine aops_cons rfl (w_pure rfl (p_assign rfl) ?_)
        refine aops_nil ?_
        refine ⟨(i + 1), _, ?_, ?_, (by repeat (first | exact Knows.nil | refine Knows.cons (by rfl) ?_)), (by repeat (first | exact Back.refl _ _ | refine Back.cons (by rfl) ?_)), (by repeat (first | exact Picks.nil _ | exact Pick.here _ _ _ | apply Pick.next | apply Picks.cons))⟩
        · exact ⟨by omega, below_succ hI (show NotWord xs i = false by unfold NotWord; rw [decide_eq_true (by assumption)]; rfl)⟩
        · (try dsimp only); omega
    · (try simp only [Bool.not_eq_true', Bool.not_eq_false', Bool.not_eq_true, Bool.not_eq_false, decide_eq_true_eq, decide_eq_false_iff_not, List.length_map, List.length_range] at h4)
      refine a_exit ?_
      refine a_seq ?_
      refine a_block ?_
      refine a_seq ?_
      have HL : xs.length = 11 := (by omega); have HW : ∀ j, j < 11 → NotWord xs j = false := fun j hj => hI j (by omega); have HV : WordsOk xs := wordsOk_of HL HW (Nat.le_refl _); have hw1 := word_b HW (j := 1) (by omega); have hw7 := word_b HW (j := 7) (by omega)
      refine a_region ?_
      refine aops_cons rfl (w_pure rfl (p_move rfl) ?_)
      refine aops_cons rfl (w_pure rfl (p_index_sl 0 rfl rfl rfl (rowD _ _ (0 : Int) (by first | omega | (rw [HL]; decide))) es_22) ?_)
      refine aops_cons rfl (w_pure rfl (p_load_v ag_3 rfl (by rfl) noX) ?_)
      refine aops_cons rfl (w_pure rfl (p_neq rfl rfl) ?_)
      refine aops_cons rfl (w_pure rfl (p_assign rfl) ?_)
      refine aops_nil ?_
      first | refine a_cond_d rfl (fun h7 => ?_) (fun h8 => ?_) | refine a_cond_n rfl (fun h7 => ?_) (fun h8 => ?_) | refine a_cond_nb rfl (fun h7 => ?_) (fun h8 => ?_) | refine a_cond rfl (fun h7 => ?_) (fun h8 => ?_)
      · (try simp only [Bool.not_eq_true', Bool.not_eq_false', Bool.not_eq_true, Bool.not_eq_false, decide_eq_true_eq, decide_eq_false_iff_not, List.length_map, List.length_range] at h7)
        refine a_seq ?_
        refine a_region ?_
        refine aops_cons rfl (w_pure rfl (p_build (cells := [_, _, _, _, _, _, _]) z_32 pl_32 rfl rfl) ?_)
        refine aops_cons rfl (w_store (cells' := [_, _, _, _, _, _, _]) rfl rfl rfl (by repeat (first | exact Pick.here _ _ _ | apply Pick.next)) cn_32 (by rfl) (by rfl) (by rfl) trivial ?_)
        refine aops_cons rfl (w_pure rfl (p_assign rfl) ?_)
        refine aops_cons rfl (w_pure rfl (p_assign rfl) ?_)
        refine aops_nil ?_
        refine a_ret ?_
        refine ret_ok (hands3 rfl (.cell ag_32 rfl (by repeat (first | exact Pick.here _ _ _ | apply Pick.next)) (by rfl)) (.tmp rfl) (.tmp rfl)) (.nil _) ?_
        first | (rw [code1 HX]; exact ⟨rfl, rfl⟩) | (rw [code2 HV (by assumption)]; exact ⟨rfl, rfl⟩) | (rw [code3 HV (by omega) (by omega)]; exact ⟨rfl, rfl⟩) | (rw [code4 HV (by omega) (by omega)]; exact ⟨rfl, rfl⟩) | exact absurd (show GoodLoad xs from ⟨HV, by omega, by omega, by assumption, by omega⟩) hA
      · (try simp only [Bool.not_eq_true', Bool.not_eq_false', Bool.not_eq_true, Bool.not_eq_false, decide_eq_true_eq, decide_eq_false_iff_not, List.length_map, List.length_range] at h8)
        refine a_seq ?_
        refine a_draw [] (by kernel_rfl) ?_
        show ADraw _ _ _ _ _ _ 8 _ _ _ _
        refine d_take 0 rfl (by kernel_rfl) (by kernel_rfl) (by kernel_rfl) rfl (p_move rfl) ?_
        refine d_take 1 rfl (by kernel_rfl) (by kernel_rfl) (by kernel_rfl) rfl (p_slice_sl 0 10 es_22 rfl rfl (hi_some rfl rfl) (Nat.zero_le _) (by rw [List.length_map]; omega) (lenAll _ _ (fun _ => rfl)) (show ((xs.map eInt).take 10).drop 0 = (xs.take 10).map eInt by rw [List.drop_zero, List.map_take])) ?_
        refine d_take 3 rfl (by kernel_rfl) (by kernel_rfl) (by kernel_rfl) rfl (p_move rfl) ?_
        refine d_take 4 rfl (by kernel_rfl) (by kernel_rfl) (by kernel_rfl) rfl (p_index_sl 10 rfl rfl rfl (rowD _ _ (0 : Int) (by first | omega | (rw [HL]; decide))) es_22) ?_
        refine d_load 5 rfl (by kernel_rfl) (by kernel_rfl) (by kernel_rfl) rfl (p_load_v ag_3 rfl (by rfl) noX) ?_
        refine draw_all [2] (by kernel_rfl) (by simp) ?_
        refine all_cons rfl rfl ?_ ?_
        · skip
          refine w_callR rfl rfl rfl cl_92 (c_spec_l14Check (xs.take 10) (by rw [List.length_take]; omega) (fun j hj => words_take HW (by omega) j (by rw [List.length_take] at hj; omega))) ?_
          refine d_take 6 rfl (by kernel_rfl) (by kernel_rfl) (by kernel_rfl) rfl (p_neq rfl rfl) ?_
          refine d_take 7 rfl (by kernel_rfl) (by kernel_rfl) (by kernel_rfl) rfl (p_assign rfl) ?_
          refine draw_done (by kernel_rfl) ?_
          first | refine a_cond_d rfl (fun h9 => ?_) (fun h10 => ?_) | refine a_cond_n rfl (fun h9 => ?_) (fun h10 => ?_) | refine a_cond_nb rfl (fun h9 => ?_) (fun h10 => ?_) | refine a_cond rfl (fun h9 => ?_) (fun h10 => ?_)
          · (try simp only [Bool.not_eq_true', Bool.not_eq_false', Bool.not_eq_true, Bool.not_eq_false, decide_eq_true_eq, decide_eq_false_iff_not, List.length_map, List.length_range] at h9)
            refine a_seq ?_
            refine a_region ?_
            refine aops_cons rfl (w_pure rfl (p_build (cells := [_, _, _, _, _, _, _]) z_32 pl_32 rfl rfl) ?_)
            refine aops_cons rfl (w_store (cells' := [_, _, _, _, _, _, _]) rfl rfl rfl (by repeat (first | exact Pick.here _ _ _ | apply Pick.next)) cn_32 (by rfl) (by rfl) (by rfl) trivial ?_)
            refine aops_cons rfl (w_pure rfl (p_assign rfl) ?_)
            refine aops_cons rfl (w_pure rfl (p_assign rfl) ?_)
            refine aops_nil ?_
            refine a_ret ?_
            refine ret_ok (hands3 rfl (.cell ag_32 rfl (by repeat (first | exact Pick.here _ _ _ | apply Pick.next)) (by rfl)) (.tmp rfl) (.tmp rfl)) (.nil _) ?_
            first | (rw [code1 HX]; exact ⟨rfl, rfl⟩) | (rw [code2 HV (by assumption)]; exact ⟨rfl, rfl⟩) | (rw [code3 HV (by omega) (by omega)]; exact ⟨rfl, rfl⟩) | (rw [code4 HV (by omega) (by omega)]; exact ⟨rfl, rfl⟩) | exact absurd (show GoodLoad xs from ⟨HV, by omega, by omega, by assumption, by omega⟩) hA
          · (try simp only [Bool.not_eq_true', Bool.not_eq_false', Bool.not_eq_true, Bool.not_eq_false, decide_eq_true_eq, decide_eq_false_iff_not, List.length_map, List.length_range] at h10)
            refine a_skip ?_
            refine a_seq ?_
            refine a_draw [] (by kernel_rfl) ?_
            show ADraw _ _ _ _ _ _ 29 _ _ _ _
            refine d_take 0 rfl (by kernel_rfl) (by kernel_rfl) (by kernel_rfl) rfl (p_move rfl) ?_
            refine d_take 1 rfl (by kernel_rfl) (by kernel_rfl) (by kernel_rfl) rfl (p_index_sl 1 rfl rfl rfl (rowD _ _ (0 : Int) (by first | omega | (rw [HL]; decide))) es_22) ?_
            refine d_load 2 rfl (by kernel_rfl) (by kernel_rfl) (by kernel_rfl) rfl (p_load_v ag_3 rfl (by rfl) noX) ?_
            refine d_take 3 rfl (by kernel_rfl) (by kernel_rfl) (by kernel_rfl) rfl (p_move rfl) ?_
            refine d_take 4 rfl (by kernel_rfl) (by kernel_rfl) (by kernel_rfl) rfl (p_slice_sl 2 6 es_22 rfl (lo_some rfl rfl) (hi_some rfl rfl) (by decide) (by rw [List.length_map]; omega) (lenAll _ _ (fun _ => rfl)) (show ((xs.map eInt).take 6).drop 2 = ((xs.take 6).drop 2).map eInt by rw [List.map_drop, List.map_take])) ?_
            refine d_take 6 rfl (by kernel_rfl) (by kernel_rfl) (by kernel_rfl) rfl (p_move rfl) ?_
            refine d_take 7 rfl (by kernel_rfl) (by kernel_rfl) (by kernel_rfl) rfl (p_index_sl 6 rfl rfl rfl (rowD _ _ (0 : Int) (by first | omega | (rw [HL]; decide))) es_22) ?_
            refine d_load 8 rfl (by kernel_rfl) (by kernel_rfl) (by kernel_rfl) rfl (p_load_v ag_3 rfl (by rfl) noX) ?_
            refine d_take 9 rfl (by kernel_rfl) (by kernel_rfl) (by kernel_rfl) rfl (p_move rfl) ?_
            refine d_take 10 rfl (by kernel_rfl) (by kernel_rfl) (by kernel_rfl) rfl (p_index_sl 7 rfl rfl rfl (rowD _ _ (0 : Int) (by first | omega | (rw [HL]; decide))) es_22) ?_
            refine d_load 11 rfl (by kernel_rfl) (by kernel_rfl) (by kernel_rfl) rfl (p_load_v ag_3 rfl (by rfl) noX) ?_
            refine d_take 12 rfl (by kernel_rfl) (by kernel_rfl) (by kernel_rfl) rfl (p_rem' rfl rfl (by omega) (by omega)) ?_
            refine d_take 13 rfl (by kernel_rfl) (by kernel_rfl) (by kernel_rfl) rfl (p_eql rfl rfl) ?_
            refine d_take 14 rfl (by kernel_rfl) (by kernel_rfl) (by kernel_rfl) rfl (p_move rfl) ?_
            refine d_take 15 rfl (by kernel_rfl) (by kernel_rfl) (by kernel_rfl) rfl (p_index_sl 7 rfl rfl rfl (rowD _ _ (0 : Int) (by first | omega | (rw [HL]; decide))) es_22) ?_
            refine d_load 16 rfl (by kernel_rfl) (by kernel_rfl) (by kernel_rfl) rfl (p_load_v ag_3 rfl (by rfl) noX) ?_
            refine d_take 17 rfl (by kernel_rfl) (by kernel_rfl) (by kernel_rfl) rfl (p_quo' rfl rfl (by omega) (by omega) (by omega)) ?_
            refine d_take 18 rfl (by kernel_rfl) (by kernel_rfl) (by kernel_rfl) rfl (p_eql rfl rfl) ?_
            refine d_take 20 rfl (by kernel_rfl) (by kernel_rfl) (by kernel_rfl) rfl (p_move rfl) ?_
            refine d_take 21 rfl (by kernel_rfl) (by kernel_rfl) (by kernel_rfl) rfl (p_index_sl 8 rfl rfl rfl (rowD _ _ (0 : Int) (by first | omega | (rw [HL]; decide))) es_22) ?_
            refine d_load 22 rfl (by kernel_rfl) (by kernel_rfl) (by kernel_rfl) rfl (p_load_v ag_3 rfl (by rfl) noX) ?_
            refine d_take 23 rfl (by kernel_rfl) (by kernel_rfl) (by kernel_rfl) rfl (p_move rfl) ?_
            refine d_take 24 rfl (by kernel_rfl) (by kernel_rfl) (by kernel_rfl) rfl (p_index_sl 9 rfl rfl rfl (rowD _ _ (0 : Int) (by first | omega | (rw [HL]; decide))) es_22) ?_
            refine d_load 25 rfl (by kernel_rfl) (by kernel_rfl) (by kernel_rfl) rfl (p_load_v ag_3 rfl (by rfl) noX) ?_
            refine draw_all [5, 27] (by kernel_rfl) (by simp) ?_
            refine all_cons rfl rfl ?_ ?_
            · skip
              refine w_callR rfl rfl rfl cl_94 (c_spec_l1Own _ (by first | omega | (simp only [List.length_append, List.length_cons, List.length_nil, List.length_take, List.length_drop]; omega))) ?_
              refine d_take 19 rfl (by kernel_rfl) (by kernel_rfl) (by kernel_rfl) rfl (p_build (cells := [_, _, _, _]) z_30 pl_30 rfl rfl) ?_
              refine d_take 26 rfl (by kernel_rfl) (by kernel_rfl) (by kernel_rfl) rfl (p_build (cells := [_, _, _, _, _, _, _]) z_32 pl_32 rfl rfl) ?_
              refine draw_all [27] (by kernel_rfl) (by simp) ?_
              refine all_cons rfl rfl ?_ ?_
              · skip
                refine w_alloc rfl z_32 fun b2 => ?_
                refine draw_all [28] (by kernel_rfl) (by simp) ?_
                refine all_cons rfl rfl ?_ ?_
                · skip
                  refine w_store (cells' := [_, _, _, _, _, _, _]) rfl rfl rfl (by repeat (first | exact Pick.here _ _ _ | apply Pick.next)) cn_32 (by rfl) (by rfl) (by rfl) (by first | (refine .inl ?_; simp; done) | (refine .inr ?_; simp [keys]; done)) ?_
                  refine draw_done (by kernel_rfl) ?_
                  refine a_seq ?_
                  refine a_seq ?_
                  refine a_region ?_
                  refine aops_cons rfl (w_pure rfl (p_load_box_all ag_32 rfl (by repeat (first | exact Pick.here _ _ _ | apply Pick.next)) (by rfl) noX) ?_)
                  refine aops_cons rfl (w_callR rfl rfl rfl cl_61 (c_spec_l14One (ctxOf xs) (small_ctxOf xs)) ?_)
                  refine aops_cons rfl (w_pure rfl (p_not rfl) ?_)
                  refine aops_cons rfl (w_pure rfl (p_move rfl) ?_)
                  first | refine aops_split_d 67 rfl (fun h11 => ?_) (fun h12 => ?_) | refine aops_split 67 rfl (fun h11 => ?_) (fun h12 => ?_)
                  · (try simp only [Bool.not_eq_true', Bool.not_eq_false', Bool.not_eq_true, Bool.not_eq_false, decide_eq_true_eq, decide_eq_false_iff_not, List.length_map, List.length_range] at h11)
                    refine g_pass' rfl rfl rfl rfl rfl ?_
                    refine g_pass' rfl rfl rfl rfl rfl ?_
                    refine g_pass' rfl rfl rfl rfl rfl ?_
                    refine g_pass' rfl rfl rfl rfl rfl ?_
                    refine aops_cons rfl (w_pure rfl (p_pick_t rfl rfl) ?_)
                    refine aops_nil ?_
                    refine a_cond_t rfl ?_
                    refine a_seq ?_
                    refine a_region ?_
                    refine aops_cons rfl (w_pure rfl (p_build (cells := [_, _, _, _, _, _, _]) z_32 pl_32 rfl rfl) ?_)
                    refine aops_cons rfl (w_store (cells' := [_, _, _, _, _, _, _]) rfl rfl rfl (by repeat (first | exact Pick.here _ _ _ | apply Pick.next)) cn_32 (by rfl) (by rfl) (by rfl) trivial ?_)
                    refine aops_cons rfl (w_pure rfl (p_assign rfl) ?_)
                    refine aops_cons rfl (w_pure rfl (p_assign rfl) ?_)
                    refine aops_nil ?_
                    refine a_ret ?_
                    refine ret_ok (hands3 rfl (.cell ag_32 rfl (by repeat (first | exact Pick.here _ _ _ | apply Pick.next)) (by rfl)) (.tmp rfl) (.tmp rfl)) (.nil _) ?_
                    first | (rw [code1 HX]; exact ⟨rfl, rfl⟩) | (rw [code2 HV (by assumption)]; exact ⟨rfl, rfl⟩) | (rw [code3 HV (by omega) (by omega)]; exact ⟨rfl, rfl⟩) | (rw [code4 HV (by omega) (by omega)]; exact ⟨rfl, rfl⟩) | exact absurd (show GoodLoad xs from ⟨HV, by omega, by omega, by assumption, by omega⟩) hA
                  · (try simp only [Bool.not_eq_true', Bool.not_eq_false', Bool.not_eq_true, Bool.not_eq_false, decide_eq_true_eq, decide_eq_false_iff_not, List.length_map, List.length_range] at h12)
                    refine aops_guard_t rfl rfl rfl (w_pure rfl (p_move rfl) ?_)
                    refine aops_guard_t rfl rfl rfl (w_pure rfl (p_index_sl 7 rfl rfl rfl (rowD _ _ (0 : Int) (by first | omega | (rw [HL]; decide))) es_22) ?_)
                    refine aops_guard_t rfl rfl rfl (w_pure rfl (p_load_v ag_3 rfl (by rfl) noX) ?_)
                    refine aops_guard_t rfl rfl rfl (w_pure rfl (p_gtr rfl rfl) ?_)
                    refine aops_cons rfl (w_pure rfl (p_pick_f rfl rfl) ?_)
                    refine aops_nil ?_
                    first | refine a_cond_d rfl (fun h13 => ?_) (fun h14 => ?_) | refine a_cond_n rfl (fun h13 => ?_) (fun h14 => ?_) | refine a_cond_nb rfl (fun h13 => ?_) (fun h14 => ?_) | refine a_cond rfl (fun h13 => ?_) (fun h14 => ?_)
                    · (try simp only [Bool.not_eq_true', Bool.not_eq_false', Bool.not_eq_true, Bool.not_eq_false, decide_eq_true_eq, decide_eq_false_iff_not, List.length_map, List.length_range] at h13)
                      refine a_seq ?_
                      refine a_region ?_
                      refine aops_cons rfl (w_pure rfl (p_build (cells := [_, _, _, _, _, _, _]) z_32 pl_32 rfl rfl) ?_)
                      refine aops_cons rfl (w_store (cells' := [_, _, _, _, _, _, _]) rfl rfl rfl (by repeat (first | exact Pick.here _ _ _ | apply Pick.next)) cn_32 (by rfl) (by rfl) (by rfl) trivial ?_)
                      refine aops_cons rfl (w_pure rfl (p_assign rfl) ?_)
                      refine aops_cons rfl (w_pure rfl (p_assign rfl) ?_)
                      refine aops_nil ?_
                      refine a_ret ?_
                      refine ret_ok (hands3 rfl (.cell ag_32 rfl (by repeat (first | exact Pick.here _ _ _ | apply Pick.next)) (by rfl)) (.tmp rfl) (.tmp rfl)) (.nil _) ?_
                      first | (rw [code1 HX]; exact ⟨rfl, rfl⟩) | (rw [code2 HV (by assumption)]; exact ⟨rfl, rfl⟩) | (rw [code3 HV (by omega) (by omega)]; exact ⟨rfl, rfl⟩) | (rw [code4 HV (by omega) (by omega)]; exact ⟨rfl, rfl⟩) | exact absurd (show GoodLoad xs from ⟨HV, by omega, by omega, by assumption, by omega⟩) hA
                    · (try simp only [Bool.not_eq_true', Bool.not_eq_false', Bool.not_eq_true, Bool.not_eq_false, decide_eq_true_eq, decide_eq_false_iff_not, List.length_map, List.length_range] at h14)
                      refine a_skip ?_
                      refine a_seq ?_
                      refine a_region ?_
                      refine aops_cons rfl (w_pure rfl (p_load_box_all ag_32 rfl (by repeat (first | exact Pick.here _ _ _ | apply Pick.next)) (by rfl) noX) ?_)
                      refine aops_cons rfl (w_store (cells' := [_, _, _, _, _, _, _]) rfl rfl rfl (by repeat (first | exact Pick.here _ _ _ | apply Pick.next)) cn_32 (by rfl) (by rfl) (by rfl) trivial ?_)
                      refine aops_cons rfl (w_pure rfl (p_assign rfl) ?_)
                      refine aops_cons rfl (w_pure rfl (p_assign rfl) ?_)
                      refine aops_nil ?_
                      refine a_ret ?_
                      refine ret_ok (hands3 rfl (.cell ag_32 rfl (by repeat (first | exact Pick.here _ _ _ | apply Pick.next)) (by rfl)) (.tmp rfl) (.tmp rfl)) (.nil _) ?_
                      first | (rw [code1 HX]; exact ⟨rfl, rfl⟩) | (rw [code2 HV (by assumption)]; exact ⟨rfl, rfl⟩) | (rw [code3 HV (by omega) (by omega)]; exact ⟨rfl, rfl⟩) | (rw [code4 HV (by omega) (by omega)]; exact ⟨rfl, rfl⟩) | exact absurd (show GoodLoad xs from ⟨HV, by omega, by omega, by assumption, by omega⟩) hA
                exact all_nil
              exact all_nil
            refine all_cons rfl rfl ?_ ?_
            · skip
              refine w_alloc rfl z_32 fun b3 => ?_
              refine draw_all [5] (by kernel_rfl) (by simp) ?_
              refine all_cons rfl rfl ?_ ?_
              · skip
                refine w_callR rfl rfl rfl cl_94 (c_spec_l1Own _ (by first | omega | (simp only [List.length_append, List.length_cons, List.length_nil, List.length_take, List.length_drop]; omega))) ?_
                refine d_take 19 rfl (by kernel_rfl) (by kernel_rfl) (by kernel_rfl) rfl (p_build (cells := [_, _, _, _]) z_30 pl_30 rfl rfl) ?_
                refine d_take 26 rfl (by kernel_rfl) (by kernel_rfl) (by kernel_rfl) rfl (p_build (cells := [_, _, _, _, _, _, _]) z_32 pl_32 rfl rfl) ?_
                refine draw_all [28] (by kernel_rfl) (by simp) ?_
                refine all_cons rfl rfl ?_ ?_
                · skip
                  refine w_store (cells' := [_, _, _, _, _, _, _]) rfl rfl rfl (by repeat (first | exact Pick.here _ _ _ | apply Pick.next)) cn_32 (by rfl) (by rfl) (by rfl) (by first | (refine .inl ?_; simp; done) | (refine .inr ?_; simp [keys]; done)) ?_
                  refine draw_done (by kernel_rfl) ?_
                  refine a_seq ?_
                  refine a_seq ?_
                  refine a_region ?_
                  refine aops_cons rfl (w_pure rfl (p_load_box_all ag_32 rfl (by repeat (first | exact Pick.here _ _ _ | apply Pick.next)) (by rfl) noX) ?_)
                  refine aops_cons rfl (w_callR rfl rfl rfl cl_61 (c_spec_l14One (ctxOf xs) (small_ctxOf xs)) ?_)
                  refine aops_cons rfl (w_pure rfl (p_not rfl) ?_)
                  refine aops_cons rfl (w_pure rfl (p_move rfl) ?_)
                  first | refine aops_split_d 67 rfl (fun h15 => ?_) (fun h16 => ?_) | refine aops_split 67 rfl (fun h15 => ?_) (fun h16 => ?_)
                  · (try simp only [Bool.not_eq_true', Bool.not_eq_false', Bool.not_eq_true, Bool.not_eq_false, decide_eq_true_eq, decide_eq_false_iff_not, List.length_map, List.length_range] at h15)
                    refine g_pass' rfl rfl rfl rfl rfl ?_
                    refine g_pass' rfl rfl rfl rfl rfl ?_
                    refine g_pass' rfl rfl rfl rfl rfl ?_
                    refine g_pass' rfl rfl rfl rfl rfl ?_
                    refine aops_cons rfl (w_pure rfl (p_pick_t rfl rfl) ?_)
                    refine aops_nil ?_
                    refine a_cond_t rfl ?_
                    refine a_seq ?_
                    refine a_region ?_
                    refine aops_cons rfl (w_pure rfl (p_build (cells := [_, _, _, _, _, _, _]) z_32 pl_32 rfl rfl) ?_)
                    refine aops_cons rfl (w_store (cells' := [_, _, _, _, _, _, _]) rfl rfl rfl (by repeat (first | exact Pick.here _ _ _ | apply Pick.next)) cn_32 (by rfl) (by rfl) (by rfl) trivial ?_)
                    refine aops_cons rfl (w_pure rfl (p_assign rfl) ?_)
                    refine aops_cons rfl (w_pure rfl (p_assign rfl) ?_)
                    refine aops_nil ?_
                    refine a_ret ?_
                    refine ret_ok (hands3 rfl (.cell ag_32 rfl (by repeat (first | exact Pick.here _ _ _ | apply Pick.next)) (by rfl)) (.tmp rfl) (.tmp rfl)) (.nil _) ?_
                    first | (rw [code1 HX]; exact ⟨rfl, rfl⟩) | (rw [code2 HV (by assumption)]; exact ⟨rfl, rfl⟩) | (rw [code3 HV (by omega) (by omega)]; exact ⟨rfl, rfl⟩) | (rw [code4 HV (by omega) (by omega)]; exact ⟨rfl, rfl⟩) | exact absurd (show GoodLoad xs from ⟨HV, by omega, by omega, by assumption, by omega⟩) hA
                  · (try simp only [Bool.not_eq_true', Bool.not_eq_false', Bool.not_eq_true, Bool.not_eq_false, decide_eq_true_eq, decide_eq_false_iff_not, List.length_map, List.length_range] at h16)
                    refine aops_guard_t rfl rfl rfl (w_pure rfl (p_move rfl) ?_)
                    refine aops_guard_t rfl rfl rfl (w_pure rfl (p_index_sl 7 rfl rfl rfl (rowD _ _ (0 : Int) (by first | omega | (rw [HL]; decide))) es_22) ?_)
                    refine aops_guard_t rfl rfl rfl (w_pure rfl (p_load_v ag_3 rfl (by rfl) noX) ?_)
                    refine aops_guard_t rfl rfl rfl (w_pure rfl (p_gtr rfl rfl) ?_)
                    refine aops_cons rfl (w_pure rfl (p_pick_f rfl rfl) ?_)
                    refine aops_nil ?_
                    first | refine a_cond_d rfl (fun h17 => ?_) (fun h18 => ?_) | refine a_cond_n rfl (fun h17 => ?_) (fun h18 => ?_) | refine a_cond_nb rfl (fun h17 => ?_) (fun h18 => ?_) | refine a_cond rfl (fun h17 => ?_) (fun h18 => ?_)
                    · (try simp only [Bool.not_eq_true', Bool.not_eq_false', Bool.not_eq_true, Bool.not_eq_false, decide_eq_true_eq, decide_eq_false_iff_not, List.length_map, List.length_range] at h17)
                      refine a_seq ?_
                      refine a_region ?_
                      refine aops_cons rfl (w_pure rfl (p_build (cells := [_, _, _, _, _, _, _]) z_32 pl_32 rfl rfl) ?_)
                      refine aops_cons rfl (w_store (cells' := [_, _, _, _, _, _, _]) rfl rfl rfl (by repeat (first | exact Pick.here _ _ _ | apply Pick.next)) cn_32 (by rfl) (by rfl) (by rfl) trivial ?_)
                      refine aops_cons rfl (w_pure rfl (p_assign rfl) ?_)
                      refine aops_cons rfl (w_pure rfl (p_assign rfl) ?_)
                      refine aops_nil ?_
                      refine a_ret ?_
                      refine ret_ok (hands3 rfl (.cell ag_32 rfl (by repeat (first | exact Pick.here _ _ _ | apply Pick.next)) (by rfl)) (.tmp rfl) (.tmp rfl)) (.nil _) ?_
                      first | (rw [code1 HX]; exact ⟨rfl, rfl⟩) | (rw [code2 HV (by assumption)]; exact ⟨rfl, rfl⟩) | (rw [code3 HV (by omega) (by omega)]; exact ⟨rfl, rfl⟩) | (rw [code4 HV (by omega) (by omega)]; exact ⟨rfl, rfl⟩) | exact absurd (show GoodLoad xs from ⟨HV, by omega, by omega, by assumption, by omega⟩) hA
                    · (try simp only [Bool.not_eq_true', Bool.not_eq_false', Bool.not_eq_true, Bool.not_eq_false, decide_eq_true_eq, decide_eq_false_iff_not, List.length_map, List.length_range] at h18)
                      refine a_skip ?_
                      refine a_seq ?_
                      refine a_region ?_
                      refine aops_cons rfl (w_pure rfl (p_load_box_all ag_32 rfl (by repeat (first | exact Pick.here _ _ _ | apply Pick.next)) (by rfl) noX) ?_)
                      refine aops_cons rfl (w_store (cells' := [_, _, _, _, _, _, _]) rfl rfl rfl (by repeat (first | exact Pick.here _ _ _ | apply Pick.next)) cn_32 (by rfl) (by rfl) (by rfl) trivial ?_)
                      refine aops_cons rfl (w_pure rfl (p_assign rfl) ?_)
                      refine aops_cons rfl (w_pure rfl (p_assign rfl) ?_)
                      refine aops_nil ?_
                      refine a_ret ?_
                      refine ret_ok (hands3 rfl (.cell ag_32 rfl (by repeat (first | exact Pick.here _ _ _ | apply Pick.next)) (by rfl)) (.tmp rfl) (.tmp rfl)) (.nil _) ?_
                      first | (rw [code1 HX]; exact ⟨rfl, rfl⟩) | (rw [code2 HV (by assumption)]; exact ⟨rfl, rfl⟩) | (rw [code3 HV (by omega) (by omega)]; exact ⟨rfl, rfl⟩) | (rw [code4 HV (by omega) (by omega)]; exact ⟨rfl, rfl⟩) | exact absurd (show GoodLoad xs from ⟨HV, by omega, by omega, by assumption, by omega⟩) hA
                exact all_nil
              exact all_nil
            exact all_nil
        exact all_nil

theorem cy_impl_LoadContext (xs : List Int) (hn : xs.length ≤ 1048576) (hA : GoodLoad xs) : ACalls Try.prog 43 [.sl (xs.map eInt)] [] (fun r st => ∃ b1, r = .tup [.agg [.int .i64 (ctxOf xs).id, .own 1 b1 0 (ctxOf xs).regs.words.length, .int .i64 (ctxOf xs).regs.pc, .bool (ctxOf xs).regs.f, .bool (ctxOf xs).regs.g, .int .i64 (ctxOf xs).wait, .int .i64 (ctxOf xs).pend], .int .i64 0, .bool true] ∧ st = [(b1, .arr 3 1 ((ctxOf xs).regs.words.map eInt))]) := by
  refine a_enter Try.func43 rfl rfl (fun w0 M0 => ?_)
  refine a_seq ?_
  refine a_region ?_
  refine aops_cons rfl (w_alloc rfl z_32 fun b1 => ?_)
  refine aops_cons rfl (w_pure rfl (p_assign rfl) ?_)
  refine aops_cons rfl (w_pure rfl (p_assign rfl) ?_)
  refine aops_nil ?_
  refine a_seq ?_
  refine a_block ?_
  refine a_seq ?_
  refine a_region ?_
  refine aops_cons rfl (w_pure rfl (p_move rfl) ?_)
  refine aops_cons rfl (w_pure rfl (p_len sl_22 rfl rfl) ?_)
  refine aops_cons rfl (w_pure rfl (p_neq rfl rfl) ?_)
  refine aops_cons rfl (w_pure rfl (p_move rfl) ?_)
  first | refine aops_split_d 11 rfl (fun h1 => ?_) (fun h2 => ?_) | refine aops_split 11 rfl (fun h1 => ?_) (fun h2 => ?_)
  · (try simp only [Bool.not_eq_true', Bool.not_eq_false', Bool.not_eq_true, Bool.not_eq_false, decide_eq_true_eq, decide_eq_false_iff_not, List.length_map, List.length_range] at h1)
    refine g_pass' rfl rfl rfl rfl rfl ?_
    refine g_pass' rfl rfl rfl rfl rfl ?_
    refine aops_cons rfl (w_pure rfl (p_pick_t rfl rfl) ?_)
    refine aops_cons rfl (w_pure rfl (p_assign rfl) ?_)
    refine aops_nil ?_
    refine a_cond_t rfl ?_
    refine a_seq ?_
    have HX : ¬ WordsOk xs := (by rintro ⟨h1, h2⟩; omega)
    refine a_region ?_
    refine aops_cons rfl (w_pure rfl (p_build (cells := [_, _, _, _, _, _, _]) z_32 pl_32 rfl rfl) ?_)
    refine aops_cons rfl (w_store (cells' := [_, _, _, _, _, _, _]) rfl rfl rfl (by repeat (first | exact Pick.here _ _ _ | apply Pick.next)) cn_32 (by rfl) (by rfl) (by rfl) trivial ?_)
    refine aops_cons rfl (w_pure rfl (p_assign rfl) ?_)
    refine aops_cons rfl (w_pure rfl (p_assign rfl) ?_)
    refine aops_nil ?_
    refine a_ret ?_
    refine ret_ok (hands3 rfl (.cell ag_32 rfl (by repeat (first | exact Pick.here _ _ _ | apply Pick.next)) (by rfl)) (.tmp rfl) (.tmp rfl)) (.nil _) ?_
    first | exact ⟨_, rfl, rfl⟩ | (refine ⟨_, ?_, rfl⟩; rw [(hf (by omega)).1, (hf (by omega)).2]; rfl) | (exfalso; first | contradiction | exact absurd hA.1 (by assumption) | exact absurd hA.2.1 (by assumption) | exact absurd hA.2.2.1 (by assumption) | exact absurd hA.2.2.1.symm (by assumption) | exact absurd hA.2.2.2.1 (by assumption) | (have h1 := hA.2.2.2.2; have h2 := hA.1.1; have h3 := hA.1.2; have h4 := hA.2.1; have h5 := hA.2.2.1; omega))
  · (try simp only [Bool.not_eq_true', Bool.not_eq_false', Bool.not_eq_true, Bool.not_eq_false, decide_eq_true_eq, decide_eq_false_iff_not, List.length_map, List.length_range] at h2)
    refine aops_guard_t rfl rfl rfl (w_pure rfl (p_move rfl) ?_)
    refine aops_guard_t rfl rfl rfl (w_callR rfl rfl rfl cl_82 (c_load_ContainsFunc _ (by omega)) ?_)
    refine aops_cons rfl (w_pure rfl (p_pick_f rfl rfl) ?_)
    refine aops_cons rfl (w_pure rfl (p_assign rfl) ?_)
    refine aops_nil ?_
    first | refine a_cond_d rfl (fun h3 => ?_) (fun h4 => ?_) | refine a_cond_n rfl (fun h3 => ?_) (fun h4 => ?_) | refine a_cond_nb rfl (fun h3 => ?_) (fun h4 => ?_) | refine a_cond rfl (fun h3 => ?_) (fun h4 => ?_)
    · (try simp only [Bool.not_eq_true', Bool.not_eq_false', Bool.not_eq_true, Bool.not_eq_false, decide_eq_true_eq, decide_eq_false_iff_not, List.length_map, List.length_range] at h3)
      refine a_seq ?_
      have HX : ¬ WordsOk xs := (by rintro ⟨h1, h2⟩; omega)
      refine a_region ?_
      refine aops_cons rfl (w_pure rfl (p_build (cells := [_, _, _, _, _, _, _]) z_32 pl_32 rfl rfl) ?_)
      refine aops_cons rfl (w_store (cells' := [_, _, _, _, _, _, _]) rfl rfl rfl (by repeat (first | exact Pick.here _ _ _ | apply Pick.next)) cn_32 (by rfl) (by rfl) (by rfl) trivial ?_)
      refine aops_cons rfl (w_pure rfl (p_assign rfl) ?_)
      refine aops_cons rfl (w_pure rfl (p_assign rfl) ?_)
      refine aops_nil ?_
      refine a_ret ?_
      refine ret_ok (hands3 rfl (.cell ag_32 rfl (by repeat (first | exact Pick.here _ _ _ | apply Pick.next)) (by rfl)) (.tmp rfl) (.tmp rfl)) (.nil _) ?_
      first | exact ⟨_, rfl, rfl⟩ | (refine ⟨_, ?_, rfl⟩; rw [(hf (by omega)).1, (hf (by omega)).2]; rfl) | (exfalso; first | contradiction | exact absurd hA.1 (by assumption) | exact absurd hA.2.1 (by assumption) | exact absurd hA.2.2.1 (by assumption) | exact absurd hA.2.2.1.symm (by assumption) | exact absurd hA.2.2.2.1 (by assumption) | (have h1 := hA.2.2.2.2; have h2 := hA.1.1; have h3 := hA.1.2; have h4 := hA.2.1; have h5 := hA.2.2.1; omega))
    · (try simp only [Bool.not_eq_true', Bool.not_eq_false', Bool.not_eq_true, Bool.not_eq_false, decide_eq_true_eq, decide_eq_false_iff_not, List.length_map, List.length_range] at h4)
      refine a_seq ?_
      have HL : xs.length = 11 := (by omega); have HV : WordsOk xs := ⟨HL, by omega⟩; have HW : ∀ j, j < 11 → NotWord xs j = false := words_of (HL ▸ HV.2); have hf := fun h3 => flags_eq (x := xs.getD 7 0) (word_b HW (j := 7) (by omega)).1 h3; have hw1 := word_b HW (j := 1) (by omega); have hw7 := word_b HW (j := 7) (by omega)
      refine a_region ?_
      refine aops_cons rfl (w_pure rfl (p_move rfl) ?_)
      refine aops_cons rfl (w_pure rfl (p_index_sl 0 rfl rfl rfl (rowD _ _ (0 : Int) (by first | omega | (rw [HL]; decide))) es_22) ?_)
      refine aops_cons rfl (w_pure rfl (p_load_v ag_3 rfl (by rfl) noX) ?_)
      refine aops_cons rfl (w_pure rfl (p_neq rfl rfl) ?_)
      refine aops_cons rfl (w_pure rfl (p_assign rfl) ?_)
      refine aops_nil ?_
      first | refine a_cond_d rfl (fun h5 => ?_) (fun h6 => ?_) | refine a_cond_n rfl (fun h5 => ?_) (fun h6 => ?_) | refine a_cond_nb rfl (fun h5 => ?_) (fun h6 => ?_) | refine a_cond rfl (fun h5 => ?_) (fun h6 => ?_)
      · (try simp only [Bool.not_eq_true', Bool.not_eq_false', Bool.not_eq_true, Bool.not_eq_false, decide_eq_true_eq, decide_eq_false_iff_not, List.length_map, List.length_range] at h5)
        refine a_seq ?_
        refine a_region ?_
        refine aops_cons rfl (w_pure rfl (p_build (cells := [_, _, _, _, _, _, _]) z_32 pl_32 rfl rfl) ?_)
        refine aops_cons rfl (w_store (cells' := [_, _, _, _, _, _, _]) rfl rfl rfl (by repeat (first | exact Pick.here _ _ _ | apply Pick.next)) cn_32 (by rfl) (by rfl) (by rfl) trivial ?_)
        refine aops_cons rfl (w_pure rfl (p_assign rfl) ?_)
        refine aops_cons rfl (w_pure rfl (p_assign rfl) ?_)
        refine aops_nil ?_
        refine a_ret ?_
        refine ret_ok (hands3 rfl (.cell ag_32 rfl (by repeat (first | exact Pick.here _ _ _ | apply Pick.next)) (by rfl)) (.tmp rfl) (.tmp rfl)) (.nil _) ?_
        first | exact ⟨_, rfl, rfl⟩ | (refine ⟨_, ?_, rfl⟩; rw [(hf (by omega)).1, (hf (by omega)).2]; rfl) | (exfalso; first | contradiction | exact absurd hA.1 (by assumption) | exact absurd hA.2.1 (by assumption) | exact absurd hA.2.2.1 (by assumption) | exact absurd hA.2.2.1.symm (by assumption) | exact absurd hA.2.2.2.1 (by assumption) | (have h1 := hA.2.2.2.2; have h2 := hA.1.1; have h3 := hA.1.2; have h4 := hA.2.1; have h5 := hA.2.2.1; omega))
      · (try simp only [Bool.not_eq_true', Bool.not_eq_false', Bool.not_eq_true, Bool.not_eq_false, decide_eq_true_eq, decide_eq_false_iff_not, List.length_map, List.length_range] at h6)
        refine a_seq ?_
        refine a_draw [] (by kernel_rfl) ?_
        show ADraw _ _ _ _ _ _ 8 _ _ _ _
        refine d_take 0 rfl (by kernel_rfl) (by kernel_rfl) (by kernel_rfl) rfl (p_move rfl) ?_
        refine d_take 1 rfl (by kernel_rfl) (by kernel_rfl) (by kernel_rfl) rfl (p_index_sl 10 rfl rfl rfl (rowD _ _ (0 : Int) (by first | omega | (rw [HL]; decide))) es_22) ?_
        refine d_load 2 rfl (by kernel_rfl) (by kernel_rfl) (by kernel_rfl) rfl (p_load_v ag_3 rfl (by rfl) noX) ?_
        refine d_take 3 rfl (by kernel_rfl) (by kernel_rfl) (by kernel_rfl) rfl (p_move rfl) ?_
        refine d_take 4 rfl (by kernel_rfl) (by kernel_rfl) (by kernel_rfl) rfl (p_slice_sl 0 10 es_22 rfl rfl (hi_some rfl rfl) (Nat.zero_le _) (by rw [List.length_map]; omega) (lenAll _ _ (fun _ => rfl)) (show ((xs.map eInt).take 10).drop 0 = (xs.take 10).map eInt by rw [List.drop_zero, List.map_take])) ?_
        refine draw_all [5] (by kernel_rfl) (by simp) ?_
        refine all_cons rfl rfl ?_ ?_
        · skip
          refine w_callR rfl rfl rfl cl_85 (c_impl_checkWord (xs.take 10) (by rw [List.length_take]; omega) (fun j hj => words_take HW (by omega) j (by rw [List.length_take] at hj; omega))) ?_
          refine d_take 6 rfl (by kernel_rfl) (by kernel_rfl) (by kernel_rfl) rfl (p_neq rfl rfl) ?_
          refine d_take 7 rfl (by kernel_rfl) (by kernel_rfl) (by kernel_rfl) rfl (p_assign rfl) ?_
          refine draw_done (by kernel_rfl) ?_
          first | refine a_cond_d rfl (fun h7 => ?_) (fun h8 => ?_) | refine a_cond_n rfl (fun h7 => ?_) (fun h8 => ?_) | refine a_cond_nb rfl (fun h7 => ?_) (fun h8 => ?_) | refine a_cond rfl (fun h7 => ?_) (fun h8 => ?_)
          · (try simp only [Bool.not_eq_true', Bool.not_eq_false', Bool.not_eq_true, Bool.not_eq_false, decide_eq_true_eq, decide_eq_false_iff_not, List.length_map, List.length_range] at h7)
            refine a_seq ?_
            refine a_region ?_
            refine aops_cons rfl (w_pure rfl (p_build (cells := [_, _, _, _, _, _, _]) z_32 pl_32 rfl rfl) ?_)
            refine aops_cons rfl (w_store (cells' := [_, _, _, _, _, _, _]) rfl rfl rfl (by repeat (first | exact Pick.here _ _ _ | apply Pick.next)) cn_32 (by rfl) (by rfl) (by rfl) trivial ?_)
            refine aops_cons rfl (w_pure rfl (p_assign rfl) ?_)
            refine aops_cons rfl (w_pure rfl (p_assign rfl) ?_)
            refine aops_nil ?_
            refine a_ret ?_
            refine ret_ok (hands3 rfl (.cell ag_32 rfl (by repeat (first | exact Pick.here _ _ _ | apply Pick.next)) (by rfl)) (.tmp rfl) (.tmp rfl)) (.nil _) ?_
            first | exact ⟨_, rfl, rfl⟩ | (refine ⟨_, ?_, rfl⟩; rw [(hf (by omega)).1, (hf (by omega)).2]; rfl) | (exfalso; first | contradiction | exact absurd hA.1 (by assumption) | exact absurd hA.2.1 (by assumption) | exact absurd hA.2.2.1 (by assumption) | exact absurd hA.2.2.1.symm (by assumption) | exact absurd hA.2.2.2.1 (by assumption) | (have h1 := hA.2.2.2.2; have h2 := hA.1.1; have h3 := hA.1.2; have h4 := hA.2.1; have h5 := hA.2.2.1; omega))
          · (try simp only [Bool.not_eq_true', Bool.not_eq_false', Bool.not_eq_true, Bool.not_eq_false, decide_eq_true_eq, decide_eq_false_iff_not, List.length_map, List.length_range] at h8)
            refine a_skip ?_
            refine a_seq ?_
            refine a_draw [] (by kernel_rfl) ?_
            show ADraw _ _ _ _ _ _ 19 _ _ _ _
            refine d_take 0 rfl (by kernel_rfl) (by kernel_rfl) (by kernel_rfl) rfl (p_move rfl) ?_
            refine d_take 1 rfl (by kernel_rfl) (by kernel_rfl) (by kernel_rfl) rfl (p_slice_sl 2 6 es_22 rfl (lo_some rfl rfl) (hi_some rfl rfl) (by decide) (by rw [List.length_map]; omega) (lenAll _ _ (fun _ => rfl)) (show ((xs.map eInt).take 6).drop 2 = ((xs.take 6).drop 2).map eInt by rw [List.map_drop, List.map_take])) ?_
            refine d_take 3 rfl (by kernel_rfl) (by kernel_rfl) (by kernel_rfl) rfl (p_move rfl) ?_
            refine d_take 4 rfl (by kernel_rfl) (by kernel_rfl) (by kernel_rfl) rfl (p_index_sl 6 rfl rfl rfl (rowD _ _ (0 : Int) (by first | omega | (rw [HL]; decide))) es_22) ?_
            refine d_load 5 rfl (by kernel_rfl) (by kernel_rfl) (by kernel_rfl) rfl (p_load_v ag_3 rfl (by rfl) noX) ?_
            refine d_take 6 rfl (by kernel_rfl) (by kernel_rfl) (by kernel_rfl) rfl (p_move rfl) ?_
            refine d_take 7 rfl (by kernel_rfl) (by kernel_rfl) (by kernel_rfl) rfl (p_index_sl 7 rfl rfl rfl (rowD _ _ (0 : Int) (by first | omega | (rw [HL]; decide))) es_22) ?_
            refine d_load 8 rfl (by kernel_rfl) (by kernel_rfl) (by kernel_rfl) rfl (p_load_v ag_3 rfl (by rfl) noX) ?_
            refine d_take 9 rfl (by kernel_rfl) (by kernel_rfl) (by kernel_rfl) rfl (p_bits .and (by decide) rfl rfl) ?_
            refine d_take 10 rfl (by kernel_rfl) (by kernel_rfl) (by kernel_rfl) rfl (p_eql rfl rfl) ?_
            refine d_take 11 rfl (by kernel_rfl) (by kernel_rfl) (by kernel_rfl) rfl (p_move rfl) ?_
            refine d_take 12 rfl (by kernel_rfl) (by kernel_rfl) (by kernel_rfl) rfl (p_index_sl 7 rfl rfl rfl (rowD _ _ (0 : Int) (by first | omega | (rw [HL]; decide))) es_22) ?_
            refine d_load 13 rfl (by kernel_rfl) (by kernel_rfl) (by kernel_rfl) rfl (p_load_v ag_3 rfl (by rfl) noX) ?_
            refine d_take 14 rfl (by kernel_rfl) (by kernel_rfl) (by kernel_rfl) rfl (p_bits .and (by decide) rfl rfl) ?_
            refine d_take 15 rfl (by kernel_rfl) (by kernel_rfl) (by kernel_rfl) rfl (p_eql rfl rfl) ?_
            refine draw_all [2, 17] (by kernel_rfl) (by simp) ?_
            refine all_cons rfl rfl ?_ ?_
            · skip
              refine w_call rfl rfl rfl cl_86 ((co_impl_copyInts _ (by first | omega | (simp only [List.length_append, List.length_cons, List.length_nil, List.length_take, List.length_drop]; omega))).mono fun _ _ h => h.len) ?_
              rintro _ _ ⟨b2, rfl, rfl⟩
              refine d_take 16 rfl (by kernel_rfl) (by kernel_rfl) (by kernel_rfl) rfl (p_build (cells := [_, _, _, _]) z_30 pl_30 rfl rfl) ?_
              refine draw_all [17] (by kernel_rfl) (by simp) ?_
              refine all_cons rfl rfl ?_ ?_
              · skip
                refine w_alloc rfl z_30 fun b3 => ?_
                refine draw_all [18] (by kernel_rfl) (by simp) ?_
                refine all_cons rfl rfl ?_ ?_
                · skip
                  refine w_store (cells' := [_, _, _, _]) rfl rfl rfl (by repeat (first | exact Pick.here _ _ _ | apply Pick.next)) cn_30 (by rfl) (by rfl) (by rfl) (by first | (refine .inl ?_; simp; done) | (refine .inr ?_; simp [keys]; done)) ?_
                  refine draw_done (by kernel_rfl) ?_
                  refine a_seq ?_
                  refine a_draw [] (by kernel_rfl) ?_
                  show ADraw _ _ _ _ _ _ 13 _ _ _ _
                  refine d_take 0 rfl (by kernel_rfl) (by kernel_rfl) (by kernel_rfl) rfl (p_move rfl) ?_
                  refine d_take 1 rfl (by kernel_rfl) (by kernel_rfl) (by kernel_rfl) rfl (p_index_sl 1 rfl rfl rfl (rowD _ _ (0 : Int) (by first | omega | (rw [HL]; decide))) es_22) ?_
                  refine d_load 2 rfl (by kernel_rfl) (by kernel_rfl) (by kernel_rfl) rfl (p_load_v ag_3 rfl (by rfl) noX) ?_
                  refine d_load 3 rfl (by kernel_rfl) (by kernel_rfl) (by kernel_rfl) rfl (p_load_box_all ag_30 rfl (by repeat (first | exact Pick.here _ _ _ | apply Pick.next)) (by rfl) noX) ?_
                  refine d_take 4 rfl (by kernel_rfl) (by kernel_rfl) (by kernel_rfl) rfl (p_move rfl) ?_
                  refine d_take 5 rfl (by kernel_rfl) (by kernel_rfl) (by kernel_rfl) rfl (p_index_sl 8 rfl rfl rfl (rowD _ _ (0 : Int) (by first | omega | (rw [HL]; decide))) es_22) ?_
                  refine d_load 6 rfl (by kernel_rfl) (by kernel_rfl) (by kernel_rfl) rfl (p_load_v ag_3 rfl (by rfl) noX) ?_
                  refine d_take 7 rfl (by kernel_rfl) (by kernel_rfl) (by kernel_rfl) rfl (p_move rfl) ?_
                  refine d_take 8 rfl (by kernel_rfl) (by kernel_rfl) (by kernel_rfl) rfl (p_index_sl 9 rfl rfl rfl (rowD _ _ (0 : Int) (by first | omega | (rw [HL]; decide))) es_22) ?_
                  refine d_load 9 rfl (by kernel_rfl) (by kernel_rfl) (by kernel_rfl) rfl (p_load_v ag_3 rfl (by rfl) noX) ?_
                  refine d_take 10 rfl (by kernel_rfl) (by kernel_rfl) (by kernel_rfl) rfl (p_build (cells := [_, _, _, _, _, _, _]) z_32 pl_32 rfl rfl) ?_
                  refine draw_all [11] (by kernel_rfl) (by simp) ?_
                  refine all_cons rfl rfl ?_ ?_
                  · skip
                    refine w_alloc rfl z_32 fun b4 => ?_
                    refine draw_all [12] (by kernel_rfl) (by simp) ?_
                    refine all_cons rfl rfl ?_ ?_
                    · skip
                      refine w_store (cells' := [_, _, _, _, _, _, _]) rfl rfl rfl (by repeat (first | exact Pick.here _ _ _ | apply Pick.next)) cn_32 (by rfl) (by rfl) (by rfl) (by first | (refine .inl ?_; simp; done) | (refine .inr ?_; simp [keys]; done)) ?_
                      refine draw_done (by kernel_rfl) ?_
                      refine a_seq ?_
                      refine a_seq ?_
                      refine a_region ?_
                      refine aops_cons rfl (w_pure rfl (p_load_box_all ag_32 rfl (by repeat (first | exact Pick.here _ _ _ | apply Pick.next)) (by rfl) noX) ?_)
                      refine aops_cons rfl (w_callLR rfl rfl rfl cl_42 (.cons (.agg (.cons (.refl _) (.cons (.own (by repeat (first | exact List.Mem.head _ | apply List.Mem.tail)) (by first | (simp; done) | (simp; assumption) | (simp; omega) | (simp [mkL]; done))) (.cons (.refl _) (.cons (.refl _) (.cons (.refl _) (.cons (.refl _) (.cons (.refl _) .nil)))))))) .nil) (c_load_IsContext xs) (closed_bool _) ?_)
                      refine aops_cons rfl (w_pure rfl (p_not rfl) ?_)
                      refine aops_cons rfl (w_pure rfl (p_move rfl) ?_)
                      first | refine aops_split_d 62 rfl (fun h9 => ?_) (fun h10 => ?_) | refine aops_split 62 rfl (fun h9 => ?_) (fun h10 => ?_)
                      · (try simp only [Bool.not_eq_true', Bool.not_eq_false', Bool.not_eq_true, Bool.not_eq_false, decide_eq_true_eq, decide_eq_false_iff_not, List.length_map, List.length_range] at h9)
                        refine g_pass' rfl rfl rfl rfl rfl ?_
                        refine g_pass' rfl rfl rfl rfl rfl ?_
                        refine g_pass' rfl rfl rfl rfl rfl ?_
                        refine g_pass' rfl rfl rfl rfl rfl ?_
                        refine aops_cons rfl (w_pure rfl (p_pick_t rfl rfl) ?_)
                        refine aops_nil ?_
                        refine a_cond_t rfl ?_
                        refine a_seq ?_
                        refine a_region ?_
                        refine aops_cons rfl (w_pure rfl (p_build (cells := [_, _, _, _, _, _, _]) z_32 pl_32 rfl rfl) ?_)
                        refine aops_cons rfl (w_store (cells' := [_, _, _, _, _, _, _]) rfl rfl rfl (by repeat (first | exact Pick.here _ _ _ | apply Pick.next)) cn_32 (by rfl) (by rfl) (by rfl) trivial ?_)
                        refine aops_cons rfl (w_pure rfl (p_assign rfl) ?_)
                        refine aops_cons rfl (w_pure rfl (p_assign rfl) ?_)
                        refine aops_nil ?_
                        refine a_ret ?_
                        refine ret_ok (hands3 rfl (.cell ag_32 rfl (by repeat (first | exact Pick.here _ _ _ | apply Pick.next)) (by rfl)) (.tmp rfl) (.tmp rfl)) (.nil _) ?_
                        first | exact ⟨_, rfl, rfl⟩ | (refine ⟨_, ?_, rfl⟩; rw [(hf (by omega)).1, (hf (by omega)).2]; rfl) | (exfalso; first | contradiction | exact absurd hA.1 (by assumption) | exact absurd hA.2.1 (by assumption) | exact absurd hA.2.2.1 (by assumption) | exact absurd hA.2.2.1.symm (by assumption) | exact absurd hA.2.2.2.1 (by assumption) | (have h1 := hA.2.2.2.2; have h2 := hA.1.1; have h3 := hA.1.2; have h4 := hA.2.1; have h5 := hA.2.2.1; omega))
                      · (try simp only [Bool.not_eq_true', Bool.not_eq_false', Bool.not_eq_true, Bool.not_eq_false, decide_eq_true_eq, decide_eq_false_iff_not, List.length_map, List.length_range] at h10)
                        refine aops_guard_t rfl rfl rfl (w_pure rfl (p_move rfl) ?_)
                        refine aops_guard_t rfl rfl rfl (w_pure rfl (p_index_sl 7 rfl rfl rfl (rowD _ _ (0 : Int) (by first | omega | (rw [HL]; decide))) es_22) ?_)
                        refine aops_guard_t rfl rfl rfl (w_pure rfl (p_load_v ag_3 rfl (by rfl) noX) ?_)
                        refine aops_guard_t rfl rfl rfl (w_pure rfl (p_gtr rfl rfl) ?_)
                        refine aops_cons rfl (w_pure rfl (p_pick_f rfl rfl) ?_)
                        refine aops_nil ?_
                        first | refine a_cond_d rfl (fun h11 => ?_) (fun h12 => ?_) | refine a_cond_n rfl (fun h11 => ?_) (fun h12 => ?_) | refine a_cond_nb rfl (fun h11 => ?_) (fun h12 => ?_) | refine a_cond rfl (fun h11 => ?_) (fun h12 => ?_)
                        · (try simp only [Bool.not_eq_true', Bool.not_eq_false', Bool.not_eq_true, Bool.not_eq_false, decide_eq_true_eq, decide_eq_false_iff_not, List.length_map, List.length_range] at h11)
                          refine a_seq ?_
                          refine a_region ?_
                          refine aops_cons rfl (w_pure rfl (p_build (cells := [_, _, _, _, _, _, _]) z_32 pl_32 rfl rfl) ?_)
                          refine aops_cons rfl (w_store (cells' := [_, _, _, _, _, _, _]) rfl rfl rfl (by repeat (first | exact Pick.here _ _ _ | apply Pick.next)) cn_32 (by rfl) (by rfl) (by rfl) trivial ?_)
                          refine aops_cons rfl (w_pure rfl (p_assign rfl) ?_)
                          refine aops_cons rfl (w_pure rfl (p_assign rfl) ?_)
                          refine aops_nil ?_
                          refine a_ret ?_
                          refine ret_ok (hands3 rfl (.cell ag_32 rfl (by repeat (first | exact Pick.here _ _ _ | apply Pick.next)) (by rfl)) (.tmp rfl) (.tmp rfl)) (.nil _) ?_
                          first | exact ⟨_, rfl, rfl⟩ | (refine ⟨_, ?_, rfl⟩; rw [(hf (by omega)).1, (hf (by omega)).2]; rfl) | (exfalso; first | contradiction | exact absurd hA.1 (by assumption) | exact absurd hA.2.1 (by assumption) | exact absurd hA.2.2.1 (by assumption) | exact absurd hA.2.2.1.symm (by assumption) | exact absurd hA.2.2.2.1 (by assumption) | (have h1 := hA.2.2.2.2; have h2 := hA.1.1; have h3 := hA.1.2; have h4 := hA.2.1; have h5 := hA.2.2.1; omega))
                        · (try simp only [Bool.not_eq_true', Bool.not_eq_false', Bool.not_eq_true, Bool.not_eq_false, decide_eq_true_eq, decide_eq_false_iff_not, List.length_map, List.length_range] at h12)
                          refine a_skip ?_
                          refine a_seq ?_
                          refine a_region ?_
                          refine aops_cons rfl (w_pure rfl (p_load_box_all ag_32 rfl (by repeat (first | exact Pick.here _ _ _ | apply Pick.next)) (by rfl) noX) ?_)
                          refine aops_cons rfl (w_store (cells' := [_, _, _, _, _, _, _]) rfl rfl rfl (by repeat (first | exact Pick.here _ _ _ | apply Pick.next)) cn_32 (by rfl) (by rfl) (by rfl) trivial ?_)
                          refine aops_cons rfl (w_pure rfl (p_assign rfl) ?_)
                          refine aops_cons rfl (w_pure rfl (p_assign rfl) ?_)
                          refine aops_nil ?_
                          refine a_ret ?_
                          refine ret_ok (hands3 rfl (.cell ag_32 rfl (by repeat (first | exact Pick.here _ _ _ | apply Pick.next)) (by rfl)) (.tmp rfl) (.tmp rfl)) (st' := [(b2, _)]) (.cons (by repeat (first | exact Pick.here _ _ _ | apply Pick.next)) (.nil _)) ?_
                          first | exact ⟨_, rfl, rfl⟩ | (refine ⟨_, ?_, rfl⟩; rw [(hf (by omega)).1, (hf (by omega)).2]; rfl) | (exfalso; first | contradiction | exact absurd hA.1 (by assumption) | exact absurd hA.2.1 (by assumption) | exact absurd hA.2.2.1 (by assumption) | exact absurd hA.2.2.1.symm (by assumption) | exact absurd hA.2.2.2.1 (by assumption) | (have h1 := hA.2.2.2.2; have h2 := hA.1.1; have h3 := hA.1.2; have h4 := hA.2.1; have h5 := hA.2.2.1; omega))
                    exact all_nil
                  exact all_nil
                exact all_nil
              exact all_nil
            refine all_cons rfl rfl ?_ ?_
            · skip
              refine w_alloc rfl z_30 fun b5 => ?_
              refine draw_all [2] (by kernel_rfl) (by simp) ?_
              refine all_cons rfl rfl ?_ ?_
              · skip
                refine w_call rfl rfl rfl cl_86 ((co_impl_copyInts _ (by first | omega | (simp only [List.length_append, List.length_cons, List.length_nil, List.length_take, List.length_drop]; omega))).mono fun _ _ h => h.len) ?_
                rintro _ _ ⟨b6, rfl, rfl⟩
                refine d_take 16 rfl (by kernel_rfl) (by kernel_rfl) (by kernel_rfl) rfl (p_build (cells := [_, _, _, _]) z_30 pl_30 rfl rfl) ?_
                refine draw_all [18] (by kernel_rfl) (by simp) ?_
                refine all_cons rfl rfl ?_ ?_
                · skip
                  refine w_store (cells' := [_, _, _, _]) rfl rfl rfl (by repeat (first | exact Pick.here _ _ _ | apply Pick.next)) cn_30 (by rfl) (by rfl) (by rfl) (by first | (refine .inl ?_; simp; done) | (refine .inr ?_; simp [keys]; done)) ?_
                  refine draw_done (by kernel_rfl) ?_
                  refine a_seq ?_
                  refine a_draw [] (by kernel_rfl) ?_
                  show ADraw _ _ _ _ _ _ 13 _ _ _ _
                  refine d_take 0 rfl (by kernel_rfl) (by kernel_rfl) (by kernel_rfl) rfl (p_move rfl) ?_
                  refine d_take 1 rfl (by kernel_rfl) (by kernel_rfl) (by kernel_rfl) rfl (p_index_sl 1 rfl rfl rfl (rowD _ _ (0 : Int) (by first | omega | (rw [HL]; decide))) es_22) ?_
                  refine d_load 2 rfl (by kernel_rfl) (by kernel_rfl) (by kernel_rfl) rfl (p_load_v ag_3 rfl (by rfl) noX) ?_
                  refine d_load 3 rfl (by kernel_rfl) (by kernel_rfl) (by kernel_rfl) rfl (p_load_box_all ag_30 rfl (by repeat (first | exact Pick.here _ _ _ | apply Pick.next)) (by rfl) noX) ?_
                  refine d_take 4 rfl (by kernel_rfl) (by kernel_rfl) (by kernel_rfl) rfl (p_move rfl) ?_
                  refine d_take 5 rfl (by kernel_rfl) (by kernel_rfl) (by kernel_rfl) rfl (p_index_sl 8 rfl rfl rfl (rowD _ _ (0 : Int) (by first | omega | (rw [HL]; decide))) es_22) ?_
                  refine d_load 6 rfl (by kernel_rfl) (by kernel_rfl) (by kernel_rfl) rfl (p_load_v ag_3 rfl (by rfl) noX) ?_
                  refine d_take 7 rfl (by kernel_rfl) (by kernel_rfl) (by kernel_rfl) rfl (p_move rfl) ?_
                  refine d_take 8 rfl (by kernel_rfl) (by kernel_rfl) (by kernel_rfl) rfl (p_index_sl 9 rfl rfl rfl (rowD _ _ (0 : Int) (by first | omega | (rw [HL]; decide))) es_22) ?_
                  refine d_load 9 rfl (by kernel_rfl) (by kernel_rfl) (by kernel_rfl) rfl (p_load_v ag_3 rfl (by rfl) noX) ?_
                  refine d_take 10 rfl (by kernel_rfl) (by kernel_rfl) (by kernel_rfl) rfl (p_build (cells := [_, _, _, _, _, _, _]) z_32 pl_32 rfl rfl) ?_
                  refine draw_all [11] (by kernel_rfl) (by simp) ?_
                  refine all_cons rfl rfl ?_ ?_
                  · skip
                    refine w_alloc rfl z_32 fun b7 => ?_
                    refine draw_all [12] (by kernel_rfl) (by simp) ?_
                    refine all_cons rfl rfl ?_ ?_
                    · skip
                      refine w_store (cells' := [_, _, _, _, _, _, _]) rfl rfl rfl (by repeat (first | exact Pick.here _ _ _ | apply Pick.next)) cn_32 (by rfl) (by rfl) (by rfl) (by first | (refine .inl ?_; simp; done) | (refine .inr ?_; simp [keys]; done)) ?_
                      refine draw_done (by kernel_rfl) ?_
                      refine a_seq ?_
                      refine a_seq ?_
                      refine a_region ?_
                      refine aops_cons rfl (w_pure rfl (p_load_box_all ag_32 rfl (by repeat (first | exact Pick.here _ _ _ | apply Pick.next)) (by rfl) noX) ?_)
                      refine aops_cons rfl (w_callLR rfl rfl rfl cl_42 (.cons (.agg (.cons (.refl _) (.cons (.own (by repeat (first | exact List.Mem.head _ | apply List.Mem.tail)) (by first | (simp; done) | (simp; assumption) | (simp; omega) | (simp [mkL]; done))) (.cons (.refl _) (.cons (.refl _) (.cons (.refl _) (.cons (.refl _) (.cons (.refl _) .nil)))))))) .nil) (c_load_IsContext xs) (closed_bool _) ?_)
                      refine aops_cons rfl (w_pure rfl (p_not rfl) ?_)
                      refine aops_cons rfl (w_pure rfl (p_move rfl) ?_)
                      first | refine aops_split_d 62 rfl (fun h13 => ?_) (fun h14 => ?_) | refine aops_split 62 rfl (fun h13 => ?_) (fun h14 => ?_)
                      · (try simp only [Bool.not_eq_true', Bool.not_eq_false', Bool.not_eq_true, Bool.not_eq_false, decide_eq_true_eq, decide_eq_false_iff_not, List.length_map, List.length_range] at h13)
                        refine g_pass' rfl rfl rfl rfl rfl ?_
                        refine g_pass' rfl rfl rfl rfl rfl ?_
                        refine g_pass' rfl rfl rfl rfl rfl ?_
                        refine g_pass' rfl rfl rfl rfl rfl ?_
                        refine aops_cons rfl (w_pure rfl (p_pick_t rfl rfl) ?_)
                        refine aops_nil ?_
                        refine a_cond_t rfl ?_
                        refine a_seq ?_
                        refine a_region ?_
                        refine aops_cons rfl (w_pure rfl (p_build (cells := [_, _, _, _, _, _, _]) z_32 pl_32 rfl rfl) ?_)
                        refine aops_cons rfl (w_store (cells' := [_, _, _, _, _, _, _]) rfl rfl rfl (by repeat (first | exact Pick.here _ _ _ | apply Pick.next)) cn_32 (by rfl) (by rfl) (by rfl) trivial ?_)
                        refine aops_cons rfl (w_pure rfl (p_assign rfl) ?_)
                        refine aops_cons rfl (w_pure rfl (p_assign rfl) ?_)
                        refine aops_nil ?_
                        refine a_ret ?_
                        refine ret_ok (hands3 rfl (.cell ag_32 rfl (by repeat (first | exact Pick.here _ _ _ | apply Pick.next)) (by rfl)) (.tmp rfl) (.tmp rfl)) (.nil _) ?_
                        first | exact ⟨_, rfl, rfl⟩ | (refine ⟨_, ?_, rfl⟩; rw [(hf (by omega)).1, (hf (by omega)).2]; rfl) | (exfalso; first | contradiction | exact absurd hA.1 (by assumption) | exact absurd hA.2.1 (by assumption) | exact absurd hA.2.2.1 (by assumption) | exact absurd hA.2.2.1.symm (by assumption) | exact absurd hA.2.2.2.1 (by assumption) | (have h1 := hA.2.2.2.2; have h2 := hA.1.1; have h3 := hA.1.2; have h4 := hA.2.1; have h5 := hA.2.2.1; omega))
                      · (try simp only [Bool.not_eq_true', Bool.not_eq_false', Bool.not_eq_true, Bool.not_eq_false, decide_eq_true_eq, decide_eq_false_iff_not, List.length_map, List.length_range] at h14)
                        refine aops_guard_t rfl rfl rfl (w_pure rfl (p_move rfl) ?_)
                        refine aops_guard_t rfl rfl rfl (w_pure rfl (p_index_sl 7 rfl rfl rfl (rowD _ _ (0 : Int) (by first | omega | (rw [HL]; decide))) es_22) ?_)
                        refine aops_guard_t rfl rfl rfl (w_pure rfl (p_load_v ag_3 rfl (by rfl) noX) ?_)
                        refine aops_guard_t rfl rfl rfl (w_pure rfl (p_gtr rfl rfl) ?_)
                        refine aops_cons rfl (w_pure rfl (p_pick_f rfl rfl) ?_)
                        refine aops_nil ?_
                        first | refine a_cond_d rfl (fun h15 => ?_) (fun h16 => ?_) | refine a_cond_n rfl (fun h15 => ?_) (fun h16 => ?_) | refine a_cond_nb rfl (fun h15 => ?_) (fun h16 => ?_) | refine a_cond rfl (fun h15 => ?_) (fun h16 => ?_)
                        · (try simp only [Bool.not_eq_true', Bool.not_eq_false', Bool.not_eq_true, Bool.not_eq_false, decide_eq_true_eq, decide_eq_false_iff_not, List.length_map, List.length_range] at h15)
                          refine a_seq ?_
                          refine a_region ?_
                          refine aops_cons rfl (w_pure rfl (p_build (cells := [_, _, _, _, _, _, _]) z_32 pl_32 rfl rfl) ?_)
                          refine aops_cons rfl (w_store (cells' := [_, _, _, _, _, _, _]) rfl rfl rfl (by repeat (first | exact Pick.here _ _ _ | apply Pick.next)) cn_32 (by rfl) (by rfl) (by rfl) trivial ?_)
                          refine aops_cons rfl (w_pure rfl (p_assign rfl) ?_)
                          refine aops_cons rfl (w_pure rfl (p_assign rfl) ?_)
                          refine aops_nil ?_
                          refine a_ret ?_
                          refine ret_ok (hands3 rfl (.cell ag_32 rfl (by repeat (first | exact Pick.here _ _ _ | apply Pick.next)) (by rfl)) (.tmp rfl) (.tmp rfl)) (.nil _) ?_
                          first | exact ⟨_, rfl, rfl⟩ | (refine ⟨_, ?_, rfl⟩; rw [(hf (by omega)).1, (hf (by omega)).2]; rfl) | (exfalso; first | contradiction | exact absurd hA.1 (by assumption) | exact absurd hA.2.1 (by assumption) | exact absurd hA.2.2.1 (by assumption) | exact absurd hA.2.2.1.symm (by assumption) | exact absurd hA.2.2.2.1 (by assumption) | (have h1 := hA.2.2.2.2; have h2 := hA.1.1; have h3 := hA.1.2; have h4 := hA.2.1; have h5 := hA.2.2.1; omega))
                        · (try simp only [Bool.not_eq_true', Bool.not_eq_false', Bool.not_eq_true, Bool.not_eq_false, decide_eq_true_eq, decide_eq_false_iff_not, List.length_map, List.length_range] at h16)
                          refine a_skip ?_
                          refine a_seq ?_
                          refine a_region ?_
                          refine aops_cons rfl (w_pure rfl (p_load_box_all ag_32 rfl (by repeat (first | exact Pick.here _ _ _ | apply Pick.next)) (by rfl) noX) ?_)
                          refine aops_cons rfl (w_store (cells' := [_, _, _, _, _, _, _]) rfl rfl rfl (by repeat (first | exact Pick.here _ _ _ | apply Pick.next)) cn_32 (by rfl) (by rfl) (by rfl) trivial ?_)
                          refine aops_cons rfl (w_pure rfl (p_assign rfl) ?_)
                          refine aops_cons rfl (w_pure rfl (p_assign rfl) ?_)
                          refine aops_nil ?_
                          refine a_ret ?_
                          refine ret_ok (hands3 rfl (.cell ag_32 rfl (by repeat (first | exact Pick.here _ _ _ | apply Pick.next)) (by rfl)) (.tmp rfl) (.tmp rfl)) (st' := [(b6, _)]) (.cons (by repeat (first | exact Pick.here _ _ _ | apply Pick.next)) (.nil _)) ?_
                          first | exact ⟨_, rfl, rfl⟩ | (refine ⟨_, ?_, rfl⟩; rw [(hf (by omega)).1, (hf (by omega)).2]; rfl) | (exfalso; first | contradiction | exact absurd hA.1 (by assumption) | exact absurd hA.2.1 (by assumption) | exact absurd hA.2.2.1 (by assumption) | exact absurd hA.2.2.1.symm (by assumption) | exact absurd hA.2.2.2.1 (by assumption) | (have h1 := hA.2.2.2.2; have h2 := hA.1.1; have h3 := hA.1.2; have h4 := hA.2.1; have h5 := hA.2.2.1; omega))
                    exact all_nil
                  exact all_nil
                exact all_nil
              exact all_nil
            exact all_nil
        exact all_nil

theorem cf_impl_LoadContext (xs : List Int) (hn : xs.length ≤ 1048576) (hA : GoodLoad xs) : ACalls Try.prog 43 [.sl (xs.map eInt)] [] (Ret (.tup [.agg (eContext (ctxOf xs)), .int .i64 0, .bool true])) :=
  (cy_impl_LoadContext xs hn hA).freeze (by rintro _ _ ⟨_, rfl, rfl⟩; exact (.tup (.cons (.agg (.cons (.refl _) (.cons (.own (by repeat (first | exact List.Mem.head _ | apply List.Mem.tail)) (List.length_map _)) (.cons (.refl _) (.cons (.refl _) (.cons (.refl _) (.cons (.refl _) (.cons (.refl _) .nil)))))))) (.cons (.refl _) (.cons (.refl _) .nil)))))

theorem cn_impl_LoadContext (xs : List Int) (hn : xs.length ≤ 1048576) (hA : ¬ GoodLoad xs) : ACalls Try.prog 43 [.sl (xs.map eInt)] [] (Ret (.tup [.agg [.int .i64 0, .nil, .int .i64 0, .bool false, .bool false, .int .i64 0, .int .i64 0], .int .i64 (codeL xs), .bool false])) := by
  refine a_enter Try.func43 rfl rfl (fun w0 M0 => ?_)
  refine a_seq ?_
  refine a_region ?_
  refine aops_cons rfl (w_alloc rfl z_32 fun b1 => ?_)
  refine aops_cons rfl (w_pure rfl (p_assign rfl) ?_)
  refine aops_cons rfl (w_pure rfl (p_assign rfl) ?_)
  refine aops_nil ?_
  refine a_seq ?_
  refine a_block ?_
  refine a_seq ?_
  refine a_region ?_
  refine aops_cons rfl (w_pure rfl (p_move rfl) ?_)
  refine aops_cons rfl (w_pure rfl (p_len sl_22 rfl rfl) ?_)
  refine aops_cons rfl (w_pure rfl (p_neq rfl rfl) ?_)
  refine aops_cons rfl (w_pure rfl (p_move rfl) ?_)
  first | refine aops_split_d 11 rfl (fun h1 => ?_) (fun h2 => ?_) | refine aops_split 11 rfl (fun h1 => ?_) (fun h2 => ?_)
  · (try simp only [Bool.not_eq_true', Bool.not_eq_false', Bool.not_eq_true, Bool.not_eq_false, decide_eq_true_eq, decide_eq_false_iff_not, List.length_map, List.length_range] at h1)
    refine g_pass' rfl rfl rfl rfl rfl ?_
    refine g_pass' rfl rfl rfl rfl rfl ?_
    refine aops_cons rfl (w_pure rfl (p_pick_t rfl rfl) ?_)
    refine aops_cons rfl (w_pure rfl (p_assign rfl) ?_)
    refine aops_nil ?_
    refine a_cond_t rfl ?_
    refine a_seq ?_
    have HX : ¬ WordsOk xs := (by rintro ⟨h1, h2⟩; omega)
    refine a_region ?_
    refine aops_cons rfl (w_pure rfl (p_build (cells := [_, _, _, _, _, _, _]) z_32 pl_32 rfl rfl) ?_)
    refine aops_cons rfl (w_store (cells' := [_, _, _, _, _, _, _]) rfl rfl rfl (by repeat (first | exact Pick.here _ _ _ | apply Pick.next)) cn_32 (by rfl) (by rfl) (by rfl) trivial ?_)
    refine aops_cons rfl (w_pure rfl (p_assign rfl) ?_)
    refine aops_cons rfl (w_pure rfl (p_assign rfl) ?_)
    refine aops_nil ?_
    refine a_ret ?_
    refine ret_ok (hands3 rfl (.cell ag_32 rfl (by repeat (first | exact Pick.here _ _ _ | apply Pick.next)) (by rfl)) (.tmp rfl) (.tmp rfl)) (.nil _) ?_
    first | (rw [code1 HX]; exact ⟨rfl, rfl⟩) | (rw [code2 HV (by assumption)]; exact ⟨rfl, rfl⟩) | (rw [code3 HV (by omega) (by omega)]; exact ⟨rfl, rfl⟩) | (rw [code4 HV (by omega) (by omega)]; exact ⟨rfl, rfl⟩) | exact absurd (show GoodLoad xs from ⟨HV, by omega, by omega, by assumption, by omega⟩) hA
  · (try simp only [Bool.not_eq_true', Bool.not_eq_false', Bool.not_eq_true, Bool.not_eq_false, decide_eq_true_eq, decide_eq_false_iff_not, List.length_map, List.length_range] at h2)
    refine aops_guard_t rfl rfl rfl (w_pure rfl (p_move rfl) ?_)
    refine aops_guard_t rfl rfl rfl (w_callR rfl rfl rfl cl_82 (c_load_ContainsFunc _ (by omega)) ?_)
    refine aops_cons rfl (w_pure rfl (p_pick_f rfl rfl) ?_)
    refine aops_cons rfl (w_pure rfl (p_assign rfl) ?_)
    refine aops_nil ?_
    first | refine a_cond_d rfl (fun h3 => ?_) (fun h4 => ?_) | refine a_cond_n rfl (fun h3 => ?_) (fun h4 => ?_) | refine a_cond_nb rfl (fun h3 => ?_) (fun h4 => ?_) | refine a_cond rfl (fun h3 => ?_) (fun h4 => ?_)
    · (try simp only [Bool.not_eq_true', Bool.not_eq_false', Bool.not_eq_true, Bool.not_eq_false, decide_eq_true_eq, decide_eq_false_iff_not, List.length_map, List.length_range] at h3)
      refine a_seq ?_
      have HX : ¬ WordsOk xs := (by rintro ⟨h1, h2⟩; omega)
      refine a_region ?_
      refine aops_cons rfl (w_pure rfl (p_build (cells := [_, _, _, _, _, _, _]) z_32 pl_32 rfl rfl) ?_)
      refine aops_cons rfl (w_store (cells' := [_, _, _, _, _, _, _]) rfl rfl rfl (by repeat (first | exact Pick.here _ _ _ | apply Pick.next)) cn_32 (by rfl) (by rfl) (by rfl) trivial ?_)
      refine aops_cons rfl (w_pure rfl (p_assign rfl) ?_)
      refine aops_cons rfl (w_pure rfl (p_assign rfl) ?_)
      refine aops_nil ?_
      refine a_ret ?_
      refine ret_ok (hands3 rfl (.cell ag_32 rfl (by repeat (first | exact Pick.here _ _ _ | apply Pick.next)) (by rfl)) (.tmp rfl) (.tmp rfl)) (.nil _) ?_
      first | (rw [code1 HX]; exact ⟨rfl, rfl⟩) | (rw [code2 HV (by assumption)]; exact ⟨rfl, rfl⟩) | (rw [code3 HV (by omega) (by omega)]; exact ⟨rfl, rfl⟩) | (rw [code4 HV (by omega) (by omega)]; exact ⟨rfl, rfl⟩) | exact absurd (show GoodLoad xs from ⟨HV, by omega, by omega, by assumption, by omega⟩) hA
    · (try simp only [Bool.not_eq_true', Bool.not_eq_false', Bool.not_eq_true, Bool.not_eq_false, decide_eq_true_eq, decide_eq_false_iff_not, List.length_map, List.length_range] at h4)
      refine a_seq ?_
      have HL : xs.length = 11 := (by omega); have HV : WordsOk xs := ⟨HL, by omega⟩; have HW : ∀ j, j < 11 → NotWord xs j = false := words_of (HL ▸ HV.2); have hf := fun h3 => flags_eq (x := xs.getD 7 0) (word_b HW (j := 7) (by omega)).1 h3; have hw1 := word_b HW (j := 1) (by omega); have hw7 := word_b HW (j := 7) (by omega)
      refine a_region ?_
      refine aops_cons rfl (w_pure rfl (p_move rfl) ?_)
      refine aops_cons rfl (w_pure rfl (p_index_sl 0 rfl rfl rfl (rowD _ _ (0 : Int) (by first | omega | (rw [HL]; decide))) es_22) ?_)
      refine aops_cons rfl (w_pure rfl (p_load_v ag_3 rfl (by rfl) noX) ?_)
      refine aops_cons rfl (w_pure rfl (p_neq rfl rfl) ?_)
      refine aops_cons rfl (w_pure rfl (p_assign rfl) ?_)
      refine aops_nil ?_
      first | refine a_cond_d rfl (fun h5 => ?_) (fun h6 => ?_) | refine a_cond_n rfl (fun h5 => ?_) (fun h6 => ?_) | refine a_cond_nb rfl (fun h5 => ?_) (fun h6 => ?_) | refine a_cond rfl (fun h5 => ?_) (fun h6 => ?_)
      · (try simp only [Bool.not_eq_true', Bool.not_eq_false', Bool.not_eq_true, Bool.not_eq_false, decide_eq_true_eq, decide_eq_false_iff_not, List.length_map, List.length_range] at h5)
        refine a_seq ?_
        refine a_region ?_
        refine aops_cons rfl (w_pure rfl (p_build (cells := [_, _, _, _, _, _, _]) z_32 pl_32 rfl rfl) ?_)
        refine aops_cons rfl (w_store (cells' := [_, _, _, _, _, _, _]) rfl rfl rfl (by repeat (first | exact Pick.here _ _ _ | apply Pick.next)) cn_32 (by rfl) (by rfl) (by rfl) trivial ?_)
        refine aops_cons rfl (w_pure rfl (p_assign rfl) ?_)
        refine aops_cons rfl (w_pure rfl (p_assign rfl) ?_)
        refine aops_nil ?_
        refine a_ret ?_
        refine ret_ok (hands3 rfl (.cell ag_32 rfl (by repeat (first | exact Pick.here _ _ _ | apply Pick.next)) (by rfl)) (.tmp rfl) (.tmp rfl)) (.nil _) ?_
        first | (rw [code1 HX]; exact ⟨rfl, rfl⟩) | (rw [code2 HV (by assumption)]; exact ⟨rfl, rfl⟩) | (rw [code3 HV (by omega) (by omega)]; exact ⟨rfl, rfl⟩) | (rw [code4 HV (by omega) (by omega)]; exact ⟨rfl, rfl⟩) | exact absurd (show GoodLoad xs from ⟨HV, by omega, by omega, by assumption, by omega⟩) hA
      · (try simp only [Bool.not_eq_true', Bool.not_eq_false', Bool.not_eq_true, Bool.not_eq_false, decide_eq_true_eq, decide_eq_false_iff_not, List.length_map, List.length_range] at h6)
        refine a_seq ?_
        refine a_draw [] (by kernel_rfl) ?_
        show ADraw _ _ _ _ _ _ 8 _ _ _ _
        refine d_take 0 rfl (by kernel_rfl) (by kernel_rfl) (by kernel_rfl) rfl (p_move rfl) ?_
        refine d_take 1 rfl (by kernel_rfl) (by kernel_rfl) (by kernel_rfl) rfl (p_index_sl 10 rfl rfl rfl (rowD _ _ (0 : Int) (by first | omega | (rw [HL]; decide))) es_22) ?_
        refine d_load 2 rfl (by kernel_rfl) (by kernel_rfl) (by kernel_rfl) rfl (p_load_v ag_3 rfl (by rfl) noX) ?_
        refine d_take 3 rfl (by kernel_rfl) (by kernel_rfl) (by kernel_rfl) rfl (p_move rfl) ?_
        refine d_take 4 rfl (by kernel_rfl) (by kernel_rfl) (by kernel_rfl) rfl (p_slice_sl 0 10 es_22 rfl rfl (hi_some rfl rfl) (Nat.zero_le _) (by rw [List.length_map]; omega) (lenAll _ _ (fun _ => rfl)) (show ((xs.map eInt).take 10).drop 0 = (xs.take 10).map eInt by rw [List.drop_zero, List.map_take])) ?_
        refine draw_all [5] (by kernel_rfl) (by simp) ?_
        refine all_cons rfl rfl ?_ ?_
        · skip
          refine w_callR rfl rfl rfl cl_85 (c_impl_checkWord (xs.take 10) (by rw [List.length_take]; omega) (fun j hj => words_take HW (by omega) j (by rw [List.length_take] at hj; omega))) ?_
          refine d_take 6 rfl (by kernel_rfl) (by kernel_rfl) (by kernel_rfl) rfl (p_neq rfl rfl) ?_
          refine d_take 7 rfl (by kernel_rfl) (by kernel_rfl) (by kernel_rfl) rfl (p_assign rfl) ?_
          refine draw_done (by kernel_rfl) ?_
          first | refine a_cond_d rfl (fun h7 => ?_) (fun h8 => ?_) | refine a_cond_n rfl (fun h7 => ?_) (fun h8 => ?_) | refine a_cond_nb rfl (fun h7 => ?_) (fun h8 => ?_) | refine a_cond rfl (fun h7 => ?_) (fun h8 => ?_)
          · (try simp only [Bool.not_eq_true', Bool.not_eq_false', Bool.not_eq_true, Bool.not_eq_false, decide_eq_true_eq, decide_eq_false_iff_not, List.length_map, List.length_range] at h7)
            refine a_seq ?_
            refine a_region ?_
            refine aops_cons rfl (w_pure rfl (p_build (cells := [_, _, _, _, _, _, _]) z_32 pl_32 rfl rfl) ?_)
            refine aops_cons rfl (w_store (cells' := [_, _, _, _, _, _, _]) rfl rfl rfl (by repeat (first | exact Pick.here _ _ _ | apply Pick.next)) cn_32 (by rfl) (by rfl) (by rfl) trivial ?_)
            refine aops_cons rfl (w_pure rfl (p_assign rfl) ?_)
            refine aops_cons rfl (w_pure rfl (p_assign rfl) ?_)
            refine aops_nil ?_
            refine a_ret ?_
            refine ret_ok (hands3 rfl (.cell ag_32 rfl (by repeat (first | exact Pick.here _ _ _ | apply Pick.next)) (by rfl)) (.tmp rfl) (.tmp rfl)) (.nil _) ?_
            first | (rw [code1 HX]; exact ⟨rfl, rfl⟩) | (rw [code2 HV (by assumption)]; exact ⟨rfl, rfl⟩) | (rw [code3 HV (by omega) (by omega)]; exact ⟨rfl, rfl⟩) | (rw [code4 HV (by omega) (by omega)]; exact ⟨rfl, rfl⟩) | exact absurd (show GoodLoad xs from ⟨HV, by omega, by omega, by assumption, by omega⟩) hA
          · (try simp only [Bool.not_eq_true', Bool.not_eq_false', Bool.not_eq_true, Bool.not_eq_false, decide_eq_true_eq, decide_eq_false_iff_not, List.length_map, List.length_range] at h8)
            refine a_skip ?_
            refine a_seq ?_
            refine a_draw [] (by kernel_rfl) ?_
            show ADraw _ _ _ _ _ _ 19 _ _ _ _
            refine d_take 0 rfl (by kernel_rfl) (by kernel_rfl) (by kernel_rfl) rfl (p_move rfl) ?_
            refine d_take 1 rfl (by kernel_rfl) (by kernel_rfl) (by kernel_rfl) rfl (p_slice_sl 2 6 es_22 rfl (lo_some rfl rfl) (hi_some rfl rfl) (by decide) (by rw [List.length_map]; omega) (lenAll _ _ (fun _ => rfl)) (show ((xs.map eInt).take 6).drop 2 = ((xs.take 6).drop 2).map eInt by rw [List.map_drop, List.map_take])) ?_
            refine d_take 3 rfl (by kernel_rfl) (by kernel_rfl) (by kernel_rfl) rfl (p_move rfl) ?_
            refine d_take 4 rfl (by kernel_rfl) (by kernel_rfl) (by kernel_rfl) rfl (p_index_sl 6 rfl rfl rfl (rowD _ _ (0 : Int) (by first | omega | (rw [HL]; decide))) es_22) ?_
            refine d_load 5 rfl (by kernel_rfl) (by kernel_rfl) (by kernel_rfl) rfl (p_load_v ag_3 rfl (by rfl) noX) ?_
            refine d_take 6 rfl (by kernel_rfl) (by kernel_rfl) (by kernel_rfl) rfl (p_move rfl) ?_
            refine d_take 7 rfl (by kernel_rfl) (by kernel_rfl) (by kernel_rfl) rfl (p_index_sl 7 rfl rfl rfl (rowD _ _ (0 : Int) (by first | omega | (rw [HL]; decide))) es_22) ?_
            refine d_load 8 rfl (by kernel_rfl) (by kernel_rfl) (by kernel_rfl) rfl (p_load_v ag_3 rfl (by rfl) noX) ?_
            refine d_take 9 rfl (by kernel_rfl) (by kernel_rfl) (by kernel_rfl) rfl (p_bits .and (by decide) rfl rfl) ?_
            refine d_take 10 rfl (by kernel_rfl) (by kernel_rfl) (by kernel_rfl) rfl (p_eql rfl rfl) ?_
            refine d_take 11 rfl (by kernel_rfl) (by kernel_rfl) (by kernel_rfl) rfl (p_move rfl) ?_
            refine d_take 12 rfl (by kernel_rfl) (by kernel_rfl) (by kernel_rfl) rfl (p_index_sl 7 rfl rfl rfl (rowD _ _ (0 : Int) (by first | omega | (rw [HL]; decide))) es_22) ?_
            refine d_load 13 rfl (by kernel_rfl) (by kernel_rfl) (by kernel_rfl) rfl (p_load_v ag_3 rfl (by rfl) noX) ?_
            refine d_take 14 rfl (by kernel_rfl) (by kernel_rfl) (by kernel_rfl) rfl (p_bits .and (by decide) rfl rfl) ?_
            refine d_take 15 rfl (by kernel_rfl) (by kernel_rfl) (by kernel_rfl) rfl (p_eql rfl rfl) ?_
            refine draw_all [2, 17] (by kernel_rfl) (by simp) ?_
            refine all_cons rfl rfl ?_ ?_
            · skip
              refine w_call rfl rfl rfl cl_86 ((co_impl_copyInts _ (by first | omega | (simp only [List.length_append, List.length_cons, List.length_nil, List.length_take, List.length_drop]; omega))).mono fun _ _ h => h.len) ?_
              rintro _ _ ⟨b2, rfl, rfl⟩
              refine d_take 16 rfl (by kernel_rfl) (by kernel_rfl) (by kernel_rfl) rfl (p_build (cells := [_, _, _, _]) z_30 pl_30 rfl rfl) ?_
              refine draw_all [17] (by kernel_rfl) (by simp) ?_
              refine all_cons rfl rfl ?_ ?_
              · skip
                refine w_alloc rfl z_30 fun b3 => ?_
                refine draw_all [18] (by kernel_rfl) (by simp) ?_
                refine all_cons rfl rfl ?_ ?_
                · skip
                  refine w_store (cells' := [_, _, _, _]) rfl rfl rfl (by repeat (first | exact Pick.here _ _ _ | apply Pick.next)) cn_30 (by rfl) (by rfl) (by rfl) (by first | (refine .inl ?_; simp; done) | (refine .inr ?_; simp [keys]; done)) ?_
                  refine draw_done (by kernel_rfl) ?_
                  refine a_seq ?_
                  refine a_draw [] (by kernel_rfl) ?_
                  show ADraw _ _ _ _ _ _ 13 _ _ _ _
                  refine d_take 0 rfl (by kernel_rfl) (by kernel_rfl) (by kernel_rfl) rfl (p_move rfl) ?_
                  refine d_take 1 rfl (by kernel_rfl) (by kernel_rfl) (by kernel_rfl) rfl (p_index_sl 1 rfl rfl rfl (rowD _ _ (0 : Int) (by first | omega | (rw [HL]; decide))) es_22) ?_
                  refine d_load 2 rfl (by kernel_rfl) (by kernel_rfl) (by kernel_rfl) rfl (p_load_v ag_3 rfl (by rfl) noX) ?_
                  refine d_load 3 rfl (by kernel_rfl) (by kernel_rfl) (by kernel_rfl) rfl (p_load_box_all ag_30 rfl (by repeat (first | exact Pick.here _ _ _ | apply Pick.next)) (by rfl) noX) ?_
                  refine d_take 4 rfl (by kernel_rfl) (by kernel_rfl) (by kernel_rfl) rfl (p_move rfl) ?_
                  refine d_take 5 rfl (by kernel_rfl) (by kernel_rfl) (by kernel_rfl) rfl (p_index_sl 8 rfl rfl rfl (rowD _ _ (0 : Int) (by first | omega | (rw [HL]; decide))) es_22) ?_
                  refine d_load 6 rfl (by kernel_rfl) (by kernel_rfl) (by kernel_rfl) rfl (p_load_v ag_3 rfl (by rfl) noX) ?_
                  refine d_take 7 rfl (by kernel_rfl) (by kernel_rfl) (by kernel_rfl) rfl (p_move rfl) ?_
                  refine d_take 8 rfl (by kernel_rfl) (by kernel_rfl) (by kernel_rfl) rfl (p_index_sl 9 rfl rfl rfl (rowD _ _ (0 : Int) (by first | omega | (rw [HL]; decide))) es_22) ?_
                  refine d_load 9 rfl (by kernel_rfl) (by kernel_rfl) (by kernel_rfl) rfl (p_load_v ag_3 rfl (by rfl) noX) ?_
                  refine d_take 10 rfl (by kernel_rfl) (by kernel_rfl) (by kernel_rfl) rfl (p_build (cells := [_, _, _, _, _, _, _]) z_32 pl_32 rfl rfl) ?_
                  refine draw_all [11] (by kernel_rfl) (by simp) ?_
                  refine all_cons rfl rfl ?_ ?_
                  · skip
                    refine w_alloc rfl z_32 fun b4 => ?_
                    refine draw_all [12] (by kernel_rfl) (by simp) ?_
                    refine all_cons rfl rfl ?_ ?_
                    · skip
                      refine w_store (cells' := [_, _, _, _, _, _, _]) rfl rfl rfl (by repeat (first | exact Pick.here _ _ _ | apply Pick.next)) cn_32 (by rfl) (by rfl) (by rfl) (by first | (refine .inl ?_; simp; done) | (refine .inr ?_; simp [keys]; done)) ?_
                      refine draw_done (by kernel_rfl) ?_
                      refine a_seq ?_
                      refine a_seq ?_
                      refine a_region ?_
                      refine aops_cons rfl (w_pure rfl (p_load_box_all ag_32 rfl (by repeat (first | exact Pick.here _ _ _ | apply Pick.next)) (by rfl) noX) ?_)
                      refine aops_cons rfl (w_callLR rfl rfl rfl cl_42 (.cons (.agg (.cons (.refl _) (.cons (.own (by repeat (first | exact List.Mem.head _ | apply List.Mem.tail)) (by first | (simp; done) | (simp; assumption) | (simp; omega) | (simp [mkL]; done))) (.cons (.refl _) (.cons (.refl _) (.cons (.refl _) (.cons (.refl _) (.cons (.refl _) .nil)))))))) .nil) (c_load_IsContext xs) (closed_bool _) ?_)
                      refine aops_cons rfl (w_pure rfl (p_not rfl) ?_)
                      refine aops_cons rfl (w_pure rfl (p_move rfl) ?_)
                      first | refine aops_split_d 62 rfl (fun h9 => ?_) (fun h10 => ?_) | refine aops_split 62 rfl (fun h9 => ?_) (fun h10 => ?_)
                      · (try simp only [Bool.not_eq_true', Bool.not_eq_false', Bool.not_eq_true, Bool.not_eq_false, decide_eq_true_eq, decide_eq_false_iff_not, List.length_map, List.length_range] at h9)
                        refine g_pass' rfl rfl rfl rfl rfl ?_
                        refine g_pass' rfl rfl rfl rfl rfl ?_
                        refine g_pass' rfl rfl rfl rfl rfl ?_
                        refine g_pass' rfl rfl rfl rfl rfl ?_
                        refine aops_cons rfl (w_pure rfl (p_pick_t rfl rfl) ?_)
                        refine aops_nil ?_
                        refine a_cond_t rfl ?_
                        refine a_seq ?_
                        refine a_region ?_
                        refine aops_cons rfl (w_pure rfl (p_build (cells := [_, _, _, _, _, _, _]) z_32 pl_32 rfl rfl) ?_)
                        refine aops_cons rfl (w_store (cells' := [_, _, _, _, _, _, _]) rfl rfl rfl (by repeat (first | exact Pick.here _ _ _ | apply Pick.next)) cn_32 (by rfl) (by rfl) (by rfl) trivial ?_)
                        refine aops_cons rfl (w_pure rfl (p_assign rfl) ?_)
                        refine aops_cons rfl (w_pure rfl (p_assign rfl) ?_)
                        refine aops_nil ?_
                        refine a_ret ?_
                        refine ret_ok (hands3 rfl (.cell ag_32 rfl (by repeat (first | exact Pick.here _ _ _ | apply Pick.next)) (by rfl)) (.tmp rfl) (.tmp rfl)) (.nil _) ?_
                        first | (rw [code1 HX]; exact ⟨rfl, rfl⟩) | (rw [code2 HV (by assumption)]; exact ⟨rfl, rfl⟩) | (rw [code3 HV (by omega) (by omega)]; exact ⟨rfl, rfl⟩) | (rw [code4 HV (by omega) (by omega)]; exact ⟨rfl, rfl⟩) | exact absurd (show GoodLoad xs from ⟨HV, by omega, by omega, by assumption, by omega⟩) hA
                      · (try simp only [Bool.not_eq_true', Bool.not_eq_false', Bool.not_eq_true, Bool.not_eq_false, decide_eq_true_eq, decide_eq_false_iff_not, List.length_map, List.length_range] at h10)
                        refine aops_guard_t rfl rfl rfl (w_pure rfl (p_move rfl) ?_)
                        refine aops_guard_t rfl rfl rfl (w_pure rfl (p_index_sl 7 rfl rfl rfl (rowD _ _ (0 : Int) (by first | omega | (rw [HL]; decide))) es_22) ?_)
                        refine aops_guard_t rfl rfl rfl (w_pure rfl (p_load_v ag_3 rfl (by rfl) noX) ?_)
                        refine aops_guard_t rfl rfl rfl (w_pure rfl (p_gtr rfl rfl) ?_)
                        refine aops_cons rfl (w_pure rfl (p_pick_f rfl rfl) ?_)
                        refine aops_nil ?_
                        first | refine a_cond_d rfl (fun h11 => ?_) (fun h12 => ?_) | refine a_cond_n rfl (fun h11 => ?_) (fun h12 => ?_) | refine a_cond_nb rfl (fun h11 => ?_) (fun h12 => ?_) | refine a_cond rfl (fun h11 => ?_) (fun h12 => ?_)
                        · (try simp only [Bool.not_eq_true', Bool.not_eq_false', Bool.not_eq_true, Bool.not_eq_false, decide_eq_true_eq, decide_eq_false_iff_not, List.length_map, List.length_range] at h11)
                          refine a_seq ?_
                          refine a_region ?_
                          refine aops_cons rfl (w_pure rfl (p_build (cells := [_, _, _, _, _, _, _]) z_32 pl_32 rfl rfl) ?_)
                          refine aops_cons rfl (w_store (cells' := [_, _, _, _, _, _, _]) rfl rfl rfl (by repeat (first | exact Pick.here _ _ _ | apply Pick.next)) cn_32 (by rfl) (by rfl) (by rfl) trivial ?_)
                          refine aops_cons rfl (w_pure rfl (p_assign rfl) ?_)
                          refine aops_cons rfl (w_pure rfl (p_assign rfl) ?_)
                          refine aops_nil ?_
                          refine a_ret ?_
                          refine ret_ok (hands3 rfl (.cell ag_32 rfl (by repeat (first | exact Pick.here _ _ _ | apply Pick.next)) (by rfl)) (.tmp rfl) (.tmp rfl)) (.nil _) ?_
                          first | (rw [code1 HX]; exact ⟨rfl, rfl⟩) | (rw [code2 HV (by assumption)]; exact ⟨rfl, rfl⟩) | (rw [code3 HV (by omega) (by omega)]; exact ⟨rfl, rfl⟩) | (rw [code4 HV (by omega) (by omega)]; exact ⟨rfl, rfl⟩) | exact absurd (show GoodLoad xs from ⟨HV, by omega, by omega, by assumption, by omega⟩) hA
                        · (try simp only [Bool.not_eq_true', Bool.not_eq_false', Bool.not_eq_true, Bool.not_eq_false, decide_eq_true_eq, decide_eq_false_iff_not, List.length_map, List.length_range] at h12)
                          refine a_skip ?_
                          refine a_seq ?_
                          refine a_region ?_
                          refine aops_cons rfl (w_pure rfl (p_load_box_all ag_32 rfl (by repeat (first | exact Pick.here _ _ _ | apply Pick.next)) (by rfl) noX) ?_)
                          refine aops_cons rfl (w_store (cells' := [_, _, _, _, _, _, _]) rfl rfl rfl (by repeat (first | exact Pick.here _ _ _ | apply Pick.next)) cn_32 (by rfl) (by rfl) (by rfl) trivial ?_)
                          refine aops_cons rfl (w_pure rfl (p_assign rfl) ?_)
                          refine aops_cons rfl (w_pure rfl (p_assign rfl) ?_)
                          refine aops_nil ?_
                          refine a_ret ?_
                          refine ret_ok (hands3 rfl (.cell ag_32 rfl (by repeat (first | exact Pick.here _ _ _ | apply Pick.next)) (by rfl)) (.tmp rfl) (.tmp rfl)) (st' := [(b2, _)]) (.cons (by repeat (first | exact Pick.here _ _ _ | apply Pick.next)) (.nil _)) ?_
                          first | (rw [code1 HX]; exact ⟨rfl, rfl⟩) | (rw [code2 HV (by assumption)]; exact ⟨rfl, rfl⟩) | (rw [code3 HV (by omega) (by omega)]; exact ⟨rfl, rfl⟩) | (rw [code4 HV (by omega) (by omega)]; exact ⟨rfl, rfl⟩) | exact absurd (show GoodLoad xs from ⟨HV, by omega, by omega, by assumption, by omega⟩) hA
                    exact all_nil
                  exact all_nil
                exact all_nil
              exact all_nil
            refine all_cons rfl rfl ?_ ?_
            · skip
              refine w_alloc rfl z_30 fun b5 => ?_
              refine draw_all [2] (by kernel_rfl) (by simp) ?_
              refine all_cons rfl rfl ?_ ?_
              · skip
                refine w_call rfl rfl rfl cl_86 ((co_impl_copyInts _ (by first | omega | (simp only [List.length_append, List.length_cons, List.length_nil, List.length_take, List.length_drop]; omega))).mono fun _ _ h => h.len) ?_
                rintro _ _ ⟨b6, rfl, rfl⟩
                refine d_take 16 rfl (by kernel_rfl) (by kernel_rfl) (by kernel_rfl) rfl (p_build (cells := [_, _, _, _]) z_30 pl_30 rfl rfl) ?_
                refine draw_all [18] (by kernel_rfl) (by simp) ?_
                refine all_cons rfl rfl ?_ ?_
                · skip
                  refine w_store (cells' := [_, _, _, _]) rfl rfl rfl (by repeat (first | exact Pick.here _ _ _ | apply Pick.next)) cn_30 (by rfl) (by rfl) (by rfl) (by first | (refine .inl ?_; simp; done) | (refine .inr ?_; simp [keys]; done)) ?_
                  refine draw_done (by kernel_rfl) ?_
                  refine a_seq ?_
                  refine a_draw [] (by kernel_rfl) ?_
                  show ADraw _ _ _ _ _ _ 13 _ _ _ _
                  refine d_take 0 rfl (by kernel_rfl) (by kernel_rfl) (by kernel_rfl) rfl (p_move rfl) ?_
                  refine d_take 1 rfl (by kernel_rfl) (by kernel_rfl) (by kernel_rfl) rfl (p_index_sl 1 rfl rfl rfl (rowD _ _ (0 : Int) (by first | omega | (rw [HL]; decide))) es_22) ?_
                  refine d_load 2 rfl (by kernel_rfl) (by kernel_rfl) (by kernel_rfl) rfl (p_load_v ag_3 rfl (by rfl) noX) ?_
                  refine d_load 3 rfl (by kernel_rfl) (by kernel_rfl) (by kernel_rfl) rfl (p_load_box_all ag_30 rfl (by repeat (first | exact Pick.here _ _ _ | apply Pick.next)) (by rfl) noX) ?_
                  refine d_take 4 rfl (by kernel_rfl) (by kernel_rfl) (by kernel_rfl) rfl (p_move rfl) ?_
                  refine d_take 5 rfl (by kernel_rfl) (by kernel_rfl) (by kernel_rfl) rfl (p_index_sl 8 rfl rfl rfl (rowD _ _ (0 : Int) (by first | omega | (rw [HL]; decide))) es_22) ?_
                  refine d_load 6 rfl (by kernel_rfl) (by kernel_rfl) (by kernel_rfl) rfl (p_load_v ag_3 rfl (by rfl) noX) ?_
                  refine d_take 7 rfl (by kernel_rfl) (by kernel_rfl) (by kernel_rfl) rfl (p_move rfl) ?_
                  refine d_take 8 rfl (by kernel_rfl) (by kernel_rfl) (by kernel_rfl) rfl (p_index_sl 9 rfl rfl rfl (rowD _ _ (0 : Int) (by first | omega | (rw [HL]; decide))) es_22) ?_
                  refine d_load 9 rfl (by kernel_rfl) (by kernel_rfl) (by kernel_rfl) rfl (p_load_v ag_3 rfl (by rfl) noX) ?_
                  refine d_take 10 rfl (by kernel_rfl) (by kernel_rfl) (by kernel_rfl) rfl (p_build (cells := [_, _, _, _, _, _, _]) z_32 pl_32 rfl rfl) ?_
                  refine draw_all [11] (by kernel_rfl) (by simp) ?_
                  refine all_cons rfl rfl ?_ ?_
                  · skip
                    refine w_alloc rfl z_32 fun b7 => ?_
                    refine draw_all [12] (by kernel_rfl) (by simp) ?_
                    refine all_cons rfl rfl ?_ ?_
                    · skip
                      refine w_store (cells' := [_, _, _, _, _, _, _]) rfl rfl rfl (by repeat (first | exact Pick.here _ _ _ | apply Pick.next)) cn_32 (by rfl) (by rfl) (by rfl) (by first | (refine .inl ?_; simp; done) | (refine .inr ?_; simp [keys]; done)) ?_
                      refine draw_done (by kernel_rfl) ?_
                      refine a_seq ?_
                      refine a_seq ?_
                      refine a_region ?_
                      refine aops_cons rfl (w_pure rfl (p_load_box_all ag_32 rfl (by repeat (first | exact Pick.here _ _ _ | apply Pick.next)) (by rfl) noX) ?_)
                      refine aops_cons rfl (w_callLR rfl rfl rfl cl_42 (.cons (.agg (.cons (.refl _) (.cons (.own (by repeat (first | exact List.Mem.head _ | apply List.Mem.tail)) (by first | (simp; done) | (simp; assumption) | (simp; omega) | (simp [mkL]; done))) (.cons (.refl _) (.cons (.refl _) (.cons (.refl _) (.cons (.refl _) (.cons (.refl _) .nil)))))))) .nil) (c_load_IsContext xs) (closed_bool _) ?_)
                      refine aops_cons rfl (w_pure rfl (p_not rfl) ?_)
                      refine aops_cons rfl (w_pure rfl (p_move rfl) ?_)
                      first | refine aops_split_d 62 rfl (fun h13 => ?_) (fun h14 => ?_) | refine aops_split 62 rfl (fun h13 => ?_) (fun h14 => ?_)
                      · (try simp only [Bool.not_eq_true', Bool.not_eq_false', Bool.not_eq_true, Bool.not_eq_false, decide_eq_true_eq, decide_eq_false_iff_not, List.length_map, List.length_range] at h13)
                        refine g_pass' rfl rfl rfl rfl rfl ?_
                        refine g_pass' rfl rfl rfl rfl rfl ?_
                        refine g_pass' rfl rfl rfl rfl rfl ?_
                        refine g_pass' rfl rfl rfl rfl rfl ?_
                        refine aops_cons rfl (w_pure rfl (p_pick_t rfl rfl) ?_)
                        refine aops_nil ?_
                        refine a_cond_t rfl ?_
                        refine a_seq ?_
                        refine a_region ?_
                        refine aops_cons rfl (w_pure rfl (p_build (cells := [_, _, _, _, _, _, _]) z_32 pl_32 rfl rfl) ?_)
                        refine aops_cons rfl (w_store (cells' := [_, _, _, _, _, _, _]) rfl rfl rfl (by repeat (first | exact Pick.here _ _ _ | apply Pick.next)) cn_32 (by rfl) (by rfl) (by rfl) trivial ?_)
                        refine aops_cons rfl (w_pure rfl (p_assign rfl) ?_)
                        refine aops_cons rfl (w_pure rfl (p_assign rfl) ?_)
                        refine aops_nil ?_
                        refine a_ret ?_
                        refine ret_ok (hands3 rfl (.cell ag_32 rfl (by repeat (first | exact Pick.here _ _ _ | apply Pick.next)) (by rfl)) (.tmp rfl) (.tmp rfl)) (.nil _) ?_
                        first | (rw [code1 HX]; exact ⟨rfl, rfl⟩) | (rw [code2 HV (by assumption)]; exact ⟨rfl, rfl⟩) | (rw [code3 HV (by omega) (by omega)]; exact ⟨rfl, rfl⟩) | (rw [code4 HV (by omega) (by omega)]; exact ⟨rfl, rfl⟩) | exact absurd (show GoodLoad xs from ⟨HV, by omega, by omega, by assumption, by omega⟩) hA
                      · (try simp only [Bool.not_eq_true', Bool.not_eq_false', Bool.not_eq_true, Bool.not_eq_false, decide_eq_true_eq, decide_eq_false_iff_not, List.length_map, List.length_range] at h14)
                        refine aops_guard_t rfl rfl rfl (w_pure rfl (p_move rfl) ?_)
                        refine aops_guard_t rfl rfl rfl (w_pure rfl (p_index_sl 7 rfl rfl rfl (rowD _ _ (0 : Int) (by first | omega | (rw [HL]; decide))) es_22) ?_)
                        refine aops_guard_t rfl rfl rfl (w_pure rfl (p_load_v ag_3 rfl (by rfl) noX) ?_)
                        refine aops_guard_t rfl rfl rfl (w_pure rfl (p_gtr rfl rfl) ?_)
                        refine aops_cons rfl (w_pure rfl (p_pick_f rfl rfl) ?_)
                        refine aops_nil ?_
                        first | refine a_cond_d rfl (fun h15 => ?_) (fun h16 => ?_) | refine a_cond_n rfl (fun h15 => ?_) (fun h16 => ?_) | refine a_cond_nb rfl (fun h15 => ?_) (fun h16 => ?_) | refine a_cond rfl (fun h15 => ?_) (fun h16 => ?_)
                        · (try simp only [Bool.not_eq_true', Bool.not_eq_false', Bool.not_eq_true, Bool.not_eq_false, decide_eq_true_eq, decide_eq_false_iff_not, List.length_map, List.length_range] at h15)
                          refine a_seq ?_
                          refine a_region ?_
                          refine aops_cons rfl (w_pure rfl (p_build (cells := [_, _, _, _, _, _, _]) z_32 pl_32 rfl rfl) ?_)
                          refine aops_cons rfl (w_store (cells' := [_, _, _, _, _, _, _]) rfl rfl rfl (by repeat (first | exact Pick.here _ _ _ | apply Pick.next)) cn_32 (by rfl) (by rfl) (by rfl) trivial ?_)
                          refine aops_cons rfl (w_pure rfl (p_assign rfl) ?_)
                          refine aops_cons rfl (w_pure rfl (p_assign rfl) ?_)
                          refine aops_nil ?_
                          refine a_ret ?_
                          refine ret_ok (hands3 rfl (.cell ag_32 rfl (by repeat (first | exact Pick.here _ _ _ | apply Pick.next)) (by rfl)) (.tmp rfl) (.tmp rfl)) (.nil _) ?_
                          first | (rw [code1 HX]; exact ⟨rfl, rfl⟩) | (rw [code2 HV (by assumption)]; exact ⟨rfl, rfl⟩) | (rw [code3 HV (by omega) (by omega)]; exact ⟨rfl, rfl⟩) | (rw [code4 HV (by omega) (by omega)]; exact ⟨rfl, rfl⟩) | exact absurd (show GoodLoad xs from ⟨HV, by omega, by omega, by assumption, by omega⟩) hA
                        · (try simp only [Bool.not_eq_true', Bool.not_eq_false', Bool.not_eq_true, Bool.not_eq_false, decide_eq_true_eq, decide_eq_false_iff_not, List.length_map, List.length_range] at h16)
                          refine a_skip ?_
                          refine a_seq ?_
                          refine a_region ?_
                          refine aops_cons rfl (w_pure rfl (p_load_box_all ag_32 rfl (by repeat (first | exact Pick.here _ _ _ | apply Pick.next)) (by rfl) noX) ?_)
                          refine aops_cons rfl (w_store (cells' := [_, _, _, _, _, _, _]) rfl rfl rfl (by repeat (first | exact Pick.here _ _ _ | apply Pick.next)) cn_32 (by rfl) (by rfl) (by rfl) trivial ?_)
                          refine aops_cons rfl (w_pure rfl (p_assign rfl) ?_)
                          refine aops_cons rfl (w_pure rfl (p_assign rfl) ?_)
                          refine aops_nil ?_
                          refine a_ret ?_
                          refine ret_ok (hands3 rfl (.cell ag_32 rfl (by repeat (first | exact Pick.here _ _ _ | apply Pick.next)) (by rfl)) (.tmp rfl) (.tmp rfl)) (st' := [(b6, _)]) (.cons (by repeat (first | exact Pick.here _ _ _ | apply Pick.next)) (.nil _)) ?_
                          first | (rw [code1 HX]; exact ⟨rfl, rfl⟩) | (rw [code2 HV (by assumption)]; exact ⟨rfl, rfl⟩) | (rw [code3 HV (by omega) (by omega)]; exact ⟨rfl, rfl⟩) | (rw [code4 HV (by omega) (by omega)]; exact ⟨rfl, rfl⟩) | exact absurd (show GoodLoad xs from ⟨HV, by omega, by omega, by assumption, by omega⟩) hA
                    exact all_nil
                  exact all_nil
                exact all_nil
              exact all_nil
            exact all_nil
        exact all_nil





end Go.Proofs.Ytejlhpmmgjfllaa
