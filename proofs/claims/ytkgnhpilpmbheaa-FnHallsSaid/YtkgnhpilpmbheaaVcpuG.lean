/-
  The walks of this part: each theorem is the contract of one function. Condition: none but those that it names.
-/
import Derived.Test.YtkgnhpilpmbheaaVcpuGd
import Derived.Test.YtkgnhpilpmbheaaVcpuGF
import Derived.Test.YtkgnhpilpmbheaaVcpuA
import Derived.Test.YtkgnhpilpmbheaaVcpuB
import Derived.Test.YtkgnhpilpmbheaaVcpuC
namespace Go.Proofs.Ytkgnhpilpmbheaa
open Go Go.Fw Go.Hv
attribute [local irreducible] awp Aops Aop ADraw ADrawAll ACalls
set_option maxRecDepth 4000
set_option linter.unusedSimpArgs false
set_option linter.unusedVariables false

theorem c_laws_markBoolS (b : Nat) (xs : List Bool) (hn : xs.length ≤ 1048576) (k : Int) (k0 : 0 ≤ k) (k1 : k ≤ 100000000) : ACalls Try.prog 112 [.own 1 b 0 xs.length, .int .i64 k] [(b, .arr 4 1 (xs.map eBool))] (fun r st => r = .int .i64 (k + 1 * xs.length) ∧ st = [(b, .arr 4 1 (((List.range xs.length).map (mkB k)).map eBool))]) := by
  refine a_enter Try.func112 rfl rfl (fun w0 M0 => ?_)
  refine a_seq ?_
  refine a_region ?_
  refine aops_cons rfl (w_pure rfl (p_assign rfl) ?_)
  refine aops_nil ?_
  refine a_seq ?_
  refine a_seq ?_
  refine a_region ?_
  refine aops_cons rfl (w_pure rfl (p_assign rfl) ?_)
  refine aops_nil ?_
  refine a_block ?_
  refine a_loop (ι := Nat × Int) (fun ⟨i, m⟩ => i ≤ xs.length ∧ m = k + 1 * i) (fun ⟨i, m⟩ => [(5, .int .i64 (i : Int)), (1, .int .i64 m)]) (fun ⟨i, m⟩ => [(b, .arr 4 1 ((putTo (mkB k) xs i).map eBool))]) (fun ⟨i, m⟩ => xs.length - i) (0, k) ⟨Nat.zero_le _, by simp⟩ (by repeat (first | exact Knows.nil | refine Knows.cons (by rfl) ?_)) (by repeat (first | exact Picks.nil _ | exact Pick.here _ _ _ | apply Pick.next | apply Picks.cons)) ?_
  rintro ⟨i, m⟩ ⟨hi, hI⟩
  subst hI
  refine a_seq ?_
  refine a_seq ?_
  refine a_region ?_
  refine aops_cons rfl (w_pure rfl (p_move rfl) ?_)
  refine aops_cons rfl (w_pure rfl (p_move rfl) ?_)
  refine aops_cons rfl (w_pure rfl (p_len sl_54 rfl rfl) ?_)
  refine aops_cons rfl (w_pure rfl (p_lss rfl rfl) ?_)
  refine aops_nil ?_
  first | refine a_cond_d rfl (fun h1 => ?_) (fun h2 => ?_) | refine a_cond_n rfl (fun h1 => ?_) (fun h2 => ?_) | refine a_cond_nb rfl (fun h1 => ?_) (fun h2 => ?_) | refine a_cond rfl (fun h1 => ?_) (fun h2 => ?_)
  · (try simp only [Bool.not_eq_true', Bool.not_eq_false', Bool.not_eq_true, Bool.not_eq_false, decide_eq_true_eq, decide_eq_false_iff_not, List.length_map, List.length_range] at h1)
    refine a_skip ?_
    refine a_seq ?_
    refine a_block ?_
    refine a_seq ?_
    refine a_region ?_
    refine aops_cons rfl (w_pure rfl (p_move rfl) ?_)
    refine aops_cons rfl (w_pure rfl (p_move rfl) ?_)
    refine aops_cons rfl (w_pure rfl (p_move rfl) ?_)
    refine aops_cons rfl (w_pure rfl (p_rem' rfl rfl (by omega) (by omega)) ?_)
    refine aops_cons rfl (w_pure rfl (p_eql rfl rfl) ?_)
    refine aops_cons rfl (w_pure rfl (p_index_own0 _ rfl rfl rfl (by omega) es_54) ?_)
    refine aops_cons rfl (w_store_eM eBool (mkB k i) rfl rfl rfl (by repeat (first | exact Pick.here _ _ _ | apply Pick.next)) (by rw [putTo_length _ _ hi]; omega) cn_4 (by rfl) (by rfl) (by rfl) trivial ?_)
    rw [putTo_set _ _ (by omega)]
    refine aops_nil ?_
    refine a_region ?_
    refine aops_cons rfl (w_pure rfl (p_move rfl) ?_)
    refine aops_cons rfl (w_pure rfl (p_add' rfl rfl ⟨by omega, by omega⟩) ?_)
    refine aops_cons rfl (w_pure rfl (p_assign rfl) ?_)
    refine aops_nil ?_
    refine a_region ?_
    refine aops_cons rfl (w_pure rfl (p_move rfl) ?_)
    refine aops_cons rfl (w_pure rfl (p_add' rfl rfl ⟨by omega, by omega⟩) ?_)
    refine aops_cons rfl (w_pure rfl (p_assign rfl) ?_)
    refine aops_nil ?_
    refine ⟨(i + 1, _), _, ?_, ?_, (by repeat (first | exact Knows.nil | refine Knows.cons (by rfl) ?_)), (by repeat (first | exact Back.refl _ _ | refine Back.cons (by rfl) ?_)), (by repeat (first | exact Picks.nil _ | exact Pick.here _ _ _ | apply Pick.next | apply Picks.cons))⟩
    · exact ⟨by omega, by omega⟩
    · (try dsimp only); omega
  · (try simp only [Bool.not_eq_true', Bool.not_eq_false', Bool.not_eq_true, Bool.not_eq_false, decide_eq_true_eq, decide_eq_false_iff_not, List.length_map, List.length_range] at h2)
    refine a_exit ?_
    refine a_seq ?_
    refine a_region ?_
    refine aops_cons rfl (w_pure rfl (p_move rfl) ?_)
    refine aops_cons rfl (w_pure rfl (p_assign rfl) ?_)
    refine aops_nil ?_
    refine a_ret ?_
    refine ret_ok (hands1 rfl (.tmp rfl)) (.cons (.here _ _ _) (.nil _)) ?_
    have hx : i = xs.length := (by omega); subst hx; exact ⟨rfl, by rw [putTo_len _ _ (by omega) (Nat.le_refl _)]⟩

theorem cn_laws_markBoolS (k : Int) : ACalls Try.prog 112 [.nil, .int .i64 k] [] (Ret (.int .i64 (k + 1 * (([] : List Bool).length : Int)))) := by
  refine a_enter Try.func112 rfl rfl (fun w0 M0 => ?_)
  refine a_seq ?_
  refine a_region ?_
  refine aops_cons rfl (w_pure rfl (p_assign rfl) ?_)
  refine aops_nil ?_
  refine a_seq ?_
  refine a_seq ?_
  refine a_region ?_
  refine aops_cons rfl (w_pure rfl (p_assign rfl) ?_)
  refine aops_nil ?_
  refine a_block ?_
  refine a_loop (ι := Nat) (fun i => i ≤ 0) (fun i => [(5, .int .i64 (i : Int))]) (fun i => []) (fun i => 0 - i) 0 (Nat.zero_le _) (by repeat (first | exact Knows.nil | refine Knows.cons (by rfl) ?_)) (by repeat (first | exact Picks.nil _ | exact Pick.here _ _ _ | apply Pick.next | apply Picks.cons)) ?_
  rintro i hi
  skip
  refine a_seq ?_
  refine a_seq ?_
  refine a_region ?_
  refine aops_cons rfl (w_pure rfl (p_move rfl) ?_)
  refine aops_cons rfl (w_pure rfl (p_move rfl) ?_)
  refine aops_cons rfl (w_pure rfl (p_len sl_54 rfl rfl) ?_)
  refine aops_cons rfl (w_pure rfl (p_lss rfl rfl) ?_)
  refine aops_nil ?_
  first | refine a_cond_d rfl (fun h1 => ?_) (fun h2 => ?_) | refine a_cond_n rfl (fun h1 => ?_) (fun h2 => ?_) | refine a_cond_nb rfl (fun h1 => ?_) (fun h2 => ?_) | refine a_cond rfl (fun h1 => ?_) (fun h2 => ?_)
  · (try simp only [Bool.not_eq_true', Bool.not_eq_false', Bool.not_eq_true, Bool.not_eq_false, decide_eq_true_eq, decide_eq_false_iff_not, List.length_map, List.length_range] at h1); exfalso; omega
  · (try simp only [Bool.not_eq_true', Bool.not_eq_false', Bool.not_eq_true, Bool.not_eq_false, decide_eq_true_eq, decide_eq_false_iff_not, List.length_map, List.length_range] at h2)
    refine a_exit ?_
    refine a_seq ?_
    refine a_region ?_
    refine aops_cons rfl (w_pure rfl (p_move rfl) ?_)
    refine aops_cons rfl (w_pure rfl (p_assign rfl) ?_)
    refine aops_nil ?_
    refine a_ret ?_
    refine ret_ok (hands1 rfl (.tmp rfl)) (.nil _) ?_
    exact ⟨by simp, rfl⟩

theorem c_laws_heldBoolS (n : Nat) (hn : n ≤ 1048576) (k : Int) (k0 : 0 ≤ k) (k1 : k ≤ 100000000) : ACalls Try.prog 113 [.sl (((List.range n).map (mkB k)).map eBool), .int .i64 k] [] (Ret (.int .i64 (k + 1 * n))) := by
  refine a_enter Try.func113 rfl rfl (fun w0 M0 => ?_)
  refine a_seq ?_
  refine a_region ?_
  refine aops_cons rfl (w_pure rfl (p_assign rfl) ?_)
  refine aops_nil ?_
  refine a_seq ?_
  refine a_seq ?_
  refine a_region ?_
  refine aops_cons rfl (w_pure rfl (p_assign rfl) ?_)
  refine aops_nil ?_
  refine a_block ?_
  refine a_loop (ι := Nat × Int) (fun ⟨i, m⟩ => i ≤ n ∧ m = k + 1 * i) (fun ⟨i, m⟩ => [(5, .int .i64 (i : Int)), (1, .int .i64 m)]) (fun ⟨i, m⟩ => []) (fun ⟨i, m⟩ => n - i) (0, k) ⟨Nat.zero_le _, by simp⟩ (by repeat (first | exact Knows.nil | refine Knows.cons (by rfl) ?_)) (by repeat (first | exact Picks.nil _ | exact Pick.here _ _ _ | apply Pick.next | apply Picks.cons)) ?_
  rintro ⟨i, m⟩ ⟨hi, hI⟩
  subst hI
  refine a_seq ?_
  refine a_seq ?_
  refine a_region ?_
  refine aops_cons rfl (w_pure rfl (p_move rfl) ?_)
  refine aops_cons rfl (w_pure rfl (p_move rfl) ?_)
  refine aops_cons rfl (w_pure rfl (p_len sl_54 rfl rfl) ?_)
  refine aops_cons rfl (w_pure rfl (p_lss rfl rfl) ?_)
  refine aops_nil ?_
  first | refine a_cond_d rfl (fun h1 => ?_) (fun h2 => ?_) | refine a_cond_n rfl (fun h1 => ?_) (fun h2 => ?_) | refine a_cond_nb rfl (fun h1 => ?_) (fun h2 => ?_) | refine a_cond rfl (fun h1 => ?_) (fun h2 => ?_)
  · (try simp only [Bool.not_eq_true', Bool.not_eq_false', Bool.not_eq_true, Bool.not_eq_false, decide_eq_true_eq, decide_eq_false_iff_not, List.length_map, List.length_range] at h1)
    refine a_skip ?_
    refine a_seq ?_
    refine a_block ?_
    refine a_seq ?_
    refine a_seq ?_
    refine a_region ?_
    refine aops_cons rfl (w_pure rfl (p_move rfl) ?_)
    refine aops_cons rfl (w_pure rfl (p_move rfl) ?_)
    refine aops_cons rfl (w_pure rfl (p_index_sl _ rfl rfl rfl (rowG _ _ _ (by omega)) es_54) ?_)
    refine aops_cons rfl (w_pure rfl (p_load_v ag_4 rfl (by rfl) noX) ?_)
    refine aops_cons rfl (w_pure rfl (p_move rfl) ?_)
    refine aops_cons rfl (w_pure rfl (p_rem' rfl rfl (by omega) (by omega)) ?_)
    refine aops_cons rfl (w_pure rfl (p_eql rfl rfl) ?_)
    refine aops_cons rfl (w_pure rfl (p_neq_bsame um_4 rfl rfl) ?_)
    refine aops_nil ?_
    refine a_cond_f rfl ?_
    refine a_skip ?_
    refine a_region ?_
    refine aops_cons rfl (w_pure rfl (p_move rfl) ?_)
    refine aops_cons rfl (w_pure rfl (p_add' rfl rfl ⟨by omega, by omega⟩) ?_)
    refine aops_cons rfl (w_pure rfl (p_assign rfl) ?_)
    refine aops_nil ?_
    refine a_region ?_
    refine aops_cons rfl (w_pure rfl (p_move rfl) ?_)
    refine aops_cons rfl (w_pure rfl (p_add' rfl rfl ⟨by omega, by omega⟩) ?_)
    refine aops_cons rfl (w_pure rfl (p_assign rfl) ?_)
    refine aops_nil ?_
    refine ⟨(i + 1, _), _, ?_, ?_, (by repeat (first | exact Knows.nil | refine Knows.cons (by rfl) ?_)), (by repeat (first | exact Back.refl _ _ | refine Back.cons (by rfl) ?_)), (by repeat (first | exact Picks.nil _ | exact Pick.here _ _ _ | apply Pick.next | apply Picks.cons))⟩
    · exact ⟨by omega, by omega⟩
    · (try dsimp only); omega
  · (try simp only [Bool.not_eq_true', Bool.not_eq_false', Bool.not_eq_true, Bool.not_eq_false, decide_eq_true_eq, decide_eq_false_iff_not, List.length_map, List.length_range] at h2)
    refine a_exit ?_
    refine a_seq ?_
    refine a_region ?_
    refine aops_cons rfl (w_pure rfl (p_move rfl) ?_)
    refine aops_cons rfl (w_pure rfl (p_assign rfl) ?_)
    refine aops_nil ?_
    refine a_ret ?_
    refine ret_ok (hands1 rfl (.tmp rfl)) (.nil _) ?_
    have hx : i = n := (by omega); subst hx; exact ⟨rfl, rfl⟩

theorem co_laws_toHall (p : Hall) (hn : SmallHall p) : ACalls Try.prog 56 [.agg (eHall p)] [] (fun r st => ∃ b1 b2, r = .agg [.own 5 b1 0 p.list.length, .own 1 b2 0 p.events.length] ∧ st = [(b1, .arr 46 5 (p.list.map eVcpu)), (b2, .arr 4 1 (p.events.map eBool))]) := by
  have hs := hn
  simp only [SmallHall] at hs
  obtain ⟨hs0, hs1⟩ := hs
  refine a_enter Try.func56 rfl rfl (fun w0 M0 => ?_)
  refine a_seq ?_
  refine a_region ?_
  refine aops_cons rfl (w_box_v rfl rfl rfl ?_)
  refine aops_cons rfl (w_alloc rfl z_62 fun b1 => ?_)
  refine aops_nil ?_
  refine a_seq ?_
  refine a_region ?_
  refine aops_cons rfl (w_alloc rfl z_62 fun b2 => ?_)
  refine aops_nil ?_
  refine a_seq ?_
  refine a_region ?_
  refine aops_cons rfl (w_pure rfl (p_field_v fo_56_0 rfl) ?_)
  refine aops_cons rfl (w_pure rfl (p_load_v ag_22 rfl (by rfl) noX) ?_)
  refine aops_cons rfl (w_call rfl rfl rfl cl_20 ((co_laws_toVcpuS _ (by first | omega | assumption)).mono fun _ _ h => h.len) ?_)
  rintro _ _ ⟨b3, rfl, rfl⟩
  refine aops_cons rfl (w_pure rfl (p_field_box fo_62_0 rfl) ?_)
  refine aops_cons rfl (w_store (cells' := [_, _]) rfl rfl rfl (by repeat (first | exact Pick.here _ _ _ | apply Pick.next)) cn_24 (by rfl) (by rfl) (by rfl) trivial ?_)
  refine aops_nil ?_
  refine a_seq ?_
  refine a_region ?_
  refine aops_cons rfl (w_pure rfl (p_field_v fo_56_1 rfl) ?_)
  refine aops_cons rfl (w_pure rfl (p_load_v ag_54 rfl (by rfl) noX) ?_)
  refine aops_cons rfl (w_call rfl rfl rfl cl_106 ((co_laws_toBoolS _ (by first | omega | assumption)).mono fun _ _ h => h.len) ?_)
  rintro _ _ ⟨b4, rfl, rfl⟩
  refine aops_cons rfl (w_pure rfl (p_field_box fo_62_1 rfl) ?_)
  refine aops_cons rfl (w_store (cells' := [_, _]) rfl rfl rfl (by repeat (first | exact Pick.here _ _ _ | apply Pick.next)) cn_54 (by rfl) (by rfl) (by rfl) trivial ?_)
  refine aops_nil ?_
  refine a_seq ?_
  refine a_region ?_
  refine aops_cons rfl (w_pure rfl (p_load_box_all ag_62 rfl (by repeat (first | exact Pick.here _ _ _ | apply Pick.next)) (by rfl) noX) ?_)
  refine aops_cons rfl (w_store (cells' := [_, _]) rfl rfl rfl (by repeat (first | exact Pick.here _ _ _ | apply Pick.next)) cn_62 (by rfl) (by rfl) (by rfl) trivial ?_)
  refine aops_nil ?_
  refine a_ret ?_
  refine ret_ok (hands1 rfl (.cell ag_62 rfl (by repeat (first | exact Pick.here _ _ _ | apply Pick.next)) (by rfl))) (st' := [(b3, _), (b4, _)]) (.cons (by repeat (first | exact Pick.here _ _ _ | apply Pick.next)) (.cons (by repeat (first | exact Pick.here _ _ _ | apply Pick.next)) (.nil _))) ?_
  exact ⟨_, _, rfl, rfl⟩

theorem c_laws_markHall (b1 b2 : Nat) (p : Hall) (hn : SmallHall p) (k : Int) (k0 : 0 ≤ k) (k1 : k ≤ 50000000) : ACalls Try.prog 63 [.agg [.own 5 b1 0 p.list.length, .own 1 b2 0 p.events.length], .int .i64 k] [(b1, .arr 46 5 (p.list.map eVcpu)), (b2, .arr 4 1 (p.events.map eBool))] (fun r st => r = .int .i64 (k + 5 * p.list.length + 1 * p.events.length) ∧ st = [(b1, .arr 46 5 (((List.range p.list.length).map (markV (k))).map eVcpu)), (b2, .arr 4 1 (((List.range p.events.length).map (mkB (k + 5 * p.list.length))).map eBool))]) := by
  have hs := hn
  simp only [SmallHall] at hs
  obtain ⟨hs0, hs1⟩ := hs
  refine a_enter Try.func63 rfl rfl (fun w0 M0 => ?_)
  refine a_seq ?_
  refine a_region ?_
  refine aops_cons rfl (w_box_v rfl rfl rfl ?_)
  refine aops_cons rfl (w_pure rfl (p_assign rfl) ?_)
  refine aops_nil ?_
  refine a_seq ?_
  refine a_region ?_
  refine aops_cons rfl (w_pure rfl (p_field_v fo_62_0 rfl) ?_)
  refine aops_cons rfl (w_pure rfl (p_load_v ag_24 rfl (by rfl) noX) ?_)
  refine aops_cons rfl (w_pure rfl (p_move rfl) ?_)
  refine aops_cons rfl (w_callM rfl rfl rfl cl_23 (.cons (by repeat (first | exact Pick.here _ _ _ | apply Pick.next)) (.nil _)) (.cons (.refl _) (.cons (.refl _) .nil)) (c2_laws_markVcpuS _ _ (by first | omega | assumption) _ (by first | omega | (simp; done) | (simp; omega)) (by first | omega | (simp; done) | (simp; omega))) trivial ?_)
  rintro _ _ ⟨rfl, rfl⟩
  refine ⟨(closed_int _ _), (closedS_cons (closedAll _ _ _ _ cl_eVcpu) closedS_nil), ?_⟩
  refine aops_cons rfl (w_pure rfl (p_assign rfl) ?_)
  refine aops_nil ?_
  refine a_seq ?_
  refine a_region ?_
  refine aops_cons rfl (w_pure rfl (p_field_v fo_62_1 rfl) ?_)
  refine aops_cons rfl (w_pure rfl (p_load_v ag_54 rfl (by rfl) noX) ?_)
  refine aops_cons rfl (w_pure rfl (p_move rfl) ?_)
  refine aops_cons rfl (w_callM rfl rfl rfl cl_112 (.cons (by repeat (first | exact Pick.here _ _ _ | apply Pick.next)) (.nil _)) (.cons (.refl _) (.cons (.refl _) .nil)) (c_laws_markBoolS _ _ (by first | omega | assumption) _ (by first | omega | (simp; done) | (simp; omega)) (by first | omega | (simp; done) | (simp; omega))) trivial ?_)
  rintro _ _ ⟨rfl, rfl⟩
  refine ⟨(closed_int _ _), (closedS_cons (closedAll _ _ _ _ cl_eBool) closedS_nil), ?_⟩
  refine aops_cons rfl (w_pure rfl (p_assign rfl) ?_)
  refine aops_nil ?_
  refine a_seq ?_
  refine a_region ?_
  refine aops_cons rfl (w_pure rfl (p_move rfl) ?_)
  refine aops_cons rfl (w_pure rfl (p_assign rfl) ?_)
  refine aops_nil ?_
  refine a_ret ?_
  refine ret_ok (hands1 rfl (.tmp rfl)) (st' := [(b1, _), (b2, _)]) (.cons (by repeat (first | exact Pick.here _ _ _ | apply Pick.next)) (.cons (by repeat (first | exact Pick.here _ _ _ | apply Pick.next)) (.nil _))) ?_
  exact ⟨rfl, rfl⟩

theorem cn_laws_markHall  (k : Int) : ACalls Try.prog 63 [.agg [.nil, .nil], .int .i64 k] [] (Ret (.int .i64 (k + 5 * (([] : List Vcpu).length : Int) + 1 * (([] : List Bool).length : Int)))) := by
  refine a_enter Try.func63 rfl rfl (fun w0 M0 => ?_)
  refine a_seq ?_
  refine a_region ?_
  refine aops_cons rfl (w_box_v rfl rfl rfl ?_)
  refine aops_cons rfl (w_pure rfl (p_assign rfl) ?_)
  refine aops_nil ?_
  refine a_seq ?_
  refine a_region ?_
  refine aops_cons rfl (w_pure rfl (p_field_v fo_62_0 rfl) ?_)
  refine aops_cons rfl (w_pure rfl (p_load_v ag_24 rfl (by rfl) noX) ?_)
  refine aops_cons rfl (w_pure rfl (p_move rfl) ?_)
  refine aops_cons rfl (w_callR rfl rfl rfl cl_23 (cn_laws_markVcpuS ..) ?_)
  refine aops_cons rfl (w_pure rfl (p_assign rfl) ?_)
  refine aops_nil ?_
  refine a_seq ?_
  refine a_region ?_
  refine aops_cons rfl (w_pure rfl (p_field_v fo_62_1 rfl) ?_)
  refine aops_cons rfl (w_pure rfl (p_load_v ag_54 rfl (by rfl) noX) ?_)
  refine aops_cons rfl (w_pure rfl (p_move rfl) ?_)
  refine aops_cons rfl (w_callR rfl rfl rfl cl_112 (cn_laws_markBoolS ..) ?_)
  refine aops_cons rfl (w_pure rfl (p_assign rfl) ?_)
  refine aops_nil ?_
  refine a_seq ?_
  refine a_region ?_
  refine aops_cons rfl (w_pure rfl (p_move rfl) ?_)
  refine aops_cons rfl (w_pure rfl (p_assign rfl) ?_)
  refine aops_nil ?_
  refine a_ret ?_
  refine ret_ok (hands1 rfl (.tmp rfl)) (.nil _) ?_
  exact ⟨rfl, rfl⟩

theorem c_laws_heldHall (p : Hall) (hn : SmallHall p) (k : Int) (k0 : 0 ≤ k) (k1 : k ≤ 50000000) : ACalls Try.prog 65 [.agg [.sl (((List.range p.list.length).map (markV (k))).map eVcpu), .sl (((List.range p.events.length).map (mkB (k + 5 * p.list.length))).map eBool)], .int .i64 k] [] (Ret (.int .i64 (k + 5 * p.list.length + 1 * p.events.length))) := by
  have hs := hn
  simp only [SmallHall] at hs
  obtain ⟨hs0, hs1⟩ := hs
  refine a_enter Try.func65 rfl rfl (fun w0 M0 => ?_)
  refine a_seq ?_
  refine a_region ?_
  refine aops_cons rfl (w_box_v rfl rfl rfl ?_)
  refine aops_cons rfl (w_pure rfl (p_assign rfl) ?_)
  refine aops_nil ?_
  refine a_seq ?_
  refine a_region ?_
  refine aops_cons rfl (w_pure rfl (p_field_v fo_62_0 rfl) ?_)
  refine aops_cons rfl (w_pure rfl (p_load_v ag_24 rfl (by rfl) noX) ?_)
  refine aops_cons rfl (w_pure rfl (p_move rfl) ?_)
  refine aops_cons rfl (w_callLR rfl rfl rfl cl_24 (.cons (.refl _) (.cons (.refl _) .nil)) (c2_laws_heldVcpuS _ (by first | omega | assumption) _ (by first | omega | (simp; done) | (simp; omega)) (by first | omega | (simp; done) | (simp; omega))) (closed_int _ _) ?_)
  refine aops_cons rfl (w_pure rfl (p_assign rfl) ?_)
  refine aops_nil ?_
  refine a_seq ?_
  refine a_seq ?_
  refine a_region ?_
  refine aops_cons rfl (w_pure rfl (p_move rfl) ?_)
  refine aops_cons rfl (w_pure rfl (p_lss rfl rfl) ?_)
  refine aops_nil ?_
  first | refine a_cond_d rfl (fun h1 => ?_) (fun h2 => ?_) | refine a_cond_n rfl (fun h1 => ?_) (fun h2 => ?_) | refine a_cond_nb rfl (fun h1 => ?_) (fun h2 => ?_) | refine a_cond rfl (fun h1 => ?_) (fun h2 => ?_)
  · (try simp only [Bool.not_eq_true', Bool.not_eq_false', Bool.not_eq_true, Bool.not_eq_false, decide_eq_true_eq, decide_eq_false_iff_not, List.length_map, List.length_range] at h1)
    refine a_seq ?_
    refine a_region ?_
    refine aops_cons rfl (w_pure rfl (p_assign rfl) ?_)
    refine aops_nil ?_
    refine a_ret ?_
    refine ret_ok (hands1 rfl (.tmp rfl)) (.nil _) ?_
    first | exact ⟨rfl, rfl⟩ | (exfalso; omega)
  · (try simp only [Bool.not_eq_true', Bool.not_eq_false', Bool.not_eq_true, Bool.not_eq_false, decide_eq_true_eq, decide_eq_false_iff_not, List.length_map, List.length_range] at h2)
    refine a_skip ?_
    refine a_seq ?_
    refine a_region ?_
    refine aops_cons rfl (w_pure rfl (p_field_v fo_62_1 rfl) ?_)
    refine aops_cons rfl (w_pure rfl (p_load_v ag_54 rfl (by rfl) noX) ?_)
    refine aops_cons rfl (w_pure rfl (p_move rfl) ?_)
    refine aops_cons rfl (w_callLR rfl rfl rfl cl_113 (.cons (.refl _) (.cons (.refl _) .nil)) (c_laws_heldBoolS _ (by first | omega | assumption) _ (by first | omega | (simp; done) | (simp; omega)) (by first | omega | (simp; done) | (simp; omega))) (closed_int _ _) ?_)
    refine aops_cons rfl (w_pure rfl (p_assign rfl) ?_)
    refine aops_nil ?_
    refine a_seq ?_
    refine a_seq ?_
    refine a_region ?_
    refine aops_cons rfl (w_pure rfl (p_move rfl) ?_)
    refine aops_cons rfl (w_pure rfl (p_lss rfl rfl) ?_)
    refine aops_nil ?_
    first | refine a_cond_d rfl (fun h3 => ?_) (fun h4 => ?_) | refine a_cond_n rfl (fun h3 => ?_) (fun h4 => ?_) | refine a_cond_nb rfl (fun h3 => ?_) (fun h4 => ?_) | refine a_cond rfl (fun h3 => ?_) (fun h4 => ?_)
    · (try simp only [Bool.not_eq_true', Bool.not_eq_false', Bool.not_eq_true, Bool.not_eq_false, decide_eq_true_eq, decide_eq_false_iff_not, List.length_map, List.length_range] at h3)
      refine a_seq ?_
      refine a_region ?_
      refine aops_cons rfl (w_pure rfl (p_assign rfl) ?_)
      refine aops_nil ?_
      refine a_ret ?_
      refine ret_ok (hands1 rfl (.tmp rfl)) (.nil _) ?_
      first | exact ⟨rfl, rfl⟩ | (exfalso; omega)
    · (try simp only [Bool.not_eq_true', Bool.not_eq_false', Bool.not_eq_true, Bool.not_eq_false, decide_eq_true_eq, decide_eq_false_iff_not, List.length_map, List.length_range] at h4)
      refine a_skip ?_
      refine a_seq ?_
      refine a_region ?_
      refine aops_cons rfl (w_pure rfl (p_move rfl) ?_)
      refine aops_cons rfl (w_pure rfl (p_assign rfl) ?_)
      refine aops_nil ?_
      refine a_ret ?_
      refine ret_ok (hands1 rfl (.tmp rfl)) (.nil _) ?_
      first | exact ⟨rfl, rfl⟩ | (exfalso; omega)

theorem c_impl_vcpuIndex_1 (v : Vcpu) (id : Int) : ACalls Try.prog 142 [.agg (eVcpu v), .vptr [.int .i64 id]] [] (Ret (.bool (decide (v.id = id)))) := by
  refine a_enter Try.func142 rfl rfl (fun w0 M0 => ?_)
  refine a_seq ?_
  refine a_region ?_
  refine aops_cons rfl (w_box_v rfl rfl rfl ?_)
  refine aops_cons rfl (w_pure rfl (p_assign rfl) ?_)
  refine aops_nil ?_
  refine a_seq ?_
  refine a_region ?_
  refine aops_cons rfl (w_pure rfl (p_field_v fo_46_0 rfl) ?_)
  refine aops_cons rfl (w_pure rfl (p_load_v ag_3 rfl (by rfl) noX) ?_)
  refine aops_cons rfl (w_pure rfl (p_load_v ag_3 rfl (by rfl) noX) ?_)
  refine aops_cons rfl (w_pure rfl (p_eql rfl rfl) ?_)
  refine aops_cons rfl (w_pure rfl (p_assign rfl) ?_)
  refine aops_nil ?_
  refine a_ret ?_
  refine ret_ok (hands1 rfl (.tmp rfl)) (.nil _) ?_
  exact ⟨rfl, rfl⟩

theorem c2_IndexFunc (xs : List Vcpu) (hn : xs.length ≤ 1048576) (id : Int) : ACalls Try.prog 141 [.sl (xs.map eVcpu), .fn 142 [.vptr [.int .i64 id]]] [] (Ret (.int .i64 (findI xs id))) := by
  refine a_enter Try.func141 rfl rfl (fun w0 M0 => ?_)
  refine a_seq ?_
  refine a_region ?_
  refine aops_cons rfl (w_pure rfl (p_assign rfl) ?_)
  refine aops_nil ?_
  refine a_seq ?_
  refine a_seq ?_
  refine a_region ?_
  refine aops_cons rfl (w_pure rfl (p_move rfl) ?_)
  refine aops_cons rfl (w_pure rfl (p_len sl_24 rfl rfl) ?_)
  refine aops_cons rfl (w_pure rfl (p_move rfl) ?_)
  refine aops_nil ?_
  refine a_block ?_
  refine a_loop (ι := Nat) (fun i => i ≤ xs.length ∧ ∀ j, j < i → isId xs id j = false) (fun i => [(8, .int .i64 (i : Int))]) (fun i => []) (fun i => xs.length - i) 0 ⟨Nat.zero_le _, below_zero⟩ (by repeat (first | exact Knows.nil | refine Knows.cons (by rfl) ?_)) (by repeat (first | exact Picks.nil _ | exact Pick.here _ _ _ | apply Pick.next | apply Picks.cons)) ?_
  rintro i ⟨hi, hI⟩
  skip
  refine a_seq ?_
  refine a_region ?_
  refine aops_cons rfl (w_pure rfl (p_lss rfl rfl) ?_)
  refine aops_nil ?_
  refine a_seq ?_
  first | refine a_cond_d rfl (fun h1 => ?_) (fun h2 => ?_) | refine a_cond_n rfl (fun h1 => ?_) (fun h2 => ?_) | refine a_cond_nb rfl (fun h1 => ?_) (fun h2 => ?_) | refine a_cond rfl (fun h1 => ?_) (fun h2 => ?_)
  · (try simp only [Bool.not_eq_true', Bool.not_eq_false', Bool.not_eq_true, Bool.not_eq_false, decide_eq_true_eq, decide_eq_false_iff_not, List.length_map, List.length_range] at h1)
    refine a_skip ?_
    refine a_seq ?_
    refine a_block ?_
    refine a_seq ?_
    refine a_region ?_
    refine aops_cons rfl (w_pure rfl (p_move rfl) ?_)
    refine aops_cons rfl (w_pure rfl (p_assign rfl) ?_)
    refine aops_nil ?_
    refine a_seq ?_
    refine a_region ?_
    refine aops_cons rfl (w_pure rfl (p_move rfl) ?_)
    refine aops_cons rfl (w_pure rfl (p_move rfl) ?_)
    refine aops_cons rfl (w_pure rfl (p_move rfl) ?_)
    refine aops_cons rfl (w_pure rfl (p_index_sl _ rfl rfl rfl (rowD _ _ zVcpu (by omega)) es_24) ?_)
    refine aops_cons rfl (w_pure rfl (p_load_v_all ag_46 rfl (by rfl) noX) ?_)
    refine aops_cons rfl (w_callR rfl rfl rfl cl_142 (c_impl_vcpuIndex_1 (xs.getD i zVcpu) id) ?_)
    refine aops_nil ?_
    first | refine a_cond_d rfl (fun h3 => ?_) (fun h4 => ?_) | refine a_cond_n rfl (fun h3 => ?_) (fun h4 => ?_) | refine a_cond_nb rfl (fun h3 => ?_) (fun h4 => ?_) | refine a_cond rfl (fun h3 => ?_) (fun h4 => ?_)
    · (try simp only [Bool.not_eq_true', Bool.not_eq_false', Bool.not_eq_true, Bool.not_eq_false, decide_eq_true_eq, decide_eq_false_iff_not, List.length_map, List.length_range] at h3)
      refine a_seq ?_
      refine a_region ?_
      refine aops_cons rfl (w_pure rfl (p_move rfl) ?_)
      refine aops_cons rfl (w_pure rfl (p_assign rfl) ?_)
      refine aops_nil ?_
      refine a_ret ?_
      refine ret_ok (hands1 rfl (.tmp rfl)) (.nil _) ?_
      first | (refine And.intro (congrArg (AV.int .i64) (first_none fun j hj => ?_).symm) rfl; exact hI j (by omega)) | (refine And.intro (congrArg (AV.int .i64) (first_at (i := i) (by omega) hI (show isId xs id i = true by unfold isId; exact decide_eq_true (by assumption))).symm) rfl)
    · (try simp only [Bool.not_eq_true', Bool.not_eq_false', Bool.not_eq_true, Bool.not_eq_false, decide_eq_true_eq, decide_eq_false_iff_not, List.length_map, List.length_range] at h4)
      refine a_skip ?_
      refine a_region ?_
      refine aops_cons rfl (w_pure rfl (p_add' rfl rfl ⟨by omega, by omega⟩) ?_)
      refine aops_cons rfl (w_pure rfl (p_move rfl) ?_)
      refine aops_nil ?_
      refine ⟨(i + 1), _, ?_, ?_, (by repeat (first | exact Knows.nil | refine Knows.cons (by rfl) ?_)), (by repeat (first | exact Back.refl _ _ | refine Back.cons (by rfl) ?_)), (by repeat (first | exact Picks.nil _ | exact Pick.here _ _ _ | apply Pick.next | apply Picks.cons))⟩
      · exact ⟨by omega, below_succ hI (show isId xs id i = false by unfold isId; exact decide_eq_false (by assumption))⟩
      · (try dsimp only); omega
  · (try simp only [Bool.not_eq_true', Bool.not_eq_false', Bool.not_eq_true, Bool.not_eq_false, decide_eq_true_eq, decide_eq_false_iff_not, List.length_map, List.length_range] at h2)
    refine a_exit ?_
    refine a_seq ?_
    refine a_region ?_
    refine aops_cons rfl (w_pure rfl (p_assign rfl) ?_)
    refine aops_nil ?_
    refine a_ret ?_
    refine ret_ok (hands1 rfl (.tmp rfl)) (.nil _) ?_
    first | (refine And.intro (congrArg (AV.int .i64) (first_none fun j hj => ?_).symm) rfl; exact hI j (by omega)) | (refine And.intro (congrArg (AV.int .i64) (first_at (i := i) (by omega) hI (show isId xs id i = true by unfold isId; exact decide_eq_true (by assumption))).symm) rfl)

theorem c_impl_vcpuIndex (xs : List Vcpu) (hn : xs.length ≤ 1048576) (id : Int) : ACalls Try.prog 109 [.sl (xs.map eVcpu), .int .i64 id] [] (Ret (.int .i64 (findI xs id))) := by
  refine a_enter Try.func109 rfl rfl (fun w0 M0 => ?_)
  refine a_seq ?_
  refine a_region ?_
  refine aops_cons rfl (w_box_v rfl rfl rfl ?_)
  refine aops_cons rfl (w_pure rfl (p_assign rfl) ?_)
  refine aops_nil ?_
  refine a_seq ?_
  refine a_region ?_
  refine aops_cons rfl (w_pure rfl (p_move rfl) ?_)
  refine aops_cons rfl (w_pure rfl (p_func rfl) ?_)
  refine aops_cons rfl (w_callR rfl rfl rfl cl_141 (c2_IndexFunc _ (by omega) _) ?_)
  refine aops_cons rfl (w_pure rfl (p_assign rfl) ?_)
  refine aops_nil ?_
  refine a_ret ?_
  refine ret_ok (hands1 rfl (.tmp rfl)) (.nil _) ?_
  exact ⟨rfl, rfl⟩

theorem c_spec_l15Find (h : Hall) (hn : SmallHall h) (id : Int) : ACalls Try.prog 104 [.agg (eHall h), .int .i64 id] [] (Ret (.int .i64 (findI h.list id))) := by
  have hnn := hn
  obtain ⟨hn1, hn2⟩ := hnn
  refine a_enter Try.func104 rfl rfl (fun w0 M0 => ?_)
  refine a_seq ?_
  refine a_region ?_
  refine aops_cons rfl (w_box_v rfl rfl rfl ?_)
  refine aops_cons rfl (w_pure rfl (p_assign rfl) ?_)
  refine aops_nil ?_
  refine a_seq ?_
  refine a_seq ?_
  refine a_region ?_
  refine aops_cons rfl (w_pure rfl (p_assign rfl) ?_)
  refine aops_nil ?_
  refine a_block ?_
  refine a_loop (ι := Nat) (fun i => i ≤ h.list.length ∧ ∀ j, j < i → isId h.list id j = false) (fun i => [(5, .int .i64 (i : Int))]) (fun i => []) (fun i => h.list.length - i) 0 ⟨Nat.zero_le _, below_zero⟩ (by repeat (first | exact Knows.nil | refine Knows.cons (by rfl) ?_)) (by repeat (first | exact Picks.nil _ | exact Pick.here _ _ _ | apply Pick.next | apply Picks.cons)) ?_
  rintro i ⟨hi, hI⟩
  skip
  refine a_seq ?_
  refine a_seq ?_
  refine a_region ?_
  refine aops_cons rfl (w_pure rfl (p_move rfl) ?_)
  refine aops_cons rfl (w_pure rfl (p_field_v fo_62_0 rfl) ?_)
  refine aops_cons rfl (w_pure rfl (p_load_v ag_24 rfl (by rfl) noX) ?_)
  refine aops_cons rfl (w_pure rfl (p_len sl_24 rfl rfl) ?_)
  refine aops_cons rfl (w_pure rfl (p_lss rfl rfl) ?_)
  refine aops_nil ?_
  first | refine a_cond_d rfl (fun h1 => ?_) (fun h2 => ?_) | refine a_cond_n rfl (fun h1 => ?_) (fun h2 => ?_) | refine a_cond_nb rfl (fun h1 => ?_) (fun h2 => ?_) | refine a_cond rfl (fun h1 => ?_) (fun h2 => ?_)
  · (try simp only [Bool.not_eq_true', Bool.not_eq_false', Bool.not_eq_true, Bool.not_eq_false, decide_eq_true_eq, decide_eq_false_iff_not, List.length_map, List.length_range] at h1)
    refine a_skip ?_
    refine a_seq ?_
    refine a_block ?_
    refine a_seq ?_
    refine a_region ?_
    refine aops_cons rfl (w_pure rfl (p_field_v fo_62_0 rfl) ?_)
    refine aops_cons rfl (w_pure rfl (p_load_v ag_24 rfl (by rfl) noX) ?_)
    refine aops_cons rfl (w_pure rfl (p_move rfl) ?_)
    refine aops_cons rfl (w_pure rfl (p_index_sl _ rfl rfl rfl (rowD _ _ zVcpu (by omega)) es_24) ?_)
    refine aops_cons rfl (w_pure rfl (p_field_v fo_46_0 rfl) ?_)
    refine aops_cons rfl (w_pure rfl (p_load_v ag_3 rfl (by rfl) noX) ?_)
    refine aops_cons rfl (w_pure rfl (p_move rfl) ?_)
    refine aops_cons rfl (w_pure rfl (p_eql rfl rfl) ?_)
    refine aops_nil ?_
    first | refine a_cond_d rfl (fun h3 => ?_) (fun h4 => ?_) | refine a_cond_n rfl (fun h3 => ?_) (fun h4 => ?_) | refine a_cond_nb rfl (fun h3 => ?_) (fun h4 => ?_) | refine a_cond rfl (fun h3 => ?_) (fun h4 => ?_)
    · (try simp only [Bool.not_eq_true', Bool.not_eq_false', Bool.not_eq_true, Bool.not_eq_false, decide_eq_true_eq, decide_eq_false_iff_not, List.length_map, List.length_range] at h3)
      refine a_seq ?_
      refine a_region ?_
      refine aops_cons rfl (w_pure rfl (p_move rfl) ?_)
      refine aops_cons rfl (w_pure rfl (p_assign rfl) ?_)
      refine aops_nil ?_
      refine a_ret ?_
      refine ret_ok (hands1 rfl (.tmp rfl)) (.nil _) ?_
      first | (refine And.intro (congrArg (AV.int .i64) (first_none fun j hj => ?_).symm) rfl; exact hI j (by omega)) | (refine And.intro (congrArg (AV.int .i64) (first_at (i := i) (by omega) hI (show isId h.list id i = true by unfold isId; exact decide_eq_true (by assumption))).symm) rfl)
    · (try simp only [Bool.not_eq_true', Bool.not_eq_false', Bool.not_eq_true, Bool.not_eq_false, decide_eq_true_eq, decide_eq_false_iff_not, List.length_map, List.length_range] at h4)
      refine a_skip ?_
      refine a_region ?_
      refine aops_cons rfl (w_pure rfl (p_move rfl) ?_)
      refine aops_cons rfl (w_pure rfl (p_add' rfl rfl ⟨by omega, by omega⟩) ?_)
      refine aops_cons rfl (w_pure rfl (p_assign rfl) ?_)
      refine aops_nil ?_
      refine ⟨(i + 1), _, ?_, ?_, (by repeat (first | exact Knows.nil | refine Knows.cons (by rfl) ?_)), (by repeat (first | exact Back.refl _ _ | refine Back.cons (by rfl) ?_)), (by repeat (first | exact Picks.nil _ | exact Pick.here _ _ _ | apply Pick.next | apply Picks.cons))⟩
      · exact ⟨by omega, below_succ hI (show isId h.list id i = false by unfold isId; exact decide_eq_false (by assumption))⟩
      · (try dsimp only); omega
  · (try simp only [Bool.not_eq_true', Bool.not_eq_false', Bool.not_eq_true, Bool.not_eq_false, decide_eq_true_eq, decide_eq_false_iff_not, List.length_map, List.length_range] at h2)
    refine a_exit ?_
    refine a_seq ?_
    refine a_region ?_
    refine aops_cons rfl (w_pure rfl (p_assign rfl) ?_)
    refine aops_nil ?_
    refine a_ret ?_
    refine ret_ok (hands1 rfl (.tmp rfl)) (.nil _) ?_
    first | (refine And.intro (congrArg (AV.int .i64) (first_none fun j hj => ?_).symm) rfl; exact hI j (by omega)) | (refine And.intro (congrArg (AV.int .i64) (first_at (i := i) (by omega) hI (show isId h.list id i = true by unfold isId; exact decide_eq_true (by assumption))).symm) rfl)

theorem co_spec_l15Own (h : Hall) (hn : SmallHall h) : ACalls Try.prog 137 [.agg (eHall h)] [] (fun r st => ∃ b1 b2, r = .agg [.own 5 b1 0 h.list.length, .own 1 b2 0 h.events.length] ∧ st = [(b1, .arr 46 5 (h.list.map eVcpu)), (b2, .arr 4 1 (h.events.map eBool))]) := by
  have hnn := hn
  obtain ⟨hn1, hn2⟩ := hnn
  refine a_enter Try.func137 rfl rfl (fun w0 M0 => ?_)
  refine a_seq ?_
  refine a_region ?_
  refine aops_cons rfl (w_box_v rfl rfl rfl ?_)
  refine aops_cons rfl (w_alloc rfl z_62 fun b1 => ?_)
  refine aops_nil ?_
  refine a_seq ?_
  refine a_draw [b1] (by kernel_rfl) ?_
  show ADraw _ _ _ _ _ _ 10 _ _ _ _
  refine d_take 1 rfl (by kernel_rfl) (by kernel_rfl) (by kernel_rfl) rfl (p_field_v fo_62_0 rfl) ?_
  refine d_load 2 rfl (by kernel_rfl) (by kernel_rfl) (by kernel_rfl) rfl (p_load_v ag_24 rfl (by rfl) (by simp [keys])) ?_
  refine d_take 5 rfl (by kernel_rfl) (by kernel_rfl) (by kernel_rfl) rfl (p_field_v fo_62_1 rfl) ?_
  refine d_load 6 rfl (by kernel_rfl) (by kernel_rfl) (by kernel_rfl) rfl (p_load_v ag_54 rfl (by rfl) (by simp [keys])) ?_
  refine draw_all [0, 4] (by kernel_rfl) (by simp) ?_
  refine all_cons rfl rfl ?_ ?_
  · skip
    refine w_litM eVcpu [] rfl el_24 rfl rfl rfl rfl rfl fun b2 => ?_
    refine draw_all [3, 4] (by kernel_rfl) (by simp) ?_
    refine all_cons rfl rfl ?_ ?_
    · skip
      refine w_appendM eVcpu rfl el_24 rfl rfl (by repeat (first | exact Pick.here _ _ _ | apply Pick.next)) rfl (.sl _) (fun _ => rfl) (fun _ => rfl) (by simp; omega) (by simp; omega) (by first | (refine .inl ?_; simp; done) | (refine .inr ?_; simp [keys]; done)) fun b3 => ?_
      rw [List.nil_append]
      refine draw_all [4] (by kernel_rfl) (by simp) ?_
      refine all_cons rfl rfl ?_ ?_
      · skip
        refine w_litM eBool [] rfl el_54 rfl rfl rfl rfl rfl fun b4 => ?_
        refine draw_all [7] (by kernel_rfl) (by simp) ?_
        refine all_cons rfl rfl ?_ ?_
        · skip
          refine w_appendM eBool rfl el_54 rfl rfl (by repeat (first | exact Pick.here _ _ _ | apply Pick.next)) rfl (.sl _) (fun _ => rfl) (fun _ => rfl) (by simp; omega) (by simp; omega) (by first | (refine .inl ?_; simp; done) | (refine .inr ?_; simp [keys]; done)) fun b5 => ?_
          rw [List.nil_append]
          refine d_take 8 rfl (by kernel_rfl) (by kernel_rfl) (by kernel_rfl) rfl (p_build (cells := [_, _]) z_62 pl_62 rfl rfl) ?_
          refine draw_all [9] (by kernel_rfl) (by simp) ?_
          refine all_cons rfl rfl ?_ ?_
          · skip
            refine w_store (cells' := [_, _]) rfl rfl rfl (by repeat (first | exact Pick.here _ _ _ | apply Pick.next)) cn_62 (by rfl) (by rfl) (by rfl) (by first | (refine .inl ?_; simp; done) | (refine .inr ?_; simp [keys]; done)) ?_
            refine draw_done (by kernel_rfl) ?_
            refine a_ret ?_
            refine ret_ok (hands1 rfl (.cell ag_62 rfl (by repeat (first | exact Pick.here _ _ _ | apply Pick.next)) (by rfl))) (st' := [(b3, _), (b5, _)]) (.cons (by repeat (first | exact Pick.here _ _ _ | apply Pick.next)) (.cons (by repeat (first | exact Pick.here _ _ _ | apply Pick.next)) (.nil _))) ?_
            exact ⟨_, _, rfl, rfl⟩
          exact all_nil
        exact all_nil
      exact all_nil
    refine all_cons rfl rfl ?_ ?_
    · skip
      refine w_litM eBool [] rfl el_54 rfl rfl rfl rfl rfl fun b6 => ?_
      refine draw_all [3] (by kernel_rfl) (by simp) ?_
      refine all_cons rfl rfl ?_ ?_
      · skip
        refine w_appendM eVcpu rfl el_24 rfl rfl (by repeat (first | exact Pick.here _ _ _ | apply Pick.next)) rfl (.sl _) (fun _ => rfl) (fun _ => rfl) (by simp; omega) (by simp; omega) (by first | (refine .inl ?_; simp; done) | (refine .inr ?_; simp [keys]; done)) fun b7 => ?_
        rw [List.nil_append]
        refine draw_all [7] (by kernel_rfl) (by simp) ?_
        refine all_cons rfl rfl ?_ ?_
        · skip
          refine w_appendM eBool rfl el_54 rfl rfl (by repeat (first | exact Pick.here _ _ _ | apply Pick.next)) rfl (.sl _) (fun _ => rfl) (fun _ => rfl) (by simp; omega) (by simp; omega) (by first | (refine .inl ?_; simp; done) | (refine .inr ?_; simp [keys]; done)) fun b8 => ?_
          rw [List.nil_append]
          refine d_take 8 rfl (by kernel_rfl) (by kernel_rfl) (by kernel_rfl) rfl (p_build (cells := [_, _]) z_62 pl_62 rfl rfl) ?_
          refine draw_all [9] (by kernel_rfl) (by simp) ?_
          refine all_cons rfl rfl ?_ ?_
          · skip
            refine w_store (cells' := [_, _]) rfl rfl rfl (by repeat (first | exact Pick.here _ _ _ | apply Pick.next)) cn_62 (by rfl) (by rfl) (by rfl) (by first | (refine .inl ?_; simp; done) | (refine .inr ?_; simp [keys]; done)) ?_
            refine draw_done (by kernel_rfl) ?_
            refine a_ret ?_
            refine ret_ok (hands1 rfl (.cell ag_62 rfl (by repeat (first | exact Pick.here _ _ _ | apply Pick.next)) (by rfl))) (st' := [(b7, _), (b8, _)]) (.cons (by repeat (first | exact Pick.here _ _ _ | apply Pick.next)) (.cons (by repeat (first | exact Pick.here _ _ _ | apply Pick.next)) (.nil _))) ?_
            exact ⟨_, _, rfl, rfl⟩
          exact all_nil
        exact all_nil
      exact all_nil
    exact all_nil
  refine all_cons rfl rfl ?_ ?_
  · skip
    refine w_litM eBool [] rfl el_54 rfl rfl rfl rfl rfl fun b9 => ?_
    refine draw_all [0] (by kernel_rfl) (by simp) ?_
    refine all_cons rfl rfl ?_ ?_
    · skip
      refine w_litM eVcpu [] rfl el_24 rfl rfl rfl rfl rfl fun b10 => ?_
      refine draw_all [3] (by kernel_rfl) (by simp) ?_
      refine all_cons rfl rfl ?_ ?_
      · skip
        refine w_appendM eVcpu rfl el_24 rfl rfl (by repeat (first | exact Pick.here _ _ _ | apply Pick.next)) rfl (.sl _) (fun _ => rfl) (fun _ => rfl) (by simp; omega) (by simp; omega) (by first | (refine .inl ?_; simp; done) | (refine .inr ?_; simp [keys]; done)) fun b11 => ?_
        rw [List.nil_append]
        refine draw_all [7] (by kernel_rfl) (by simp) ?_
        refine all_cons rfl rfl ?_ ?_
        · skip
          refine w_appendM eBool rfl el_54 rfl rfl (by repeat (first | exact Pick.here _ _ _ | apply Pick.next)) rfl (.sl _) (fun _ => rfl) (fun _ => rfl) (by simp; omega) (by simp; omega) (by first | (refine .inl ?_; simp; done) | (refine .inr ?_; simp [keys]; done)) fun b12 => ?_
          rw [List.nil_append]
          refine d_take 8 rfl (by kernel_rfl) (by kernel_rfl) (by kernel_rfl) rfl (p_build (cells := [_, _]) z_62 pl_62 rfl rfl) ?_
          refine draw_all [9] (by kernel_rfl) (by simp) ?_
          refine all_cons rfl rfl ?_ ?_
          · skip
            refine w_store (cells' := [_, _]) rfl rfl rfl (by repeat (first | exact Pick.here _ _ _ | apply Pick.next)) cn_62 (by rfl) (by rfl) (by rfl) (by first | (refine .inl ?_; simp; done) | (refine .inr ?_; simp [keys]; done)) ?_
            refine draw_done (by kernel_rfl) ?_
            refine a_ret ?_
            refine ret_ok (hands1 rfl (.cell ag_62 rfl (by repeat (first | exact Pick.here _ _ _ | apply Pick.next)) (by rfl))) (st' := [(b11, _), (b12, _)]) (.cons (by repeat (first | exact Pick.here _ _ _ | apply Pick.next)) (.cons (by repeat (first | exact Pick.here _ _ _ | apply Pick.next)) (.nil _))) ?_
            exact ⟨_, _, rfl, rfl⟩
          exact all_nil
        exact all_nil
      exact all_nil
    exact all_nil
  exact all_nil

theorem co_impl_newHall (h : Hall) (hn : SmallHall h) : ACalls Try.prog 119 [.agg (eHall h)] [] (fun r st => ∃ b1 b2, r = .agg [.own 5 b1 0 h.list.length, .own 1 b2 0 h.events.length] ∧ st = [(b1, .arr 46 5 (h.list.map eVcpu)), (b2, .arr 4 1 (h.events.map eBool))]) := by
  have hnn := hn
  obtain ⟨hn1, hn2⟩ := hnn
  refine a_enter Try.func119 rfl rfl (fun w0 M0 => ?_)
  refine a_seq ?_
  refine a_region ?_
  refine aops_cons rfl (w_box_v rfl rfl rfl ?_)
  refine aops_cons rfl (w_alloc rfl z_62 fun b1 => ?_)
  refine aops_nil ?_
  refine a_seq ?_
  refine a_draw [b1] (by kernel_rfl) ?_
  show ADraw _ _ _ _ _ _ 10 _ _ _ _
  refine d_take 1 rfl (by kernel_rfl) (by kernel_rfl) (by kernel_rfl) rfl (p_field_v fo_62_0 rfl) ?_
  refine d_load 2 rfl (by kernel_rfl) (by kernel_rfl) (by kernel_rfl) rfl (p_load_v ag_24 rfl (by rfl) (by simp [keys])) ?_
  refine d_take 5 rfl (by kernel_rfl) (by kernel_rfl) (by kernel_rfl) rfl (p_field_v fo_62_1 rfl) ?_
  refine d_load 6 rfl (by kernel_rfl) (by kernel_rfl) (by kernel_rfl) rfl (p_load_v ag_54 rfl (by rfl) (by simp [keys])) ?_
  refine draw_all [0, 4] (by kernel_rfl) (by simp) ?_
  refine all_cons rfl rfl ?_ ?_
  · skip
    refine w_litM eVcpu [] rfl el_24 rfl rfl rfl rfl rfl fun b2 => ?_
    refine draw_all [3, 4] (by kernel_rfl) (by simp) ?_
    refine all_cons rfl rfl ?_ ?_
    · skip
      refine w_appendM eVcpu rfl el_24 rfl rfl (by repeat (first | exact Pick.here _ _ _ | apply Pick.next)) rfl (.sl _) (fun _ => rfl) (fun _ => rfl) (by simp; omega) (by simp; omega) (by first | (refine .inl ?_; simp; done) | (refine .inr ?_; simp [keys]; done)) fun b3 => ?_
      rw [List.nil_append]
      refine draw_all [4] (by kernel_rfl) (by simp) ?_
      refine all_cons rfl rfl ?_ ?_
      · skip
        refine w_litM eBool [] rfl el_54 rfl rfl rfl rfl rfl fun b4 => ?_
        refine draw_all [7] (by kernel_rfl) (by simp) ?_
        refine all_cons rfl rfl ?_ ?_
        · skip
          refine w_appendM eBool rfl el_54 rfl rfl (by repeat (first | exact Pick.here _ _ _ | apply Pick.next)) rfl (.sl _) (fun _ => rfl) (fun _ => rfl) (by simp; omega) (by simp; omega) (by first | (refine .inl ?_; simp; done) | (refine .inr ?_; simp [keys]; done)) fun b5 => ?_
          rw [List.nil_append]
          refine d_take 8 rfl (by kernel_rfl) (by kernel_rfl) (by kernel_rfl) rfl (p_build (cells := [_, _]) z_62 pl_62 rfl rfl) ?_
          refine draw_all [9] (by kernel_rfl) (by simp) ?_
          refine all_cons rfl rfl ?_ ?_
          · skip
            refine w_store (cells' := [_, _]) rfl rfl rfl (by repeat (first | exact Pick.here _ _ _ | apply Pick.next)) cn_62 (by rfl) (by rfl) (by rfl) (by first | (refine .inl ?_; simp; done) | (refine .inr ?_; simp [keys]; done)) ?_
            refine draw_done (by kernel_rfl) ?_
            refine a_ret ?_
            refine ret_ok (hands1 rfl (.cell ag_62 rfl (by repeat (first | exact Pick.here _ _ _ | apply Pick.next)) (by rfl))) (st' := [(b3, _), (b5, _)]) (.cons (by repeat (first | exact Pick.here _ _ _ | apply Pick.next)) (.cons (by repeat (first | exact Pick.here _ _ _ | apply Pick.next)) (.nil _))) ?_
            exact ⟨_, _, rfl, rfl⟩
          exact all_nil
        exact all_nil
      exact all_nil
    refine all_cons rfl rfl ?_ ?_
    · skip
      refine w_litM eBool [] rfl el_54 rfl rfl rfl rfl rfl fun b6 => ?_
      refine draw_all [3] (by kernel_rfl) (by simp) ?_
      refine all_cons rfl rfl ?_ ?_
      · skip
        refine w_appendM eVcpu rfl el_24 rfl rfl (by repeat (first | exact Pick.here _ _ _ | apply Pick.next)) rfl (.sl _) (fun _ => rfl) (fun _ => rfl) (by simp; omega) (by simp; omega) (by first | (refine .inl ?_; simp; done) | (refine .inr ?_; simp [keys]; done)) fun b7 => ?_
        rw [List.nil_append]
        refine draw_all [7] (by kernel_rfl) (by simp) ?_
        refine all_cons rfl rfl ?_ ?_
        · skip
          refine w_appendM eBool rfl el_54 rfl rfl (by repeat (first | exact Pick.here _ _ _ | apply Pick.next)) rfl (.sl _) (fun _ => rfl) (fun _ => rfl) (by simp; omega) (by simp; omega) (by first | (refine .inl ?_; simp; done) | (refine .inr ?_; simp [keys]; done)) fun b8 => ?_
          rw [List.nil_append]
          refine d_take 8 rfl (by kernel_rfl) (by kernel_rfl) (by kernel_rfl) rfl (p_build (cells := [_, _]) z_62 pl_62 rfl rfl) ?_
          refine draw_all [9] (by kernel_rfl) (by simp) ?_
          refine all_cons rfl rfl ?_ ?_
          · skip
            refine w_store (cells' := [_, _]) rfl rfl rfl (by repeat (first | exact Pick.here _ _ _ | apply Pick.next)) cn_62 (by rfl) (by rfl) (by rfl) (by first | (refine .inl ?_; simp; done) | (refine .inr ?_; simp [keys]; done)) ?_
            refine draw_done (by kernel_rfl) ?_
            refine a_ret ?_
            refine ret_ok (hands1 rfl (.cell ag_62 rfl (by repeat (first | exact Pick.here _ _ _ | apply Pick.next)) (by rfl))) (st' := [(b7, _), (b8, _)]) (.cons (by repeat (first | exact Pick.here _ _ _ | apply Pick.next)) (.cons (by repeat (first | exact Pick.here _ _ _ | apply Pick.next)) (.nil _))) ?_
            exact ⟨_, _, rfl, rfl⟩
          exact all_nil
        exact all_nil
      exact all_nil
    exact all_nil
  refine all_cons rfl rfl ?_ ?_
  · skip
    refine w_litM eBool [] rfl el_54 rfl rfl rfl rfl rfl fun b9 => ?_
    refine draw_all [0] (by kernel_rfl) (by simp) ?_
    refine all_cons rfl rfl ?_ ?_
    · skip
      refine w_litM eVcpu [] rfl el_24 rfl rfl rfl rfl rfl fun b10 => ?_
      refine draw_all [3] (by kernel_rfl) (by simp) ?_
      refine all_cons rfl rfl ?_ ?_
      · skip
        refine w_appendM eVcpu rfl el_24 rfl rfl (by repeat (first | exact Pick.here _ _ _ | apply Pick.next)) rfl (.sl _) (fun _ => rfl) (fun _ => rfl) (by simp; omega) (by simp; omega) (by first | (refine .inl ?_; simp; done) | (refine .inr ?_; simp [keys]; done)) fun b11 => ?_
        rw [List.nil_append]
        refine draw_all [7] (by kernel_rfl) (by simp) ?_
        refine all_cons rfl rfl ?_ ?_
        · skip
          refine w_appendM eBool rfl el_54 rfl rfl (by repeat (first | exact Pick.here _ _ _ | apply Pick.next)) rfl (.sl _) (fun _ => rfl) (fun _ => rfl) (by simp; omega) (by simp; omega) (by first | (refine .inl ?_; simp; done) | (refine .inr ?_; simp [keys]; done)) fun b12 => ?_
          rw [List.nil_append]
          refine d_take 8 rfl (by kernel_rfl) (by kernel_rfl) (by kernel_rfl) rfl (p_build (cells := [_, _]) z_62 pl_62 rfl rfl) ?_
          refine draw_all [9] (by kernel_rfl) (by simp) ?_
          refine all_cons rfl rfl ?_ ?_
          · skip
            refine w_store (cells' := [_, _]) rfl rfl rfl (by repeat (first | exact Pick.here _ _ _ | apply Pick.next)) cn_62 (by rfl) (by rfl) (by rfl) (by first | (refine .inl ?_; simp; done) | (refine .inr ?_; simp [keys]; done)) ?_
            refine draw_done (by kernel_rfl) ?_
            refine a_ret ?_
            refine ret_ok (hands1 rfl (.cell ag_62 rfl (by repeat (first | exact Pick.here _ _ _ | apply Pick.next)) (by rfl))) (st' := [(b11, _), (b12, _)]) (.cons (by repeat (first | exact Pick.here _ _ _ | apply Pick.next)) (.cons (by repeat (first | exact Pick.here _ _ _ | apply Pick.next)) (.nil _))) ?_
            exact ⟨_, _, rfl, rfl⟩
          exact all_nil
        exact all_nil
      exact all_nil
    exact all_nil
  exact all_nil

theorem c_impl_signal (q b1 b2 : Nat) (tl : List AV) (h : Hall) (hn : SmallHall h) (i : Int) (h0 : 0 ≤ i) (h1 : i < h.list.length) (h2 : h.events.length = h.list.length) : ACalls Try.prog 120 [.ptr q 0, .int .i64 i] [(q, .box (.own 5 b1 0 h.list.length :: .own 1 b2 0 h.events.length :: tl)), (b1, .arr 46 5 (h.list.map eVcpu)), (b2, .arr 4 1 (h.events.map eBool))] (fun r st => r = .bool (h.list.getD i.toNat zVcpu).blocked ∧ st = [(q, .box (.own 5 b1 0 h.list.length :: .own 1 b2 0 h.events.length :: tl)), (b1, .arr 46 5 ((signalH h i.toNat).list.map eVcpu)), (b2, .arr 4 1 ((signalH h i.toNat).events.map eBool))]) := by
  have hnn := hn
  obtain ⟨hn1, hn2⟩ := hnn
  refine a_enter Try.func120 rfl rfl (fun w0 M0 => ?_)
  refine a_seq ?_
  refine a_region ?_
  refine aops_cons rfl (w_pure rfl (p_assign rfl) ?_)
  refine aops_nil ?_
  refine a_seq ?_
  refine a_seq ?_
  refine a_region ?_
  refine aops_cons rfl (w_pure rfl (p_move rfl) ?_)
  refine aops_cons rfl (w_pure rfl (p_nil rfl) ?_)
  refine aops_cons rfl (w_pure rfl (p_field_box fo_62_0 rfl) ?_)
  refine aops_cons rfl (w_pure rfl (p_load_box ag_24 rfl (by repeat (first | exact Pick.here _ _ _ | apply Pick.next)) (by rfl) noX) ?_)
  refine aops_cons rfl (w_pure rfl (p_move rfl) ?_)
  refine aops_cons rfl (w_pure rfl (p_index_own0 i.toNat rfl rfl (by omega) (by omega) es_24) ?_)
  refine aops_cons rfl (w_pure rfl (p_field_e fo_46_3 rfl) ?_)
  refine aops_cons rfl (w_pure rfl (p_load_e ag_4 rfl (by repeat (first | exact Pick.here _ _ _ | apply Pick.next)) (rowD _ _ zVcpu (by omega)) (by rfl) noX) ?_)
  refine aops_nil ?_
  first | refine a_cond_d rfl (fun h1 => ?_) (fun h2 => ?_) | refine a_cond_n rfl (fun h1 => ?_) (fun h2 => ?_) | refine a_cond_nb rfl (fun h1 => ?_) (fun h2 => ?_) | refine a_cond rfl (fun h1 => ?_) (fun h2 => ?_)
  · (try simp only [Bool.not_eq_true', Bool.not_eq_false', Bool.not_eq_true, Bool.not_eq_false, decide_eq_true_eq, decide_eq_false_iff_not, List.length_map, List.length_range] at h1)
    refine a_seq ?_
    refine a_draw [b1] (by kernel_rfl) ?_
    show ADraw _ _ _ _ _ _ 16 _ _ _ _
    refine d_take 0 rfl (by kernel_rfl) (by kernel_rfl) (by kernel_rfl) rfl (p_move rfl) ?_
    refine d_take 1 rfl (by kernel_rfl) (by kernel_rfl) (by kernel_rfl) rfl (p_nil rfl) ?_
    refine d_take 2 rfl (by kernel_rfl) (by kernel_rfl) (by kernel_rfl) rfl (p_field_box fo_62_0 rfl) ?_
    refine d_load 3 rfl (by kernel_rfl) (by kernel_rfl) (by kernel_rfl) rfl (p_load_box ag_24 rfl (by repeat (first | exact Pick.here _ _ _ | apply Pick.next)) (by rfl) (by simp [keys])) ?_
    refine d_take 4 rfl (by kernel_rfl) (by kernel_rfl) (by kernel_rfl) rfl (p_move rfl) ?_
    refine d_take 5 rfl (by kernel_rfl) (by kernel_rfl) (by kernel_rfl) rfl (p_move rfl) ?_
    refine d_take 6 rfl (by kernel_rfl) (by kernel_rfl) (by kernel_rfl) rfl (p_nil rfl) ?_
    refine d_take 7 rfl (by kernel_rfl) (by kernel_rfl) (by kernel_rfl) rfl (p_field_box fo_62_0 rfl) ?_
    refine d_load 8 rfl (by kernel_rfl) (by kernel_rfl) (by kernel_rfl) rfl (p_load_box ag_24 rfl (by repeat (first | exact Pick.here _ _ _ | apply Pick.next)) (by rfl) (by simp [keys])) ?_
    refine d_take 9 rfl (by kernel_rfl) (by kernel_rfl) (by kernel_rfl) rfl (p_move rfl) ?_
    refine d_take 10 rfl (by kernel_rfl) (by kernel_rfl) (by kernel_rfl) rfl (p_index_own0 i.toNat rfl rfl (by omega) (by omega) es_24) ?_
    refine d_take 11 rfl (by kernel_rfl) (by kernel_rfl) (by kernel_rfl) rfl (p_field_e fo_46_3 rfl) ?_
    refine draw_all [12] (by kernel_rfl) (by simp) ?_
    refine all_cons rfl rfl ?_ ?_
    · skip
      refine w_store_eM eVcpu ⟨(h.list.getD i.toNat zVcpu).id, (h.list.getD i.toNat zVcpu).weight, (h.list.getD i.toNat zVcpu).credit, false, (h.list.getD i.toNat zVcpu).event⟩ rfl rfl rfl (by repeat (first | exact Pick.here _ _ _ | apply Pick.next)) (by omega) cn_4 (by rfl) (by rfl) (by exact seg_getD (z := zVcpu) _ rfl) (by first | (refine .inl ?_; simp; done) | (refine .inr ?_; simp [keys]; done)) ?_
      refine d_take 13 rfl (by kernel_rfl) (by kernel_rfl) (by kernel_rfl) rfl (p_index_own0 i.toNat rfl rfl (by omega) (by omega) es_24) ?_
      refine d_take 14 rfl (by kernel_rfl) (by kernel_rfl) (by kernel_rfl) rfl (p_field_e fo_46_4 rfl) ?_
      refine draw_all [15] (by kernel_rfl) (by simp) ?_
      refine all_cons rfl rfl ?_ ?_
      · skip
        refine w_store_eM eVcpu (wake (h.list.getD i.toNat zVcpu)) rfl rfl rfl (by repeat (first | exact Pick.here _ _ _ | apply Pick.next)) (by rw [List.length_set]; omega) cn_4 (by rfl) (by rfl) (by exact seg_set _ rfl) (by first | (refine .inl ?_; simp; done) | (refine .inr ?_; simp [keys]; done)) ?_
        rw [List.set_set]
        refine draw_done (by kernel_rfl) ?_
        refine a_seq ?_
        refine a_region ?_
        refine aops_cons rfl (w_pure rfl (p_assign rfl) ?_)
        refine aops_nil ?_
        refine a_ret ?_
        refine ret_ok (hands1 rfl (.tmp rfl)) (st' := [(q, _), (b1, _), (b2, _)]) (.cons (by repeat (first | exact Pick.here _ _ _ | apply Pick.next)) (.cons (by repeat (first | exact Pick.here _ _ _ | apply Pick.next)) (.cons (by repeat (first | exact Pick.here _ _ _ | apply Pick.next)) (.nil _)))) ?_
        first | exact ⟨by rw [‹(h.list.getD i.toNat zVcpu).blocked = true›], by rw [signalH_t ‹_›]⟩ | exact ⟨by rw [‹(h.list.getD i.toNat zVcpu).blocked = false›], by rw [signalH_f ‹_›]⟩
      exact all_nil
    exact all_nil
  · (try simp only [Bool.not_eq_true', Bool.not_eq_false', Bool.not_eq_true, Bool.not_eq_false, decide_eq_true_eq, decide_eq_false_iff_not, List.length_map, List.length_range] at h2)
    refine a_skip ?_
    refine a_seq ?_
    refine a_region ?_
    refine aops_cons rfl (w_pure rfl (p_move rfl) ?_)
    refine aops_cons rfl (w_pure rfl (p_nil rfl) ?_)
    refine aops_cons rfl (w_pure rfl (p_field_box fo_62_1 rfl) ?_)
    refine aops_cons rfl (w_pure rfl (p_load_box ag_54 rfl (by repeat (first | exact Pick.here _ _ _ | apply Pick.next)) (by rfl) noX) ?_)
    refine aops_cons rfl (w_pure rfl (p_move rfl) ?_)
    refine aops_cons rfl (w_pure rfl (p_index_own0 i.toNat rfl rfl (by omega) (by omega) es_54) ?_)
    refine aops_cons rfl (w_store_eM eBool true rfl rfl rfl (by repeat (first | exact Pick.here _ _ _ | apply Pick.next)) (by omega) cn_4 (by rfl) (by rfl) (by rfl) trivial ?_)
    refine aops_nil ?_
    refine a_seq ?_
    refine a_region ?_
    refine aops_cons rfl (w_pure rfl (p_assign rfl) ?_)
    refine aops_nil ?_
    refine a_ret ?_
    refine ret_ok (hands1 rfl (.tmp rfl)) (st' := [(q, _), (b1, _), (b2, _)]) (.cons (by repeat (first | exact Pick.here _ _ _ | apply Pick.next)) (.cons (by repeat (first | exact Pick.here _ _ _ | apply Pick.next)) (.cons (by repeat (first | exact Pick.here _ _ _ | apply Pick.next)) (.nil _)))) ?_
    first | exact ⟨by rw [‹(h.list.getD i.toNat zVcpu).blocked = true›], by rw [signalH_t ‹_›]⟩ | exact ⟨by rw [‹(h.list.getD i.toNat zVcpu).blocked = false›], by rw [signalH_f ‹_›]⟩

theorem c_impl_wait (q b1 b2 : Nat) (tl : List AV) (h : Hall) (hn : SmallHall h) (i : Int) (h0 : 0 ≤ i) (h1 : i < h.list.length) (h2 : h.events.length = h.list.length) : ACalls Try.prog 122 [.ptr q 0, .int .i64 i] [(q, .box (.own 5 b1 0 h.list.length :: .own 1 b2 0 h.events.length :: tl)), (b1, .arr 46 5 (h.list.map eVcpu)), (b2, .arr 4 1 (h.events.map eBool))] (fun r st => r = .bool (h.events.getD i.toNat false) ∧ st = [(q, .box (.own 5 b1 0 h.list.length :: .own 1 b2 0 h.events.length :: tl)), (b1, .arr 46 5 ((waitH h i.toNat).list.map eVcpu)), (b2, .arr 4 1 ((waitH h i.toNat).events.map eBool))]) := by
  have hnn := hn
  obtain ⟨hn1, hn2⟩ := hnn
  refine a_enter Try.func122 rfl rfl (fun w0 M0 => ?_)
  refine a_seq ?_
  refine a_region ?_
  refine aops_cons rfl (w_pure rfl (p_assign rfl) ?_)
  refine aops_nil ?_
  refine a_seq ?_
  refine a_seq ?_
  refine a_region ?_
  refine aops_cons rfl (w_pure rfl (p_move rfl) ?_)
  refine aops_cons rfl (w_pure rfl (p_nil rfl) ?_)
  refine aops_cons rfl (w_pure rfl (p_field_box fo_62_1 rfl) ?_)
  refine aops_cons rfl (w_pure rfl (p_load_box ag_54 rfl (by repeat (first | exact Pick.here _ _ _ | apply Pick.next)) (by rfl) noX) ?_)
  refine aops_cons rfl (w_pure rfl (p_move rfl) ?_)
  refine aops_cons rfl (w_pure rfl (p_index_own0 i.toNat rfl rfl (by omega) (by omega) es_54) ?_)
  refine aops_cons rfl (w_pure rfl (p_load_e ag_4 rfl (by repeat (first | exact Pick.here _ _ _ | apply Pick.next)) (rowD _ _ false (by omega)) (by rfl) noX) ?_)
  refine aops_nil ?_
  first | refine a_cond_d rfl (fun h1 => ?_) (fun h2 => ?_) | refine a_cond_n rfl (fun h1 => ?_) (fun h2 => ?_) | refine a_cond_nb rfl (fun h1 => ?_) (fun h2 => ?_) | refine a_cond rfl (fun h1 => ?_) (fun h2 => ?_)
  · (try simp only [Bool.not_eq_true', Bool.not_eq_false', Bool.not_eq_true, Bool.not_eq_false, decide_eq_true_eq, decide_eq_false_iff_not, List.length_map, List.length_range] at h1)
    refine a_seq ?_
    refine a_region ?_
    refine aops_cons rfl (w_pure rfl (p_move rfl) ?_)
    refine aops_cons rfl (w_pure rfl (p_nil rfl) ?_)
    refine aops_cons rfl (w_pure rfl (p_field_box fo_62_1 rfl) ?_)
    refine aops_cons rfl (w_pure rfl (p_load_box ag_54 rfl (by repeat (first | exact Pick.here _ _ _ | apply Pick.next)) (by rfl) noX) ?_)
    refine aops_cons rfl (w_pure rfl (p_move rfl) ?_)
    refine aops_cons rfl (w_pure rfl (p_index_own0 i.toNat rfl rfl (by omega) (by omega) es_54) ?_)
    refine aops_cons rfl (w_store_eM eBool false rfl rfl rfl (by repeat (first | exact Pick.here _ _ _ | apply Pick.next)) (by omega) cn_4 (by rfl) (by rfl) (by rfl) trivial ?_)
    refine aops_nil ?_
    refine a_seq ?_
    refine a_region ?_
    refine aops_cons rfl (w_pure rfl (p_assign rfl) ?_)
    refine aops_nil ?_
    refine a_ret ?_
    refine ret_ok (hands1 rfl (.tmp rfl)) (st' := [(q, _), (b1, _), (b2, _)]) (.cons (by repeat (first | exact Pick.here _ _ _ | apply Pick.next)) (.cons (by repeat (first | exact Pick.here _ _ _ | apply Pick.next)) (.cons (by repeat (first | exact Pick.here _ _ _ | apply Pick.next)) (.nil _)))) ?_
    first | exact ⟨by rw [‹(h.events.getD i.toNat false) = true›], by rw [waitH_t ‹_›]⟩ | exact ⟨by rw [‹(h.events.getD i.toNat false) = false›], by rw [waitH_f ‹_›]⟩
  · (try simp only [Bool.not_eq_true', Bool.not_eq_false', Bool.not_eq_true, Bool.not_eq_false, decide_eq_true_eq, decide_eq_false_iff_not, List.length_map, List.length_range] at h2)
    refine a_skip ?_
    refine a_seq ?_
    refine a_draw [b1] (by kernel_rfl) ?_
    show ADraw _ _ _ _ _ _ 16 _ _ _ _
    refine d_take 0 rfl (by kernel_rfl) (by kernel_rfl) (by kernel_rfl) rfl (p_move rfl) ?_
    refine d_take 1 rfl (by kernel_rfl) (by kernel_rfl) (by kernel_rfl) rfl (p_nil rfl) ?_
    refine d_take 2 rfl (by kernel_rfl) (by kernel_rfl) (by kernel_rfl) rfl (p_field_box fo_62_0 rfl) ?_
    refine d_load 3 rfl (by kernel_rfl) (by kernel_rfl) (by kernel_rfl) rfl (p_load_box ag_24 rfl (by repeat (first | exact Pick.here _ _ _ | apply Pick.next)) (by rfl) (by simp [keys])) ?_
    refine d_take 4 rfl (by kernel_rfl) (by kernel_rfl) (by kernel_rfl) rfl (p_move rfl) ?_
    refine d_take 5 rfl (by kernel_rfl) (by kernel_rfl) (by kernel_rfl) rfl (p_move rfl) ?_
    refine d_take 6 rfl (by kernel_rfl) (by kernel_rfl) (by kernel_rfl) rfl (p_nil rfl) ?_
    refine d_take 7 rfl (by kernel_rfl) (by kernel_rfl) (by kernel_rfl) rfl (p_field_box fo_62_0 rfl) ?_
    refine d_load 8 rfl (by kernel_rfl) (by kernel_rfl) (by kernel_rfl) rfl (p_load_box ag_24 rfl (by repeat (first | exact Pick.here _ _ _ | apply Pick.next)) (by rfl) (by simp [keys])) ?_
    refine d_take 9 rfl (by kernel_rfl) (by kernel_rfl) (by kernel_rfl) rfl (p_move rfl) ?_
    refine d_take 10 rfl (by kernel_rfl) (by kernel_rfl) (by kernel_rfl) rfl (p_index_own0 i.toNat rfl rfl (by omega) (by omega) es_24) ?_
    refine d_take 11 rfl (by kernel_rfl) (by kernel_rfl) (by kernel_rfl) rfl (p_field_e fo_46_3 rfl) ?_
    refine draw_all [12] (by kernel_rfl) (by simp) ?_
    refine all_cons rfl rfl ?_ ?_
    · skip
      refine w_store_eM eVcpu ⟨(h.list.getD i.toNat zVcpu).id, (h.list.getD i.toNat zVcpu).weight, (h.list.getD i.toNat zVcpu).credit, true, (h.list.getD i.toNat zVcpu).event⟩ rfl rfl rfl (by repeat (first | exact Pick.here _ _ _ | apply Pick.next)) (by omega) cn_4 (by rfl) (by rfl) (by exact seg_getD (z := zVcpu) _ rfl) (by first | (refine .inl ?_; simp; done) | (refine .inr ?_; simp [keys]; done)) ?_
      refine d_take 13 rfl (by kernel_rfl) (by kernel_rfl) (by kernel_rfl) rfl (p_index_own0 i.toNat rfl rfl (by omega) (by omega) es_24) ?_
      refine d_take 14 rfl (by kernel_rfl) (by kernel_rfl) (by kernel_rfl) rfl (p_field_e fo_46_4 rfl) ?_
      refine draw_all [15] (by kernel_rfl) (by simp) ?_
      refine all_cons rfl rfl ?_ ?_
      · skip
        refine w_store_eM eVcpu (halt (h.list.getD i.toNat zVcpu)) rfl rfl rfl (by repeat (first | exact Pick.here _ _ _ | apply Pick.next)) (by rw [List.length_set]; omega) cn_4 (by rfl) (by rfl) (by exact seg_set _ rfl) (by first | (refine .inl ?_; simp; done) | (refine .inr ?_; simp [keys]; done)) ?_
        rw [List.set_set]
        refine draw_done (by kernel_rfl) ?_
        refine a_seq ?_
        refine a_region ?_
        refine aops_cons rfl (w_pure rfl (p_assign rfl) ?_)
        refine aops_nil ?_
        refine a_ret ?_
        refine ret_ok (hands1 rfl (.tmp rfl)) (st' := [(q, _), (b1, _), (b2, _)]) (.cons (by repeat (first | exact Pick.here _ _ _ | apply Pick.next)) (.cons (by repeat (first | exact Pick.here _ _ _ | apply Pick.next)) (.cons (by repeat (first | exact Pick.here _ _ _ | apply Pick.next)) (.nil _)))) ?_
        first | exact ⟨by rw [‹(h.events.getD i.toNat false) = true›], by rw [waitH_t ‹_›]⟩ | exact ⟨by rw [‹(h.events.getD i.toNat false) = false›], by rw [waitH_f ‹_›]⟩
      exact all_nil
    exact all_nil

theorem co_spec_l15Signal (h : Hall) (hn : SmallHall h) (i : Int) (h0 : 0 ≤ i) (h1 : i < h.list.length) (h2 : h.events.length = h.list.length) : ACalls Try.prog 118 [.agg (eHall h), .int .i64 i] [] (fun r st => ∃ b1 b2, r = .agg [.own 5 b1 0 (signalH h i.toNat).list.length, .own 1 b2 0 (signalH h i.toNat).events.length] ∧ st = [(b1, .arr 46 5 ((signalH h i.toNat).list.map eVcpu)), (b2, .arr 4 1 ((signalH h i.toNat).events.map eBool))]) := by
  have hnn := hn
  obtain ⟨hn1, hn2⟩ := hnn
  refine a_enter Try.func118 rfl rfl (fun w0 M0 => ?_)
  refine a_seq ?_
  refine a_region ?_
  refine aops_cons rfl (w_box_v rfl rfl rfl ?_)
  refine aops_cons rfl (w_alloc rfl z_62 fun b1 => ?_)
  refine aops_nil ?_
  refine a_seq ?_
  refine a_region ?_
  refine aops_cons rfl (w_pure rfl (p_load_v_all ag_62 rfl (by rfl) noX) ?_)
  refine aops_cons rfl (w_call rfl rfl rfl cl_137 (co_spec_l15Own h (by assumption)) ?_)
  rintro _ _ ⟨b2, b3, rfl, rfl⟩
  refine aops_cons rfl (w_alloc rfl z_62 fun b4 => ?_)
  refine aops_cons rfl (w_store (cells' := [_, _]) rfl rfl rfl (by repeat (first | exact Pick.here _ _ _ | apply Pick.next)) cn_62 (by rfl) (by rfl) (by rfl) trivial ?_)
  refine aops_nil ?_
  refine a_seq ?_
  refine a_seq ?_
  refine a_region ?_
  refine aops_cons rfl (w_pure rfl (p_field_v fo_62_0 rfl) ?_)
  refine aops_cons rfl (w_pure rfl (p_load_v ag_24 rfl (by rfl) noX) ?_)
  refine aops_cons rfl (w_pure rfl (p_move rfl) ?_)
  refine aops_cons rfl (w_pure rfl (p_index_sl i.toNat rfl rfl (by omega) (rowD _ _ zVcpu (by omega)) es_24) ?_)
  refine aops_cons rfl (w_pure rfl (p_field_v fo_46_3 rfl) ?_)
  refine aops_cons rfl (w_pure rfl (p_load_v ag_4 rfl (by rfl) noX) ?_)
  refine aops_cons rfl (w_pure rfl (p_not rfl) ?_)
  refine aops_nil ?_
  first | refine a_cond_d rfl (fun h1 => ?_) (fun h2 => ?_) | refine a_cond_n rfl (fun h1 => ?_) (fun h2 => ?_) | refine a_cond_nb rfl (fun h1 => ?_) (fun h2 => ?_) | refine a_cond rfl (fun h1 => ?_) (fun h2 => ?_)
  · (try simp only [Bool.not_eq_true', Bool.not_eq_false', Bool.not_eq_true, Bool.not_eq_false, decide_eq_true_eq, decide_eq_false_iff_not, List.length_map, List.length_range] at h1)
    refine a_seq ?_
    refine a_region ?_
    refine aops_cons rfl (w_pure rfl (p_field_box fo_62_1 rfl) ?_)
    refine aops_cons rfl (w_pure rfl (p_load_box ag_54 rfl (by repeat (first | exact Pick.here _ _ _ | apply Pick.next)) (by rfl) noX) ?_)
    refine aops_cons rfl (w_pure rfl (p_move rfl) ?_)
    refine aops_cons rfl (w_pure rfl (p_index_own0 i.toNat rfl rfl (by omega) (by omega) es_54) ?_)
    refine aops_cons rfl (w_store_eM eBool true rfl rfl rfl (by repeat (first | exact Pick.here _ _ _ | apply Pick.next)) (by omega) cn_4 (by rfl) (by rfl) (by rfl) trivial ?_)
    refine aops_nil ?_
    refine a_seq ?_
    refine a_region ?_
    refine aops_cons rfl (w_pure rfl (p_load_box_all ag_62 rfl (by repeat (first | exact Pick.here _ _ _ | apply Pick.next)) (by rfl) noX) ?_)
    refine aops_cons rfl (w_store (cells' := [_, _]) rfl rfl rfl (by repeat (first | exact Pick.here _ _ _ | apply Pick.next)) cn_62 (by rfl) (by rfl) (by rfl) trivial ?_)
    refine aops_nil ?_
    refine a_ret ?_
    refine ret_ok (hands1 rfl (.cell ag_62 rfl (by repeat (first | exact Pick.here _ _ _ | apply Pick.next)) (by rfl))) (st' := [(b2, _), (b3, _)]) (.cons (by repeat (first | exact Pick.here _ _ _ | apply Pick.next)) (.cons (by repeat (first | exact Pick.here _ _ _ | apply Pick.next)) (.nil _))) ?_
    first | exact ⟨_, _, by rw [signalH_t (by assumption), List.length_set], by rw [signalH_t (by assumption)]⟩ | exact ⟨_, _, by rw [signalH_f (by assumption), List.length_set], by rw [signalH_f (by assumption)]⟩
  · (try simp only [Bool.not_eq_true', Bool.not_eq_false', Bool.not_eq_true, Bool.not_eq_false, decide_eq_true_eq, decide_eq_false_iff_not, List.length_map, List.length_range] at h2)
    refine a_skip ?_
    refine a_seq ?_
    refine a_region ?_
    refine aops_cons rfl (w_pure rfl (p_field_v fo_62_0 rfl) ?_)
    refine aops_cons rfl (w_pure rfl (p_load_v ag_24 rfl (by rfl) noX) ?_)
    refine aops_cons rfl (w_pure rfl (p_move rfl) ?_)
    refine aops_cons rfl (w_pure rfl (p_index_sl i.toNat rfl rfl (by omega) (rowD _ _ zVcpu (by omega)) es_24) ?_)
    refine aops_cons rfl (w_pure rfl (p_load_v_all ag_46 rfl (by rfl) noX) ?_)
    refine aops_cons rfl (w_alloc rfl z_46 fun b5 => ?_)
    refine aops_cons rfl (w_store (cells' := [_, _, _, _, _]) rfl rfl rfl (by repeat (first | exact Pick.here _ _ _ | apply Pick.next)) cn_46 (by rfl) (by rfl) (by rfl) trivial ?_)
    refine aops_nil ?_
    refine a_seq ?_
    refine a_region ?_
    refine aops_cons rfl (w_pure rfl (p_field_box fo_46_3 rfl) ?_)
    refine aops_cons rfl (w_store (cells' := [_, _, _, _, _]) rfl rfl rfl (by repeat (first | exact Pick.here _ _ _ | apply Pick.next)) cn_4 (by rfl) (by rfl) (by rfl) trivial ?_)
    refine aops_nil ?_
    refine a_seq ?_
    refine a_region ?_
    refine aops_cons rfl (w_pure rfl (p_field_box fo_46_4 rfl) ?_)
    refine aops_cons rfl (w_store (cells' := [_, _, _, _, _]) rfl rfl rfl (by repeat (first | exact Pick.here _ _ _ | apply Pick.next)) cn_4 (by rfl) (by rfl) (by rfl) trivial ?_)
    refine aops_nil ?_
    refine a_seq ?_
    refine a_region ?_
    refine aops_cons rfl (w_pure rfl (p_field_box fo_62_0 rfl) ?_)
    refine aops_cons rfl (w_pure rfl (p_load_box ag_24 rfl (by repeat (first | exact Pick.here _ _ _ | apply Pick.next)) (by rfl) noX) ?_)
    refine aops_cons rfl (w_pure rfl (p_move rfl) ?_)
    refine aops_cons rfl (w_pure rfl (p_load_box_all ag_46 rfl (by repeat (first | exact Pick.here _ _ _ | apply Pick.next)) (by rfl) noX) ?_)
    refine aops_cons rfl (w_pure rfl (p_index_own0 i.toNat rfl rfl (by omega) (by omega) es_24) ?_)
    refine aops_cons rfl (w_store_eM eVcpu (wake (h.list.getD i.toNat zVcpu)) rfl rfl rfl (by repeat (first | exact Pick.here _ _ _ | apply Pick.next)) (by omega) cn_46 (by rfl) (by rfl) (by rfl) trivial ?_)
    refine aops_nil ?_
    refine a_seq ?_
    refine a_region ?_
    refine aops_cons rfl (w_pure rfl (p_load_box_all ag_62 rfl (by repeat (first | exact Pick.here _ _ _ | apply Pick.next)) (by rfl) noX) ?_)
    refine aops_cons rfl (w_store (cells' := [_, _]) rfl rfl rfl (by repeat (first | exact Pick.here _ _ _ | apply Pick.next)) cn_62 (by rfl) (by rfl) (by rfl) trivial ?_)
    refine aops_nil ?_
    refine a_ret ?_
    refine ret_ok (hands1 rfl (.cell ag_62 rfl (by repeat (first | exact Pick.here _ _ _ | apply Pick.next)) (by rfl))) (st' := [(b2, _), (b3, _)]) (.cons (by repeat (first | exact Pick.here _ _ _ | apply Pick.next)) (.cons (by repeat (first | exact Pick.here _ _ _ | apply Pick.next)) (.nil _))) ?_
    first | exact ⟨_, _, by rw [signalH_t (by assumption), List.length_set], by rw [signalH_t (by assumption)]⟩ | exact ⟨_, _, by rw [signalH_f (by assumption), List.length_set], by rw [signalH_f (by assumption)]⟩

theorem c_spec_l15Signal (h : Hall) (hn : SmallHall h) (i : Int) (h0 : 0 ≤ i) (h1 : i < h.list.length) (h2 : h.events.length = h.list.length) : ACalls Try.prog 118 [.agg (eHall h), .int .i64 i] [] (Ret (.agg (eHall (signalH h i.toNat)))) :=
  (co_spec_l15Signal h hn i h0 h1 h2).freeze (by rintro _ _ ⟨_, _, rfl, rfl⟩; exact (.agg (.cons (.own (by repeat (first | exact List.Mem.head _ | apply List.Mem.tail)) (List.length_map _)) (.cons (.own (by repeat (first | exact List.Mem.head _ | apply List.Mem.tail)) (List.length_map _)) .nil))))

theorem co_spec_l15Wait (h : Hall) (hn : SmallHall h) (i : Int) (h0 : 0 ≤ i) (h1 : i < h.list.length) (h2 : h.events.length = h.list.length) : ACalls Try.prog 121 [.agg (eHall h), .int .i64 i] [] (fun r st => ∃ b1 b2, r = .agg [.own 5 b1 0 (waitH h i.toNat).list.length, .own 1 b2 0 (waitH h i.toNat).events.length] ∧ st = [(b1, .arr 46 5 ((waitH h i.toNat).list.map eVcpu)), (b2, .arr 4 1 ((waitH h i.toNat).events.map eBool))]) := by
  have hnn := hn
  obtain ⟨hn1, hn2⟩ := hnn
  refine a_enter Try.func121 rfl rfl (fun w0 M0 => ?_)
  refine a_seq ?_
  refine a_region ?_
  refine aops_cons rfl (w_box_v rfl rfl rfl ?_)
  refine aops_cons rfl (w_alloc rfl z_62 fun b1 => ?_)
  refine aops_nil ?_
  refine a_seq ?_
  refine a_region ?_
  refine aops_cons rfl (w_pure rfl (p_load_v_all ag_62 rfl (by rfl) noX) ?_)
  refine aops_cons rfl (w_call rfl rfl rfl cl_137 (co_spec_l15Own h (by assumption)) ?_)
  rintro _ _ ⟨b2, b3, rfl, rfl⟩
  refine aops_cons rfl (w_alloc rfl z_62 fun b4 => ?_)
  refine aops_cons rfl (w_store (cells' := [_, _]) rfl rfl rfl (by repeat (first | exact Pick.here _ _ _ | apply Pick.next)) cn_62 (by rfl) (by rfl) (by rfl) trivial ?_)
  refine aops_nil ?_
  refine a_seq ?_
  refine a_seq ?_
  refine a_region ?_
  refine aops_cons rfl (w_pure rfl (p_field_v fo_62_1 rfl) ?_)
  refine aops_cons rfl (w_pure rfl (p_load_v ag_54 rfl (by rfl) noX) ?_)
  refine aops_cons rfl (w_pure rfl (p_move rfl) ?_)
  refine aops_cons rfl (w_pure rfl (p_index_sl i.toNat rfl rfl (by omega) (rowD _ _ false (by omega)) es_54) ?_)
  refine aops_cons rfl (w_pure rfl (p_load_v ag_4 rfl (by rfl) noX) ?_)
  refine aops_nil ?_
  first | refine a_cond_d rfl (fun h1 => ?_) (fun h2 => ?_) | refine a_cond_n rfl (fun h1 => ?_) (fun h2 => ?_) | refine a_cond_nb rfl (fun h1 => ?_) (fun h2 => ?_) | refine a_cond rfl (fun h1 => ?_) (fun h2 => ?_)
  · (try simp only [Bool.not_eq_true', Bool.not_eq_false', Bool.not_eq_true, Bool.not_eq_false, decide_eq_true_eq, decide_eq_false_iff_not, List.length_map, List.length_range] at h1)
    refine a_seq ?_
    refine a_region ?_
    refine aops_cons rfl (w_pure rfl (p_field_box fo_62_1 rfl) ?_)
    refine aops_cons rfl (w_pure rfl (p_load_box ag_54 rfl (by repeat (first | exact Pick.here _ _ _ | apply Pick.next)) (by rfl) noX) ?_)
    refine aops_cons rfl (w_pure rfl (p_move rfl) ?_)
    refine aops_cons rfl (w_pure rfl (p_index_own0 i.toNat rfl rfl (by omega) (by omega) es_54) ?_)
    refine aops_cons rfl (w_store_eM eBool false rfl rfl rfl (by repeat (first | exact Pick.here _ _ _ | apply Pick.next)) (by omega) cn_4 (by rfl) (by rfl) (by rfl) trivial ?_)
    refine aops_nil ?_
    refine a_seq ?_
    refine a_region ?_
    refine aops_cons rfl (w_pure rfl (p_load_box_all ag_62 rfl (by repeat (first | exact Pick.here _ _ _ | apply Pick.next)) (by rfl) noX) ?_)
    refine aops_cons rfl (w_store (cells' := [_, _]) rfl rfl rfl (by repeat (first | exact Pick.here _ _ _ | apply Pick.next)) cn_62 (by rfl) (by rfl) (by rfl) trivial ?_)
    refine aops_nil ?_
    refine a_ret ?_
    refine ret_ok (hands1 rfl (.cell ag_62 rfl (by repeat (first | exact Pick.here _ _ _ | apply Pick.next)) (by rfl))) (st' := [(b2, _), (b3, _)]) (.cons (by repeat (first | exact Pick.here _ _ _ | apply Pick.next)) (.cons (by repeat (first | exact Pick.here _ _ _ | apply Pick.next)) (.nil _))) ?_
    first | exact ⟨_, _, by rw [waitH_t (by assumption), List.length_set], by rw [waitH_t (by assumption)]⟩ | exact ⟨_, _, by rw [waitH_f (by assumption), List.length_set], by rw [waitH_f (by assumption)]⟩
  · (try simp only [Bool.not_eq_true', Bool.not_eq_false', Bool.not_eq_true, Bool.not_eq_false, decide_eq_true_eq, decide_eq_false_iff_not, List.length_map, List.length_range] at h2)
    refine a_skip ?_
    refine a_seq ?_
    refine a_region ?_
    refine aops_cons rfl (w_pure rfl (p_field_v fo_62_0 rfl) ?_)
    refine aops_cons rfl (w_pure rfl (p_load_v ag_24 rfl (by rfl) noX) ?_)
    refine aops_cons rfl (w_pure rfl (p_move rfl) ?_)
    refine aops_cons rfl (w_pure rfl (p_index_sl i.toNat rfl rfl (by omega) (rowD _ _ zVcpu (by omega)) es_24) ?_)
    refine aops_cons rfl (w_pure rfl (p_load_v_all ag_46 rfl (by rfl) noX) ?_)
    refine aops_cons rfl (w_alloc rfl z_46 fun b5 => ?_)
    refine aops_cons rfl (w_store (cells' := [_, _, _, _, _]) rfl rfl rfl (by repeat (first | exact Pick.here _ _ _ | apply Pick.next)) cn_46 (by rfl) (by rfl) (by rfl) trivial ?_)
    refine aops_nil ?_
    refine a_seq ?_
    refine a_region ?_
    refine aops_cons rfl (w_pure rfl (p_field_box fo_46_3 rfl) ?_)
    refine aops_cons rfl (w_store (cells' := [_, _, _, _, _]) rfl rfl rfl (by repeat (first | exact Pick.here _ _ _ | apply Pick.next)) cn_4 (by rfl) (by rfl) (by rfl) trivial ?_)
    refine aops_nil ?_
    refine a_seq ?_
    refine a_region ?_
    refine aops_cons rfl (w_pure rfl (p_field_box fo_46_4 rfl) ?_)
    refine aops_cons rfl (w_store (cells' := [_, _, _, _, _]) rfl rfl rfl (by repeat (first | exact Pick.here _ _ _ | apply Pick.next)) cn_4 (by rfl) (by rfl) (by rfl) trivial ?_)
    refine aops_nil ?_
    refine a_seq ?_
    refine a_region ?_
    refine aops_cons rfl (w_pure rfl (p_field_box fo_62_0 rfl) ?_)
    refine aops_cons rfl (w_pure rfl (p_load_box ag_24 rfl (by repeat (first | exact Pick.here _ _ _ | apply Pick.next)) (by rfl) noX) ?_)
    refine aops_cons rfl (w_pure rfl (p_move rfl) ?_)
    refine aops_cons rfl (w_pure rfl (p_load_box_all ag_46 rfl (by repeat (first | exact Pick.here _ _ _ | apply Pick.next)) (by rfl) noX) ?_)
    refine aops_cons rfl (w_pure rfl (p_index_own0 i.toNat rfl rfl (by omega) (by omega) es_24) ?_)
    refine aops_cons rfl (w_store_eM eVcpu (halt (h.list.getD i.toNat zVcpu)) rfl rfl rfl (by repeat (first | exact Pick.here _ _ _ | apply Pick.next)) (by omega) cn_46 (by rfl) (by rfl) (by rfl) trivial ?_)
    refine aops_nil ?_
    refine a_seq ?_
    refine a_region ?_
    refine aops_cons rfl (w_pure rfl (p_load_box_all ag_62 rfl (by repeat (first | exact Pick.here _ _ _ | apply Pick.next)) (by rfl) noX) ?_)
    refine aops_cons rfl (w_store (cells' := [_, _]) rfl rfl rfl (by repeat (first | exact Pick.here _ _ _ | apply Pick.next)) cn_62 (by rfl) (by rfl) (by rfl) trivial ?_)
    refine aops_nil ?_
    refine a_ret ?_
    refine ret_ok (hands1 rfl (.cell ag_62 rfl (by repeat (first | exact Pick.here _ _ _ | apply Pick.next)) (by rfl))) (st' := [(b2, _), (b3, _)]) (.cons (by repeat (first | exact Pick.here _ _ _ | apply Pick.next)) (.cons (by repeat (first | exact Pick.here _ _ _ | apply Pick.next)) (.nil _))) ?_
    first | exact ⟨_, _, by rw [waitH_t (by assumption), List.length_set], by rw [waitH_t (by assumption)]⟩ | exact ⟨_, _, by rw [waitH_f (by assumption), List.length_set], by rw [waitH_f (by assumption)]⟩

theorem c_spec_l15Wait (h : Hall) (hn : SmallHall h) (i : Int) (h0 : 0 ≤ i) (h1 : i < h.list.length) (h2 : h.events.length = h.list.length) : ACalls Try.prog 121 [.agg (eHall h), .int .i64 i] [] (Ret (.agg (eHall (waitH h i.toNat)))) :=
  (co_spec_l15Wait h hn i h0 h1 h2).freeze (by rintro _ _ ⟨_, _, rfl, rfl⟩; exact (.agg (.cons (.own (by repeat (first | exact List.Mem.head _ | apply List.Mem.tail)) (List.length_map _)) (.cons (.own (by repeat (first | exact List.Mem.head _ | apply List.Mem.tail)) (List.length_map _)) .nil))))

theorem cy_spec_SignalVcpu (h : Hall) (hn : SmallHall h) (id : Int) (hA : GoodSig h id) : ACalls Try.prog 70 [.agg (eHall h), .int .i64 id] [] (Ret (.tup [.agg (eHall (signalH h (hI h id))), .bool true])) := by
  have hnn := hn
  obtain ⟨hn1, hn2⟩ := hnn
  have hfi := findI_lt h.list id
  refine a_enter Try.func70 rfl rfl (fun w0 M0 => ?_)
  refine a_seq ?_
  refine a_region ?_
  refine aops_cons rfl (w_box_v rfl rfl rfl ?_)
  refine aops_cons rfl (w_alloc rfl z_62 fun b1 => ?_)
  refine aops_cons rfl (w_pure rfl (p_assign rfl) ?_)
  refine aops_nil ?_
  refine a_seq ?_
  refine a_region ?_
  refine aops_cons rfl (w_pure rfl (p_load_v_all ag_62 rfl (by rfl) noX) ?_)
  refine aops_cons rfl (w_pure rfl (p_move rfl) ?_)
  refine aops_cons rfl (w_callR rfl rfl rfl cl_104 (c_spec_l15Find h (by assumption) _) ?_)
  refine aops_cons rfl (w_pure rfl (p_assign rfl) ?_)
  refine aops_nil ?_
  refine a_seq ?_
  refine a_seq ?_
  refine a_region ?_
  refine aops_cons rfl (w_pure rfl (p_load_v_all ag_62 rfl (by rfl) noX) ?_)
  refine aops_cons rfl (w_callR rfl rfl rfl cl_114 (c_spec_l15Good _ ‹_›) ?_)
  refine aops_cons rfl (w_pure rfl (p_not rfl) ?_)
  refine aops_cons rfl (w_pure rfl (p_move rfl) ?_)
  first | refine aops_split_d 13 rfl (fun h1 => ?_) (fun h2 => ?_) | refine aops_split 13 rfl (fun h1 => ?_) (fun h2 => ?_)
  · (try simp only [Bool.not_eq_true', Bool.not_eq_false', Bool.not_eq_true, Bool.not_eq_false, decide_eq_true_eq, decide_eq_false_iff_not, List.length_map, List.length_range] at h1)
    refine g_pass' rfl rfl rfl rfl rfl ?_
    refine g_pass' rfl rfl rfl rfl rfl ?_
    refine aops_cons rfl (w_pure rfl (p_pick_t rfl rfl) ?_)
    refine aops_nil ?_
    refine a_cond_t rfl ?_
    refine a_seq ?_
    refine a_region ?_
    refine aops_cons rfl (w_pure rfl (p_build (cells := [_, _]) z_62 pl_62 rfl rfl) ?_)
    refine aops_cons rfl (w_store (cells' := [_, _]) rfl rfl rfl (by repeat (first | exact Pick.here _ _ _ | apply Pick.next)) cn_62 (by rfl) (by rfl) (by rfl) trivial ?_)
    refine aops_cons rfl (w_pure rfl (p_assign rfl) ?_)
    refine aops_nil ?_
    refine a_ret ?_
    refine ret_ok (hands2 rfl (.cell ag_62 rfl (by repeat (first | exact Pick.here _ _ _ | apply Pick.next)) (by rfl)) (.tmp rfl)) (.nil _) ?_
    first | exact ⟨rfl, rfl⟩ | (exfalso; first | contradiction | omega | exact absurd hA.1 (by assumption) | exact absurd hA.2 (by omega))
  · (try simp only [Bool.not_eq_true', Bool.not_eq_false', Bool.not_eq_true, Bool.not_eq_false, decide_eq_true_eq, decide_eq_false_iff_not, List.length_map, List.length_range] at h2)
    refine aops_guard_t rfl rfl rfl (w_pure rfl (p_move rfl) ?_)
    refine aops_guard_t rfl rfl rfl (w_pure rfl (p_lss rfl rfl) ?_)
    refine aops_cons rfl (w_pure rfl (p_pick_f rfl rfl) ?_)
    refine aops_nil ?_
    first | refine a_cond_d rfl (fun h3 => ?_) (fun h4 => ?_) | refine a_cond_n rfl (fun h3 => ?_) (fun h4 => ?_) | refine a_cond_nb rfl (fun h3 => ?_) (fun h4 => ?_) | refine a_cond rfl (fun h3 => ?_) (fun h4 => ?_)
    · (try simp only [Bool.not_eq_true', Bool.not_eq_false', Bool.not_eq_true, Bool.not_eq_false, decide_eq_true_eq, decide_eq_false_iff_not, List.length_map, List.length_range] at h3)
      refine a_seq ?_
      refine a_region ?_
      refine aops_cons rfl (w_pure rfl (p_build (cells := [_, _]) z_62 pl_62 rfl rfl) ?_)
      refine aops_cons rfl (w_store (cells' := [_, _]) rfl rfl rfl (by repeat (first | exact Pick.here _ _ _ | apply Pick.next)) cn_62 (by rfl) (by rfl) (by rfl) trivial ?_)
      refine aops_cons rfl (w_pure rfl (p_assign rfl) ?_)
      refine aops_nil ?_
      refine a_ret ?_
      refine ret_ok (hands2 rfl (.cell ag_62 rfl (by repeat (first | exact Pick.here _ _ _ | apply Pick.next)) (by rfl)) (.tmp rfl)) (.nil _) ?_
      first | exact ⟨rfl, rfl⟩ | (exfalso; first | contradiction | omega | exact absurd hA.1 (by assumption) | exact absurd hA.2 (by omega))
    · (try simp only [Bool.not_eq_true', Bool.not_eq_false', Bool.not_eq_true, Bool.not_eq_false, decide_eq_true_eq, decide_eq_false_iff_not, List.length_map, List.length_range] at h4)
      refine a_skip ?_
      refine a_seq ?_
      refine a_region ?_
      refine aops_cons rfl (w_pure rfl (p_load_v_all ag_62 rfl (by rfl) noX) ?_)
      refine aops_cons rfl (w_pure rfl (p_move rfl) ?_)
      refine aops_cons rfl (w_callR rfl rfl rfl cl_118 (c_spec_l15Signal h (by assumption) (findI h.list id) (by omega) (by omega) (by have := (IsHall.small ‹_›); omega)) ?_)
      refine aops_cons rfl (w_store (cells' := [_, _]) rfl rfl rfl (by repeat (first | exact Pick.here _ _ _ | apply Pick.next)) cn_62 (by rfl) (by rfl) (by rfl) trivial ?_)
      refine aops_cons rfl (w_pure rfl (p_assign rfl) ?_)
      refine aops_nil ?_
      refine a_ret ?_
      refine ret_ok (hands2 rfl (.cell ag_62 rfl (by repeat (first | exact Pick.here _ _ _ | apply Pick.next)) (by rfl)) (.tmp rfl)) (.nil _) ?_
      first | exact ⟨rfl, rfl⟩ | (exfalso; first | contradiction | omega | exact absurd hA.1 (by assumption) | exact absurd hA.2 (by omega))

theorem cn_spec_SignalVcpu (h : Hall) (hn : SmallHall h) (id : Int) (hA : ¬ GoodSig h id) : ACalls Try.prog 70 [.agg (eHall h), .int .i64 id] [] (Ret (.tup [.agg [.nil, .nil], .bool false])) := by
  have hnn := hn
  obtain ⟨hn1, hn2⟩ := hnn
  have hfi := findI_lt h.list id
  refine a_enter Try.func70 rfl rfl (fun w0 M0 => ?_)
  refine a_seq ?_
  refine a_region ?_
  refine aops_cons rfl (w_box_v rfl rfl rfl ?_)
  refine aops_cons rfl (w_alloc rfl z_62 fun b1 => ?_)
  refine aops_cons rfl (w_pure rfl (p_assign rfl) ?_)
  refine aops_nil ?_
  refine a_seq ?_
  refine a_region ?_
  refine aops_cons rfl (w_pure rfl (p_load_v_all ag_62 rfl (by rfl) noX) ?_)
  refine aops_cons rfl (w_pure rfl (p_move rfl) ?_)
  refine aops_cons rfl (w_callR rfl rfl rfl cl_104 (c_spec_l15Find h (by assumption) _) ?_)
  refine aops_cons rfl (w_pure rfl (p_assign rfl) ?_)
  refine aops_nil ?_
  refine a_seq ?_
  refine a_seq ?_
  refine a_region ?_
  refine aops_cons rfl (w_pure rfl (p_load_v_all ag_62 rfl (by rfl) noX) ?_)
  refine aops_cons rfl (w_callR rfl rfl rfl cl_114 (c_spec_l15Good _ ‹_›) ?_)
  refine aops_cons rfl (w_pure rfl (p_not rfl) ?_)
  refine aops_cons rfl (w_pure rfl (p_move rfl) ?_)
  first | refine aops_split_d 13 rfl (fun h1 => ?_) (fun h2 => ?_) | refine aops_split 13 rfl (fun h1 => ?_) (fun h2 => ?_)
  · (try simp only [Bool.not_eq_true', Bool.not_eq_false', Bool.not_eq_true, Bool.not_eq_false, decide_eq_true_eq, decide_eq_false_iff_not, List.length_map, List.length_range] at h1)
    refine g_pass' rfl rfl rfl rfl rfl ?_
    refine g_pass' rfl rfl rfl rfl rfl ?_
    refine aops_cons rfl (w_pure rfl (p_pick_t rfl rfl) ?_)
    refine aops_nil ?_
    refine a_cond_t rfl ?_
    refine a_seq ?_
    refine a_region ?_
    refine aops_cons rfl (w_pure rfl (p_build (cells := [_, _]) z_62 pl_62 rfl rfl) ?_)
    refine aops_cons rfl (w_store (cells' := [_, _]) rfl rfl rfl (by repeat (first | exact Pick.here _ _ _ | apply Pick.next)) cn_62 (by rfl) (by rfl) (by rfl) trivial ?_)
    refine aops_cons rfl (w_pure rfl (p_assign rfl) ?_)
    refine aops_nil ?_
    refine a_ret ?_
    refine ret_ok (hands2 rfl (.cell ag_62 rfl (by repeat (first | exact Pick.here _ _ _ | apply Pick.next)) (by rfl)) (.tmp rfl)) (.nil _) ?_
    first | exact ⟨rfl, rfl⟩ | exact absurd (show GoodSig h id from ⟨by assumption, by omega⟩) hA
  · (try simp only [Bool.not_eq_true', Bool.not_eq_false', Bool.not_eq_true, Bool.not_eq_false, decide_eq_true_eq, decide_eq_false_iff_not, List.length_map, List.length_range] at h2)
    refine aops_guard_t rfl rfl rfl (w_pure rfl (p_move rfl) ?_)
    refine aops_guard_t rfl rfl rfl (w_pure rfl (p_lss rfl rfl) ?_)
    refine aops_cons rfl (w_pure rfl (p_pick_f rfl rfl) ?_)
    refine aops_nil ?_
    first | refine a_cond_d rfl (fun h3 => ?_) (fun h4 => ?_) | refine a_cond_n rfl (fun h3 => ?_) (fun h4 => ?_) | refine a_cond_nb rfl (fun h3 => ?_) (fun h4 => ?_) | refine a_cond rfl (fun h3 => ?_) (fun h4 => ?_)
    · (try simp only [Bool.not_eq_true', Bool.not_eq_false', Bool.not_eq_true, Bool.not_eq_false, decide_eq_true_eq, decide_eq_false_iff_not, List.length_map, List.length_range] at h3)
      refine a_seq ?_
      refine a_region ?_
      refine aops_cons rfl (w_pure rfl (p_build (cells := [_, _]) z_62 pl_62 rfl rfl) ?_)
      refine aops_cons rfl (w_store (cells' := [_, _]) rfl rfl rfl (by repeat (first | exact Pick.here _ _ _ | apply Pick.next)) cn_62 (by rfl) (by rfl) (by rfl) trivial ?_)
      refine aops_cons rfl (w_pure rfl (p_assign rfl) ?_)
      refine aops_nil ?_
      refine a_ret ?_
      refine ret_ok (hands2 rfl (.cell ag_62 rfl (by repeat (first | exact Pick.here _ _ _ | apply Pick.next)) (by rfl)) (.tmp rfl)) (.nil _) ?_
      first | exact ⟨rfl, rfl⟩ | exact absurd (show GoodSig h id from ⟨by assumption, by omega⟩) hA
    · (try simp only [Bool.not_eq_true', Bool.not_eq_false', Bool.not_eq_true, Bool.not_eq_false, decide_eq_true_eq, decide_eq_false_iff_not, List.length_map, List.length_range] at h4)
      refine a_skip ?_
      refine a_seq ?_
      refine a_region ?_
      refine aops_cons rfl (w_pure rfl (p_load_v_all ag_62 rfl (by rfl) noX) ?_)
      refine aops_cons rfl (w_pure rfl (p_move rfl) ?_)
      refine aops_cons rfl (w_callR rfl rfl rfl cl_118 (c_spec_l15Signal h (by assumption) (findI h.list id) (by omega) (by omega) (by have := (IsHall.small ‹_›); omega)) ?_)
      refine aops_cons rfl (w_store (cells' := [_, _]) rfl rfl rfl (by repeat (first | exact Pick.here _ _ _ | apply Pick.next)) cn_62 (by rfl) (by rfl) (by rfl) trivial ?_)
      refine aops_cons rfl (w_pure rfl (p_assign rfl) ?_)
      refine aops_nil ?_
      refine a_ret ?_
      refine ret_ok (hands2 rfl (.cell ag_62 rfl (by repeat (first | exact Pick.here _ _ _ | apply Pick.next)) (by rfl)) (.tmp rfl)) (.nil _) ?_
      first | exact ⟨rfl, rfl⟩ | exact absurd (show GoodSig h id from ⟨by assumption, by omega⟩) hA

theorem cy_impl_SignalVcpu (h : Hall) (hn : SmallHall h) (id : Int) (hA : GoodSig h id) : ACalls Try.prog 71 [.agg (eHall h), .int .i64 id] [] (fun r st => ∃ b1 b2, r = .tup [.agg [.own 5 b1 0 (signalH h (hI h id)).list.length, .own 1 b2 0 (signalH h (hI h id)).events.length], .bool true] ∧ st = [(b1, .arr 46 5 ((signalH h (hI h id)).list.map eVcpu)), (b2, .arr 4 1 ((signalH h (hI h id)).events.map eBool))]) := by
  have hnn := hn
  obtain ⟨hn1, hn2⟩ := hnn
  have hfi := findI_lt h.list id
  refine a_enter Try.func71 rfl rfl (fun w0 M0 => ?_)
  refine a_seq ?_
  refine a_region ?_
  refine aops_cons rfl (w_box_v rfl rfl rfl ?_)
  refine aops_cons rfl (w_alloc rfl z_62 fun b1 => ?_)
  refine aops_cons rfl (w_pure rfl (p_assign rfl) ?_)
  refine aops_nil ?_
  refine a_seq ?_
  refine a_region ?_
  refine aops_cons rfl (w_pure rfl (p_field_v fo_62_0 rfl) ?_)
  refine aops_cons rfl (w_pure rfl (p_load_v ag_24 rfl (by rfl) noX) ?_)
  refine aops_cons rfl (w_pure rfl (p_move rfl) ?_)
  refine aops_cons rfl (w_callR rfl rfl rfl cl_109 (c_impl_vcpuIndex _ (by omega) _) ?_)
  refine aops_cons rfl (w_pure rfl (p_assign rfl) ?_)
  refine aops_nil ?_
  refine a_seq ?_
  refine a_seq ?_
  refine a_region ?_
  refine aops_cons rfl (w_pure rfl (p_load_v_all ag_62 rfl (by rfl) noX) ?_)
  refine aops_cons rfl (w_callR rfl rfl rfl cl_81 (c_impl_IsHall _ ‹_›) ?_)
  refine aops_cons rfl (w_pure rfl (p_not rfl) ?_)
  refine aops_cons rfl (w_pure rfl (p_move rfl) ?_)
  first | refine aops_split_d 15 rfl (fun h1 => ?_) (fun h2 => ?_) | refine aops_split 15 rfl (fun h1 => ?_) (fun h2 => ?_)
  · (try simp only [Bool.not_eq_true', Bool.not_eq_false', Bool.not_eq_true, Bool.not_eq_false, decide_eq_true_eq, decide_eq_false_iff_not, List.length_map, List.length_range] at h1)
    refine g_pass' rfl rfl rfl rfl rfl ?_
    refine g_pass' rfl rfl rfl rfl rfl ?_
    refine aops_cons rfl (w_pure rfl (p_pick_t rfl rfl) ?_)
    refine aops_nil ?_
    refine a_cond_t rfl ?_
    refine a_seq ?_
    refine a_region ?_
    refine aops_cons rfl (w_pure rfl (p_build (cells := [_, _]) z_62 pl_62 rfl rfl) ?_)
    refine aops_cons rfl (w_store (cells' := [_, _]) rfl rfl rfl (by repeat (first | exact Pick.here _ _ _ | apply Pick.next)) cn_62 (by rfl) (by rfl) (by rfl) trivial ?_)
    refine aops_cons rfl (w_pure rfl (p_assign rfl) ?_)
    refine aops_nil ?_
    refine a_ret ?_
    refine ret_ok (hands2 rfl (.cell ag_62 rfl (by repeat (first | exact Pick.here _ _ _ | apply Pick.next)) (by rfl)) (.tmp rfl)) (.nil _) ?_
    first | exact ⟨_, _, by rw [(signalH_len h _).1, (signalH_len h _).2], rfl⟩ | (exfalso; first | contradiction | omega | exact absurd hA.1 (by assumption) | exact absurd hA.2 (by omega))
  · (try simp only [Bool.not_eq_true', Bool.not_eq_false', Bool.not_eq_true, Bool.not_eq_false, decide_eq_true_eq, decide_eq_false_iff_not, List.length_map, List.length_range] at h2)
    refine aops_guard_t rfl rfl rfl (w_pure rfl (p_move rfl) ?_)
    refine aops_guard_t rfl rfl rfl (w_pure rfl (p_lss rfl rfl) ?_)
    refine aops_cons rfl (w_pure rfl (p_pick_f rfl rfl) ?_)
    refine aops_nil ?_
    first | refine a_cond_d rfl (fun h3 => ?_) (fun h4 => ?_) | refine a_cond_n rfl (fun h3 => ?_) (fun h4 => ?_) | refine a_cond_nb rfl (fun h3 => ?_) (fun h4 => ?_) | refine a_cond rfl (fun h3 => ?_) (fun h4 => ?_)
    · (try simp only [Bool.not_eq_true', Bool.not_eq_false', Bool.not_eq_true, Bool.not_eq_false, decide_eq_true_eq, decide_eq_false_iff_not, List.length_map, List.length_range] at h3)
      refine a_seq ?_
      refine a_region ?_
      refine aops_cons rfl (w_pure rfl (p_build (cells := [_, _]) z_62 pl_62 rfl rfl) ?_)
      refine aops_cons rfl (w_store (cells' := [_, _]) rfl rfl rfl (by repeat (first | exact Pick.here _ _ _ | apply Pick.next)) cn_62 (by rfl) (by rfl) (by rfl) trivial ?_)
      refine aops_cons rfl (w_pure rfl (p_assign rfl) ?_)
      refine aops_nil ?_
      refine a_ret ?_
      refine ret_ok (hands2 rfl (.cell ag_62 rfl (by repeat (first | exact Pick.here _ _ _ | apply Pick.next)) (by rfl)) (.tmp rfl)) (.nil _) ?_
      first | exact ⟨_, _, by rw [(signalH_len h _).1, (signalH_len h _).2], rfl⟩ | (exfalso; first | contradiction | omega | exact absurd hA.1 (by assumption) | exact absurd hA.2 (by omega))
    · (try simp only [Bool.not_eq_true', Bool.not_eq_false', Bool.not_eq_true, Bool.not_eq_false, decide_eq_true_eq, decide_eq_false_iff_not, List.length_map, List.length_range] at h4)
      refine a_skip ?_
      refine a_seq ?_
      refine a_region ?_
      refine aops_cons rfl (w_pure rfl (p_load_v_all ag_62 rfl (by rfl) noX) ?_)
      refine aops_cons rfl (w_call rfl rfl rfl cl_119 (co_impl_newHall h (by assumption)) ?_)
      rintro _ _ ⟨b2, b3, rfl, rfl⟩
      refine aops_cons rfl (w_alloc rfl z_62 fun b4 => ?_)
      refine aops_cons rfl (w_store (cells' := [_, _]) rfl rfl rfl (by repeat (first | exact Pick.here _ _ _ | apply Pick.next)) cn_62 (by rfl) (by rfl) (by rfl) trivial ?_)
      refine aops_nil ?_
      refine a_seq ?_
      refine a_region ?_
      refine aops_cons rfl (w_pure rfl (p_move rfl) ?_)
      refine aops_cons rfl (w_callM0 rfl rfl rfl cl_120 (.cons (by repeat (first | exact Pick.here _ _ _ | apply Pick.next)) (.cons (by repeat (first | exact Pick.here _ _ _ | apply Pick.next)) (.cons (by repeat (first | exact Pick.here _ _ _ | apply Pick.next)) (.nil _)))) (c_impl_signal _ _ _ [] h (by assumption) (findI h.list id) (by omega) (by omega) (by have := (IsHall.small ‹_›); omega)) trivial ?_)
      rintro _ _ ⟨rfl, rfl⟩
      refine aops_nil ?_
      refine a_seq ?_
      refine a_region ?_
      refine aops_cons rfl (w_pure rfl (p_load_box_all ag_62 rfl (by repeat (first | exact Pick.here _ _ _ | apply Pick.next)) (by rfl) noX) ?_)
      refine aops_cons rfl (w_store (cells' := [_, _]) rfl rfl rfl (by repeat (first | exact Pick.here _ _ _ | apply Pick.next)) cn_62 (by rfl) (by rfl) (by rfl) trivial ?_)
      refine aops_cons rfl (w_pure rfl (p_assign rfl) ?_)
      refine aops_nil ?_
      refine a_ret ?_
      refine ret_ok (hands2 rfl (.cell ag_62 rfl (by repeat (first | exact Pick.here _ _ _ | apply Pick.next)) (by rfl)) (.tmp rfl)) (st' := [(b2, _), (b3, _)]) (.cons (by repeat (first | exact Pick.here _ _ _ | apply Pick.next)) (.cons (by repeat (first | exact Pick.here _ _ _ | apply Pick.next)) (.nil _))) ?_
      first | exact ⟨_, _, by rw [(signalH_len h _).1, (signalH_len h _).2], rfl⟩ | (exfalso; first | contradiction | omega | exact absurd hA.1 (by assumption) | exact absurd hA.2 (by omega))

theorem cf_impl_SignalVcpu (h : Hall) (hn : SmallHall h) (id : Int) (hA : GoodSig h id) : ACalls Try.prog 71 [.agg (eHall h), .int .i64 id] [] (Ret (.tup [.agg (eHall (signalH h (hI h id))), .bool true])) :=
  (cy_impl_SignalVcpu h hn id hA).freeze (by rintro _ _ ⟨_, _, rfl, rfl⟩; exact (.tup (.cons (.agg (.cons (.own (by repeat (first | exact List.Mem.head _ | apply List.Mem.tail)) (List.length_map _)) (.cons (.own (by repeat (first | exact List.Mem.head _ | apply List.Mem.tail)) (List.length_map _)) .nil))) (.cons (.refl _) .nil))))

theorem cn_impl_SignalVcpu (h : Hall) (hn : SmallHall h) (id : Int) (hA : ¬ GoodSig h id) : ACalls Try.prog 71 [.agg (eHall h), .int .i64 id] [] (Ret (.tup [.agg [.nil, .nil], .bool false])) := by
  have hnn := hn
  obtain ⟨hn1, hn2⟩ := hnn
  have hfi := findI_lt h.list id
  refine a_enter Try.func71 rfl rfl (fun w0 M0 => ?_)
  refine a_seq ?_
  refine a_region ?_
  refine aops_cons rfl (w_box_v rfl rfl rfl ?_)
  refine aops_cons rfl (w_alloc rfl z_62 fun b1 => ?_)
  refine aops_cons rfl (w_pure rfl (p_assign rfl) ?_)
  refine aops_nil ?_
  refine a_seq ?_
  refine a_region ?_
  refine aops_cons rfl (w_pure rfl (p_field_v fo_62_0 rfl) ?_)
  refine aops_cons rfl (w_pure rfl (p_load_v ag_24 rfl (by rfl) noX) ?_)
  refine aops_cons rfl (w_pure rfl (p_move rfl) ?_)
  refine aops_cons rfl (w_callR rfl rfl rfl cl_109 (c_impl_vcpuIndex _ (by omega) _) ?_)
  refine aops_cons rfl (w_pure rfl (p_assign rfl) ?_)
  refine aops_nil ?_
  refine a_seq ?_
  refine a_seq ?_
  refine a_region ?_
  refine aops_cons rfl (w_pure rfl (p_load_v_all ag_62 rfl (by rfl) noX) ?_)
  refine aops_cons rfl (w_callR rfl rfl rfl cl_81 (c_impl_IsHall _ ‹_›) ?_)
  refine aops_cons rfl (w_pure rfl (p_not rfl) ?_)
  refine aops_cons rfl (w_pure rfl (p_move rfl) ?_)
  first | refine aops_split_d 15 rfl (fun h1 => ?_) (fun h2 => ?_) | refine aops_split 15 rfl (fun h1 => ?_) (fun h2 => ?_)
  · (try simp only [Bool.not_eq_true', Bool.not_eq_false', Bool.not_eq_true, Bool.not_eq_false, decide_eq_true_eq, decide_eq_false_iff_not, List.length_map, List.length_range] at h1)
    refine g_pass' rfl rfl rfl rfl rfl ?_
    refine g_pass' rfl rfl rfl rfl rfl ?_
    refine aops_cons rfl (w_pure rfl (p_pick_t rfl rfl) ?_)
    refine aops_nil ?_
    refine a_cond_t rfl ?_
    refine a_seq ?_
    refine a_region ?_
    refine aops_cons rfl (w_pure rfl (p_build (cells := [_, _]) z_62 pl_62 rfl rfl) ?_)
    refine aops_cons rfl (w_store (cells' := [_, _]) rfl rfl rfl (by repeat (first | exact Pick.here _ _ _ | apply Pick.next)) cn_62 (by rfl) (by rfl) (by rfl) trivial ?_)
    refine aops_cons rfl (w_pure rfl (p_assign rfl) ?_)
    refine aops_nil ?_
    refine a_ret ?_
    refine ret_ok (hands2 rfl (.cell ag_62 rfl (by repeat (first | exact Pick.here _ _ _ | apply Pick.next)) (by rfl)) (.tmp rfl)) (.nil _) ?_
    first | exact ⟨rfl, rfl⟩ | exact absurd (show GoodSig h id from ⟨by assumption, by omega⟩) hA
  · (try simp only [Bool.not_eq_true', Bool.not_eq_false', Bool.not_eq_true, Bool.not_eq_false, decide_eq_true_eq, decide_eq_false_iff_not, List.length_map, List.length_range] at h2)
    refine aops_guard_t rfl rfl rfl (w_pure rfl (p_move rfl) ?_)
    refine aops_guard_t rfl rfl rfl (w_pure rfl (p_lss rfl rfl) ?_)
    refine aops_cons rfl (w_pure rfl (p_pick_f rfl rfl) ?_)
    refine aops_nil ?_
    first | refine a_cond_d rfl (fun h3 => ?_) (fun h4 => ?_) | refine a_cond_n rfl (fun h3 => ?_) (fun h4 => ?_) | refine a_cond_nb rfl (fun h3 => ?_) (fun h4 => ?_) | refine a_cond rfl (fun h3 => ?_) (fun h4 => ?_)
    · (try simp only [Bool.not_eq_true', Bool.not_eq_false', Bool.not_eq_true, Bool.not_eq_false, decide_eq_true_eq, decide_eq_false_iff_not, List.length_map, List.length_range] at h3)
      refine a_seq ?_
      refine a_region ?_
      refine aops_cons rfl (w_pure rfl (p_build (cells := [_, _]) z_62 pl_62 rfl rfl) ?_)
      refine aops_cons rfl (w_store (cells' := [_, _]) rfl rfl rfl (by repeat (first | exact Pick.here _ _ _ | apply Pick.next)) cn_62 (by rfl) (by rfl) (by rfl) trivial ?_)
      refine aops_cons rfl (w_pure rfl (p_assign rfl) ?_)
      refine aops_nil ?_
      refine a_ret ?_
      refine ret_ok (hands2 rfl (.cell ag_62 rfl (by repeat (first | exact Pick.here _ _ _ | apply Pick.next)) (by rfl)) (.tmp rfl)) (.nil _) ?_
      first | exact ⟨rfl, rfl⟩ | exact absurd (show GoodSig h id from ⟨by assumption, by omega⟩) hA
    · (try simp only [Bool.not_eq_true', Bool.not_eq_false', Bool.not_eq_true, Bool.not_eq_false, decide_eq_true_eq, decide_eq_false_iff_not, List.length_map, List.length_range] at h4)
      refine a_skip ?_
      refine a_seq ?_
      refine a_region ?_
      refine aops_cons rfl (w_pure rfl (p_load_v_all ag_62 rfl (by rfl) noX) ?_)
      refine aops_cons rfl (w_call rfl rfl rfl cl_119 (co_impl_newHall h (by assumption)) ?_)
      rintro _ _ ⟨b2, b3, rfl, rfl⟩
      refine aops_cons rfl (w_alloc rfl z_62 fun b4 => ?_)
      refine aops_cons rfl (w_store (cells' := [_, _]) rfl rfl rfl (by repeat (first | exact Pick.here _ _ _ | apply Pick.next)) cn_62 (by rfl) (by rfl) (by rfl) trivial ?_)
      refine aops_nil ?_
      refine a_seq ?_
      refine a_region ?_
      refine aops_cons rfl (w_pure rfl (p_move rfl) ?_)
      refine aops_cons rfl (w_callM0 rfl rfl rfl cl_120 (.cons (by repeat (first | exact Pick.here _ _ _ | apply Pick.next)) (.cons (by repeat (first | exact Pick.here _ _ _ | apply Pick.next)) (.cons (by repeat (first | exact Pick.here _ _ _ | apply Pick.next)) (.nil _)))) (c_impl_signal _ _ _ [] h (by assumption) (findI h.list id) (by omega) (by omega) (by have := (IsHall.small ‹_›); omega)) trivial ?_)
      rintro _ _ ⟨rfl, rfl⟩
      refine aops_nil ?_
      refine a_seq ?_
      refine a_region ?_
      refine aops_cons rfl (w_pure rfl (p_load_box_all ag_62 rfl (by repeat (first | exact Pick.here _ _ _ | apply Pick.next)) (by rfl) noX) ?_)
      refine aops_cons rfl (w_store (cells' := [_, _]) rfl rfl rfl (by repeat (first | exact Pick.here _ _ _ | apply Pick.next)) cn_62 (by rfl) (by rfl) (by rfl) trivial ?_)
      refine aops_cons rfl (w_pure rfl (p_assign rfl) ?_)
      refine aops_nil ?_
      refine a_ret ?_
      refine ret_ok (hands2 rfl (.cell ag_62 rfl (by repeat (first | exact Pick.here _ _ _ | apply Pick.next)) (by rfl)) (.tmp rfl)) (st' := [(b2, _), (b3, _)]) (.cons (by repeat (first | exact Pick.here _ _ _ | apply Pick.next)) (.cons (by repeat (first | exact Pick.here _ _ _ | apply Pick.next)) (.nil _))) ?_
      first | exact ⟨rfl, rfl⟩ | exact absurd (show GoodSig h id from ⟨by assumption, by omega⟩) hA

set_option maxHeartbeats 2000000 in
theorem c_laws_FnExactSignalVcpu (h : Hall) (_hc0 : okHall h) (id : Int) (_hc1 : InI id) : ACalls Try.prog 13 [.agg (eHall h), .int .i64 id] [] (Ret (.bool true)) := by
  have hm0 : h.list.length ≤ 9223372036854775807 ∧ h.events.length ≤ 9223372036854775807 := ⟨_hc0.1.2, _hc0.2.1.2⟩
  have hq0 : szHall h 1048576 ≤ 1048576 := szHall_ub (Int.le_refl _)
  by_cases hA : GoodSig h id
  all_goals refine a_enter Try.func13 rfl rfl (fun w0 M0 => ?_)
  · skip
    refine a_seq ?_
    refine a_region ?_
    refine aops_cons rfl (w_box_v rfl rfl rfl ?_)
    refine aops_cons rfl (w_pure rfl (p_assign rfl) ?_)
    refine aops_nil ?_
    refine a_seq ?_
    refine a_region ?_
    refine aops_cons rfl (w_pure rfl (p_assign rfl) ?_)
    refine aops_nil ?_
    refine a_seq ?_
    refine a_region ?_
    refine aops_cons rfl (w_pure rfl (p_load_v_all ag_56 rfl (by rfl) noX) ?_)
    refine aops_cons rfl (w_pure rfl (p_move rfl) ?_)
    refine aops_cons rfl (w_callR rfl rfl rfl cl_53 (c_laws_szHall _ (by assumption) _ (by omega) (by omega)) ?_)
    refine aops_cons rfl (w_pure rfl (p_assign rfl) ?_)
    refine aops_nil ?_
    refine a_seq ?_
    refine a_seq ?_
    refine a_region ?_
    refine aops_cons rfl (w_pure rfl (p_move rfl) ?_)
    refine aops_cons rfl (w_pure rfl (p_lss rfl rfl) ?_)
    refine aops_nil ?_
    first | refine a_cond_d rfl (fun h1 => ?_) (fun h2 => ?_) | refine a_cond_n rfl (fun h1 => ?_) (fun h2 => ?_) | refine a_cond_nb rfl (fun h1 => ?_) (fun h2 => ?_) | refine a_cond rfl (fun h1 => ?_) (fun h2 => ?_)
    · (try simp only [Bool.not_eq_true', Bool.not_eq_false', Bool.not_eq_true, Bool.not_eq_false, decide_eq_true_eq, decide_eq_false_iff_not, List.length_map, List.length_range] at h1)
      refine a_seq ?_
      refine a_region ?_
      refine aops_cons rfl (w_pure rfl (p_assign rfl) ?_)
      refine aops_nil ?_
      refine a_ret ?_
      refine ret_ok (hands1 rfl (.tmp rfl)) (.nil _) ?_
      first | exact ⟨rfl, rfl⟩ | (exfalso; omega)
    · (try simp only [Bool.not_eq_true', Bool.not_eq_false', Bool.not_eq_true, Bool.not_eq_false, decide_eq_true_eq, decide_eq_false_iff_not, List.length_map, List.length_range] at h2)
      refine a_skip ?_
      refine a_seq ?_
      have hl0 : SmallHall h := szHall_le (left := 1048576) (by omega) (by omega) ‹_›; have hz0_ := hl0; simp only [SmallHall] at hz0_; obtain ⟨hz0_0, hz0_1⟩ := hz0_; have hr0 : SmallHall (signalH h (hI h id)) := (small_of hA.1 (signalH_len h _)); have hy0_ := hr0; simp only [SmallHall] at hy0_; obtain ⟨hy0_0, hy0_1⟩ := hy0_
      refine a_region ?_
      refine aops_cons rfl (w_pure rfl (p_load_v_all ag_56 rfl (by rfl) noX) ?_)
      refine aops_cons rfl (w_callR rfl rfl rfl cl_56 (c_laws_toHall h hl0) ?_)
      refine aops_cons rfl (w_pure rfl (p_move rfl) ?_)
      refine aops_cons rfl (w_callR rfl rfl rfl cl_70 (cy_spec_SignalVcpu h hl0 id hA) ?_)
      refine aops_cons rfl (w_pure rfl (p_move rfl) ?_)
      refine aops_cons rfl (w_pure rfl (p_extract rfl rfl) ?_)
      refine aops_cons rfl (w_pure rfl (p_extract rfl rfl) ?_)
      refine aops_cons rfl (w_alloc rfl z_62 fun b1 => ?_)
      refine aops_cons rfl (w_store (cells' := [_, _]) rfl rfl rfl (by repeat (first | exact Pick.here _ _ _ | apply Pick.next)) cn_62 (by rfl) (by rfl) (by rfl) trivial ?_)
      refine aops_cons rfl (w_pure rfl (p_assign rfl) ?_)
      refine aops_nil ?_
      refine a_seq ?_
      refine a_region ?_
      refine aops_cons rfl (w_pure rfl (p_load_v_all ag_56 rfl (by rfl) noX) ?_)
      refine aops_cons rfl (w_call rfl rfl rfl cl_56 (co_laws_toHall h hl0) ?_)
      rintro _ _ ⟨b2, b3, rfl, rfl⟩
      refine aops_cons rfl (w_alloc rfl z_62 fun b4 => ?_)
      refine aops_cons rfl (w_store (cells' := [_, _]) rfl rfl rfl (by repeat (first | exact Pick.here _ _ _ | apply Pick.next)) cn_62 (by rfl) (by rfl) (by rfl) trivial ?_)
      refine aops_nil ?_
      refine a_seq ?_
      refine a_region ?_
      refine aops_cons rfl (w_pure rfl (p_load_box_all ag_62 rfl (by repeat (first | exact Pick.here _ _ _ | apply Pick.next)) (by rfl) noX) ?_)
      refine aops_cons rfl (w_pure rfl (p_move rfl) ?_)
      refine aops_cons rfl (w_callL rfl rfl rfl cl_71 (.cons (.agg (.cons (.own (by repeat (first | exact List.Mem.head _ | apply List.Mem.tail)) (by first | (simp; done) | (simp; assumption) | (simp; omega) | (simp [mkL]; done))) (.cons (.own (by repeat (first | exact List.Mem.head _ | apply List.Mem.tail)) (by first | (simp; done) | (simp; assumption) | (simp; omega) | (simp [mkL]; done))) .nil))) (.cons (.refl _) .nil)) (cy_impl_SignalVcpu h hl0 id hA) ?_)
      rintro _ _ ⟨b5, b6, rfl, rfl⟩
      refine ⟨(closed_tup (all_cons' (closed_agg (all_cons' (closed_own _ _ _ _) (all_cons' (closed_own _ _ _ _) all_nil'))) (all_cons' (closed_bool _) all_nil'))), (closedS_cons (closedAll _ _ _ _ cl_eVcpu) (closedS_cons (closedAll _ _ _ _ cl_eBool) closedS_nil)), ?_⟩
      refine aops_cons rfl (w_pure rfl (p_move rfl) ?_)
      refine aops_cons rfl (w_pure rfl (p_extract rfl rfl) ?_)
      refine aops_cons rfl (w_pure rfl (p_extract rfl rfl) ?_)
      refine aops_cons rfl (w_alloc rfl z_62 fun b7 => ?_)
      refine aops_cons rfl (w_store (cells' := [_, _]) rfl rfl rfl (by repeat (first | exact Pick.here _ _ _ | apply Pick.next)) cn_62 (by rfl) (by rfl) (by rfl) trivial ?_)
      refine aops_cons rfl (w_pure rfl (p_assign rfl) ?_)
      refine aops_nil ?_
      refine a_seq ?_
      refine a_seq ?_
      refine a_region ?_
      refine aops_cons rfl (w_pure rfl (p_load_box_all ag_62 rfl (by repeat (first | exact Pick.here _ _ _ | apply Pick.next)) (by rfl) noX) ?_)
      refine aops_cons rfl (w_pure rfl (p_load_box_all ag_62 rfl (by repeat (first | exact Pick.here _ _ _ | apply Pick.next)) (by rfl) noX) ?_)
      refine aops_cons rfl (w_callLR rfl rfl rfl cl_59 (.cons (.agg (.cons (.own (by repeat (first | exact List.Mem.head _ | apply List.Mem.tail)) (by first | (simp; done) | (simp; assumption) | (simp; omega) | (simp [mkL]; done))) (.cons (.own (by repeat (first | exact List.Mem.head _ | apply List.Mem.tail)) (by first | (simp; done) | (simp; assumption) | (simp; omega) | (simp [mkL]; done))) .nil))) (.cons (.refl _) .nil)) (c_laws_eqHall (signalH h (hI h id)) (small_of hA.1 (signalH_len h _))) (closed_bool _) ?_)
      refine aops_cons rfl (w_pure rfl (p_not rfl) ?_)
      refine aops_cons rfl (w_pure rfl (p_move rfl) ?_)
      refine aops_guard_t rfl rfl rfl (w_pure rfl (p_move rfl) ?_)
      refine aops_guard_t rfl rfl rfl (w_pure rfl (p_move rfl) ?_)
      refine aops_guard_t rfl rfl rfl (w_pure rfl (p_neq_bsame um_4 rfl rfl) ?_)
      refine aops_cons rfl (w_pure rfl (p_pick_f rfl rfl) ?_)
      refine aops_nil ?_
      refine a_cond_f rfl ?_
      refine a_skip ?_
      refine a_seq ?_
      refine a_seq ?_
      refine a_draw [] (by kernel_rfl) ?_
      show ADraw _ _ _ _ _ _ 5 _ _ _ _
      refine d_load 0 rfl (by kernel_rfl) (by kernel_rfl) (by kernel_rfl) rfl (p_load_box_all ag_62 rfl (by repeat (first | exact Pick.here _ _ _ | apply Pick.next)) (by rfl) noX) ?_
      refine d_load 1 rfl (by kernel_rfl) (by kernel_rfl) (by kernel_rfl) rfl (p_load_v_all ag_56 rfl (by rfl) noX) ?_
      refine draw_all [2] (by kernel_rfl) (by simp) ?_
      refine all_cons rfl rfl ?_ ?_
      · skip
        refine w_callR rfl rfl rfl cl_56 (c_laws_toHall h hl0) ?_
        refine draw_all [3] (by kernel_rfl) (by simp) ?_
        refine all_cons rfl rfl ?_ ?_
        · skip
          refine w_callLR rfl rfl rfl cl_59 (.cons (.agg (.cons (.own (by repeat (first | exact List.Mem.head _ | apply List.Mem.tail)) (by first | (simp; done) | (simp; assumption) | (simp; omega) | (simp [mkL]; done))) (.cons (.own (by repeat (first | exact List.Mem.head _ | apply List.Mem.tail)) (by first | (simp; done) | (simp; assumption) | (simp; omega) | (simp [mkL]; done))) .nil))) (.cons (.refl _) .nil)) (c_laws_eqHall h hl0) (closed_bool _) ?_
          refine d_take 4 rfl (by kernel_rfl) (by kernel_rfl) (by kernel_rfl) rfl (p_not rfl) ?_
          refine draw_done (by kernel_rfl) ?_
          refine a_cond_f rfl ?_
          refine a_skip ?_
          refine a_seq ?_
          refine a_region ?_
          refine aops_cons rfl (w_pure rfl (p_assign rfl) ?_)
          refine aops_nil ?_
          refine a_seq ?_
          refine a_region ?_
          refine aops_cons rfl (w_pure rfl (p_load_box_all ag_62 rfl (by repeat (first | exact Pick.here _ _ _ | apply Pick.next)) (by rfl) noX) ?_)
          refine aops_cons rfl (w_pure rfl (p_move rfl) ?_)
          refine aops_cons rfl (w_callM rfl rfl rfl cl_63 (.cons (by repeat (first | exact Pick.here _ _ _ | apply Pick.next)) (.cons (by repeat (first | exact Pick.here _ _ _ | apply Pick.next)) (.nil _))) (.cons (.refl _) (.cons (.refl _) .nil)) (c_laws_markHall _ _ h hl0 _ (by first | omega | (simp; done) | (simp; omega)) (by first | omega | (simp; done) | (simp; omega))) trivial ?_)
          rintro _ _ ⟨rfl, rfl⟩
          refine ⟨(closed_int _ _), (closedS_cons (closedAll _ _ _ _ cl_eVcpu) (closedS_cons (closedAll _ _ _ _ cl_eBool) closedS_nil)), ?_⟩
          refine aops_cons rfl (w_pure rfl (p_assign rfl) ?_)
          refine aops_nil ?_
          refine a_seq ?_
          refine a_seq ?_
          refine a_region ?_
          refine aops_cons rfl (w_pure rfl (p_move rfl) ?_)
          refine aops_cons rfl (w_pure rfl (p_lss rfl rfl) ?_)
          refine aops_cons rfl (w_pure rfl (p_move rfl) ?_)
          first | refine aops_split_d 55 rfl (fun h3 => ?_) (fun h4 => ?_) | refine aops_split 55 rfl (fun h3 => ?_) (fun h4 => ?_)
          · (try simp only [Bool.not_eq_true', Bool.not_eq_false', Bool.not_eq_true, Bool.not_eq_false, decide_eq_true_eq, decide_eq_false_iff_not, List.length_map, List.length_range] at h3)
            refine g_pass' rfl rfl rfl rfl rfl ?_
            refine g_pass' rfl rfl rfl rfl rfl ?_
            refine g_pass' rfl rfl rfl rfl rfl ?_
            refine g_pass' rfl rfl rfl rfl rfl ?_
            refine aops_cons rfl (w_pure rfl (p_pick_t rfl rfl) ?_)
            refine aops_cons rfl (w_pure rfl (p_move rfl) ?_)
            refine g_pass' rfl rfl rfl rfl rfl ?_
            refine g_pass' rfl rfl rfl rfl rfl ?_
            refine g_pass' rfl rfl rfl rfl rfl ?_
            refine aops_cons rfl (w_pure rfl (p_pick_t rfl rfl) ?_)
            refine aops_nil ?_
            refine a_cond_t rfl ?_
            refine a_seq ?_
            refine a_region ?_
            refine aops_cons rfl (w_pure rfl (p_assign rfl) ?_)
            refine aops_nil ?_
            refine a_ret ?_
            refine ret_ok (hands1 rfl (.tmp rfl)) (.nil _) ?_
            first | exact ⟨rfl, rfl⟩ | (exfalso; omega)
          · (try simp only [Bool.not_eq_true', Bool.not_eq_false', Bool.not_eq_true, Bool.not_eq_false, decide_eq_true_eq, decide_eq_false_iff_not, List.length_map, List.length_range] at h4)
            refine aops_guard_t rfl rfl rfl (w_pure rfl (p_load_box_all ag_62 rfl (by repeat (first | exact Pick.here _ _ _ | apply Pick.next)) (by rfl) noX) ?_)
            refine aops_guard_t rfl rfl rfl (w_pure rfl (p_load_box_all ag_62 rfl (by repeat (first | exact Pick.here _ _ _ | apply Pick.next)) (by rfl) noX) ?_)
            refine aops_guard_t rfl rfl rfl (w_callLR rfl rfl rfl cl_59 (.cons (.agg (.cons (.own (by repeat (first | exact List.Mem.head _ | apply List.Mem.tail)) (by first | (simp; done) | (simp; assumption) | (simp; omega) | (simp [mkL]; done))) (.cons (.own (by repeat (first | exact List.Mem.head _ | apply List.Mem.tail)) (by first | (simp; done) | (simp; assumption) | (simp; omega) | (simp [mkL]; done))) .nil))) (.cons (.refl _) .nil)) (c_laws_eqHall (signalH h (hI h id)) (small_of hA.1 (signalH_len h _))) (closed_bool _) ?_)
            refine aops_guard_t rfl rfl rfl (w_pure rfl (p_not rfl) ?_)
            refine aops_cons rfl (w_pure rfl (p_pick_f rfl rfl) ?_)
            refine aops_cons rfl (w_pure rfl (p_move rfl) ?_)
            refine aops_guard_t rfl rfl rfl (w_pure rfl (p_move rfl) ?_)
            refine aops_guard_t rfl rfl rfl (w_pure rfl (p_move rfl) ?_)
            refine aops_guard_t rfl rfl rfl (w_pure rfl (p_neq_bsame um_4 rfl rfl) ?_)
            refine aops_cons rfl (w_pure rfl (p_pick_f rfl rfl) ?_)
            refine aops_nil ?_
            refine a_cond_f rfl ?_
            refine a_skip ?_
            refine a_seq ?_
            refine a_region ?_
            refine aops_cons rfl (w_pure rfl (p_assign rfl) ?_)
            refine aops_nil ?_
            refine a_seq ?_
            refine a_region ?_
            refine aops_cons rfl (w_pure rfl (p_load_box_all ag_62 rfl (by repeat (first | exact Pick.here _ _ _ | apply Pick.next)) (by rfl) noX) ?_)
            refine aops_cons rfl (w_pure rfl (p_move rfl) ?_)
            refine aops_cons rfl (w_callM rfl rfl rfl cl_63 (.cons (by repeat (first | exact Pick.here _ _ _ | apply Pick.next)) (.cons (by repeat (first | exact Pick.here _ _ _ | apply Pick.next)) (.nil _))) (.cons (.refl _) (.cons (.refl _) .nil)) (c_laws_markHall _ _ (signalH h (hI h id)) (small_of hA.1 (signalH_len h _)) _ (by first | omega | (simp; done) | (simp; omega)) (by first | omega | (simp; done) | (simp; omega))) trivial ?_)
            rintro _ _ ⟨rfl, rfl⟩
            refine ⟨(closed_int _ _), (closedS_cons (closedAll _ _ _ _ cl_eVcpu) (closedS_cons (closedAll _ _ _ _ cl_eBool) closedS_nil)), ?_⟩
            refine aops_cons rfl (w_pure rfl (p_assign rfl) ?_)
            refine aops_nil ?_
            refine a_seq ?_
            refine a_region ?_
            refine aops_cons rfl (w_pure rfl (p_assign rfl) ?_)
            refine aops_nil ?_
            refine a_seq ?_
            refine a_region ?_
            refine aops_cons rfl (w_pure rfl (p_load_box_all ag_62 rfl (by repeat (first | exact Pick.here _ _ _ | apply Pick.next)) (by rfl) noX) ?_)
            refine aops_cons rfl (w_pure rfl (p_move rfl) ?_)
            refine aops_cons rfl (w_callLR rfl rfl rfl cl_65 (.cons (.agg (.cons (.own (by repeat (first | exact List.Mem.head _ | apply List.Mem.tail)) (by first | (simp; done) | (simp; assumption) | (simp; omega) | (simp [mkL]; done))) (.cons (.own (by repeat (first | exact List.Mem.head _ | apply List.Mem.tail)) (by first | (simp; done) | (simp; assumption) | (simp; omega) | (simp [mkL]; done))) .nil))) (.cons (.refl _) .nil)) (c_laws_heldHall (signalH h (hI h id)) (small_of hA.1 (signalH_len h _)) _ (by first | omega | (simp; done) | (simp; omega)) (by first | omega | (simp; done) | (simp; omega))) (closed_int _ _) ?_)
            refine aops_cons rfl (w_pure rfl (p_assign rfl) ?_)
            refine aops_nil ?_
            refine a_seq ?_
            refine a_seq ?_
            refine a_region ?_
            refine aops_cons rfl (w_pure rfl (p_move rfl) ?_)
            refine aops_cons rfl (w_pure rfl (p_lss rfl rfl) ?_)
            refine aops_nil ?_
            first | refine a_cond_d rfl (fun h5 => ?_) (fun h6 => ?_) | refine a_cond_n rfl (fun h5 => ?_) (fun h6 => ?_) | refine a_cond_nb rfl (fun h5 => ?_) (fun h6 => ?_) | refine a_cond rfl (fun h5 => ?_) (fun h6 => ?_)
            · (try simp only [Bool.not_eq_true', Bool.not_eq_false', Bool.not_eq_true, Bool.not_eq_false, decide_eq_true_eq, decide_eq_false_iff_not, List.length_map, List.length_range] at h5)
              refine a_seq ?_
              refine a_region ?_
              refine aops_cons rfl (w_pure rfl (p_assign rfl) ?_)
              refine aops_nil ?_
              refine a_ret ?_
              refine ret_ok (hands1 rfl (.tmp rfl)) (.nil _) ?_
              first | exact ⟨rfl, rfl⟩ | (exfalso; omega)
            · (try simp only [Bool.not_eq_true', Bool.not_eq_false', Bool.not_eq_true, Bool.not_eq_false, decide_eq_true_eq, decide_eq_false_iff_not, List.length_map, List.length_range] at h6)
              refine a_skip ?_
              refine a_seq ?_
              refine a_seq ?_
              refine a_region ?_
              refine aops_cons rfl (w_pure rfl (p_move rfl) ?_)
              refine aops_cons rfl (w_pure rfl (p_move rfl) ?_)
              refine aops_cons rfl (w_pure rfl (p_neq_same rfl rfl) ?_)
              refine aops_nil ?_
              refine a_cond_f rfl ?_
              refine a_skip ?_
              refine a_seq ?_
              refine a_region ?_
              refine aops_cons rfl (w_pure rfl (p_load_v_all ag_56 rfl (by rfl) noX) ?_)
              refine aops_cons rfl (w_callR rfl rfl rfl cl_56 (c_laws_toHall h hl0) ?_)
              refine aops_cons rfl (w_pure rfl (p_move rfl) ?_)
              refine aops_cons rfl (w_callR rfl rfl rfl cl_71 (cf_impl_SignalVcpu h hl0 id hA) ?_)
              refine aops_cons rfl (w_pure rfl (p_move rfl) ?_)
              refine aops_cons rfl (w_pure rfl (p_extract rfl rfl) ?_)
              refine aops_cons rfl (w_pure rfl (p_extract rfl rfl) ?_)
              refine aops_cons rfl (w_alloc rfl z_62 fun b8 => ?_)
              refine aops_cons rfl (w_store (cells' := [_, _]) rfl rfl rfl (by repeat (first | exact Pick.here _ _ _ | apply Pick.next)) cn_62 (by rfl) (by rfl) (by rfl) trivial ?_)
              refine aops_cons rfl (w_pure rfl (p_assign rfl) ?_)
              refine aops_nil ?_
              refine a_seq ?_
              refine a_seq ?_
              refine a_region ?_
              refine aops_cons rfl (w_pure rfl (p_load_box_all ag_62 rfl (by repeat (first | exact Pick.here _ _ _ | apply Pick.next)) (by rfl) noX) ?_)
              refine aops_cons rfl (w_pure rfl (p_load_box_all ag_62 rfl (by repeat (first | exact Pick.here _ _ _ | apply Pick.next)) (by rfl) noX) ?_)
              refine aops_cons rfl (w_callLR rfl rfl rfl cl_59 (.cons (.refl _) (.cons (.refl _) .nil)) (c_laws_eqHall (signalH h (hI h id)) (small_of hA.1 (signalH_len h _))) (closed_bool _) ?_)
              refine aops_cons rfl (w_pure rfl (p_not rfl) ?_)
              refine aops_cons rfl (w_pure rfl (p_move rfl) ?_)
              refine aops_guard_t rfl rfl rfl (w_pure rfl (p_move rfl) ?_)
              refine aops_guard_t rfl rfl rfl (w_pure rfl (p_move rfl) ?_)
              refine aops_guard_t rfl rfl rfl (w_pure rfl (p_neq_bsame um_4 rfl rfl) ?_)
              refine aops_cons rfl (w_pure rfl (p_pick_f rfl rfl) ?_)
              refine aops_nil ?_
              refine a_cond_f rfl ?_
              refine a_skip ?_
              refine a_seq ?_
              refine a_region ?_
              refine aops_cons rfl (w_pure rfl (p_assign rfl) ?_)
              refine aops_nil ?_
              refine a_seq ?_
              refine a_region ?_
              refine aops_cons rfl (w_pure rfl (p_load_box_all ag_62 rfl (by repeat (first | exact Pick.here _ _ _ | apply Pick.next)) (by rfl) noX) ?_)
              refine aops_cons rfl (w_pure rfl (p_move rfl) ?_)
              refine aops_cons rfl (w_callLR rfl rfl rfl cl_65 (.cons (.agg (.cons (.own (by repeat (first | exact List.Mem.head _ | apply List.Mem.tail)) (by first | (simp; done) | (simp; assumption) | (simp; omega) | (simp [mkL]; done))) (.cons (.own (by repeat (first | exact List.Mem.head _ | apply List.Mem.tail)) (by first | (simp; done) | (simp; assumption) | (simp; omega) | (simp [mkL]; done))) .nil))) (.cons (.refl _) .nil)) (c_laws_heldHall (signalH h (hI h id)) (small_of hA.1 (signalH_len h _)) _ (by first | omega | (simp; done) | (simp; omega)) (by first | omega | (simp; done) | (simp; omega))) (closed_int _ _) ?_)
              refine aops_cons rfl (w_pure rfl (p_assign rfl) ?_)
              refine aops_nil ?_
              refine a_seq ?_
              refine a_seq ?_
              refine a_region ?_
              refine aops_cons rfl (w_pure rfl (p_move rfl) ?_)
              refine aops_cons rfl (w_pure rfl (p_lss rfl rfl) ?_)
              refine aops_nil ?_
              first | refine a_cond_d rfl (fun h7 => ?_) (fun h8 => ?_) | refine a_cond_n rfl (fun h7 => ?_) (fun h8 => ?_) | refine a_cond_nb rfl (fun h7 => ?_) (fun h8 => ?_) | refine a_cond rfl (fun h7 => ?_) (fun h8 => ?_)
              · (try simp only [Bool.not_eq_true', Bool.not_eq_false', Bool.not_eq_true, Bool.not_eq_false, decide_eq_true_eq, decide_eq_false_iff_not, List.length_map, List.length_range] at h7)
                refine a_seq ?_
                refine a_region ?_
                refine aops_cons rfl (w_pure rfl (p_assign rfl) ?_)
                refine aops_nil ?_
                refine a_ret ?_
                refine ret_ok (hands1 rfl (.tmp rfl)) (.nil _) ?_
                first | exact ⟨rfl, rfl⟩ | (exfalso; omega)
              · (try simp only [Bool.not_eq_true', Bool.not_eq_false', Bool.not_eq_true, Bool.not_eq_false, decide_eq_true_eq, decide_eq_false_iff_not, List.length_map, List.length_range] at h8)
                refine a_skip ?_
                refine a_seq ?_
                refine a_seq ?_
                refine a_region ?_
                refine aops_cons rfl (w_pure rfl (p_move rfl) ?_)
                refine aops_cons rfl (w_pure rfl (p_move rfl) ?_)
                refine aops_cons rfl (w_pure rfl (p_neq_same rfl rfl) ?_)
                refine aops_nil ?_
                refine a_cond_f rfl ?_
                refine a_skip ?_
                refine a_seq ?_
                refine a_region ?_
                refine aops_cons rfl (w_pure rfl (p_assign rfl) ?_)
                refine aops_nil ?_
                refine a_ret ?_
                refine ret_ok (hands1 rfl (.tmp rfl)) (.nil _) ?_
                first | exact ⟨rfl, rfl⟩ | (exfalso; omega)
        exact all_nil
      exact all_nil
  · skip
    refine a_seq ?_
    refine a_region ?_
    refine aops_cons rfl (w_box_v rfl rfl rfl ?_)
    refine aops_cons rfl (w_pure rfl (p_assign rfl) ?_)
    refine aops_nil ?_
    refine a_seq ?_
    refine a_region ?_
    refine aops_cons rfl (w_pure rfl (p_assign rfl) ?_)
    refine aops_nil ?_
    refine a_seq ?_
    refine a_region ?_
    refine aops_cons rfl (w_pure rfl (p_load_v_all ag_56 rfl (by rfl) noX) ?_)
    refine aops_cons rfl (w_pure rfl (p_move rfl) ?_)
    refine aops_cons rfl (w_callR rfl rfl rfl cl_53 (c_laws_szHall _ (by assumption) _ (by omega) (by omega)) ?_)
    refine aops_cons rfl (w_pure rfl (p_assign rfl) ?_)
    refine aops_nil ?_
    refine a_seq ?_
    refine a_seq ?_
    refine a_region ?_
    refine aops_cons rfl (w_pure rfl (p_move rfl) ?_)
    refine aops_cons rfl (w_pure rfl (p_lss rfl rfl) ?_)
    refine aops_nil ?_
    first | refine a_cond_d rfl (fun h1 => ?_) (fun h2 => ?_) | refine a_cond_n rfl (fun h1 => ?_) (fun h2 => ?_) | refine a_cond_nb rfl (fun h1 => ?_) (fun h2 => ?_) | refine a_cond rfl (fun h1 => ?_) (fun h2 => ?_)
    · (try simp only [Bool.not_eq_true', Bool.not_eq_false', Bool.not_eq_true, Bool.not_eq_false, decide_eq_true_eq, decide_eq_false_iff_not, List.length_map, List.length_range] at h1)
      refine a_seq ?_
      refine a_region ?_
      refine aops_cons rfl (w_pure rfl (p_assign rfl) ?_)
      refine aops_nil ?_
      refine a_ret ?_
      refine ret_ok (hands1 rfl (.tmp rfl)) (.nil _) ?_
      first | exact ⟨rfl, rfl⟩ | (exfalso; omega)
    · (try simp only [Bool.not_eq_true', Bool.not_eq_false', Bool.not_eq_true, Bool.not_eq_false, decide_eq_true_eq, decide_eq_false_iff_not, List.length_map, List.length_range] at h2)
      refine a_skip ?_
      refine a_seq ?_
      have hl0 : SmallHall h := szHall_le (left := 1048576) (by omega) (by omega) ‹_›; have hz0_ := hl0; simp only [SmallHall] at hz0_; obtain ⟨hz0_0, hz0_1⟩ := hz0_
      refine a_region ?_
      refine aops_cons rfl (w_pure rfl (p_load_v_all ag_56 rfl (by rfl) noX) ?_)
      refine aops_cons rfl (w_callR rfl rfl rfl cl_56 (c_laws_toHall h hl0) ?_)
      refine aops_cons rfl (w_pure rfl (p_move rfl) ?_)
      refine aops_cons rfl (w_callR rfl rfl rfl cl_70 (cn_spec_SignalVcpu h hl0 id hA) ?_)
      refine aops_cons rfl (w_pure rfl (p_move rfl) ?_)
      refine aops_cons rfl (w_pure rfl (p_extract rfl rfl) ?_)
      refine aops_cons rfl (w_pure rfl (p_extract rfl rfl) ?_)
      refine aops_cons rfl (w_alloc rfl z_62 fun b1 => ?_)
      refine aops_cons rfl (w_store (cells' := [_, _]) rfl rfl rfl (by repeat (first | exact Pick.here _ _ _ | apply Pick.next)) cn_62 (by rfl) (by rfl) (by rfl) trivial ?_)
      refine aops_cons rfl (w_pure rfl (p_assign rfl) ?_)
      refine aops_nil ?_
      refine a_seq ?_
      refine a_region ?_
      refine aops_cons rfl (w_pure rfl (p_load_v_all ag_56 rfl (by rfl) noX) ?_)
      refine aops_cons rfl (w_call rfl rfl rfl cl_56 (co_laws_toHall h hl0) ?_)
      rintro _ _ ⟨b2, b3, rfl, rfl⟩
      refine aops_cons rfl (w_alloc rfl z_62 fun b4 => ?_)
      refine aops_cons rfl (w_store (cells' := [_, _]) rfl rfl rfl (by repeat (first | exact Pick.here _ _ _ | apply Pick.next)) cn_62 (by rfl) (by rfl) (by rfl) trivial ?_)
      refine aops_nil ?_
      refine a_seq ?_
      refine a_region ?_
      refine aops_cons rfl (w_pure rfl (p_load_box_all ag_62 rfl (by repeat (first | exact Pick.here _ _ _ | apply Pick.next)) (by rfl) noX) ?_)
      refine aops_cons rfl (w_pure rfl (p_move rfl) ?_)
      refine aops_cons rfl (w_callLR rfl rfl rfl cl_71 (.cons (.agg (.cons (.own (by repeat (first | exact List.Mem.head _ | apply List.Mem.tail)) (by first | (simp; done) | (simp; assumption) | (simp; omega) | (simp [mkL]; done))) (.cons (.own (by repeat (first | exact List.Mem.head _ | apply List.Mem.tail)) (by first | (simp; done) | (simp; assumption) | (simp; omega) | (simp [mkL]; done))) .nil))) (.cons (.refl _) .nil)) (cn_impl_SignalVcpu h hl0 id hA) (closed_tup (all_cons' (closed_agg (all_cons' closed_nil (all_cons' closed_nil all_nil'))) (all_cons' (closed_bool _) all_nil'))) ?_)
      refine aops_cons rfl (w_pure rfl (p_move rfl) ?_)
      refine aops_cons rfl (w_pure rfl (p_extract rfl rfl) ?_)
      refine aops_cons rfl (w_pure rfl (p_extract rfl rfl) ?_)
      refine aops_cons rfl (w_alloc rfl z_62 fun b5 => ?_)
      refine aops_cons rfl (w_store (cells' := [_, _]) rfl rfl rfl (by repeat (first | exact Pick.here _ _ _ | apply Pick.next)) cn_62 (by rfl) (by rfl) (by rfl) trivial ?_)
      refine aops_cons rfl (w_pure rfl (p_assign rfl) ?_)
      refine aops_nil ?_
      refine a_seq ?_
      refine a_seq ?_
      refine a_region ?_
      refine aops_cons rfl (w_pure rfl (p_load_box_all ag_62 rfl (by repeat (first | exact Pick.here _ _ _ | apply Pick.next)) (by rfl) noX) ?_)
      refine aops_cons rfl (w_pure rfl (p_load_box_all ag_62 rfl (by repeat (first | exact Pick.here _ _ _ | apply Pick.next)) (by rfl) noX) ?_)
      refine aops_cons rfl (w_callLR rfl rfl rfl cl_59 (.cons (.agg (.cons .nil (.cons .nil .nil))) (.cons (.agg (.cons .nil (.cons .nil .nil))) .nil)) (c_laws_eqHall (⟨[], []⟩ : Hall) (by first | decide | (simp; done) | exact ⟨by decide, by decide⟩)) (closed_bool _) ?_)
      refine aops_cons rfl (w_pure rfl (p_not rfl) ?_)
      refine aops_cons rfl (w_pure rfl (p_move rfl) ?_)
      refine aops_guard_t rfl rfl rfl (w_pure rfl (p_move rfl) ?_)
      refine aops_guard_t rfl rfl rfl (w_pure rfl (p_move rfl) ?_)
      refine aops_guard_t rfl rfl rfl (w_pure rfl (p_neq_bsame um_4 rfl rfl) ?_)
      refine aops_cons rfl (w_pure rfl (p_pick_f rfl rfl) ?_)
      refine aops_nil ?_
      refine a_cond_f rfl ?_
      refine a_skip ?_
      refine a_seq ?_
      refine a_seq ?_
      refine a_draw [] (by kernel_rfl) ?_
      show ADraw _ _ _ _ _ _ 5 _ _ _ _
      refine d_load 0 rfl (by kernel_rfl) (by kernel_rfl) (by kernel_rfl) rfl (p_load_box_all ag_62 rfl (by repeat (first | exact Pick.here _ _ _ | apply Pick.next)) (by rfl) noX) ?_
      refine d_load 1 rfl (by kernel_rfl) (by kernel_rfl) (by kernel_rfl) rfl (p_load_v_all ag_56 rfl (by rfl) noX) ?_
      refine draw_all [2] (by kernel_rfl) (by simp) ?_
      refine all_cons rfl rfl ?_ ?_
      · skip
        refine w_callR rfl rfl rfl cl_56 (c_laws_toHall h hl0) ?_
        refine draw_all [3] (by kernel_rfl) (by simp) ?_
        refine all_cons rfl rfl ?_ ?_
        · skip
          refine w_callLR rfl rfl rfl cl_59 (.cons (.agg (.cons (.own (by repeat (first | exact List.Mem.head _ | apply List.Mem.tail)) (by first | (simp; done) | (simp; assumption) | (simp; omega) | (simp [mkL]; done))) (.cons (.own (by repeat (first | exact List.Mem.head _ | apply List.Mem.tail)) (by first | (simp; done) | (simp; assumption) | (simp; omega) | (simp [mkL]; done))) .nil))) (.cons (.refl _) .nil)) (c_laws_eqHall h hl0) (closed_bool _) ?_
          refine d_take 4 rfl (by kernel_rfl) (by kernel_rfl) (by kernel_rfl) rfl (p_not rfl) ?_
          refine draw_done (by kernel_rfl) ?_
          refine a_cond_f rfl ?_
          refine a_skip ?_
          refine a_seq ?_
          refine a_region ?_
          refine aops_cons rfl (w_pure rfl (p_assign rfl) ?_)
          refine aops_nil ?_
          refine a_seq ?_
          refine a_region ?_
          refine aops_cons rfl (w_pure rfl (p_load_box_all ag_62 rfl (by repeat (first | exact Pick.here _ _ _ | apply Pick.next)) (by rfl) noX) ?_)
          refine aops_cons rfl (w_pure rfl (p_move rfl) ?_)
          refine aops_cons rfl (w_callM rfl rfl rfl cl_63 (.cons (by repeat (first | exact Pick.here _ _ _ | apply Pick.next)) (.cons (by repeat (first | exact Pick.here _ _ _ | apply Pick.next)) (.nil _))) (.cons (.refl _) (.cons (.refl _) .nil)) (c_laws_markHall _ _ h hl0 _ (by first | omega | (simp; done) | (simp; omega)) (by first | omega | (simp; done) | (simp; omega))) trivial ?_)
          rintro _ _ ⟨rfl, rfl⟩
          refine ⟨(closed_int _ _), (closedS_cons (closedAll _ _ _ _ cl_eVcpu) (closedS_cons (closedAll _ _ _ _ cl_eBool) closedS_nil)), ?_⟩
          refine aops_cons rfl (w_pure rfl (p_assign rfl) ?_)
          refine aops_nil ?_
          refine a_seq ?_
          refine a_seq ?_
          refine a_region ?_
          refine aops_cons rfl (w_pure rfl (p_move rfl) ?_)
          refine aops_cons rfl (w_pure rfl (p_lss rfl rfl) ?_)
          refine aops_cons rfl (w_pure rfl (p_move rfl) ?_)
          first | refine aops_split_d 55 rfl (fun h3 => ?_) (fun h4 => ?_) | refine aops_split 55 rfl (fun h3 => ?_) (fun h4 => ?_)
          · (try simp only [Bool.not_eq_true', Bool.not_eq_false', Bool.not_eq_true, Bool.not_eq_false, decide_eq_true_eq, decide_eq_false_iff_not, List.length_map, List.length_range] at h3)
            refine g_pass' rfl rfl rfl rfl rfl ?_
            refine g_pass' rfl rfl rfl rfl rfl ?_
            refine g_pass' rfl rfl rfl rfl rfl ?_
            refine g_pass' rfl rfl rfl rfl rfl ?_
            refine aops_cons rfl (w_pure rfl (p_pick_t rfl rfl) ?_)
            refine aops_cons rfl (w_pure rfl (p_move rfl) ?_)
            refine g_pass' rfl rfl rfl rfl rfl ?_
            refine g_pass' rfl rfl rfl rfl rfl ?_
            refine g_pass' rfl rfl rfl rfl rfl ?_
            refine aops_cons rfl (w_pure rfl (p_pick_t rfl rfl) ?_)
            refine aops_nil ?_
            refine a_cond_t rfl ?_
            refine a_seq ?_
            refine a_region ?_
            refine aops_cons rfl (w_pure rfl (p_assign rfl) ?_)
            refine aops_nil ?_
            refine a_ret ?_
            refine ret_ok (hands1 rfl (.tmp rfl)) (.nil _) ?_
            first | exact ⟨rfl, rfl⟩ | (exfalso; omega)
          · (try simp only [Bool.not_eq_true', Bool.not_eq_false', Bool.not_eq_true, Bool.not_eq_false, decide_eq_true_eq, decide_eq_false_iff_not, List.length_map, List.length_range] at h4)
            refine aops_guard_t rfl rfl rfl (w_pure rfl (p_load_box_all ag_62 rfl (by repeat (first | exact Pick.here _ _ _ | apply Pick.next)) (by rfl) noX) ?_)
            refine aops_guard_t rfl rfl rfl (w_pure rfl (p_load_box_all ag_62 rfl (by repeat (first | exact Pick.here _ _ _ | apply Pick.next)) (by rfl) noX) ?_)
            refine aops_guard_t rfl rfl rfl (w_callLR rfl rfl rfl cl_59 (.cons (.agg (.cons .nil (.cons .nil .nil))) (.cons (.agg (.cons .nil (.cons .nil .nil))) .nil)) (c_laws_eqHall (⟨[], []⟩ : Hall) (by first | decide | (simp; done) | exact ⟨by decide, by decide⟩)) (closed_bool _) ?_)
            refine aops_guard_t rfl rfl rfl (w_pure rfl (p_not rfl) ?_)
            refine aops_cons rfl (w_pure rfl (p_pick_f rfl rfl) ?_)
            refine aops_cons rfl (w_pure rfl (p_move rfl) ?_)
            refine aops_guard_t rfl rfl rfl (w_pure rfl (p_move rfl) ?_)
            refine aops_guard_t rfl rfl rfl (w_pure rfl (p_move rfl) ?_)
            refine aops_guard_t rfl rfl rfl (w_pure rfl (p_neq_bsame um_4 rfl rfl) ?_)
            refine aops_cons rfl (w_pure rfl (p_pick_f rfl rfl) ?_)
            refine aops_nil ?_
            refine a_cond_f rfl ?_
            refine a_skip ?_
            refine a_seq ?_
            refine a_region ?_
            refine aops_cons rfl (w_pure rfl (p_assign rfl) ?_)
            refine aops_nil ?_
            refine a_seq ?_
            refine a_region ?_
            refine aops_cons rfl (w_pure rfl (p_load_box_all ag_62 rfl (by repeat (first | exact Pick.here _ _ _ | apply Pick.next)) (by rfl) noX) ?_)
            refine aops_cons rfl (w_pure rfl (p_move rfl) ?_)
            refine aops_cons rfl (w_callR rfl rfl rfl cl_63 (cn_laws_markHall ..) ?_)
            refine aops_cons rfl (w_pure rfl (p_assign rfl) ?_)
            refine aops_nil ?_
            refine a_seq ?_
            refine a_region ?_
            refine aops_cons rfl (w_pure rfl (p_assign rfl) ?_)
            refine aops_nil ?_
            refine a_seq ?_
            refine a_region ?_
            refine aops_cons rfl (w_pure rfl (p_load_box_all ag_62 rfl (by repeat (first | exact Pick.here _ _ _ | apply Pick.next)) (by rfl) noX) ?_)
            refine aops_cons rfl (w_pure rfl (p_move rfl) ?_)
            refine aops_cons rfl (w_callLR rfl rfl rfl cl_65 (.cons (.agg (.cons .nil (.cons .nil .nil))) (.cons (.refl _) .nil)) (c_laws_heldHall (⟨[], []⟩ : Hall) (by first | decide | (simp; done) | exact ⟨by decide, by decide⟩) _ (by first | omega | (simp; done) | (simp; omega)) (by first | omega | (simp; done) | (simp; omega))) (closed_int _ _) ?_)
            refine aops_cons rfl (w_pure rfl (p_assign rfl) ?_)
            refine aops_nil ?_
            refine a_seq ?_
            refine a_seq ?_
            refine a_region ?_
            refine aops_cons rfl (w_pure rfl (p_move rfl) ?_)
            refine aops_cons rfl (w_pure rfl (p_lss rfl rfl) ?_)
            refine aops_nil ?_
            first | refine a_cond_d rfl (fun h5 => ?_) (fun h6 => ?_) | refine a_cond_n rfl (fun h5 => ?_) (fun h6 => ?_) | refine a_cond_nb rfl (fun h5 => ?_) (fun h6 => ?_) | refine a_cond rfl (fun h5 => ?_) (fun h6 => ?_)
            · (try simp only [Bool.not_eq_true', Bool.not_eq_false', Bool.not_eq_true, Bool.not_eq_false, decide_eq_true_eq, decide_eq_false_iff_not, List.length_map, List.length_range] at h5)
              refine a_seq ?_
              refine a_region ?_
              refine aops_cons rfl (w_pure rfl (p_assign rfl) ?_)
              refine aops_nil ?_
              refine a_ret ?_
              refine ret_ok (hands1 rfl (.tmp rfl)) (.nil _) ?_
              first | exact ⟨rfl, rfl⟩ | (exfalso; omega)
            · (try simp only [Bool.not_eq_true', Bool.not_eq_false', Bool.not_eq_true, Bool.not_eq_false, decide_eq_true_eq, decide_eq_false_iff_not, List.length_map, List.length_range] at h6)
              refine a_skip ?_
              refine a_seq ?_
              refine a_seq ?_
              refine a_region ?_
              refine aops_cons rfl (w_pure rfl (p_move rfl) ?_)
              refine aops_cons rfl (w_pure rfl (p_move rfl) ?_)
              refine aops_cons rfl (w_pure rfl (p_neq_same rfl rfl) ?_)
              refine aops_nil ?_
              refine a_cond_f rfl ?_
              refine a_skip ?_
              refine a_seq ?_
              refine a_region ?_
              refine aops_cons rfl (w_pure rfl (p_load_v_all ag_56 rfl (by rfl) noX) ?_)
              refine aops_cons rfl (w_callR rfl rfl rfl cl_56 (c_laws_toHall h hl0) ?_)
              refine aops_cons rfl (w_pure rfl (p_move rfl) ?_)
              refine aops_cons rfl (w_callR rfl rfl rfl cl_71 (cn_impl_SignalVcpu h hl0 id hA) ?_)
              refine aops_cons rfl (w_pure rfl (p_move rfl) ?_)
              refine aops_cons rfl (w_pure rfl (p_extract rfl rfl) ?_)
              refine aops_cons rfl (w_pure rfl (p_extract rfl rfl) ?_)
              refine aops_cons rfl (w_alloc rfl z_62 fun b6 => ?_)
              refine aops_cons rfl (w_store (cells' := [_, _]) rfl rfl rfl (by repeat (first | exact Pick.here _ _ _ | apply Pick.next)) cn_62 (by rfl) (by rfl) (by rfl) trivial ?_)
              refine aops_cons rfl (w_pure rfl (p_assign rfl) ?_)
              refine aops_nil ?_
              refine a_seq ?_
              refine a_seq ?_
              refine a_region ?_
              refine aops_cons rfl (w_pure rfl (p_load_box_all ag_62 rfl (by repeat (first | exact Pick.here _ _ _ | apply Pick.next)) (by rfl) noX) ?_)
              refine aops_cons rfl (w_pure rfl (p_load_box_all ag_62 rfl (by repeat (first | exact Pick.here _ _ _ | apply Pick.next)) (by rfl) noX) ?_)
              refine aops_cons rfl (w_callLR rfl rfl rfl cl_59 (.cons (.agg (.cons .nil (.cons .nil .nil))) (.cons (.agg (.cons .nil (.cons .nil .nil))) .nil)) (c_laws_eqHall (⟨[], []⟩ : Hall) (by first | decide | (simp; done) | exact ⟨by decide, by decide⟩)) (closed_bool _) ?_)
              refine aops_cons rfl (w_pure rfl (p_not rfl) ?_)
              refine aops_cons rfl (w_pure rfl (p_move rfl) ?_)
              refine aops_guard_t rfl rfl rfl (w_pure rfl (p_move rfl) ?_)
              refine aops_guard_t rfl rfl rfl (w_pure rfl (p_move rfl) ?_)
              refine aops_guard_t rfl rfl rfl (w_pure rfl (p_neq_bsame um_4 rfl rfl) ?_)
              refine aops_cons rfl (w_pure rfl (p_pick_f rfl rfl) ?_)
              refine aops_nil ?_
              refine a_cond_f rfl ?_
              refine a_skip ?_
              refine a_seq ?_
              refine a_region ?_
              refine aops_cons rfl (w_pure rfl (p_assign rfl) ?_)
              refine aops_nil ?_
              refine a_seq ?_
              refine a_region ?_
              refine aops_cons rfl (w_pure rfl (p_load_box_all ag_62 rfl (by repeat (first | exact Pick.here _ _ _ | apply Pick.next)) (by rfl) noX) ?_)
              refine aops_cons rfl (w_pure rfl (p_move rfl) ?_)
              refine aops_cons rfl (w_callLR rfl rfl rfl cl_65 (.cons (.agg (.cons .nil (.cons .nil .nil))) (.cons (.refl _) .nil)) (c_laws_heldHall (⟨[], []⟩ : Hall) (by first | decide | (simp; done) | exact ⟨by decide, by decide⟩) _ (by first | omega | (simp; done) | (simp; omega)) (by first | omega | (simp; done) | (simp; omega))) (closed_int _ _) ?_)
              refine aops_cons rfl (w_pure rfl (p_assign rfl) ?_)
              refine aops_nil ?_
              refine a_seq ?_
              refine a_seq ?_
              refine a_region ?_
              refine aops_cons rfl (w_pure rfl (p_move rfl) ?_)
              refine aops_cons rfl (w_pure rfl (p_lss rfl rfl) ?_)
              refine aops_nil ?_
              first | refine a_cond_d rfl (fun h7 => ?_) (fun h8 => ?_) | refine a_cond_n rfl (fun h7 => ?_) (fun h8 => ?_) | refine a_cond_nb rfl (fun h7 => ?_) (fun h8 => ?_) | refine a_cond rfl (fun h7 => ?_) (fun h8 => ?_)
              · (try simp only [Bool.not_eq_true', Bool.not_eq_false', Bool.not_eq_true, Bool.not_eq_false, decide_eq_true_eq, decide_eq_false_iff_not, List.length_map, List.length_range] at h7)
                refine a_seq ?_
                refine a_region ?_
                refine aops_cons rfl (w_pure rfl (p_assign rfl) ?_)
                refine aops_nil ?_
                refine a_ret ?_
                refine ret_ok (hands1 rfl (.tmp rfl)) (.nil _) ?_
                first | exact ⟨rfl, rfl⟩ | (exfalso; omega)
              · (try simp only [Bool.not_eq_true', Bool.not_eq_false', Bool.not_eq_true, Bool.not_eq_false, decide_eq_true_eq, decide_eq_false_iff_not, List.length_map, List.length_range] at h8)
                refine a_skip ?_
                refine a_seq ?_
                refine a_seq ?_
                refine a_region ?_
                refine aops_cons rfl (w_pure rfl (p_move rfl) ?_)
                refine aops_cons rfl (w_pure rfl (p_move rfl) ?_)
                refine aops_cons rfl (w_pure rfl (p_neq_same rfl rfl) ?_)
                refine aops_nil ?_
                refine a_cond_f rfl ?_
                refine a_skip ?_
                refine a_seq ?_
                refine a_region ?_
                refine aops_cons rfl (w_pure rfl (p_assign rfl) ?_)
                refine aops_nil ?_
                refine a_ret ?_
                refine ret_ok (hands1 rfl (.tmp rfl)) (.nil _) ?_
                first | exact ⟨rfl, rfl⟩ | (exfalso; omega)
        exact all_nil
      exact all_nil

theorem cy_spec_WaitVcpu (h : Hall) (hn : SmallHall h) (id : Int) (hA : GoodHalt h id) : ACalls Try.prog 72 [.agg (eHall h), .int .i64 id] [] (Ret (.tup [.agg (eHall (waitH h (hI h id))), .bool true])) := by
  have hnn := hn
  obtain ⟨hn1, hn2⟩ := hnn
  have hfi := findI_lt h.list id
  refine a_enter Try.func72 rfl rfl (fun w0 M0 => ?_)
  refine a_seq ?_
  refine a_region ?_
  refine aops_cons rfl (w_box_v rfl rfl rfl ?_)
  refine aops_cons rfl (w_alloc rfl z_62 fun b1 => ?_)
  refine aops_cons rfl (w_pure rfl (p_assign rfl) ?_)
  refine aops_nil ?_
  refine a_seq ?_
  refine a_region ?_
  refine aops_cons rfl (w_pure rfl (p_load_v_all ag_62 rfl (by rfl) noX) ?_)
  refine aops_cons rfl (w_pure rfl (p_move rfl) ?_)
  refine aops_cons rfl (w_callR rfl rfl rfl cl_104 (c_spec_l15Find h (by assumption) _) ?_)
  refine aops_cons rfl (w_pure rfl (p_assign rfl) ?_)
  refine aops_nil ?_
  refine a_seq ?_
  refine a_seq ?_
  refine a_region ?_
  refine aops_cons rfl (w_pure rfl (p_load_v_all ag_62 rfl (by rfl) noX) ?_)
  refine aops_cons rfl (w_callR rfl rfl rfl cl_114 (c_spec_l15Good _ ‹_›) ?_)
  refine aops_cons rfl (w_pure rfl (p_not rfl) ?_)
  refine aops_cons rfl (w_pure rfl (p_move rfl) ?_)
  first | refine aops_split_d 13 rfl (fun h1 => ?_) (fun h2 => ?_) | refine aops_split 13 rfl (fun h1 => ?_) (fun h2 => ?_)
  · (try simp only [Bool.not_eq_true', Bool.not_eq_false', Bool.not_eq_true, Bool.not_eq_false, decide_eq_true_eq, decide_eq_false_iff_not, List.length_map, List.length_range] at h1)
    refine g_pass' rfl rfl rfl rfl rfl ?_
    refine g_pass' rfl rfl rfl rfl rfl ?_
    refine aops_cons rfl (w_pure rfl (p_pick_t rfl rfl) ?_)
    refine aops_cons rfl (w_pure rfl (p_move rfl) ?_)
    refine g_pass' rfl rfl rfl rfl rfl ?_
    refine g_pass' rfl rfl rfl rfl rfl ?_
    refine g_pass' rfl rfl rfl rfl rfl ?_
    refine g_pass' rfl rfl rfl rfl rfl ?_
    refine g_pass' rfl rfl rfl rfl rfl ?_
    refine g_pass' rfl rfl rfl rfl rfl ?_
    refine aops_cons rfl (w_pure rfl (p_pick_t rfl rfl) ?_)
    refine aops_nil ?_
    refine a_cond_t rfl ?_
    refine a_seq ?_
    refine a_region ?_
    refine aops_cons rfl (w_pure rfl (p_build (cells := [_, _]) z_62 pl_62 rfl rfl) ?_)
    refine aops_cons rfl (w_store (cells' := [_, _]) rfl rfl rfl (by repeat (first | exact Pick.here _ _ _ | apply Pick.next)) cn_62 (by rfl) (by rfl) (by rfl) trivial ?_)
    refine aops_cons rfl (w_pure rfl (p_assign rfl) ?_)
    refine aops_nil ?_
    refine a_ret ?_
    refine ret_ok (hands2 rfl (.cell ag_62 rfl (by repeat (first | exact Pick.here _ _ _ | apply Pick.next)) (by rfl)) (.tmp rfl)) (.nil _) ?_
    first | exact ⟨rfl, rfl⟩ | (exfalso; first | contradiction | omega | exact absurd hA.1 (by assumption) | exact absurd hA.2.1 (by omega) | (have q := hA.2.2; unfold hI at q; simp_all))
  · (try simp only [Bool.not_eq_true', Bool.not_eq_false', Bool.not_eq_true, Bool.not_eq_false, decide_eq_true_eq, decide_eq_false_iff_not, List.length_map, List.length_range] at h2)
    refine aops_guard_t rfl rfl rfl (w_pure rfl (p_move rfl) ?_)
    refine aops_guard_t rfl rfl rfl (w_pure rfl (p_lss rfl rfl) ?_)
    refine aops_cons rfl (w_pure rfl (p_pick_f rfl rfl) ?_)
    refine aops_cons rfl (w_pure rfl (p_move rfl) ?_)
    first | refine aops_split_d 17 rfl (fun h3 => ?_) (fun h4 => ?_) | refine aops_split 17 rfl (fun h3 => ?_) (fun h4 => ?_)
    · (try simp only [Bool.not_eq_true', Bool.not_eq_false', Bool.not_eq_true, Bool.not_eq_false, decide_eq_true_eq, decide_eq_false_iff_not, List.length_map, List.length_range] at h3)
      refine g_pass' rfl rfl rfl rfl rfl ?_
      refine g_pass' rfl rfl rfl rfl rfl ?_
      refine g_pass' rfl rfl rfl rfl rfl ?_
      refine g_pass' rfl rfl rfl rfl rfl ?_
      refine g_pass' rfl rfl rfl rfl rfl ?_
      refine g_pass' rfl rfl rfl rfl rfl ?_
      refine aops_cons rfl (w_pure rfl (p_pick_t rfl rfl) ?_)
      refine aops_nil ?_
      refine a_cond_t rfl ?_
      refine a_seq ?_
      refine a_region ?_
      refine aops_cons rfl (w_pure rfl (p_build (cells := [_, _]) z_62 pl_62 rfl rfl) ?_)
      refine aops_cons rfl (w_store (cells' := [_, _]) rfl rfl rfl (by repeat (first | exact Pick.here _ _ _ | apply Pick.next)) cn_62 (by rfl) (by rfl) (by rfl) trivial ?_)
      refine aops_cons rfl (w_pure rfl (p_assign rfl) ?_)
      refine aops_nil ?_
      refine a_ret ?_
      refine ret_ok (hands2 rfl (.cell ag_62 rfl (by repeat (first | exact Pick.here _ _ _ | apply Pick.next)) (by rfl)) (.tmp rfl)) (.nil _) ?_
      first | exact ⟨rfl, rfl⟩ | (exfalso; first | contradiction | omega | exact absurd hA.1 (by assumption) | exact absurd hA.2.1 (by omega) | (have q := hA.2.2; unfold hI at q; simp_all))
    · (try simp only [Bool.not_eq_true', Bool.not_eq_false', Bool.not_eq_true, Bool.not_eq_false, decide_eq_true_eq, decide_eq_false_iff_not, List.length_map, List.length_range] at h4)
      refine aops_guard_t rfl rfl rfl (w_pure rfl (p_field_v fo_62_0 rfl) ?_)
      refine aops_guard_t rfl rfl rfl (w_pure rfl (p_load_v ag_24 rfl (by rfl) noX) ?_)
      refine aops_guard_t rfl rfl rfl (w_pure rfl (p_move rfl) ?_)
      refine aops_guard_t rfl rfl rfl (w_pure rfl (p_index_sl (findI h.list id).toNat rfl rfl (by omega) (rowD _ _ zVcpu (by omega)) es_24) ?_)
      refine aops_guard_t rfl rfl rfl (w_pure rfl (p_field_v fo_46_3 rfl) ?_)
      refine aops_guard_t rfl rfl rfl (w_pure rfl (p_load_v ag_4 rfl (by rfl) noX) ?_)
      refine aops_cons rfl (w_pure rfl (p_pick_f rfl rfl) ?_)
      refine aops_nil ?_
      first | refine a_cond_d rfl (fun h5 => ?_) (fun h6 => ?_) | refine a_cond_n rfl (fun h5 => ?_) (fun h6 => ?_) | refine a_cond_nb rfl (fun h5 => ?_) (fun h6 => ?_) | refine a_cond rfl (fun h5 => ?_) (fun h6 => ?_)
      · (try simp only [Bool.not_eq_true', Bool.not_eq_false', Bool.not_eq_true, Bool.not_eq_false, decide_eq_true_eq, decide_eq_false_iff_not, List.length_map, List.length_range] at h5)
        refine a_seq ?_
        refine a_region ?_
        refine aops_cons rfl (w_pure rfl (p_build (cells := [_, _]) z_62 pl_62 rfl rfl) ?_)
        refine aops_cons rfl (w_store (cells' := [_, _]) rfl rfl rfl (by repeat (first | exact Pick.here _ _ _ | apply Pick.next)) cn_62 (by rfl) (by rfl) (by rfl) trivial ?_)
        refine aops_cons rfl (w_pure rfl (p_assign rfl) ?_)
        refine aops_nil ?_
        refine a_ret ?_
        refine ret_ok (hands2 rfl (.cell ag_62 rfl (by repeat (first | exact Pick.here _ _ _ | apply Pick.next)) (by rfl)) (.tmp rfl)) (.nil _) ?_
        first | exact ⟨rfl, rfl⟩ | (exfalso; first | contradiction | omega | exact absurd hA.1 (by assumption) | exact absurd hA.2.1 (by omega) | (have q := hA.2.2; unfold hI at q; simp_all))
      · (try simp only [Bool.not_eq_true', Bool.not_eq_false', Bool.not_eq_true, Bool.not_eq_false, decide_eq_true_eq, decide_eq_false_iff_not, List.length_map, List.length_range] at h6)
        refine a_skip ?_
        refine a_seq ?_
        refine a_region ?_
        refine aops_cons rfl (w_pure rfl (p_load_v_all ag_62 rfl (by rfl) noX) ?_)
        refine aops_cons rfl (w_pure rfl (p_move rfl) ?_)
        refine aops_cons rfl (w_callR rfl rfl rfl cl_121 (c_spec_l15Wait h (by assumption) (findI h.list id) (by omega) (by omega) (by have := (IsHall.small ‹_›); omega)) ?_)
        refine aops_cons rfl (w_store (cells' := [_, _]) rfl rfl rfl (by repeat (first | exact Pick.here _ _ _ | apply Pick.next)) cn_62 (by rfl) (by rfl) (by rfl) trivial ?_)
        refine aops_cons rfl (w_pure rfl (p_assign rfl) ?_)
        refine aops_nil ?_
        refine a_ret ?_
        refine ret_ok (hands2 rfl (.cell ag_62 rfl (by repeat (first | exact Pick.here _ _ _ | apply Pick.next)) (by rfl)) (.tmp rfl)) (.nil _) ?_
        first | exact ⟨rfl, rfl⟩ | (exfalso; first | contradiction | omega | exact absurd hA.1 (by assumption) | exact absurd hA.2.1 (by omega) | (have q := hA.2.2; unfold hI at q; simp_all))

theorem cn_spec_WaitVcpu (h : Hall) (hn : SmallHall h) (id : Int) (hA : ¬ GoodHalt h id) : ACalls Try.prog 72 [.agg (eHall h), .int .i64 id] [] (Ret (.tup [.agg [.nil, .nil], .bool false])) := by
  have hnn := hn
  obtain ⟨hn1, hn2⟩ := hnn
  have hfi := findI_lt h.list id
  refine a_enter Try.func72 rfl rfl (fun w0 M0 => ?_)
  refine a_seq ?_
  refine a_region ?_
  refine aops_cons rfl (w_box_v rfl rfl rfl ?_)
  refine aops_cons rfl (w_alloc rfl z_62 fun b1 => ?_)
  refine aops_cons rfl (w_pure rfl (p_assign rfl) ?_)
  refine aops_nil ?_
  refine a_seq ?_
  refine a_region ?_
  refine aops_cons rfl (w_pure rfl (p_load_v_all ag_62 rfl (by rfl) noX) ?_)
  refine aops_cons rfl (w_pure rfl (p_move rfl) ?_)
  refine aops_cons rfl (w_callR rfl rfl rfl cl_104 (c_spec_l15Find h (by assumption) _) ?_)
  refine aops_cons rfl (w_pure rfl (p_assign rfl) ?_)
  refine aops_nil ?_
  refine a_seq ?_
  refine a_seq ?_
  refine a_region ?_
  refine aops_cons rfl (w_pure rfl (p_load_v_all ag_62 rfl (by rfl) noX) ?_)
  refine aops_cons rfl (w_callR rfl rfl rfl cl_114 (c_spec_l15Good _ ‹_›) ?_)
  refine aops_cons rfl (w_pure rfl (p_not rfl) ?_)
  refine aops_cons rfl (w_pure rfl (p_move rfl) ?_)
  first | refine aops_split_d 13 rfl (fun h1 => ?_) (fun h2 => ?_) | refine aops_split 13 rfl (fun h1 => ?_) (fun h2 => ?_)
  · (try simp only [Bool.not_eq_true', Bool.not_eq_false', Bool.not_eq_true, Bool.not_eq_false, decide_eq_true_eq, decide_eq_false_iff_not, List.length_map, List.length_range] at h1)
    refine g_pass' rfl rfl rfl rfl rfl ?_
    refine g_pass' rfl rfl rfl rfl rfl ?_
    refine aops_cons rfl (w_pure rfl (p_pick_t rfl rfl) ?_)
    refine aops_cons rfl (w_pure rfl (p_move rfl) ?_)
    refine g_pass' rfl rfl rfl rfl rfl ?_
    refine g_pass' rfl rfl rfl rfl rfl ?_
    refine g_pass' rfl rfl rfl rfl rfl ?_
    refine g_pass' rfl rfl rfl rfl rfl ?_
    refine g_pass' rfl rfl rfl rfl rfl ?_
    refine g_pass' rfl rfl rfl rfl rfl ?_
    refine aops_cons rfl (w_pure rfl (p_pick_t rfl rfl) ?_)
    refine aops_nil ?_
    refine a_cond_t rfl ?_
    refine a_seq ?_
    refine a_region ?_
    refine aops_cons rfl (w_pure rfl (p_build (cells := [_, _]) z_62 pl_62 rfl rfl) ?_)
    refine aops_cons rfl (w_store (cells' := [_, _]) rfl rfl rfl (by repeat (first | exact Pick.here _ _ _ | apply Pick.next)) cn_62 (by rfl) (by rfl) (by rfl) trivial ?_)
    refine aops_cons rfl (w_pure rfl (p_assign rfl) ?_)
    refine aops_nil ?_
    refine a_ret ?_
    refine ret_ok (hands2 rfl (.cell ag_62 rfl (by repeat (first | exact Pick.here _ _ _ | apply Pick.next)) (by rfl)) (.tmp rfl)) (.nil _) ?_
    first | exact ⟨rfl, rfl⟩ | exact absurd (show GoodHalt h id from ⟨by assumption, by omega, by assumption⟩) hA
  · (try simp only [Bool.not_eq_true', Bool.not_eq_false', Bool.not_eq_true, Bool.not_eq_false, decide_eq_true_eq, decide_eq_false_iff_not, List.length_map, List.length_range] at h2)
    refine aops_guard_t rfl rfl rfl (w_pure rfl (p_move rfl) ?_)
    refine aops_guard_t rfl rfl rfl (w_pure rfl (p_lss rfl rfl) ?_)
    refine aops_cons rfl (w_pure rfl (p_pick_f rfl rfl) ?_)
    refine aops_cons rfl (w_pure rfl (p_move rfl) ?_)
    first | refine aops_split_d 17 rfl (fun h3 => ?_) (fun h4 => ?_) | refine aops_split 17 rfl (fun h3 => ?_) (fun h4 => ?_)
    · (try simp only [Bool.not_eq_true', Bool.not_eq_false', Bool.not_eq_true, Bool.not_eq_false, decide_eq_true_eq, decide_eq_false_iff_not, List.length_map, List.length_range] at h3)
      refine g_pass' rfl rfl rfl rfl rfl ?_
      refine g_pass' rfl rfl rfl rfl rfl ?_
      refine g_pass' rfl rfl rfl rfl rfl ?_
      refine g_pass' rfl rfl rfl rfl rfl ?_
      refine g_pass' rfl rfl rfl rfl rfl ?_
      refine g_pass' rfl rfl rfl rfl rfl ?_
      refine aops_cons rfl (w_pure rfl (p_pick_t rfl rfl) ?_)
      refine aops_nil ?_
      refine a_cond_t rfl ?_
      refine a_seq ?_
      refine a_region ?_
      refine aops_cons rfl (w_pure rfl (p_build (cells := [_, _]) z_62 pl_62 rfl rfl) ?_)
      refine aops_cons rfl (w_store (cells' := [_, _]) rfl rfl rfl (by repeat (first | exact Pick.here _ _ _ | apply Pick.next)) cn_62 (by rfl) (by rfl) (by rfl) trivial ?_)
      refine aops_cons rfl (w_pure rfl (p_assign rfl) ?_)
      refine aops_nil ?_
      refine a_ret ?_
      refine ret_ok (hands2 rfl (.cell ag_62 rfl (by repeat (first | exact Pick.here _ _ _ | apply Pick.next)) (by rfl)) (.tmp rfl)) (.nil _) ?_
      first | exact ⟨rfl, rfl⟩ | exact absurd (show GoodHalt h id from ⟨by assumption, by omega, by assumption⟩) hA
    · (try simp only [Bool.not_eq_true', Bool.not_eq_false', Bool.not_eq_true, Bool.not_eq_false, decide_eq_true_eq, decide_eq_false_iff_not, List.length_map, List.length_range] at h4)
      refine aops_guard_t rfl rfl rfl (w_pure rfl (p_field_v fo_62_0 rfl) ?_)
      refine aops_guard_t rfl rfl rfl (w_pure rfl (p_load_v ag_24 rfl (by rfl) noX) ?_)
      refine aops_guard_t rfl rfl rfl (w_pure rfl (p_move rfl) ?_)
      refine aops_guard_t rfl rfl rfl (w_pure rfl (p_index_sl (findI h.list id).toNat rfl rfl (by omega) (rowD _ _ zVcpu (by omega)) es_24) ?_)
      refine aops_guard_t rfl rfl rfl (w_pure rfl (p_field_v fo_46_3 rfl) ?_)
      refine aops_guard_t rfl rfl rfl (w_pure rfl (p_load_v ag_4 rfl (by rfl) noX) ?_)
      refine aops_cons rfl (w_pure rfl (p_pick_f rfl rfl) ?_)
      refine aops_nil ?_
      first | refine a_cond_d rfl (fun h5 => ?_) (fun h6 => ?_) | refine a_cond_n rfl (fun h5 => ?_) (fun h6 => ?_) | refine a_cond_nb rfl (fun h5 => ?_) (fun h6 => ?_) | refine a_cond rfl (fun h5 => ?_) (fun h6 => ?_)
      · (try simp only [Bool.not_eq_true', Bool.not_eq_false', Bool.not_eq_true, Bool.not_eq_false, decide_eq_true_eq, decide_eq_false_iff_not, List.length_map, List.length_range] at h5)
        refine a_seq ?_
        refine a_region ?_
        refine aops_cons rfl (w_pure rfl (p_build (cells := [_, _]) z_62 pl_62 rfl rfl) ?_)
        refine aops_cons rfl (w_store (cells' := [_, _]) rfl rfl rfl (by repeat (first | exact Pick.here _ _ _ | apply Pick.next)) cn_62 (by rfl) (by rfl) (by rfl) trivial ?_)
        refine aops_cons rfl (w_pure rfl (p_assign rfl) ?_)
        refine aops_nil ?_
        refine a_ret ?_
        refine ret_ok (hands2 rfl (.cell ag_62 rfl (by repeat (first | exact Pick.here _ _ _ | apply Pick.next)) (by rfl)) (.tmp rfl)) (.nil _) ?_
        first | exact ⟨rfl, rfl⟩ | exact absurd (show GoodHalt h id from ⟨by assumption, by omega, by assumption⟩) hA
      · (try simp only [Bool.not_eq_true', Bool.not_eq_false', Bool.not_eq_true, Bool.not_eq_false, decide_eq_true_eq, decide_eq_false_iff_not, List.length_map, List.length_range] at h6)
        refine a_skip ?_
        refine a_seq ?_
        refine a_region ?_
        refine aops_cons rfl (w_pure rfl (p_load_v_all ag_62 rfl (by rfl) noX) ?_)
        refine aops_cons rfl (w_pure rfl (p_move rfl) ?_)
        refine aops_cons rfl (w_callR rfl rfl rfl cl_121 (c_spec_l15Wait h (by assumption) (findI h.list id) (by omega) (by omega) (by have := (IsHall.small ‹_›); omega)) ?_)
        refine aops_cons rfl (w_store (cells' := [_, _]) rfl rfl rfl (by repeat (first | exact Pick.here _ _ _ | apply Pick.next)) cn_62 (by rfl) (by rfl) (by rfl) trivial ?_)
        refine aops_cons rfl (w_pure rfl (p_assign rfl) ?_)
        refine aops_nil ?_
        refine a_ret ?_
        refine ret_ok (hands2 rfl (.cell ag_62 rfl (by repeat (first | exact Pick.here _ _ _ | apply Pick.next)) (by rfl)) (.tmp rfl)) (.nil _) ?_
        first | exact ⟨rfl, rfl⟩ | exact absurd (show GoodHalt h id from ⟨by assumption, by omega, by assumption⟩) hA

theorem cy_impl_WaitVcpu (h : Hall) (hn : SmallHall h) (id : Int) (hA : GoodHalt h id) : ACalls Try.prog 73 [.agg (eHall h), .int .i64 id] [] (fun r st => ∃ b1 b2, r = .tup [.agg [.own 5 b1 0 (waitH h (hI h id)).list.length, .own 1 b2 0 (waitH h (hI h id)).events.length], .bool true] ∧ st = [(b1, .arr 46 5 ((waitH h (hI h id)).list.map eVcpu)), (b2, .arr 4 1 ((waitH h (hI h id)).events.map eBool))]) := by
  have hnn := hn
  obtain ⟨hn1, hn2⟩ := hnn
  have hfi := findI_lt h.list id
  refine a_enter Try.func73 rfl rfl (fun w0 M0 => ?_)
  refine a_seq ?_
  refine a_region ?_
  refine aops_cons rfl (w_box_v rfl rfl rfl ?_)
  refine aops_cons rfl (w_alloc rfl z_62 fun b1 => ?_)
  refine aops_cons rfl (w_pure rfl (p_assign rfl) ?_)
  refine aops_nil ?_
  refine a_seq ?_
  refine a_region ?_
  refine aops_cons rfl (w_pure rfl (p_field_v fo_62_0 rfl) ?_)
  refine aops_cons rfl (w_pure rfl (p_load_v ag_24 rfl (by rfl) noX) ?_)
  refine aops_cons rfl (w_pure rfl (p_move rfl) ?_)
  refine aops_cons rfl (w_callR rfl rfl rfl cl_109 (c_impl_vcpuIndex _ (by omega) _) ?_)
  refine aops_cons rfl (w_pure rfl (p_assign rfl) ?_)
  refine aops_nil ?_
  refine a_seq ?_
  refine a_seq ?_
  refine a_region ?_
  refine aops_cons rfl (w_pure rfl (p_load_v_all ag_62 rfl (by rfl) noX) ?_)
  refine aops_cons rfl (w_callR rfl rfl rfl cl_81 (c_impl_IsHall _ ‹_›) ?_)
  refine aops_cons rfl (w_pure rfl (p_not rfl) ?_)
  refine aops_cons rfl (w_pure rfl (p_move rfl) ?_)
  first | refine aops_split_d 15 rfl (fun h1 => ?_) (fun h2 => ?_) | refine aops_split 15 rfl (fun h1 => ?_) (fun h2 => ?_)
  · (try simp only [Bool.not_eq_true', Bool.not_eq_false', Bool.not_eq_true, Bool.not_eq_false, decide_eq_true_eq, decide_eq_false_iff_not, List.length_map, List.length_range] at h1)
    refine g_pass' rfl rfl rfl rfl rfl ?_
    refine g_pass' rfl rfl rfl rfl rfl ?_
    refine aops_cons rfl (w_pure rfl (p_pick_t rfl rfl) ?_)
    refine aops_cons rfl (w_pure rfl (p_move rfl) ?_)
    refine g_pass' rfl rfl rfl rfl rfl ?_
    refine g_pass' rfl rfl rfl rfl rfl ?_
    refine g_pass' rfl rfl rfl rfl rfl ?_
    refine g_pass' rfl rfl rfl rfl rfl ?_
    refine g_pass' rfl rfl rfl rfl rfl ?_
    refine g_pass' rfl rfl rfl rfl rfl ?_
    refine aops_cons rfl (w_pure rfl (p_pick_t rfl rfl) ?_)
    refine aops_nil ?_
    refine a_cond_t rfl ?_
    refine a_seq ?_
    refine a_region ?_
    refine aops_cons rfl (w_pure rfl (p_build (cells := [_, _]) z_62 pl_62 rfl rfl) ?_)
    refine aops_cons rfl (w_store (cells' := [_, _]) rfl rfl rfl (by repeat (first | exact Pick.here _ _ _ | apply Pick.next)) cn_62 (by rfl) (by rfl) (by rfl) trivial ?_)
    refine aops_cons rfl (w_pure rfl (p_assign rfl) ?_)
    refine aops_nil ?_
    refine a_ret ?_
    refine ret_ok (hands2 rfl (.cell ag_62 rfl (by repeat (first | exact Pick.here _ _ _ | apply Pick.next)) (by rfl)) (.tmp rfl)) (.nil _) ?_
    first | exact ⟨_, _, by rw [(waitH_len h _).1, (waitH_len h _).2], rfl⟩ | (exfalso; first | contradiction | omega | exact absurd hA.1 (by assumption) | exact absurd hA.2.1 (by omega) | (have q := hA.2.2; unfold hI at q; simp_all))
  · (try simp only [Bool.not_eq_true', Bool.not_eq_false', Bool.not_eq_true, Bool.not_eq_false, decide_eq_true_eq, decide_eq_false_iff_not, List.length_map, List.length_range] at h2)
    refine aops_guard_t rfl rfl rfl (w_pure rfl (p_move rfl) ?_)
    refine aops_guard_t rfl rfl rfl (w_pure rfl (p_lss rfl rfl) ?_)
    refine aops_cons rfl (w_pure rfl (p_pick_f rfl rfl) ?_)
    refine aops_cons rfl (w_pure rfl (p_move rfl) ?_)
    first | refine aops_split_d 19 rfl (fun h3 => ?_) (fun h4 => ?_) | refine aops_split 19 rfl (fun h3 => ?_) (fun h4 => ?_)
    · (try simp only [Bool.not_eq_true', Bool.not_eq_false', Bool.not_eq_true, Bool.not_eq_false, decide_eq_true_eq, decide_eq_false_iff_not, List.length_map, List.length_range] at h3)
      refine g_pass' rfl rfl rfl rfl rfl ?_
      refine g_pass' rfl rfl rfl rfl rfl ?_
      refine g_pass' rfl rfl rfl rfl rfl ?_
      refine g_pass' rfl rfl rfl rfl rfl ?_
      refine g_pass' rfl rfl rfl rfl rfl ?_
      refine g_pass' rfl rfl rfl rfl rfl ?_
      refine aops_cons rfl (w_pure rfl (p_pick_t rfl rfl) ?_)
      refine aops_nil ?_
      refine a_cond_t rfl ?_
      refine a_seq ?_
      refine a_region ?_
      refine aops_cons rfl (w_pure rfl (p_build (cells := [_, _]) z_62 pl_62 rfl rfl) ?_)
      refine aops_cons rfl (w_store (cells' := [_, _]) rfl rfl rfl (by repeat (first | exact Pick.here _ _ _ | apply Pick.next)) cn_62 (by rfl) (by rfl) (by rfl) trivial ?_)
      refine aops_cons rfl (w_pure rfl (p_assign rfl) ?_)
      refine aops_nil ?_
      refine a_ret ?_
      refine ret_ok (hands2 rfl (.cell ag_62 rfl (by repeat (first | exact Pick.here _ _ _ | apply Pick.next)) (by rfl)) (.tmp rfl)) (.nil _) ?_
      first | exact ⟨_, _, by rw [(waitH_len h _).1, (waitH_len h _).2], rfl⟩ | (exfalso; first | contradiction | omega | exact absurd hA.1 (by assumption) | exact absurd hA.2.1 (by omega) | (have q := hA.2.2; unfold hI at q; simp_all))
    · (try simp only [Bool.not_eq_true', Bool.not_eq_false', Bool.not_eq_true, Bool.not_eq_false, decide_eq_true_eq, decide_eq_false_iff_not, List.length_map, List.length_range] at h4)
      refine aops_guard_t rfl rfl rfl (w_pure rfl (p_field_v fo_62_0 rfl) ?_)
      refine aops_guard_t rfl rfl rfl (w_pure rfl (p_load_v ag_24 rfl (by rfl) noX) ?_)
      refine aops_guard_t rfl rfl rfl (w_pure rfl (p_move rfl) ?_)
      refine aops_guard_t rfl rfl rfl (w_pure rfl (p_index_sl (findI h.list id).toNat rfl rfl (by omega) (rowD _ _ zVcpu (by omega)) es_24) ?_)
      refine aops_guard_t rfl rfl rfl (w_pure rfl (p_field_v fo_46_3 rfl) ?_)
      refine aops_guard_t rfl rfl rfl (w_pure rfl (p_load_v ag_4 rfl (by rfl) noX) ?_)
      refine aops_cons rfl (w_pure rfl (p_pick_f rfl rfl) ?_)
      refine aops_nil ?_
      first | refine a_cond_d rfl (fun h5 => ?_) (fun h6 => ?_) | refine a_cond_n rfl (fun h5 => ?_) (fun h6 => ?_) | refine a_cond_nb rfl (fun h5 => ?_) (fun h6 => ?_) | refine a_cond rfl (fun h5 => ?_) (fun h6 => ?_)
      · (try simp only [Bool.not_eq_true', Bool.not_eq_false', Bool.not_eq_true, Bool.not_eq_false, decide_eq_true_eq, decide_eq_false_iff_not, List.length_map, List.length_range] at h5)
        refine a_seq ?_
        refine a_region ?_
        refine aops_cons rfl (w_pure rfl (p_build (cells := [_, _]) z_62 pl_62 rfl rfl) ?_)
        refine aops_cons rfl (w_store (cells' := [_, _]) rfl rfl rfl (by repeat (first | exact Pick.here _ _ _ | apply Pick.next)) cn_62 (by rfl) (by rfl) (by rfl) trivial ?_)
        refine aops_cons rfl (w_pure rfl (p_assign rfl) ?_)
        refine aops_nil ?_
        refine a_ret ?_
        refine ret_ok (hands2 rfl (.cell ag_62 rfl (by repeat (first | exact Pick.here _ _ _ | apply Pick.next)) (by rfl)) (.tmp rfl)) (.nil _) ?_
        first | exact ⟨_, _, by rw [(waitH_len h _).1, (waitH_len h _).2], rfl⟩ | (exfalso; first | contradiction | omega | exact absurd hA.1 (by assumption) | exact absurd hA.2.1 (by omega) | (have q := hA.2.2; unfold hI at q; simp_all))
      · (try simp only [Bool.not_eq_true', Bool.not_eq_false', Bool.not_eq_true, Bool.not_eq_false, decide_eq_true_eq, decide_eq_false_iff_not, List.length_map, List.length_range] at h6)
        refine a_skip ?_
        refine a_seq ?_
        refine a_region ?_
        refine aops_cons rfl (w_pure rfl (p_load_v_all ag_62 rfl (by rfl) noX) ?_)
        refine aops_cons rfl (w_call rfl rfl rfl cl_119 (co_impl_newHall h (by assumption)) ?_)
        rintro _ _ ⟨b2, b3, rfl, rfl⟩
        refine aops_cons rfl (w_alloc rfl z_62 fun b4 => ?_)
        refine aops_cons rfl (w_store (cells' := [_, _]) rfl rfl rfl (by repeat (first | exact Pick.here _ _ _ | apply Pick.next)) cn_62 (by rfl) (by rfl) (by rfl) trivial ?_)
        refine aops_nil ?_
        refine a_seq ?_
        refine a_region ?_
        refine aops_cons rfl (w_pure rfl (p_move rfl) ?_)
        refine aops_cons rfl (w_callM0 rfl rfl rfl cl_122 (.cons (by repeat (first | exact Pick.here _ _ _ | apply Pick.next)) (.cons (by repeat (first | exact Pick.here _ _ _ | apply Pick.next)) (.cons (by repeat (first | exact Pick.here _ _ _ | apply Pick.next)) (.nil _)))) (c_impl_wait _ _ _ [] h (by assumption) (findI h.list id) (by omega) (by omega) (by have := (IsHall.small ‹_›); omega)) trivial ?_)
        rintro _ _ ⟨rfl, rfl⟩
        refine aops_nil ?_
        refine a_seq ?_
        refine a_region ?_
        refine aops_cons rfl (w_pure rfl (p_load_box_all ag_62 rfl (by repeat (first | exact Pick.here _ _ _ | apply Pick.next)) (by rfl) noX) ?_)
        refine aops_cons rfl (w_store (cells' := [_, _]) rfl rfl rfl (by repeat (first | exact Pick.here _ _ _ | apply Pick.next)) cn_62 (by rfl) (by rfl) (by rfl) trivial ?_)
        refine aops_cons rfl (w_pure rfl (p_assign rfl) ?_)
        refine aops_nil ?_
        refine a_ret ?_
        refine ret_ok (hands2 rfl (.cell ag_62 rfl (by repeat (first | exact Pick.here _ _ _ | apply Pick.next)) (by rfl)) (.tmp rfl)) (st' := [(b2, _), (b3, _)]) (.cons (by repeat (first | exact Pick.here _ _ _ | apply Pick.next)) (.cons (by repeat (first | exact Pick.here _ _ _ | apply Pick.next)) (.nil _))) ?_
        first | exact ⟨_, _, by rw [(waitH_len h _).1, (waitH_len h _).2], rfl⟩ | (exfalso; first | contradiction | omega | exact absurd hA.1 (by assumption) | exact absurd hA.2.1 (by omega) | (have q := hA.2.2; unfold hI at q; simp_all))

theorem cf_impl_WaitVcpu (h : Hall) (hn : SmallHall h) (id : Int) (hA : GoodHalt h id) : ACalls Try.prog 73 [.agg (eHall h), .int .i64 id] [] (Ret (.tup [.agg (eHall (waitH h (hI h id))), .bool true])) :=
  (cy_impl_WaitVcpu h hn id hA).freeze (by rintro _ _ ⟨_, _, rfl, rfl⟩; exact (.tup (.cons (.agg (.cons (.own (by repeat (first | exact List.Mem.head _ | apply List.Mem.tail)) (List.length_map _)) (.cons (.own (by repeat (first | exact List.Mem.head _ | apply List.Mem.tail)) (List.length_map _)) .nil))) (.cons (.refl _) .nil))))

theorem cn_impl_WaitVcpu (h : Hall) (hn : SmallHall h) (id : Int) (hA : ¬ GoodHalt h id) : ACalls Try.prog 73 [.agg (eHall h), .int .i64 id] [] (Ret (.tup [.agg [.nil, .nil], .bool false])) := by
  have hnn := hn
  obtain ⟨hn1, hn2⟩ := hnn
  have hfi := findI_lt h.list id
  refine a_enter Try.func73 rfl rfl (fun w0 M0 => ?_)
  refine a_seq ?_
  refine a_region ?_
  refine aops_cons rfl (w_box_v rfl rfl rfl ?_)
  refine aops_cons rfl (w_alloc rfl z_62 fun b1 => ?_)
  refine aops_cons rfl (w_pure rfl (p_assign rfl) ?_)
  refine aops_nil ?_
  refine a_seq ?_
  refine a_region ?_
  refine aops_cons rfl (w_pure rfl (p_field_v fo_62_0 rfl) ?_)
  refine aops_cons rfl (w_pure rfl (p_load_v ag_24 rfl (by rfl) noX) ?_)
  refine aops_cons rfl (w_pure rfl (p_move rfl) ?_)
  refine aops_cons rfl (w_callR rfl rfl rfl cl_109 (c_impl_vcpuIndex _ (by omega) _) ?_)
  refine aops_cons rfl (w_pure rfl (p_assign rfl) ?_)
  refine aops_nil ?_
  refine a_seq ?_
  refine a_seq ?_
  refine a_region ?_
  refine aops_cons rfl (w_pure rfl (p_load_v_all ag_62 rfl (by rfl) noX) ?_)
  refine aops_cons rfl (w_callR rfl rfl rfl cl_81 (c_impl_IsHall _ ‹_›) ?_)
  refine aops_cons rfl (w_pure rfl (p_not rfl) ?_)
  refine aops_cons rfl (w_pure rfl (p_move rfl) ?_)
  first | refine aops_split_d 15 rfl (fun h1 => ?_) (fun h2 => ?_) | refine aops_split 15 rfl (fun h1 => ?_) (fun h2 => ?_)
  · (try simp only [Bool.not_eq_true', Bool.not_eq_false', Bool.not_eq_true, Bool.not_eq_false, decide_eq_true_eq, decide_eq_false_iff_not, List.length_map, List.length_range] at h1)
    refine g_pass' rfl rfl rfl rfl rfl ?_
    refine g_pass' rfl rfl rfl rfl rfl ?_
    refine aops_cons rfl (w_pure rfl (p_pick_t rfl rfl) ?_)
    refine aops_cons rfl (w_pure rfl (p_move rfl) ?_)
    refine g_pass' rfl rfl rfl rfl rfl ?_
    refine g_pass' rfl rfl rfl rfl rfl ?_
    refine g_pass' rfl rfl rfl rfl rfl ?_
    refine g_pass' rfl rfl rfl rfl rfl ?_
    refine g_pass' rfl rfl rfl rfl rfl ?_
    refine g_pass' rfl rfl rfl rfl rfl ?_
    refine aops_cons rfl (w_pure rfl (p_pick_t rfl rfl) ?_)
    refine aops_nil ?_
    refine a_cond_t rfl ?_
    refine a_seq ?_
    refine a_region ?_
    refine aops_cons rfl (w_pure rfl (p_build (cells := [_, _]) z_62 pl_62 rfl rfl) ?_)
    refine aops_cons rfl (w_store (cells' := [_, _]) rfl rfl rfl (by repeat (first | exact Pick.here _ _ _ | apply Pick.next)) cn_62 (by rfl) (by rfl) (by rfl) trivial ?_)
    refine aops_cons rfl (w_pure rfl (p_assign rfl) ?_)
    refine aops_nil ?_
    refine a_ret ?_
    refine ret_ok (hands2 rfl (.cell ag_62 rfl (by repeat (first | exact Pick.here _ _ _ | apply Pick.next)) (by rfl)) (.tmp rfl)) (.nil _) ?_
    first | exact ⟨rfl, rfl⟩ | exact absurd (show GoodHalt h id from ⟨by assumption, by omega, by assumption⟩) hA
  · (try simp only [Bool.not_eq_true', Bool.not_eq_false', Bool.not_eq_true, Bool.not_eq_false, decide_eq_true_eq, decide_eq_false_iff_not, List.length_map, List.length_range] at h2)
    refine aops_guard_t rfl rfl rfl (w_pure rfl (p_move rfl) ?_)
    refine aops_guard_t rfl rfl rfl (w_pure rfl (p_lss rfl rfl) ?_)
    refine aops_cons rfl (w_pure rfl (p_pick_f rfl rfl) ?_)
    refine aops_cons rfl (w_pure rfl (p_move rfl) ?_)
    first | refine aops_split_d 19 rfl (fun h3 => ?_) (fun h4 => ?_) | refine aops_split 19 rfl (fun h3 => ?_) (fun h4 => ?_)
    · (try simp only [Bool.not_eq_true', Bool.not_eq_false', Bool.not_eq_true, Bool.not_eq_false, decide_eq_true_eq, decide_eq_false_iff_not, List.length_map, List.length_range] at h3)
      refine g_pass' rfl rfl rfl rfl rfl ?_
      refine g_pass' rfl rfl rfl rfl rfl ?_
      refine g_pass' rfl rfl rfl rfl rfl ?_
      refine g_pass' rfl rfl rfl rfl rfl ?_
      refine g_pass' rfl rfl rfl rfl rfl ?_
      refine g_pass' rfl rfl rfl rfl rfl ?_
      refine aops_cons rfl (w_pure rfl (p_pick_t rfl rfl) ?_)
      refine aops_nil ?_
      refine a_cond_t rfl ?_
      refine a_seq ?_
      refine a_region ?_
      refine aops_cons rfl (w_pure rfl (p_build (cells := [_, _]) z_62 pl_62 rfl rfl) ?_)
      refine aops_cons rfl (w_store (cells' := [_, _]) rfl rfl rfl (by repeat (first | exact Pick.here _ _ _ | apply Pick.next)) cn_62 (by rfl) (by rfl) (by rfl) trivial ?_)
      refine aops_cons rfl (w_pure rfl (p_assign rfl) ?_)
      refine aops_nil ?_
      refine a_ret ?_
      refine ret_ok (hands2 rfl (.cell ag_62 rfl (by repeat (first | exact Pick.here _ _ _ | apply Pick.next)) (by rfl)) (.tmp rfl)) (.nil _) ?_
      first | exact ⟨rfl, rfl⟩ | exact absurd (show GoodHalt h id from ⟨by assumption, by omega, by assumption⟩) hA
    · (try simp only [Bool.not_eq_true', Bool.not_eq_false', Bool.not_eq_true, Bool.not_eq_false, decide_eq_true_eq, decide_eq_false_iff_not, List.length_map, List.length_range] at h4)
      refine aops_guard_t rfl rfl rfl (w_pure rfl (p_field_v fo_62_0 rfl) ?_)
      refine aops_guard_t rfl rfl rfl (w_pure rfl (p_load_v ag_24 rfl (by rfl) noX) ?_)
      refine aops_guard_t rfl rfl rfl (w_pure rfl (p_move rfl) ?_)
      refine aops_guard_t rfl rfl rfl (w_pure rfl (p_index_sl (findI h.list id).toNat rfl rfl (by omega) (rowD _ _ zVcpu (by omega)) es_24) ?_)
      refine aops_guard_t rfl rfl rfl (w_pure rfl (p_field_v fo_46_3 rfl) ?_)
      refine aops_guard_t rfl rfl rfl (w_pure rfl (p_load_v ag_4 rfl (by rfl) noX) ?_)
      refine aops_cons rfl (w_pure rfl (p_pick_f rfl rfl) ?_)
      refine aops_nil ?_
      first | refine a_cond_d rfl (fun h5 => ?_) (fun h6 => ?_) | refine a_cond_n rfl (fun h5 => ?_) (fun h6 => ?_) | refine a_cond_nb rfl (fun h5 => ?_) (fun h6 => ?_) | refine a_cond rfl (fun h5 => ?_) (fun h6 => ?_)
      · (try simp only [Bool.not_eq_true', Bool.not_eq_false', Bool.not_eq_true, Bool.not_eq_false, decide_eq_true_eq, decide_eq_false_iff_not, List.length_map, List.length_range] at h5)
        refine a_seq ?_
        refine a_region ?_
        refine aops_cons rfl (w_pure rfl (p_build (cells := [_, _]) z_62 pl_62 rfl rfl) ?_)
        refine aops_cons rfl (w_store (cells' := [_, _]) rfl rfl rfl (by repeat (first | exact Pick.here _ _ _ | apply Pick.next)) cn_62 (by rfl) (by rfl) (by rfl) trivial ?_)
        refine aops_cons rfl (w_pure rfl (p_assign rfl) ?_)
        refine aops_nil ?_
        refine a_ret ?_
        refine ret_ok (hands2 rfl (.cell ag_62 rfl (by repeat (first | exact Pick.here _ _ _ | apply Pick.next)) (by rfl)) (.tmp rfl)) (.nil _) ?_
        first | exact ⟨rfl, rfl⟩ | exact absurd (show GoodHalt h id from ⟨by assumption, by omega, by assumption⟩) hA
      · (try simp only [Bool.not_eq_true', Bool.not_eq_false', Bool.not_eq_true, Bool.not_eq_false, decide_eq_true_eq, decide_eq_false_iff_not, List.length_map, List.length_range] at h6)
        refine a_skip ?_
        refine a_seq ?_
        refine a_region ?_
        refine aops_cons rfl (w_pure rfl (p_load_v_all ag_62 rfl (by rfl) noX) ?_)
        refine aops_cons rfl (w_call rfl rfl rfl cl_119 (co_impl_newHall h (by assumption)) ?_)
        rintro _ _ ⟨b2, b3, rfl, rfl⟩
        refine aops_cons rfl (w_alloc rfl z_62 fun b4 => ?_)
        refine aops_cons rfl (w_store (cells' := [_, _]) rfl rfl rfl (by repeat (first | exact Pick.here _ _ _ | apply Pick.next)) cn_62 (by rfl) (by rfl) (by rfl) trivial ?_)
        refine aops_nil ?_
        refine a_seq ?_
        refine a_region ?_
        refine aops_cons rfl (w_pure rfl (p_move rfl) ?_)
        refine aops_cons rfl (w_callM0 rfl rfl rfl cl_122 (.cons (by repeat (first | exact Pick.here _ _ _ | apply Pick.next)) (.cons (by repeat (first | exact Pick.here _ _ _ | apply Pick.next)) (.cons (by repeat (first | exact Pick.here _ _ _ | apply Pick.next)) (.nil _)))) (c_impl_wait _ _ _ [] h (by assumption) (findI h.list id) (by omega) (by omega) (by have := (IsHall.small ‹_›); omega)) trivial ?_)
        rintro _ _ ⟨rfl, rfl⟩
        refine aops_nil ?_
        refine a_seq ?_
        refine a_region ?_
        refine aops_cons rfl (w_pure rfl (p_load_box_all ag_62 rfl (by repeat (first | exact Pick.here _ _ _ | apply Pick.next)) (by rfl) noX) ?_)
        refine aops_cons rfl (w_store (cells' := [_, _]) rfl rfl rfl (by repeat (first | exact Pick.here _ _ _ | apply Pick.next)) cn_62 (by rfl) (by rfl) (by rfl) trivial ?_)
        refine aops_cons rfl (w_pure rfl (p_assign rfl) ?_)
        refine aops_nil ?_
        refine a_ret ?_
        refine ret_ok (hands2 rfl (.cell ag_62 rfl (by repeat (first | exact Pick.here _ _ _ | apply Pick.next)) (by rfl)) (.tmp rfl)) (st' := [(b2, _), (b3, _)]) (.cons (by repeat (first | exact Pick.here _ _ _ | apply Pick.next)) (.cons (by repeat (first | exact Pick.here _ _ _ | apply Pick.next)) (.nil _))) ?_
        first | exact ⟨rfl, rfl⟩ | exact absurd (show GoodHalt h id from ⟨by assumption, by omega, by assumption⟩) hA

set_option maxHeartbeats 2000000 in
theorem c_laws_FnExactWaitVcpu (h : Hall) (_hc0 : okHall h) (id : Int) (_hc1 : InI id) : ACalls Try.prog 14 [.agg (eHall h), .int .i64 id] [] (Ret (.bool true)) := by
  have hm0 : h.list.length ≤ 9223372036854775807 ∧ h.events.length ≤ 9223372036854775807 := ⟨_hc0.1.2, _hc0.2.1.2⟩
  have hq0 : szHall h 1048576 ≤ 1048576 := szHall_ub (Int.le_refl _)
  by_cases hA : GoodHalt h id
  all_goals refine a_enter Try.func14 rfl rfl (fun w0 M0 => ?_)
  · skip
    refine a_seq ?_
    refine a_region ?_
    refine aops_cons rfl (w_box_v rfl rfl rfl ?_)
    refine aops_cons rfl (w_pure rfl (p_assign rfl) ?_)
    refine aops_nil ?_
    refine a_seq ?_
    refine a_region ?_
    refine aops_cons rfl (w_pure rfl (p_assign rfl) ?_)
    refine aops_nil ?_
    refine a_seq ?_
    refine a_region ?_
    refine aops_cons rfl (w_pure rfl (p_load_v_all ag_56 rfl (by rfl) noX) ?_)
    refine aops_cons rfl (w_pure rfl (p_move rfl) ?_)
    refine aops_cons rfl (w_callR rfl rfl rfl cl_53 (c_laws_szHall _ (by assumption) _ (by omega) (by omega)) ?_)
    refine aops_cons rfl (w_pure rfl (p_assign rfl) ?_)
    refine aops_nil ?_
    refine a_seq ?_
    refine a_seq ?_
    refine a_region ?_
    refine aops_cons rfl (w_pure rfl (p_move rfl) ?_)
    refine aops_cons rfl (w_pure rfl (p_lss rfl rfl) ?_)
    refine aops_nil ?_
    first | refine a_cond_d rfl (fun h1 => ?_) (fun h2 => ?_) | refine a_cond_n rfl (fun h1 => ?_) (fun h2 => ?_) | refine a_cond_nb rfl (fun h1 => ?_) (fun h2 => ?_) | refine a_cond rfl (fun h1 => ?_) (fun h2 => ?_)
    · (try simp only [Bool.not_eq_true', Bool.not_eq_false', Bool.not_eq_true, Bool.not_eq_false, decide_eq_true_eq, decide_eq_false_iff_not, List.length_map, List.length_range] at h1)
      refine a_seq ?_
      refine a_region ?_
      refine aops_cons rfl (w_pure rfl (p_assign rfl) ?_)
      refine aops_nil ?_
      refine a_ret ?_
      refine ret_ok (hands1 rfl (.tmp rfl)) (.nil _) ?_
      first | exact ⟨rfl, rfl⟩ | (exfalso; omega)
    · (try simp only [Bool.not_eq_true', Bool.not_eq_false', Bool.not_eq_true, Bool.not_eq_false, decide_eq_true_eq, decide_eq_false_iff_not, List.length_map, List.length_range] at h2)
      refine a_skip ?_
      refine a_seq ?_
      have hl0 : SmallHall h := szHall_le (left := 1048576) (by omega) (by omega) ‹_›; have hz0_ := hl0; simp only [SmallHall] at hz0_; obtain ⟨hz0_0, hz0_1⟩ := hz0_; have hr0 : SmallHall (waitH h (hI h id)) := (small_of hA.1 (waitH_len h _)); have hy0_ := hr0; simp only [SmallHall] at hy0_; obtain ⟨hy0_0, hy0_1⟩ := hy0_
      refine a_region ?_
      refine aops_cons rfl (w_pure rfl (p_load_v_all ag_56 rfl (by rfl) noX) ?_)
      refine aops_cons rfl (w_callR rfl rfl rfl cl_56 (c_laws_toHall h hl0) ?_)
      refine aops_cons rfl (w_pure rfl (p_move rfl) ?_)
      refine aops_cons rfl (w_callR rfl rfl rfl cl_72 (cy_spec_WaitVcpu h hl0 id hA) ?_)
      refine aops_cons rfl (w_pure rfl (p_move rfl) ?_)
      refine aops_cons rfl (w_pure rfl (p_extract rfl rfl) ?_)
      refine aops_cons rfl (w_pure rfl (p_extract rfl rfl) ?_)
      refine aops_cons rfl (w_alloc rfl z_62 fun b1 => ?_)
      refine aops_cons rfl (w_store (cells' := [_, _]) rfl rfl rfl (by repeat (first | exact Pick.here _ _ _ | apply Pick.next)) cn_62 (by rfl) (by rfl) (by rfl) trivial ?_)
      refine aops_cons rfl (w_pure rfl (p_assign rfl) ?_)
      refine aops_nil ?_
      refine a_seq ?_
      refine a_region ?_
      refine aops_cons rfl (w_pure rfl (p_load_v_all ag_56 rfl (by rfl) noX) ?_)
      refine aops_cons rfl (w_call rfl rfl rfl cl_56 (co_laws_toHall h hl0) ?_)
      rintro _ _ ⟨b2, b3, rfl, rfl⟩
      refine aops_cons rfl (w_alloc rfl z_62 fun b4 => ?_)
      refine aops_cons rfl (w_store (cells' := [_, _]) rfl rfl rfl (by repeat (first | exact Pick.here _ _ _ | apply Pick.next)) cn_62 (by rfl) (by rfl) (by rfl) trivial ?_)
      refine aops_nil ?_
      refine a_seq ?_
      refine a_region ?_
      refine aops_cons rfl (w_pure rfl (p_load_box_all ag_62 rfl (by repeat (first | exact Pick.here _ _ _ | apply Pick.next)) (by rfl) noX) ?_)
      refine aops_cons rfl (w_pure rfl (p_move rfl) ?_)
      refine aops_cons rfl (w_callL rfl rfl rfl cl_73 (.cons (.agg (.cons (.own (by repeat (first | exact List.Mem.head _ | apply List.Mem.tail)) (by first | (simp; done) | (simp; assumption) | (simp; omega) | (simp [mkL]; done))) (.cons (.own (by repeat (first | exact List.Mem.head _ | apply List.Mem.tail)) (by first | (simp; done) | (simp; assumption) | (simp; omega) | (simp [mkL]; done))) .nil))) (.cons (.refl _) .nil)) (cy_impl_WaitVcpu h hl0 id hA) ?_)
      rintro _ _ ⟨b5, b6, rfl, rfl⟩
      refine ⟨(closed_tup (all_cons' (closed_agg (all_cons' (closed_own _ _ _ _) (all_cons' (closed_own _ _ _ _) all_nil'))) (all_cons' (closed_bool _) all_nil'))), (closedS_cons (closedAll _ _ _ _ cl_eVcpu) (closedS_cons (closedAll _ _ _ _ cl_eBool) closedS_nil)), ?_⟩
      refine aops_cons rfl (w_pure rfl (p_move rfl) ?_)
      refine aops_cons rfl (w_pure rfl (p_extract rfl rfl) ?_)
      refine aops_cons rfl (w_pure rfl (p_extract rfl rfl) ?_)
      refine aops_cons rfl (w_alloc rfl z_62 fun b7 => ?_)
      refine aops_cons rfl (w_store (cells' := [_, _]) rfl rfl rfl (by repeat (first | exact Pick.here _ _ _ | apply Pick.next)) cn_62 (by rfl) (by rfl) (by rfl) trivial ?_)
      refine aops_cons rfl (w_pure rfl (p_assign rfl) ?_)
      refine aops_nil ?_
      refine a_seq ?_
      refine a_seq ?_
      refine a_region ?_
      refine aops_cons rfl (w_pure rfl (p_load_box_all ag_62 rfl (by repeat (first | exact Pick.here _ _ _ | apply Pick.next)) (by rfl) noX) ?_)
      refine aops_cons rfl (w_pure rfl (p_load_box_all ag_62 rfl (by repeat (first | exact Pick.here _ _ _ | apply Pick.next)) (by rfl) noX) ?_)
      refine aops_cons rfl (w_callLR rfl rfl rfl cl_59 (.cons (.agg (.cons (.own (by repeat (first | exact List.Mem.head _ | apply List.Mem.tail)) (by first | (simp; done) | (simp; assumption) | (simp; omega) | (simp [mkL]; done))) (.cons (.own (by repeat (first | exact List.Mem.head _ | apply List.Mem.tail)) (by first | (simp; done) | (simp; assumption) | (simp; omega) | (simp [mkL]; done))) .nil))) (.cons (.refl _) .nil)) (c_laws_eqHall (waitH h (hI h id)) (small_of hA.1 (waitH_len h _))) (closed_bool _) ?_)
      refine aops_cons rfl (w_pure rfl (p_not rfl) ?_)
      refine aops_cons rfl (w_pure rfl (p_move rfl) ?_)
      refine aops_guard_t rfl rfl rfl (w_pure rfl (p_move rfl) ?_)
      refine aops_guard_t rfl rfl rfl (w_pure rfl (p_move rfl) ?_)
      refine aops_guard_t rfl rfl rfl (w_pure rfl (p_neq_bsame um_4 rfl rfl) ?_)
      refine aops_cons rfl (w_pure rfl (p_pick_f rfl rfl) ?_)
      refine aops_nil ?_
      refine a_cond_f rfl ?_
      refine a_skip ?_
      refine a_seq ?_
      refine a_seq ?_
      refine a_draw [] (by kernel_rfl) ?_
      show ADraw _ _ _ _ _ _ 5 _ _ _ _
      refine d_load 0 rfl (by kernel_rfl) (by kernel_rfl) (by kernel_rfl) rfl (p_load_box_all ag_62 rfl (by repeat (first | exact Pick.here _ _ _ | apply Pick.next)) (by rfl) noX) ?_
      refine d_load 1 rfl (by kernel_rfl) (by kernel_rfl) (by kernel_rfl) rfl (p_load_v_all ag_56 rfl (by rfl) noX) ?_
      refine draw_all [2] (by kernel_rfl) (by simp) ?_
      refine all_cons rfl rfl ?_ ?_
      · skip
        refine w_callR rfl rfl rfl cl_56 (c_laws_toHall h hl0) ?_
        refine draw_all [3] (by kernel_rfl) (by simp) ?_
        refine all_cons rfl rfl ?_ ?_
        · skip
          refine w_callLR rfl rfl rfl cl_59 (.cons (.agg (.cons (.own (by repeat (first | exact List.Mem.head _ | apply List.Mem.tail)) (by first | (simp; done) | (simp; assumption) | (simp; omega) | (simp [mkL]; done))) (.cons (.own (by repeat (first | exact List.Mem.head _ | apply List.Mem.tail)) (by first | (simp; done) | (simp; assumption) | (simp; omega) | (simp [mkL]; done))) .nil))) (.cons (.refl _) .nil)) (c_laws_eqHall h hl0) (closed_bool _) ?_
          refine d_take 4 rfl (by kernel_rfl) (by kernel_rfl) (by kernel_rfl) rfl (p_not rfl) ?_
          refine draw_done (by kernel_rfl) ?_
          refine a_cond_f rfl ?_
          refine a_skip ?_
          refine a_seq ?_
          refine a_region ?_
          refine aops_cons rfl (w_pure rfl (p_assign rfl) ?_)
          refine aops_nil ?_
          refine a_seq ?_
          refine a_region ?_
          refine aops_cons rfl (w_pure rfl (p_load_box_all ag_62 rfl (by repeat (first | exact Pick.here _ _ _ | apply Pick.next)) (by rfl) noX) ?_)
          refine aops_cons rfl (w_pure rfl (p_move rfl) ?_)
          refine aops_cons rfl (w_callM rfl rfl rfl cl_63 (.cons (by repeat (first | exact Pick.here _ _ _ | apply Pick.next)) (.cons (by repeat (first | exact Pick.here _ _ _ | apply Pick.next)) (.nil _))) (.cons (.refl _) (.cons (.refl _) .nil)) (c_laws_markHall _ _ h hl0 _ (by first | omega | (simp; done) | (simp; omega)) (by first | omega | (simp; done) | (simp; omega))) trivial ?_)
          rintro _ _ ⟨rfl, rfl⟩
          refine ⟨(closed_int _ _), (closedS_cons (closedAll _ _ _ _ cl_eVcpu) (closedS_cons (closedAll _ _ _ _ cl_eBool) closedS_nil)), ?_⟩
          refine aops_cons rfl (w_pure rfl (p_assign rfl) ?_)
          refine aops_nil ?_
          refine a_seq ?_
          refine a_seq ?_
          refine a_region ?_
          refine aops_cons rfl (w_pure rfl (p_move rfl) ?_)
          refine aops_cons rfl (w_pure rfl (p_lss rfl rfl) ?_)
          refine aops_cons rfl (w_pure rfl (p_move rfl) ?_)
          first | refine aops_split_d 55 rfl (fun h3 => ?_) (fun h4 => ?_) | refine aops_split 55 rfl (fun h3 => ?_) (fun h4 => ?_)
          · (try simp only [Bool.not_eq_true', Bool.not_eq_false', Bool.not_eq_true, Bool.not_eq_false, decide_eq_true_eq, decide_eq_false_iff_not, List.length_map, List.length_range] at h3)
            refine g_pass' rfl rfl rfl rfl rfl ?_
            refine g_pass' rfl rfl rfl rfl rfl ?_
            refine g_pass' rfl rfl rfl rfl rfl ?_
            refine g_pass' rfl rfl rfl rfl rfl ?_
            refine aops_cons rfl (w_pure rfl (p_pick_t rfl rfl) ?_)
            refine aops_cons rfl (w_pure rfl (p_move rfl) ?_)
            refine g_pass' rfl rfl rfl rfl rfl ?_
            refine g_pass' rfl rfl rfl rfl rfl ?_
            refine g_pass' rfl rfl rfl rfl rfl ?_
            refine aops_cons rfl (w_pure rfl (p_pick_t rfl rfl) ?_)
            refine aops_nil ?_
            refine a_cond_t rfl ?_
            refine a_seq ?_
            refine a_region ?_
            refine aops_cons rfl (w_pure rfl (p_assign rfl) ?_)
            refine aops_nil ?_
            refine a_ret ?_
            refine ret_ok (hands1 rfl (.tmp rfl)) (.nil _) ?_
            first | exact ⟨rfl, rfl⟩ | (exfalso; omega)
          · (try simp only [Bool.not_eq_true', Bool.not_eq_false', Bool.not_eq_true, Bool.not_eq_false, decide_eq_true_eq, decide_eq_false_iff_not, List.length_map, List.length_range] at h4)
            refine aops_guard_t rfl rfl rfl (w_pure rfl (p_load_box_all ag_62 rfl (by repeat (first | exact Pick.here _ _ _ | apply Pick.next)) (by rfl) noX) ?_)
            refine aops_guard_t rfl rfl rfl (w_pure rfl (p_load_box_all ag_62 rfl (by repeat (first | exact Pick.here _ _ _ | apply Pick.next)) (by rfl) noX) ?_)
            refine aops_guard_t rfl rfl rfl (w_callLR rfl rfl rfl cl_59 (.cons (.agg (.cons (.own (by repeat (first | exact List.Mem.head _ | apply List.Mem.tail)) (by first | (simp; done) | (simp; assumption) | (simp; omega) | (simp [mkL]; done))) (.cons (.own (by repeat (first | exact List.Mem.head _ | apply List.Mem.tail)) (by first | (simp; done) | (simp; assumption) | (simp; omega) | (simp [mkL]; done))) .nil))) (.cons (.refl _) .nil)) (c_laws_eqHall (waitH h (hI h id)) (small_of hA.1 (waitH_len h _))) (closed_bool _) ?_)
            refine aops_guard_t rfl rfl rfl (w_pure rfl (p_not rfl) ?_)
            refine aops_cons rfl (w_pure rfl (p_pick_f rfl rfl) ?_)
            refine aops_cons rfl (w_pure rfl (p_move rfl) ?_)
            refine aops_guard_t rfl rfl rfl (w_pure rfl (p_move rfl) ?_)
            refine aops_guard_t rfl rfl rfl (w_pure rfl (p_move rfl) ?_)
            refine aops_guard_t rfl rfl rfl (w_pure rfl (p_neq_bsame um_4 rfl rfl) ?_)
            refine aops_cons rfl (w_pure rfl (p_pick_f rfl rfl) ?_)
            refine aops_nil ?_
            refine a_cond_f rfl ?_
            refine a_skip ?_
            refine a_seq ?_
            refine a_region ?_
            refine aops_cons rfl (w_pure rfl (p_assign rfl) ?_)
            refine aops_nil ?_
            refine a_seq ?_
            refine a_region ?_
            refine aops_cons rfl (w_pure rfl (p_load_box_all ag_62 rfl (by repeat (first | exact Pick.here _ _ _ | apply Pick.next)) (by rfl) noX) ?_)
            refine aops_cons rfl (w_pure rfl (p_move rfl) ?_)
            refine aops_cons rfl (w_callM rfl rfl rfl cl_63 (.cons (by repeat (first | exact Pick.here _ _ _ | apply Pick.next)) (.cons (by repeat (first | exact Pick.here _ _ _ | apply Pick.next)) (.nil _))) (.cons (.refl _) (.cons (.refl _) .nil)) (c_laws_markHall _ _ (waitH h (hI h id)) (small_of hA.1 (waitH_len h _)) _ (by first | omega | (simp; done) | (simp; omega)) (by first | omega | (simp; done) | (simp; omega))) trivial ?_)
            rintro _ _ ⟨rfl, rfl⟩
            refine ⟨(closed_int _ _), (closedS_cons (closedAll _ _ _ _ cl_eVcpu) (closedS_cons (closedAll _ _ _ _ cl_eBool) closedS_nil)), ?_⟩
            refine aops_cons rfl (w_pure rfl (p_assign rfl) ?_)
            refine aops_nil ?_
            refine a_seq ?_
            refine a_region ?_
            refine aops_cons rfl (w_pure rfl (p_assign rfl) ?_)
            refine aops_nil ?_
            refine a_seq ?_
            refine a_region ?_
            refine aops_cons rfl (w_pure rfl (p_load_box_all ag_62 rfl (by repeat (first | exact Pick.here _ _ _ | apply Pick.next)) (by rfl) noX) ?_)
            refine aops_cons rfl (w_pure rfl (p_move rfl) ?_)
            refine aops_cons rfl (w_callLR rfl rfl rfl cl_65 (.cons (.agg (.cons (.own (by repeat (first | exact List.Mem.head _ | apply List.Mem.tail)) (by first | (simp; done) | (simp; assumption) | (simp; omega) | (simp [mkL]; done))) (.cons (.own (by repeat (first | exact List.Mem.head _ | apply List.Mem.tail)) (by first | (simp; done) | (simp; assumption) | (simp; omega) | (simp [mkL]; done))) .nil))) (.cons (.refl _) .nil)) (c_laws_heldHall (waitH h (hI h id)) (small_of hA.1 (waitH_len h _)) _ (by first | omega | (simp; done) | (simp; omega)) (by first | omega | (simp; done) | (simp; omega))) (closed_int _ _) ?_)
            refine aops_cons rfl (w_pure rfl (p_assign rfl) ?_)
            refine aops_nil ?_
            refine a_seq ?_
            refine a_seq ?_
            refine a_region ?_
            refine aops_cons rfl (w_pure rfl (p_move rfl) ?_)
            refine aops_cons rfl (w_pure rfl (p_lss rfl rfl) ?_)
            refine aops_nil ?_
            first | refine a_cond_d rfl (fun h5 => ?_) (fun h6 => ?_) | refine a_cond_n rfl (fun h5 => ?_) (fun h6 => ?_) | refine a_cond_nb rfl (fun h5 => ?_) (fun h6 => ?_) | refine a_cond rfl (fun h5 => ?_) (fun h6 => ?_)
            · (try simp only [Bool.not_eq_true', Bool.not_eq_false', Bool.not_eq_true, Bool.not_eq_false, decide_eq_true_eq, decide_eq_false_iff_not, List.length_map, List.length_range] at h5)
              refine a_seq ?_
              refine a_region ?_
              refine aops_cons rfl (w_pure rfl (p_assign rfl) ?_)
              refine aops_nil ?_
              refine a_ret ?_
              refine ret_ok (hands1 rfl (.tmp rfl)) (.nil _) ?_
              first | exact ⟨rfl, rfl⟩ | (exfalso; omega)
            · (try simp only [Bool.not_eq_true', Bool.not_eq_false', Bool.not_eq_true, Bool.not_eq_false, decide_eq_true_eq, decide_eq_false_iff_not, List.length_map, List.length_range] at h6)
              refine a_skip ?_
              refine a_seq ?_
              refine a_seq ?_
              refine a_region ?_
              refine aops_cons rfl (w_pure rfl (p_move rfl) ?_)
              refine aops_cons rfl (w_pure rfl (p_move rfl) ?_)
              refine aops_cons rfl (w_pure rfl (p_neq_same rfl rfl) ?_)
              refine aops_nil ?_
              refine a_cond_f rfl ?_
              refine a_skip ?_
              refine a_seq ?_
              refine a_region ?_
              refine aops_cons rfl (w_pure rfl (p_load_v_all ag_56 rfl (by rfl) noX) ?_)
              refine aops_cons rfl (w_callR rfl rfl rfl cl_56 (c_laws_toHall h hl0) ?_)
              refine aops_cons rfl (w_pure rfl (p_move rfl) ?_)
              refine aops_cons rfl (w_callR rfl rfl rfl cl_73 (cf_impl_WaitVcpu h hl0 id hA) ?_)
              refine aops_cons rfl (w_pure rfl (p_move rfl) ?_)
              refine aops_cons rfl (w_pure rfl (p_extract rfl rfl) ?_)
              refine aops_cons rfl (w_pure rfl (p_extract rfl rfl) ?_)
              refine aops_cons rfl (w_alloc rfl z_62 fun b8 => ?_)
              refine aops_cons rfl (w_store (cells' := [_, _]) rfl rfl rfl (by repeat (first | exact Pick.here _ _ _ | apply Pick.next)) cn_62 (by rfl) (by rfl) (by rfl) trivial ?_)
              refine aops_cons rfl (w_pure rfl (p_assign rfl) ?_)
              refine aops_nil ?_
              refine a_seq ?_
              refine a_seq ?_
              refine a_region ?_
              refine aops_cons rfl (w_pure rfl (p_load_box_all ag_62 rfl (by repeat (first | exact Pick.here _ _ _ | apply Pick.next)) (by rfl) noX) ?_)
              refine aops_cons rfl (w_pure rfl (p_load_box_all ag_62 rfl (by repeat (first | exact Pick.here _ _ _ | apply Pick.next)) (by rfl) noX) ?_)
              refine aops_cons rfl (w_callLR rfl rfl rfl cl_59 (.cons (.refl _) (.cons (.refl _) .nil)) (c_laws_eqHall (waitH h (hI h id)) (small_of hA.1 (waitH_len h _))) (closed_bool _) ?_)
              refine aops_cons rfl (w_pure rfl (p_not rfl) ?_)
              refine aops_cons rfl (w_pure rfl (p_move rfl) ?_)
              refine aops_guard_t rfl rfl rfl (w_pure rfl (p_move rfl) ?_)
              refine aops_guard_t rfl rfl rfl (w_pure rfl (p_move rfl) ?_)
              refine aops_guard_t rfl rfl rfl (w_pure rfl (p_neq_bsame um_4 rfl rfl) ?_)
              refine aops_cons rfl (w_pure rfl (p_pick_f rfl rfl) ?_)
              refine aops_nil ?_
              refine a_cond_f rfl ?_
              refine a_skip ?_
              refine a_seq ?_
              refine a_region ?_
              refine aops_cons rfl (w_pure rfl (p_assign rfl) ?_)
              refine aops_nil ?_
              refine a_seq ?_
              refine a_region ?_
              refine aops_cons rfl (w_pure rfl (p_load_box_all ag_62 rfl (by repeat (first | exact Pick.here _ _ _ | apply Pick.next)) (by rfl) noX) ?_)
              refine aops_cons rfl (w_pure rfl (p_move rfl) ?_)
              refine aops_cons rfl (w_callLR rfl rfl rfl cl_65 (.cons (.agg (.cons (.own (by repeat (first | exact List.Mem.head _ | apply List.Mem.tail)) (by first | (simp; done) | (simp; assumption) | (simp; omega) | (simp [mkL]; done))) (.cons (.own (by repeat (first | exact List.Mem.head _ | apply List.Mem.tail)) (by first | (simp; done) | (simp; assumption) | (simp; omega) | (simp [mkL]; done))) .nil))) (.cons (.refl _) .nil)) (c_laws_heldHall (waitH h (hI h id)) (small_of hA.1 (waitH_len h _)) _ (by first | omega | (simp; done) | (simp; omega)) (by first | omega | (simp; done) | (simp; omega))) (closed_int _ _) ?_)
              refine aops_cons rfl (w_pure rfl (p_assign rfl) ?_)
              refine aops_nil ?_
              refine a_seq ?_
              refine a_seq ?_
              refine a_region ?_
              refine aops_cons rfl (w_pure rfl (p_move rfl) ?_)
              refine aops_cons rfl (w_pure rfl (p_lss rfl rfl) ?_)
              refine aops_nil ?_
              first | refine a_cond_d rfl (fun h7 => ?_) (fun h8 => ?_) | refine a_cond_n rfl (fun h7 => ?_) (fun h8 => ?_) | refine a_cond_nb rfl (fun h7 => ?_) (fun h8 => ?_) | refine a_cond rfl (fun h7 => ?_) (fun h8 => ?_)
              · (try simp only [Bool.not_eq_true', Bool.not_eq_false', Bool.not_eq_true, Bool.not_eq_false, decide_eq_true_eq, decide_eq_false_iff_not, List.length_map, List.length_range] at h7)
                refine a_seq ?_
                refine a_region ?_
                refine aops_cons rfl (w_pure rfl (p_assign rfl) ?_)
                refine aops_nil ?_
                refine a_ret ?_
                refine ret_ok (hands1 rfl (.tmp rfl)) (.nil _) ?_
                first | exact ⟨rfl, rfl⟩ | (exfalso; omega)
              · (try simp only [Bool.not_eq_true', Bool.not_eq_false', Bool.not_eq_true, Bool.not_eq_false, decide_eq_true_eq, decide_eq_false_iff_not, List.length_map, List.length_range] at h8)
                refine a_skip ?_
                refine a_seq ?_
                refine a_seq ?_
                refine a_region ?_
                refine aops_cons rfl (w_pure rfl (p_move rfl) ?_)
                refine aops_cons rfl (w_pure rfl (p_move rfl) ?_)
                refine aops_cons rfl (w_pure rfl (p_neq_same rfl rfl) ?_)
                refine aops_nil ?_
                refine a_cond_f rfl ?_
                refine a_skip ?_
                refine a_seq ?_
                refine a_region ?_
                refine aops_cons rfl (w_pure rfl (p_assign rfl) ?_)
                refine aops_nil ?_
                refine a_ret ?_
                refine ret_ok (hands1 rfl (.tmp rfl)) (.nil _) ?_
                first | exact ⟨rfl, rfl⟩ | (exfalso; omega)
        exact all_nil
      exact all_nil
  · skip
    refine a_seq ?_
    refine a_region ?_
    refine aops_cons rfl (w_box_v rfl rfl rfl ?_)
    refine aops_cons rfl (w_pure rfl (p_assign rfl) ?_)
    refine aops_nil ?_
    refine a_seq ?_
    refine a_region ?_
    refine aops_cons rfl (w_pure rfl (p_assign rfl) ?_)
    refine aops_nil ?_
    refine a_seq ?_
    refine a_region ?_
    refine aops_cons rfl (w_pure rfl (p_load_v_all ag_56 rfl (by rfl) noX) ?_)
    refine aops_cons rfl (w_pure rfl (p_move rfl) ?_)
    refine aops_cons rfl (w_callR rfl rfl rfl cl_53 (c_laws_szHall _ (by assumption) _ (by omega) (by omega)) ?_)
    refine aops_cons rfl (w_pure rfl (p_assign rfl) ?_)
    refine aops_nil ?_
    refine a_seq ?_
    refine a_seq ?_
    refine a_region ?_
    refine aops_cons rfl (w_pure rfl (p_move rfl) ?_)
    refine aops_cons rfl (w_pure rfl (p_lss rfl rfl) ?_)
    refine aops_nil ?_
    first | refine a_cond_d rfl (fun h1 => ?_) (fun h2 => ?_) | refine a_cond_n rfl (fun h1 => ?_) (fun h2 => ?_) | refine a_cond_nb rfl (fun h1 => ?_) (fun h2 => ?_) | refine a_cond rfl (fun h1 => ?_) (fun h2 => ?_)
    · (try simp only [Bool.not_eq_true', Bool.not_eq_false', Bool.not_eq_true, Bool.not_eq_false, decide_eq_true_eq, decide_eq_false_iff_not, List.length_map, List.length_range] at h1)
      refine a_seq ?_
      refine a_region ?_
      refine aops_cons rfl (w_pure rfl (p_assign rfl) ?_)
      refine aops_nil ?_
      refine a_ret ?_
      refine ret_ok (hands1 rfl (.tmp rfl)) (.nil _) ?_
      first | exact ⟨rfl, rfl⟩ | (exfalso; omega)
    · (try simp only [Bool.not_eq_true', Bool.not_eq_false', Bool.not_eq_true, Bool.not_eq_false, decide_eq_true_eq, decide_eq_false_iff_not, List.length_map, List.length_range] at h2)
      refine a_skip ?_
      refine a_seq ?_
      have hl0 : SmallHall h := szHall_le (left := 1048576) (by omega) (by omega) ‹_›; have hz0_ := hl0; simp only [SmallHall] at hz0_; obtain ⟨hz0_0, hz0_1⟩ := hz0_
      refine a_region ?_
      refine aops_cons rfl (w_pure rfl (p_load_v_all ag_56 rfl (by rfl) noX) ?_)
      refine aops_cons rfl (w_callR rfl rfl rfl cl_56 (c_laws_toHall h hl0) ?_)
      refine aops_cons rfl (w_pure rfl (p_move rfl) ?_)
      refine aops_cons rfl (w_callR rfl rfl rfl cl_72 (cn_spec_WaitVcpu h hl0 id hA) ?_)
      refine aops_cons rfl (w_pure rfl (p_move rfl) ?_)
      refine aops_cons rfl (w_pure rfl (p_extract rfl rfl) ?_)
      refine aops_cons rfl (w_pure rfl (p_extract rfl rfl) ?_)
      refine aops_cons rfl (w_alloc rfl z_62 fun b1 => ?_)
      refine aops_cons rfl (w_store (cells' := [_, _]) rfl rfl rfl (by repeat (first | exact Pick.here _ _ _ | apply Pick.next)) cn_62 (by rfl) (by rfl) (by rfl) trivial ?_)
      refine aops_cons rfl (w_pure rfl (p_assign rfl) ?_)
      refine aops_nil ?_
      refine a_seq ?_
      refine a_region ?_
      refine aops_cons rfl (w_pure rfl (p_load_v_all ag_56 rfl (by rfl) noX) ?_)
      refine aops_cons rfl (w_call rfl rfl rfl cl_56 (co_laws_toHall h hl0) ?_)
      rintro _ _ ⟨b2, b3, rfl, rfl⟩
      refine aops_cons rfl (w_alloc rfl z_62 fun b4 => ?_)
      refine aops_cons rfl (w_store (cells' := [_, _]) rfl rfl rfl (by repeat (first | exact Pick.here _ _ _ | apply Pick.next)) cn_62 (by rfl) (by rfl) (by rfl) trivial ?_)
      refine aops_nil ?_
      refine a_seq ?_
      refine a_region ?_
      refine aops_cons rfl (w_pure rfl (p_load_box_all ag_62 rfl (by repeat (first | exact Pick.here _ _ _ | apply Pick.next)) (by rfl) noX) ?_)
      refine aops_cons rfl (w_pure rfl (p_move rfl) ?_)
      refine aops_cons rfl (w_callLR rfl rfl rfl cl_73 (.cons (.agg (.cons (.own (by repeat (first | exact List.Mem.head _ | apply List.Mem.tail)) (by first | (simp; done) | (simp; assumption) | (simp; omega) | (simp [mkL]; done))) (.cons (.own (by repeat (first | exact List.Mem.head _ | apply List.Mem.tail)) (by first | (simp; done) | (simp; assumption) | (simp; omega) | (simp [mkL]; done))) .nil))) (.cons (.refl _) .nil)) (cn_impl_WaitVcpu h hl0 id hA) (closed_tup (all_cons' (closed_agg (all_cons' closed_nil (all_cons' closed_nil all_nil'))) (all_cons' (closed_bool _) all_nil'))) ?_)
      refine aops_cons rfl (w_pure rfl (p_move rfl) ?_)
      refine aops_cons rfl (w_pure rfl (p_extract rfl rfl) ?_)
      refine aops_cons rfl (w_pure rfl (p_extract rfl rfl) ?_)
      refine aops_cons rfl (w_alloc rfl z_62 fun b5 => ?_)
      refine aops_cons rfl (w_store (cells' := [_, _]) rfl rfl rfl (by repeat (first | exact Pick.here _ _ _ | apply Pick.next)) cn_62 (by rfl) (by rfl) (by rfl) trivial ?_)
      refine aops_cons rfl (w_pure rfl (p_assign rfl) ?_)
      refine aops_nil ?_
      refine a_seq ?_
      refine a_seq ?_
      refine a_region ?_
      refine aops_cons rfl (w_pure rfl (p_load_box_all ag_62 rfl (by repeat (first | exact Pick.here _ _ _ | apply Pick.next)) (by rfl) noX) ?_)
      refine aops_cons rfl (w_pure rfl (p_load_box_all ag_62 rfl (by repeat (first | exact Pick.here _ _ _ | apply Pick.next)) (by rfl) noX) ?_)
      refine aops_cons rfl (w_callLR rfl rfl rfl cl_59 (.cons (.agg (.cons .nil (.cons .nil .nil))) (.cons (.agg (.cons .nil (.cons .nil .nil))) .nil)) (c_laws_eqHall (⟨[], []⟩ : Hall) (by first | decide | (simp; done) | exact ⟨by decide, by decide⟩)) (closed_bool _) ?_)
      refine aops_cons rfl (w_pure rfl (p_not rfl) ?_)
      refine aops_cons rfl (w_pure rfl (p_move rfl) ?_)
      refine aops_guard_t rfl rfl rfl (w_pure rfl (p_move rfl) ?_)
      refine aops_guard_t rfl rfl rfl (w_pure rfl (p_move rfl) ?_)
      refine aops_guard_t rfl rfl rfl (w_pure rfl (p_neq_bsame um_4 rfl rfl) ?_)
      refine aops_cons rfl (w_pure rfl (p_pick_f rfl rfl) ?_)
      refine aops_nil ?_
      refine a_cond_f rfl ?_
      refine a_skip ?_
      refine a_seq ?_
      refine a_seq ?_
      refine a_draw [] (by kernel_rfl) ?_
      show ADraw _ _ _ _ _ _ 5 _ _ _ _
      refine d_load 0 rfl (by kernel_rfl) (by kernel_rfl) (by kernel_rfl) rfl (p_load_box_all ag_62 rfl (by repeat (first | exact Pick.here _ _ _ | apply Pick.next)) (by rfl) noX) ?_
      refine d_load 1 rfl (by kernel_rfl) (by kernel_rfl) (by kernel_rfl) rfl (p_load_v_all ag_56 rfl (by rfl) noX) ?_
      refine draw_all [2] (by kernel_rfl) (by simp) ?_
      refine all_cons rfl rfl ?_ ?_
      · skip
        refine w_callR rfl rfl rfl cl_56 (c_laws_toHall h hl0) ?_
        refine draw_all [3] (by kernel_rfl) (by simp) ?_
        refine all_cons rfl rfl ?_ ?_
        · skip
          refine w_callLR rfl rfl rfl cl_59 (.cons (.agg (.cons (.own (by repeat (first | exact List.Mem.head _ | apply List.Mem.tail)) (by first | (simp; done) | (simp; assumption) | (simp; omega) | (simp [mkL]; done))) (.cons (.own (by repeat (first | exact List.Mem.head _ | apply List.Mem.tail)) (by first | (simp; done) | (simp; assumption) | (simp; omega) | (simp [mkL]; done))) .nil))) (.cons (.refl _) .nil)) (c_laws_eqHall h hl0) (closed_bool _) ?_
          refine d_take 4 rfl (by kernel_rfl) (by kernel_rfl) (by kernel_rfl) rfl (p_not rfl) ?_
          refine draw_done (by kernel_rfl) ?_
          refine a_cond_f rfl ?_
          refine a_skip ?_
          refine a_seq ?_
          refine a_region ?_
          refine aops_cons rfl (w_pure rfl (p_assign rfl) ?_)
          refine aops_nil ?_
          refine a_seq ?_
          refine a_region ?_
          refine aops_cons rfl (w_pure rfl (p_load_box_all ag_62 rfl (by repeat (first | exact Pick.here _ _ _ | apply Pick.next)) (by rfl) noX) ?_)
          refine aops_cons rfl (w_pure rfl (p_move rfl) ?_)
          refine aops_cons rfl (w_callM rfl rfl rfl cl_63 (.cons (by repeat (first | exact Pick.here _ _ _ | apply Pick.next)) (.cons (by repeat (first | exact Pick.here _ _ _ | apply Pick.next)) (.nil _))) (.cons (.refl _) (.cons (.refl _) .nil)) (c_laws_markHall _ _ h hl0 _ (by first | omega | (simp; done) | (simp; omega)) (by first | omega | (simp; done) | (simp; omega))) trivial ?_)
          rintro _ _ ⟨rfl, rfl⟩
          refine ⟨(closed_int _ _), (closedS_cons (closedAll _ _ _ _ cl_eVcpu) (closedS_cons (closedAll _ _ _ _ cl_eBool) closedS_nil)), ?_⟩
          refine aops_cons rfl (w_pure rfl (p_assign rfl) ?_)
          refine aops_nil ?_
          refine a_seq ?_
          refine a_seq ?_
          refine a_region ?_
          refine aops_cons rfl (w_pure rfl (p_move rfl) ?_)
          refine aops_cons rfl (w_pure rfl (p_lss rfl rfl) ?_)
          refine aops_cons rfl (w_pure rfl (p_move rfl) ?_)
          first | refine aops_split_d 55 rfl (fun h3 => ?_) (fun h4 => ?_) | refine aops_split 55 rfl (fun h3 => ?_) (fun h4 => ?_)
          · (try simp only [Bool.not_eq_true', Bool.not_eq_false', Bool.not_eq_true, Bool.not_eq_false, decide_eq_true_eq, decide_eq_false_iff_not, List.length_map, List.length_range] at h3)
            refine g_pass' rfl rfl rfl rfl rfl ?_
            refine g_pass' rfl rfl rfl rfl rfl ?_
            refine g_pass' rfl rfl rfl rfl rfl ?_
            refine g_pass' rfl rfl rfl rfl rfl ?_
            refine aops_cons rfl (w_pure rfl (p_pick_t rfl rfl) ?_)
            refine aops_cons rfl (w_pure rfl (p_move rfl) ?_)
            refine g_pass' rfl rfl rfl rfl rfl ?_
            refine g_pass' rfl rfl rfl rfl rfl ?_
            refine g_pass' rfl rfl rfl rfl rfl ?_
            refine aops_cons rfl (w_pure rfl (p_pick_t rfl rfl) ?_)
            refine aops_nil ?_
            refine a_cond_t rfl ?_
            refine a_seq ?_
            refine a_region ?_
            refine aops_cons rfl (w_pure rfl (p_assign rfl) ?_)
            refine aops_nil ?_
            refine a_ret ?_
            refine ret_ok (hands1 rfl (.tmp rfl)) (.nil _) ?_
            first | exact ⟨rfl, rfl⟩ | (exfalso; omega)
          · (try simp only [Bool.not_eq_true', Bool.not_eq_false', Bool.not_eq_true, Bool.not_eq_false, decide_eq_true_eq, decide_eq_false_iff_not, List.length_map, List.length_range] at h4)
            refine aops_guard_t rfl rfl rfl (w_pure rfl (p_load_box_all ag_62 rfl (by repeat (first | exact Pick.here _ _ _ | apply Pick.next)) (by rfl) noX) ?_)
            refine aops_guard_t rfl rfl rfl (w_pure rfl (p_load_box_all ag_62 rfl (by repeat (first | exact Pick.here _ _ _ | apply Pick.next)) (by rfl) noX) ?_)
            refine aops_guard_t rfl rfl rfl (w_callLR rfl rfl rfl cl_59 (.cons (.agg (.cons .nil (.cons .nil .nil))) (.cons (.agg (.cons .nil (.cons .nil .nil))) .nil)) (c_laws_eqHall (⟨[], []⟩ : Hall) (by first | decide | (simp; done) | exact ⟨by decide, by decide⟩)) (closed_bool _) ?_)
            refine aops_guard_t rfl rfl rfl (w_pure rfl (p_not rfl) ?_)
            refine aops_cons rfl (w_pure rfl (p_pick_f rfl rfl) ?_)
            refine aops_cons rfl (w_pure rfl (p_move rfl) ?_)
            refine aops_guard_t rfl rfl rfl (w_pure rfl (p_move rfl) ?_)
            refine aops_guard_t rfl rfl rfl (w_pure rfl (p_move rfl) ?_)
            refine aops_guard_t rfl rfl rfl (w_pure rfl (p_neq_bsame um_4 rfl rfl) ?_)
            refine aops_cons rfl (w_pure rfl (p_pick_f rfl rfl) ?_)
            refine aops_nil ?_
            refine a_cond_f rfl ?_
            refine a_skip ?_
            refine a_seq ?_
            refine a_region ?_
            refine aops_cons rfl (w_pure rfl (p_assign rfl) ?_)
            refine aops_nil ?_
            refine a_seq ?_
            refine a_region ?_
            refine aops_cons rfl (w_pure rfl (p_load_box_all ag_62 rfl (by repeat (first | exact Pick.here _ _ _ | apply Pick.next)) (by rfl) noX) ?_)
            refine aops_cons rfl (w_pure rfl (p_move rfl) ?_)
            refine aops_cons rfl (w_callR rfl rfl rfl cl_63 (cn_laws_markHall ..) ?_)
            refine aops_cons rfl (w_pure rfl (p_assign rfl) ?_)
            refine aops_nil ?_
            refine a_seq ?_
            refine a_region ?_
            refine aops_cons rfl (w_pure rfl (p_assign rfl) ?_)
            refine aops_nil ?_
            refine a_seq ?_
            refine a_region ?_
            refine aops_cons rfl (w_pure rfl (p_load_box_all ag_62 rfl (by repeat (first | exact Pick.here _ _ _ | apply Pick.next)) (by rfl) noX) ?_)
            refine aops_cons rfl (w_pure rfl (p_move rfl) ?_)
            refine aops_cons rfl (w_callLR rfl rfl rfl cl_65 (.cons (.agg (.cons .nil (.cons .nil .nil))) (.cons (.refl _) .nil)) (c_laws_heldHall (⟨[], []⟩ : Hall) (by first | decide | (simp; done) | exact ⟨by decide, by decide⟩) _ (by first | omega | (simp; done) | (simp; omega)) (by first | omega | (simp; done) | (simp; omega))) (closed_int _ _) ?_)
            refine aops_cons rfl (w_pure rfl (p_assign rfl) ?_)
            refine aops_nil ?_
            refine a_seq ?_
            refine a_seq ?_
            refine a_region ?_
            refine aops_cons rfl (w_pure rfl (p_move rfl) ?_)
            refine aops_cons rfl (w_pure rfl (p_lss rfl rfl) ?_)
            refine aops_nil ?_
            first | refine a_cond_d rfl (fun h5 => ?_) (fun h6 => ?_) | refine a_cond_n rfl (fun h5 => ?_) (fun h6 => ?_) | refine a_cond_nb rfl (fun h5 => ?_) (fun h6 => ?_) | refine a_cond rfl (fun h5 => ?_) (fun h6 => ?_)
            · (try simp only [Bool.not_eq_true', Bool.not_eq_false', Bool.not_eq_true, Bool.not_eq_false, decide_eq_true_eq, decide_eq_false_iff_not, List.length_map, List.length_range] at h5)
              refine a_seq ?_
              refine a_region ?_
              refine aops_cons rfl (w_pure rfl (p_assign rfl) ?_)
              refine aops_nil ?_
              refine a_ret ?_
              refine ret_ok (hands1 rfl (.tmp rfl)) (.nil _) ?_
              first | exact ⟨rfl, rfl⟩ | (exfalso; omega)
            · (try simp only [Bool.not_eq_true', Bool.not_eq_false', Bool.not_eq_true, Bool.not_eq_false, decide_eq_true_eq, decide_eq_false_iff_not, List.length_map, List.length_range] at h6)
              refine a_skip ?_
              refine a_seq ?_
              refine a_seq ?_
              refine a_region ?_
              refine aops_cons rfl (w_pure rfl (p_move rfl) ?_)
              refine aops_cons rfl (w_pure rfl (p_move rfl) ?_)
              refine aops_cons rfl (w_pure rfl (p_neq_same rfl rfl) ?_)
              refine aops_nil ?_
              refine a_cond_f rfl ?_
              refine a_skip ?_
              refine a_seq ?_
              refine a_region ?_
              refine aops_cons rfl (w_pure rfl (p_load_v_all ag_56 rfl (by rfl) noX) ?_)
              refine aops_cons rfl (w_callR rfl rfl rfl cl_56 (c_laws_toHall h hl0) ?_)
              refine aops_cons rfl (w_pure rfl (p_move rfl) ?_)
              refine aops_cons rfl (w_callR rfl rfl rfl cl_73 (cn_impl_WaitVcpu h hl0 id hA) ?_)
              refine aops_cons rfl (w_pure rfl (p_move rfl) ?_)
              refine aops_cons rfl (w_pure rfl (p_extract rfl rfl) ?_)
              refine aops_cons rfl (w_pure rfl (p_extract rfl rfl) ?_)
              refine aops_cons rfl (w_alloc rfl z_62 fun b6 => ?_)
              refine aops_cons rfl (w_store (cells' := [_, _]) rfl rfl rfl (by repeat (first | exact Pick.here _ _ _ | apply Pick.next)) cn_62 (by rfl) (by rfl) (by rfl) trivial ?_)
              refine aops_cons rfl (w_pure rfl (p_assign rfl) ?_)
              refine aops_nil ?_
              refine a_seq ?_
              refine a_seq ?_
              refine a_region ?_
              refine aops_cons rfl (w_pure rfl (p_load_box_all ag_62 rfl (by repeat (first | exact Pick.here _ _ _ | apply Pick.next)) (by rfl) noX) ?_)
              refine aops_cons rfl (w_pure rfl (p_load_box_all ag_62 rfl (by repeat (first | exact Pick.here _ _ _ | apply Pick.next)) (by rfl) noX) ?_)
              refine aops_cons rfl (w_callLR rfl rfl rfl cl_59 (.cons (.agg (.cons .nil (.cons .nil .nil))) (.cons (.agg (.cons .nil (.cons .nil .nil))) .nil)) (c_laws_eqHall (⟨[], []⟩ : Hall) (by first | decide | (simp; done) | exact ⟨by decide, by decide⟩)) (closed_bool _) ?_)
              refine aops_cons rfl (w_pure rfl (p_not rfl) ?_)
              refine aops_cons rfl (w_pure rfl (p_move rfl) ?_)
              refine aops_guard_t rfl rfl rfl (w_pure rfl (p_move rfl) ?_)
              refine aops_guard_t rfl rfl rfl (w_pure rfl (p_move rfl) ?_)
              refine aops_guard_t rfl rfl rfl (w_pure rfl (p_neq_bsame um_4 rfl rfl) ?_)
              refine aops_cons rfl (w_pure rfl (p_pick_f rfl rfl) ?_)
              refine aops_nil ?_
              refine a_cond_f rfl ?_
              refine a_skip ?_
              refine a_seq ?_
              refine a_region ?_
              refine aops_cons rfl (w_pure rfl (p_assign rfl) ?_)
              refine aops_nil ?_
              refine a_seq ?_
              refine a_region ?_
              refine aops_cons rfl (w_pure rfl (p_load_box_all ag_62 rfl (by repeat (first | exact Pick.here _ _ _ | apply Pick.next)) (by rfl) noX) ?_)
              refine aops_cons rfl (w_pure rfl (p_move rfl) ?_)
              refine aops_cons rfl (w_callLR rfl rfl rfl cl_65 (.cons (.agg (.cons .nil (.cons .nil .nil))) (.cons (.refl _) .nil)) (c_laws_heldHall (⟨[], []⟩ : Hall) (by first | decide | (simp; done) | exact ⟨by decide, by decide⟩) _ (by first | omega | (simp; done) | (simp; omega)) (by first | omega | (simp; done) | (simp; omega))) (closed_int _ _) ?_)
              refine aops_cons rfl (w_pure rfl (p_assign rfl) ?_)
              refine aops_nil ?_
              refine a_seq ?_
              refine a_seq ?_
              refine a_region ?_
              refine aops_cons rfl (w_pure rfl (p_move rfl) ?_)
              refine aops_cons rfl (w_pure rfl (p_lss rfl rfl) ?_)
              refine aops_nil ?_
              first | refine a_cond_d rfl (fun h7 => ?_) (fun h8 => ?_) | refine a_cond_n rfl (fun h7 => ?_) (fun h8 => ?_) | refine a_cond_nb rfl (fun h7 => ?_) (fun h8 => ?_) | refine a_cond rfl (fun h7 => ?_) (fun h8 => ?_)
              · (try simp only [Bool.not_eq_true', Bool.not_eq_false', Bool.not_eq_true, Bool.not_eq_false, decide_eq_true_eq, decide_eq_false_iff_not, List.length_map, List.length_range] at h7)
                refine a_seq ?_
                refine a_region ?_
                refine aops_cons rfl (w_pure rfl (p_assign rfl) ?_)
                refine aops_nil ?_
                refine a_ret ?_
                refine ret_ok (hands1 rfl (.tmp rfl)) (.nil _) ?_
                first | exact ⟨rfl, rfl⟩ | (exfalso; omega)
              · (try simp only [Bool.not_eq_true', Bool.not_eq_false', Bool.not_eq_true, Bool.not_eq_false, decide_eq_true_eq, decide_eq_false_iff_not, List.length_map, List.length_range] at h8)
                refine a_skip ?_
                refine a_seq ?_
                refine a_seq ?_
                refine a_region ?_
                refine aops_cons rfl (w_pure rfl (p_move rfl) ?_)
                refine aops_cons rfl (w_pure rfl (p_move rfl) ?_)
                refine aops_cons rfl (w_pure rfl (p_neq_same rfl rfl) ?_)
                refine aops_nil ?_
                refine a_cond_f rfl ?_
                refine a_skip ?_
                refine a_seq ?_
                refine a_region ?_
                refine aops_cons rfl (w_pure rfl (p_assign rfl) ?_)
                refine aops_nil ?_
                refine a_ret ?_
                refine ret_ok (hands1 rfl (.tmp rfl)) (.nil _) ?_
                first | exact ⟨rfl, rfl⟩ | (exfalso; omega)
        exact all_nil
      exact all_nil

end Go.Proofs.Ytkgnhpilpmbheaa
