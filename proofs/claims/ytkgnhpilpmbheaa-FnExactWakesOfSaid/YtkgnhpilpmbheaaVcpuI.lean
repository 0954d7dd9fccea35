/-
  The walks of this part: each theorem is the contract of one function. Condition: none but those that it names.
-/
import Derived.Test.YtkgnhpilpmbheaaVcpuId
import Derived.Test.YtkgnhpilpmbheaaVcpuIF
import Derived.Test.YtkgnhpilpmbheaaVcpuA
import Derived.Test.YtkgnhpilpmbheaaVcpuB
import Derived.Test.YtkgnhpilpmbheaaVcpuC
import Derived.Test.YtkgnhpilpmbheaaVcpuG
import Derived.Test.YtkgnhpilpmbheaaVcpuH
namespace Go.Proofs.Ytkgnhpilpmbheaa
open Go Go.Fw Go.Hv
attribute [local irreducible] awp Aops Aop ADraw ADrawAll ACalls
set_option maxRecDepth 4000
set_option linter.unusedSimpArgs false
set_option linter.unusedVariables false

theorem c_laws_toHallOp (c : HallOp) : ACalls Try.prog 107 [.agg (eHallOp c)] [] (Ret (.agg (eHallOp c))) := by
  refine a_enter Try.func107 rfl rfl (fun w0 M0 => ?_)
  refine a_seq ?_
  refine a_region ?_
  refine aops_cons rfl (w_box_v rfl rfl rfl ?_)
  refine aops_cons rfl (w_alloc rfl z_84 fun b1 => ?_)
  refine aops_nil ?_
  refine a_seq ?_
  refine a_region ?_
  refine aops_cons rfl (w_alloc rfl z_84 fun b2 => ?_)
  refine aops_nil ?_
  refine a_seq ?_
  refine a_region ?_
  refine aops_cons rfl (w_pure rfl (p_field_v fo_115_0 rfl) ?_)
  refine aops_cons rfl (w_pure rfl (p_load_v ag_3 rfl (by rfl) noX) ?_)
  refine aops_cons rfl (w_pure rfl (p_field_box fo_84_0 rfl) ?_)
  refine aops_cons rfl (w_store (cells' := [_, _]) rfl rfl rfl (by repeat (first | exact Pick.here _ _ _ | apply Pick.next)) cn_3 (by rfl) (by rfl) (by rfl) trivial ?_)
  refine aops_nil ?_
  refine a_seq ?_
  refine a_region ?_
  refine aops_cons rfl (w_pure rfl (p_field_v fo_115_1 rfl) ?_)
  refine aops_cons rfl (w_pure rfl (p_load_v ag_3 rfl (by rfl) noX) ?_)
  refine aops_cons rfl (w_pure rfl (p_field_box fo_84_1 rfl) ?_)
  refine aops_cons rfl (w_store (cells' := [_, _]) rfl rfl rfl (by repeat (first | exact Pick.here _ _ _ | apply Pick.next)) cn_3 (by rfl) (by rfl) (by rfl) trivial ?_)
  refine aops_nil ?_
  refine a_seq ?_
  refine a_region ?_
  refine aops_cons rfl (w_pure rfl (p_load_box_all ag_84 rfl (by repeat (first | exact Pick.here _ _ _ | apply Pick.next)) (by rfl) noX) ?_)
  refine aops_cons rfl (w_store (cells' := [_, _]) rfl rfl rfl (by repeat (first | exact Pick.here _ _ _ | apply Pick.next)) cn_84 (by rfl) (by rfl) (by rfl) trivial ?_)
  refine aops_nil ?_
  refine a_ret ?_
  refine ret_ok (hands1 rfl (.cell ag_84 rfl (by repeat (first | exact Pick.here _ _ _ | apply Pick.next)) (by rfl))) (.nil _) ?_
  exact ⟨rfl, rfl⟩

theorem c_laws_eqHallOp (c : HallOp) : ACalls Try.prog 111 [.agg (eHallOp c), .agg (eHallOp c)] [] (Ret (.bool true)) := by
  refine a_enter Try.func111 rfl rfl (fun w0 M0 => ?_)
  refine a_seq ?_
  refine a_region ?_
  refine aops_cons rfl (w_box_v rfl rfl rfl ?_)
  refine aops_cons rfl (w_box_v rfl rfl rfl ?_)
  refine aops_cons rfl (w_pure rfl (p_assign rfl) ?_)
  refine aops_nil ?_
  refine a_seq ?_
  refine a_seq ?_
  refine a_region ?_
  refine aops_cons rfl (w_pure rfl (p_field_v fo_84_0 rfl) ?_)
  refine aops_cons rfl (w_pure rfl (p_load_v ag_3 rfl (by rfl) noX) ?_)
  refine aops_cons rfl (w_pure rfl (p_field_v fo_84_0 rfl) ?_)
  refine aops_cons rfl (w_pure rfl (p_load_v ag_3 rfl (by rfl) noX) ?_)
  refine aops_cons rfl (w_pure rfl (p_neq_same rfl rfl) ?_)
  refine aops_nil ?_
  refine a_cond_f rfl ?_
  refine a_skip ?_
  refine a_seq ?_
  refine a_seq ?_
  refine a_region ?_
  refine aops_cons rfl (w_pure rfl (p_field_v fo_84_1 rfl) ?_)
  refine aops_cons rfl (w_pure rfl (p_load_v ag_3 rfl (by rfl) noX) ?_)
  refine aops_cons rfl (w_pure rfl (p_field_v fo_84_1 rfl) ?_)
  refine aops_cons rfl (w_pure rfl (p_load_v ag_3 rfl (by rfl) noX) ?_)
  refine aops_cons rfl (w_pure rfl (p_neq_same rfl rfl) ?_)
  refine aops_nil ?_
  refine a_cond_f rfl ?_
  refine a_skip ?_
  refine a_seq ?_
  refine a_region ?_
  refine aops_cons rfl (w_pure rfl (p_assign rfl) ?_)
  refine aops_nil ?_
  refine a_ret ?_
  refine ret_ok (hands1 rfl (.tmp rfl)) (.nil _) ?_
  exact ⟨rfl, rfl⟩

theorem c_laws_szHallOpS (xs : List HallOp) (hn : xs.length ≤ 9223372036854775807) (left : Int) (l0 : 0 ≤ left) (l1 : left ≤ 1048576) : ACalls Try.prog 54 [.sl (xs.map eHallOp), .int .i64 left] [] (Ret (.int .i64 (szv xs.length left))) := by
  refine a_enter Try.func54 rfl rfl (fun w0 M0 => ?_)
  refine a_seq ?_
  refine a_region ?_
  refine aops_cons rfl (w_pure rfl (p_assign rfl) ?_)
  refine aops_nil ?_
  refine a_seq ?_
  refine a_region ?_
  refine aops_cons rfl (w_pure rfl (p_move rfl) ?_)
  refine aops_cons rfl (w_pure rfl (p_move rfl) ?_)
  refine aops_cons rfl (w_pure rfl (p_len sl_57 rfl rfl) ?_)
  refine aops_cons rfl (w_pure rfl (p_sub' rfl rfl ⟨by simp only [List.length_map]; omega, by simp only [List.length_map]; omega⟩) ?_)
  refine aops_cons rfl (w_pure rfl (p_assign rfl) ?_)
  refine aops_nil ?_
  refine a_seq ?_
  refine a_seq ?_
  refine a_region ?_
  refine aops_cons rfl (w_pure rfl (p_move rfl) ?_)
  refine aops_cons rfl (w_pure rfl (p_lss rfl rfl) ?_)
  refine aops_nil ?_
  first | refine a_cond_d rfl (fun h1 => ?_) (fun h2 => ?_) | refine a_cond_n rfl (fun h1 => ?_) (fun h2 => ?_) | refine a_cond_nb rfl (fun h1 => ?_) (fun h2 => ?_) | refine a_cond rfl (fun h1 => ?_) (fun h2 => ?_)
  · (try simp only [Bool.not_eq_true', Bool.not_eq_false', Bool.not_eq_true, Bool.not_eq_false, decide_eq_true_eq, decide_eq_false_iff_not, List.length_map, List.length_range] at h1)
    refine a_seq ?_
    refine a_region ?_
    refine aops_cons rfl (w_pure rfl (p_assign rfl) ?_)
    refine aops_nil ?_
    refine a_ret ?_
    refine ret_ok (hands1 rfl (.tmp rfl)) (.nil _) ?_
    exact ⟨by unfold szv; first | (rw [if_pos (by omega)]) | (rw [if_neg (by omega)]; simp), rfl⟩
  · (try simp only [Bool.not_eq_true', Bool.not_eq_false', Bool.not_eq_true, Bool.not_eq_false, decide_eq_true_eq, decide_eq_false_iff_not, List.length_map, List.length_range] at h2)
    refine a_skip ?_
    refine a_seq ?_
    refine a_region ?_
    refine aops_cons rfl (w_pure rfl (p_move rfl) ?_)
    refine aops_cons rfl (w_pure rfl (p_assign rfl) ?_)
    refine aops_nil ?_
    refine a_ret ?_
    refine ret_ok (hands1 rfl (.tmp rfl)) (.nil _) ?_
    exact ⟨by unfold szv; first | (rw [if_pos (by omega)]) | (rw [if_neg (by omega)]; simp), rfl⟩

theorem co_laws_toHallOpS (xs : List HallOp) (hn : xs.length ≤ 1048576) : ACalls Try.prog 57 [.sl (xs.map eHallOp)] [] (RetOwn 84 2 (xs.map eHallOp)) := by
  refine a_enter Try.func57 rfl rfl (fun w0 M0 => ?_)
  refine a_seq ?_
  refine a_region ?_
  refine aops_cons rfl (w_pure rfl (p_assign rfl) ?_)
  refine aops_nil ?_
  refine a_seq ?_
  refine a_region ?_
  refine aops_cons rfl (w_pure rfl (p_move rfl) ?_)
  refine aops_cons rfl (w_pure rfl (p_len sl_57 rfl rfl) ?_)
  refine aops_cons rfl (w_makeN eHallOp zHallOp xs.length rfl el_64 z_84 rfl rfl (by simp) (by omega) (by omega) fun b1 => ?_)
  refine aops_cons rfl (w_pure rfl (p_assign rfl) ?_)
  refine aops_nil ?_
  refine a_seq ?_
  refine a_seq ?_
  refine a_region ?_
  refine aops_cons rfl (w_pure rfl (p_assign rfl) ?_)
  refine aops_nil ?_
  refine a_block ?_
  refine a_loop (ι := Nat) (fun i => i ≤ xs.length) (fun i => [(4, .int .i64 (i : Int))]) (fun i => [(b1, .arr 84 2 ((fillTo zHallOp xs i).map eHallOp))]) (fun i => xs.length - i) 0 (Nat.zero_le _) (by repeat (first | exact Knows.nil | refine Knows.cons (by rfl) ?_)) (by repeat (first | exact Picks.nil _ | exact Pick.here _ _ _ | apply Pick.next | apply Picks.cons)) ?_
  rintro i hi
  skip
  refine a_seq ?_
  refine a_seq ?_
  refine a_region ?_
  refine aops_cons rfl (w_pure rfl (p_move rfl) ?_)
  refine aops_cons rfl (w_pure rfl (p_move rfl) ?_)
  refine aops_cons rfl (w_pure rfl (p_len sl_57 rfl rfl) ?_)
  refine aops_cons rfl (w_pure rfl (p_lss rfl rfl) ?_)
  refine aops_nil ?_
  first | refine a_cond_d rfl (fun h1 => ?_) (fun h2 => ?_) | refine a_cond_n rfl (fun h1 => ?_) (fun h2 => ?_) | refine a_cond_nb rfl (fun h1 => ?_) (fun h2 => ?_) | refine a_cond rfl (fun h1 => ?_) (fun h2 => ?_)
  · (try simp only [Bool.not_eq_true', Bool.not_eq_false', Bool.not_eq_true, Bool.not_eq_false, decide_eq_true_eq, decide_eq_false_iff_not, List.length_map, List.length_range] at h1)
    refine a_skip ?_
    refine a_seq ?_
    refine a_block ?_
    refine a_region ?_
    refine aops_cons rfl (w_pure rfl (p_move rfl) ?_)
    refine aops_cons rfl (w_pure rfl (p_move rfl) ?_)
    refine aops_cons rfl (w_pure rfl (p_move rfl) ?_)
    refine aops_cons rfl (w_pure rfl (p_move rfl) ?_)
    refine aops_cons rfl (w_pure rfl (p_index_sl _ rfl rfl rfl (rowD _ _ zHallOp (by first | omega | (rw [fillTo_length _ _ hi]; omega))) es_57) ?_)
    refine aops_cons rfl (w_pure rfl (p_load_v_all ag_115 rfl (by rfl) noX) ?_)
    refine aops_cons rfl (w_callR rfl rfl rfl cl_107 (c_laws_toHallOp ..) ?_)
    refine aops_cons rfl (w_pure rfl (p_index_own0 _ rfl rfl rfl (by first | omega | (rw [fillTo_length _ _ hi]; omega)) es_64) ?_)
    refine aops_cons rfl (w_store_eM eHallOp (xs.getD i zHallOp) rfl rfl rfl (by repeat (first | exact Pick.here _ _ _ | apply Pick.next)) (by first | omega | (rw [fillTo_length _ _ hi]; omega)) cn_84 (by rfl) (by rfl) (by rfl) trivial ?_)
    rw [fillTo_set _ _ (by omega)]
    refine aops_nil ?_
    refine a_region ?_
    refine aops_cons rfl (w_pure rfl (p_move rfl) ?_)
    refine aops_cons rfl (w_pure rfl (p_add' rfl rfl ⟨by omega, by omega⟩) ?_)
    refine aops_cons rfl (w_pure rfl (p_assign rfl) ?_)
    refine aops_nil ?_
    refine ⟨(i + 1), _, ?_, ?_, (by repeat (first | exact Knows.nil | refine Knows.cons (by rfl) ?_)), (by repeat (first | exact Back.refl _ _ | refine Back.cons (by rfl) ?_)), (by repeat (first | exact Picks.nil _ | exact Pick.here _ _ _ | apply Pick.next | apply Picks.cons))⟩
    · omega
    · (try dsimp only); omega
  · (try simp only [Bool.not_eq_true', Bool.not_eq_false', Bool.not_eq_true, Bool.not_eq_false, decide_eq_true_eq, decide_eq_false_iff_not, List.length_map, List.length_range] at h2)
    refine a_exit ?_
    refine a_seq ?_
    refine a_region ?_
    refine aops_cons rfl (w_pure rfl (p_move rfl) ?_)
    refine aops_cons rfl (w_pure rfl (p_assign rfl) ?_)
    refine aops_nil ?_
    refine a_ret ?_
    refine ret_ok (hands1 rfl (.tmp rfl)) (.cons (.here _ _ _) (.nil _)) ?_
    exact ⟨b1, by simp, by rw [fillTo_len _ _ (by omega)]⟩

theorem c_laws_toHallOpS (xs : List HallOp) (hn : xs.length ≤ 1048576) : ACalls Try.prog 57 [.sl (xs.map eHallOp)] [] (Ret (.sl (xs.map eHallOp))) := (co_laws_toHallOpS xs hn).freeze fun _ _ h => h.vw

theorem c_laws_eqHallOpS (xs : List HallOp) (hn : xs.length ≤ 1048576) : ACalls Try.prog 60 [.sl (xs.map eHallOp), .sl (xs.map eHallOp)] [] (Ret (.bool true)) := by
  refine a_enter Try.func60 rfl rfl (fun w0 M0 => ?_)
  refine a_seq ?_
  refine a_region ?_
  refine aops_cons rfl (w_pure rfl (p_assign rfl) ?_)
  refine aops_nil ?_
  refine a_seq ?_
  refine a_seq ?_
  refine a_region ?_
  refine aops_cons rfl (w_pure rfl (p_move rfl) ?_)
  refine aops_cons rfl (w_pure rfl (p_len sl_64 rfl rfl) ?_)
  refine aops_cons rfl (w_pure rfl (p_move rfl) ?_)
  refine aops_cons rfl (w_pure rfl (p_len sl_64 rfl rfl) ?_)
  refine aops_cons rfl (w_pure rfl (p_neq_same rfl rfl) ?_)
  refine aops_nil ?_
  refine a_cond_f rfl ?_
  refine a_skip ?_
  refine a_seq ?_
  refine a_seq ?_
  refine a_region ?_
  refine aops_cons rfl (w_pure rfl (p_assign rfl) ?_)
  refine aops_nil ?_
  refine a_block ?_
  refine a_loop (ι := Nat) (fun i => i ≤ xs.length) (fun i => [(5, .int .i64 (i : Int))]) (fun i => []) (fun i => xs.length - i) 0 (Nat.zero_le _) (by repeat (first | exact Knows.nil | refine Knows.cons (by rfl) ?_)) (by repeat (first | exact Picks.nil _ | exact Pick.here _ _ _ | apply Pick.next | apply Picks.cons)) ?_
  rintro i hi
  skip
  refine a_seq ?_
  refine a_seq ?_
  refine a_region ?_
  refine aops_cons rfl (w_pure rfl (p_move rfl) ?_)
  refine aops_cons rfl (w_pure rfl (p_move rfl) ?_)
  refine aops_cons rfl (w_pure rfl (p_len sl_64 rfl rfl) ?_)
  refine aops_cons rfl (w_pure rfl (p_lss rfl rfl) ?_)
  refine aops_nil ?_
  first | refine a_cond_d rfl (fun h1 => ?_) (fun h2 => ?_) | refine a_cond_n rfl (fun h1 => ?_) (fun h2 => ?_) | refine a_cond_nb rfl (fun h1 => ?_) (fun h2 => ?_) | refine a_cond rfl (fun h1 => ?_) (fun h2 => ?_)
  · (try simp only [Bool.not_eq_true', Bool.not_eq_false', Bool.not_eq_true, Bool.not_eq_false, decide_eq_true_eq, decide_eq_false_iff_not, List.length_map, List.length_range] at h1)
    refine a_skip ?_
    refine a_seq ?_
    refine a_block ?_
    refine a_seq ?_
    refine a_draw [] (by kernel_rfl) ?_
    show ADraw _ _ _ _ _ _ 10 _ _ _ _
    refine d_take 0 rfl (by kernel_rfl) (by kernel_rfl) (by kernel_rfl) rfl (p_move rfl) ?_
    refine d_take 1 rfl (by kernel_rfl) (by kernel_rfl) (by kernel_rfl) rfl (p_move rfl) ?_
    refine d_take 2 rfl (by kernel_rfl) (by kernel_rfl) (by kernel_rfl) rfl (p_index_sl _ rfl rfl rfl (rowD _ _ zHallOp (by omega)) es_64) ?_
    refine d_load 3 rfl (by kernel_rfl) (by kernel_rfl) (by kernel_rfl) rfl (p_load_v_all ag_84 rfl (by rfl) noX) ?_
    refine d_take 4 rfl (by kernel_rfl) (by kernel_rfl) (by kernel_rfl) rfl (p_move rfl) ?_
    refine d_take 5 rfl (by kernel_rfl) (by kernel_rfl) (by kernel_rfl) rfl (p_move rfl) ?_
    refine d_take 6 rfl (by kernel_rfl) (by kernel_rfl) (by kernel_rfl) rfl (p_index_sl _ rfl rfl rfl (rowD _ _ zHallOp (by omega)) es_64) ?_
    refine d_load 7 rfl (by kernel_rfl) (by kernel_rfl) (by kernel_rfl) rfl (p_load_v_all ag_84 rfl (by rfl) noX) ?_
    refine draw_all [8] (by kernel_rfl) (by simp) ?_
    refine all_cons rfl rfl ?_ ?_
    · skip
      refine w_callR rfl rfl rfl cl_111 (c_laws_eqHallOp ..) ?_
      refine d_take 9 rfl (by kernel_rfl) (by kernel_rfl) (by kernel_rfl) rfl (p_not rfl) ?_
      refine draw_done (by kernel_rfl) ?_
      refine a_cond_f rfl ?_
      refine a_skip ?_
      refine a_region ?_
      refine aops_cons rfl (w_pure rfl (p_move rfl) ?_)
      refine aops_cons rfl (w_pure rfl (p_add' rfl rfl ⟨by omega, by omega⟩) ?_)
      refine aops_cons rfl (w_pure rfl (p_assign rfl) ?_)
      refine aops_nil ?_
      refine ⟨(i + 1), _, ?_, ?_, (by repeat (first | exact Knows.nil | refine Knows.cons (by rfl) ?_)), (by repeat (first | exact Back.refl _ _ | refine Back.cons (by rfl) ?_)), (by repeat (first | exact Picks.nil _ | exact Pick.here _ _ _ | apply Pick.next | apply Picks.cons))⟩
      · omega
      · (try dsimp only); omega
    exact all_nil
  · (try simp only [Bool.not_eq_true', Bool.not_eq_false', Bool.not_eq_true, Bool.not_eq_false, decide_eq_true_eq, decide_eq_false_iff_not, List.length_map, List.length_range] at h2)
    refine a_exit ?_
    refine a_seq ?_
    refine a_region ?_
    refine aops_cons rfl (w_pure rfl (p_assign rfl) ?_)
    refine aops_nil ?_
    refine a_ret ?_
    refine ret_ok (hands1 rfl (.tmp rfl)) (.nil _) ?_
    exact ⟨rfl, rfl⟩

theorem c_laws_markHallOpS (b : Nat) (xs : List HallOp) (hn : xs.length ≤ 1048576) (k : Int) (k0 : 0 ≤ k) (k1 : k ≤ 100000000) : ACalls Try.prog 64 [.own 2 b 0 xs.length, .int .i64 k] [(b, .arr 84 2 (xs.map eHallOp))] (fun r st => r = .int .i64 (k + 2 * xs.length) ∧ st = [(b, .arr 84 2 (((List.range xs.length).map (mkO k)).map eHallOp))]) := by
  refine a_enter Try.func64 rfl rfl (fun w0 M0 => ?_)
  refine a_seq ?_
  refine a_region ?_
  refine aops_cons rfl (w_pure rfl (p_assign rfl) ?_)
  refine aops_nil ?_
  refine a_seq ?_
  refine a_seq ?_
  refine a_region ?_
  refine aops_cons rfl (w_pure rfl (p_assign rfl) ?_)
  refine aops_nil ?_
  refine a_block ?_
  refine a_loop (ι := Nat × Int) (fun ⟨i, m⟩ => i ≤ xs.length ∧ m = k + 2 * i) (fun ⟨i, m⟩ => [(5, .int .i64 (i : Int)), (1, .int .i64 m)]) (fun ⟨i, m⟩ => [(b, .arr 84 2 ((putTo (mkO k) xs i).map eHallOp))]) (fun ⟨i, m⟩ => xs.length - i) (0, k) ⟨Nat.zero_le _, by simp⟩ (by repeat (first | exact Knows.nil | refine Knows.cons (by rfl) ?_)) (by repeat (first | exact Picks.nil _ | exact Pick.here _ _ _ | apply Pick.next | apply Picks.cons)) ?_
  rintro ⟨i, m⟩ ⟨hi, hI⟩
  subst hI
  refine a_seq ?_
  refine a_seq ?_
  refine a_region ?_
  refine aops_cons rfl (w_pure rfl (p_move rfl) ?_)
  refine aops_cons rfl (w_pure rfl (p_move rfl) ?_)
  refine aops_cons rfl (w_pure rfl (p_len sl_64 rfl rfl) ?_)
  refine aops_cons rfl (w_pure rfl (p_lss rfl rfl) ?_)
  refine aops_nil ?_
  first | refine a_cond_d rfl (fun h1 => ?_) (fun h2 => ?_) | refine a_cond_n rfl (fun h1 => ?_) (fun h2 => ?_) | refine a_cond_nb rfl (fun h1 => ?_) (fun h2 => ?_) | refine a_cond rfl (fun h1 => ?_) (fun h2 => ?_)
  · (try simp only [Bool.not_eq_true', Bool.not_eq_false', Bool.not_eq_true, Bool.not_eq_false, decide_eq_true_eq, decide_eq_false_iff_not, List.length_map, List.length_range] at h1)
    refine a_skip ?_
    refine a_seq ?_
    refine a_block ?_
    refine a_seq ?_
    refine a_region ?_
    refine aops_cons rfl (w_pure rfl (p_move rfl) ?_)
    refine aops_cons rfl (w_pure rfl (p_move rfl) ?_)
    refine aops_cons rfl (w_pure rfl (p_move rfl) ?_)
    refine aops_cons rfl (w_pure rfl (p_index_own0 _ rfl rfl rfl (by omega) es_64) ?_)
    refine aops_cons rfl (w_pure rfl (p_field_e fo_84_0 rfl) ?_)
    refine aops_cons rfl (w_store_eM eHallOp ⟨k + 2 * i, ((putTo (mkO k) xs i)[i]'(by rw [putTo_length _ _ hi]; omega)).id⟩ rfl rfl rfl (by repeat (first | exact Pick.here _ _ _ | apply Pick.next)) (by rw [putTo_length _ _ hi]; omega) cn_3 (by rfl) (by rfl) (by rfl) trivial ?_)
    refine aops_nil ?_
    refine a_seq ?_
    refine a_region ?_
    refine aops_cons rfl (w_pure rfl (p_move rfl) ?_)
    refine aops_cons rfl (w_pure rfl (p_add' rfl rfl ⟨by omega, by omega⟩) ?_)
    refine aops_cons rfl (w_pure rfl (p_assign rfl) ?_)
    refine aops_nil ?_
    refine a_seq ?_
    refine a_region ?_
    refine aops_cons rfl (w_pure rfl (p_move rfl) ?_)
    refine aops_cons rfl (w_pure rfl (p_move rfl) ?_)
    refine aops_cons rfl (w_pure rfl (p_move rfl) ?_)
    refine aops_cons rfl (w_pure rfl (p_index_own0 _ rfl rfl rfl (by omega) es_64) ?_)
    refine aops_cons rfl (w_pure rfl (p_field_e fo_84_1 rfl) ?_)
    refine aops_cons rfl (w_store_eM eHallOp (mkO k i) rfl rfl rfl (by repeat (first | exact Pick.here _ _ _ | apply Pick.next)) (by rw [List.length_set, putTo_length _ _ hi]; omega) cn_3 (by rfl) (by rfl) (by exact seg_set _ rfl) trivial ?_)
    rw [List.set_set, putTo_set _ _ (by omega)]
    refine aops_nil ?_
    refine a_region ?_
    refine aops_cons rfl (w_pure rfl (p_move rfl) ?_)
    refine aops_cons rfl (w_pure rfl (p_add' rfl rfl ⟨by omega, by omega⟩) ?_)
    refine aops_cons rfl (w_pure rfl (p_assign rfl) ?_)
    refine aops_nil ?_
    refine a_region ?_
    refine aops_cons rfl (w_pure rfl (p_move rfl) ?_)
    refine aops_cons rfl (w_pure rfl (p_add' rfl rfl ⟨by omega, by omega⟩) ?_)
    refine aops_cons rfl (w_pure rfl (p_assign rfl) ?_)
    refine aops_nil ?_
    refine ⟨(i + 1, _), _, ?_, ?_, (by repeat (first | exact Knows.nil | refine Knows.cons (by rfl) ?_)), (by repeat (first | exact Back.refl _ _ | refine Back.cons (by rfl) ?_)), (by repeat (first | exact Picks.nil _ | exact Pick.here _ _ _ | apply Pick.next | apply Picks.cons))⟩
    · exact ⟨by omega, by omega⟩
    · (try dsimp only); omega
  · (try simp only [Bool.not_eq_true', Bool.not_eq_false', Bool.not_eq_true, Bool.not_eq_false, decide_eq_true_eq, decide_eq_false_iff_not, List.length_map, List.length_range] at h2)
    refine a_exit ?_
    refine a_seq ?_
    refine a_region ?_
    refine aops_cons rfl (w_pure rfl (p_move rfl) ?_)
    refine aops_cons rfl (w_pure rfl (p_assign rfl) ?_)
    refine aops_nil ?_
    refine a_ret ?_
    refine ret_ok (hands1 rfl (.tmp rfl)) (.cons (.here _ _ _) (.nil _)) ?_
    have hx : i = xs.length := (by omega); subst hx; exact ⟨rfl, by rw [putTo_len _ _ (by omega) (Nat.le_refl _)]⟩

theorem cn_laws_markHallOpS (k : Int) : ACalls Try.prog 64 [.nil, .int .i64 k] [] (Ret (.int .i64 (k + 2 * (([] : List HallOp).length : Int)))) := by
  refine a_enter Try.func64 rfl rfl (fun w0 M0 => ?_)
  refine a_seq ?_
  refine a_region ?_
  refine aops_cons rfl (w_pure rfl (p_assign rfl) ?_)
  refine aops_nil ?_
  refine a_seq ?_
  refine a_seq ?_
  refine a_region ?_
  refine aops_cons rfl (w_pure rfl (p_assign rfl) ?_)
  refine aops_nil ?_
  refine a_block ?_
  refine a_loop (ι := Nat) (fun i => i ≤ 0) (fun i => [(5, .int .i64 (i : Int))]) (fun i => []) (fun i => 0 - i) 0 (Nat.zero_le _) (by repeat (first | exact Knows.nil | refine Knows.cons (by rfl) ?_)) (by repeat (first | exact Picks.nil _ | exact Pick.here _ _ _ | apply Pick.next | apply Picks.cons)) ?_
  rintro i hi
  skip
  refine a_seq ?_
  refine a_seq ?_
  refine a_region ?_
  refine aops_cons rfl (w_pure rfl (p_move rfl) ?_)
  refine aops_cons rfl (w_pure rfl (p_move rfl) ?_)
  refine aops_cons rfl (w_pure rfl (p_len sl_64 rfl rfl) ?_)
  refine aops_cons rfl (w_pure rfl (p_lss rfl rfl) ?_)
  refine aops_nil ?_
  first | refine a_cond_d rfl (fun h1 => ?_) (fun h2 => ?_) | refine a_cond_n rfl (fun h1 => ?_) (fun h2 => ?_) | refine a_cond_nb rfl (fun h1 => ?_) (fun h2 => ?_) | refine a_cond rfl (fun h1 => ?_) (fun h2 => ?_)
  · (try simp only [Bool.not_eq_true', Bool.not_eq_false', Bool.not_eq_true, Bool.not_eq_false, decide_eq_true_eq, decide_eq_false_iff_not, List.length_map, List.length_range] at h1); exfalso; omega
  · (try simp only [Bool.not_eq_true', Bool.not_eq_false', Bool.not_eq_true, Bool.not_eq_false, decide_eq_true_eq, decide_eq_false_iff_not, List.length_map, List.length_range] at h2)
    refine a_exit ?_
    refine a_seq ?_
    refine a_region ?_
    refine aops_cons rfl (w_pure rfl (p_move rfl) ?_)
    refine aops_cons rfl (w_pure rfl (p_assign rfl) ?_)
    refine aops_nil ?_
    refine a_ret ?_
    refine ret_ok (hands1 rfl (.tmp rfl)) (.nil _) ?_
    exact ⟨by simp, rfl⟩

theorem c_impl_isHallOp (h : Hall) (hn : SmallHall h) (o : HallOp) : ACalls Try.prog 140 [.agg (eHall h), .agg (eHallOp o)] [] (Ret (.bool (decide (OpOk h o)))) := by
  have hnn := hn
  obtain ⟨hn1, hn2⟩ := hnn
  refine a_enter Try.func140 rfl rfl (fun w0 M0 => ?_)
  refine a_seq ?_
  refine a_region ?_
  refine aops_cons rfl (w_box_v rfl rfl rfl ?_)
  refine aops_cons rfl (w_box_v rfl rfl rfl ?_)
  refine aops_cons rfl (w_pure rfl (p_assign rfl) ?_)
  refine aops_nil ?_
  refine a_seq ?_
  refine a_seq ?_
  refine a_region ?_
  refine aops_cons rfl (w_pure rfl (p_field_v fo_84_0 rfl) ?_)
  refine aops_cons rfl (w_pure rfl (p_load_v ag_3 rfl (by rfl) noX) ?_)
  refine aops_nil ?_
  refine a_block ?_
  refine a_seq ?_
  refine a_seq ?_
  refine a_region ?_
  refine aops_cons rfl (w_pure rfl (p_eql rfl rfl) ?_)
  refine aops_cons rfl (w_pure rfl (p_assign rfl) ?_)
  refine aops_nil ?_
  first | refine a_cond_d rfl (fun h1 => ?_) (fun h2 => ?_) | refine a_cond_n rfl (fun h1 => ?_) (fun h2 => ?_) | refine a_cond_nb rfl (fun h1 => ?_) (fun h2 => ?_) | refine a_cond rfl (fun h1 => ?_) (fun h2 => ?_)
  · (try simp only [Bool.not_eq_true', Bool.not_eq_false', Bool.not_eq_true, Bool.not_eq_false, decide_eq_true_eq, decide_eq_false_iff_not, List.length_map, List.length_range] at h1)
    refine a_skip ?_
    first | refine a_cond_d rfl (fun h3 => ?_) (fun h4 => ?_) | refine a_cond_n rfl (fun h3 => ?_) (fun h4 => ?_) | refine a_cond_nb rfl (fun h3 => ?_) (fun h4 => ?_) | refine a_cond rfl (fun h3 => ?_) (fun h4 => ?_)
    · (try simp only [Bool.not_eq_true', Bool.not_eq_false', Bool.not_eq_true, Bool.not_eq_false, decide_eq_true_eq, decide_eq_false_iff_not, List.length_map, List.length_range] at h3)
      refine a_seq ?_
      refine a_region ?_
      refine aops_cons rfl (w_pure rfl (p_field_v fo_62_0 rfl) ?_)
      refine aops_cons rfl (w_pure rfl (p_load_v ag_24 rfl (by rfl) noX) ?_)
      refine aops_cons rfl (w_pure rfl (p_field_v fo_84_1 rfl) ?_)
      refine aops_cons rfl (w_pure rfl (p_load_v ag_3 rfl (by rfl) noX) ?_)
      refine aops_cons rfl (w_callR rfl rfl rfl cl_109 (c_impl_vcpuIndex _ (by omega) _) ?_)
      refine aops_cons rfl (w_pure rfl (p_geq rfl rfl) ?_)
      refine aops_cons rfl (w_pure rfl (p_assign rfl) ?_)
      refine aops_nil ?_
      refine a_ret ?_
      refine ret_ok (hands1 rfl (.tmp rfl)) (.nil _) ?_
      first | (refine ret_dec ?_; unfold OpOk; constructor; (intro q; exact .inl ⟨by omega, q⟩); (rintro (⟨q1, q2⟩ | ⟨q1, q2⟩); (exact q2); (exfalso; omega))) | (refine ret_dec ?_; unfold OpOk; constructor; (intro q; exact .inr ⟨by omega, q⟩); (rintro (⟨q1, q2⟩ | ⟨q1, q2⟩); (exfalso; omega); (exact q2))) | (refine ret_false ?_; unfold OpOk; rintro (⟨q1, q2⟩ | ⟨q1, q2⟩) <;> omega)
    · (try simp only [Bool.not_eq_true', Bool.not_eq_false', Bool.not_eq_true, Bool.not_eq_false, decide_eq_true_eq, decide_eq_false_iff_not, List.length_map, List.length_range] at h4)
      refine a_skip ?_
      refine a_seq ?_
      refine a_region ?_
      refine aops_cons rfl (w_pure rfl (p_field_v fo_84_0 rfl) ?_)
      refine aops_cons rfl (w_pure rfl (p_load_v ag_3 rfl (by rfl) noX) ?_)
      refine aops_cons rfl (w_pure rfl (p_eql rfl rfl) ?_)
      refine aops_cons rfl (w_pure rfl (p_move rfl) ?_)
      first | refine aops_split_d 19 rfl (fun h5 => ?_) (fun h6 => ?_) | refine aops_split 19 rfl (fun h5 => ?_) (fun h6 => ?_)
      · (try simp only [Bool.not_eq_true', Bool.not_eq_false', Bool.not_eq_true, Bool.not_eq_false, decide_eq_true_eq, decide_eq_false_iff_not, List.length_map, List.length_range] at h5)
        refine aops_guard_t rfl rfl rfl (w_pure rfl (p_field_v fo_84_1 rfl) ?_)
        refine aops_guard_t rfl rfl rfl (w_pure rfl (p_load_v ag_3 rfl (by rfl) noX) ?_)
        refine aops_guard_t rfl rfl rfl (w_pure rfl (p_eql rfl rfl) ?_)
        refine aops_cons rfl (w_pure rfl (p_pick_t rfl rfl) ?_)
        refine aops_cons rfl (w_pure rfl (p_assign rfl) ?_)
        refine aops_nil ?_
        refine a_ret ?_
        refine ret_ok (hands1 rfl (.tmp rfl)) (.nil _) ?_
        first | (refine ret_dec ?_; unfold OpOk; constructor; (intro q; exact .inl ⟨by omega, q⟩); (rintro (⟨q1, q2⟩ | ⟨q1, q2⟩); (exact q2); (exfalso; omega))) | (refine ret_dec ?_; unfold OpOk; constructor; (intro q; exact .inr ⟨by omega, q⟩); (rintro (⟨q1, q2⟩ | ⟨q1, q2⟩); (exfalso; omega); (exact q2))) | (refine ret_false ?_; unfold OpOk; rintro (⟨q1, q2⟩ | ⟨q1, q2⟩) <;> omega)
      · (try simp only [Bool.not_eq_true', Bool.not_eq_false', Bool.not_eq_true, Bool.not_eq_false, decide_eq_true_eq, decide_eq_false_iff_not, List.length_map, List.length_range] at h6)
        refine g_pass' rfl rfl rfl rfl rfl ?_
        refine g_pass' rfl rfl rfl rfl rfl ?_
        refine g_pass' rfl rfl rfl rfl rfl ?_
        refine aops_cons rfl (w_pure rfl (p_pick_f rfl rfl) ?_)
        refine aops_cons rfl (w_pure rfl (p_assign rfl) ?_)
        refine aops_nil ?_
        refine a_ret ?_
        refine ret_ok (hands1 rfl (.tmp rfl)) (.nil _) ?_
        first | (refine ret_dec ?_; unfold OpOk; constructor; (intro q; exact .inl ⟨by omega, q⟩); (rintro (⟨q1, q2⟩ | ⟨q1, q2⟩); (exact q2); (exfalso; omega))) | (refine ret_dec ?_; unfold OpOk; constructor; (intro q; exact .inr ⟨by omega, q⟩); (rintro (⟨q1, q2⟩ | ⟨q1, q2⟩); (exfalso; omega); (exact q2))) | (refine ret_false ?_; unfold OpOk; rintro (⟨q1, q2⟩ | ⟨q1, q2⟩) <;> omega)
  · (try simp only [Bool.not_eq_true', Bool.not_eq_false', Bool.not_eq_true, Bool.not_eq_false, decide_eq_true_eq, decide_eq_false_iff_not, List.length_map, List.length_range] at h2)
    refine a_region ?_
    refine aops_cons rfl (w_pure rfl (p_eql rfl rfl) ?_)
    refine aops_cons rfl (w_pure rfl (p_assign rfl) ?_)
    refine aops_nil ?_
    first | refine a_cond_d rfl (fun h7 => ?_) (fun h8 => ?_) | refine a_cond_n rfl (fun h7 => ?_) (fun h8 => ?_) | refine a_cond_nb rfl (fun h7 => ?_) (fun h8 => ?_) | refine a_cond rfl (fun h7 => ?_) (fun h8 => ?_)
    · (try simp only [Bool.not_eq_true', Bool.not_eq_false', Bool.not_eq_true, Bool.not_eq_false, decide_eq_true_eq, decide_eq_false_iff_not, List.length_map, List.length_range] at h7)
      refine a_seq ?_
      refine a_region ?_
      refine aops_cons rfl (w_pure rfl (p_field_v fo_62_0 rfl) ?_)
      refine aops_cons rfl (w_pure rfl (p_load_v ag_24 rfl (by rfl) noX) ?_)
      refine aops_cons rfl (w_pure rfl (p_field_v fo_84_1 rfl) ?_)
      refine aops_cons rfl (w_pure rfl (p_load_v ag_3 rfl (by rfl) noX) ?_)
      refine aops_cons rfl (w_callR rfl rfl rfl cl_109 (c_impl_vcpuIndex _ (by omega) _) ?_)
      refine aops_cons rfl (w_pure rfl (p_geq rfl rfl) ?_)
      refine aops_cons rfl (w_pure rfl (p_assign rfl) ?_)
      refine aops_nil ?_
      refine a_ret ?_
      refine ret_ok (hands1 rfl (.tmp rfl)) (.nil _) ?_
      first | (refine ret_dec ?_; unfold OpOk; constructor; (intro q; exact .inl ⟨by omega, q⟩); (rintro (⟨q1, q2⟩ | ⟨q1, q2⟩); (exact q2); (exfalso; omega))) | (refine ret_dec ?_; unfold OpOk; constructor; (intro q; exact .inr ⟨by omega, q⟩); (rintro (⟨q1, q2⟩ | ⟨q1, q2⟩); (exfalso; omega); (exact q2))) | (refine ret_false ?_; unfold OpOk; rintro (⟨q1, q2⟩ | ⟨q1, q2⟩) <;> omega)
    · (try simp only [Bool.not_eq_true', Bool.not_eq_false', Bool.not_eq_true, Bool.not_eq_false, decide_eq_true_eq, decide_eq_false_iff_not, List.length_map, List.length_range] at h8)
      refine a_skip ?_
      refine a_seq ?_
      refine a_region ?_
      refine aops_cons rfl (w_pure rfl (p_field_v fo_84_0 rfl) ?_)
      refine aops_cons rfl (w_pure rfl (p_load_v ag_3 rfl (by rfl) noX) ?_)
      refine aops_cons rfl (w_pure rfl (p_eql rfl rfl) ?_)
      refine aops_cons rfl (w_pure rfl (p_move rfl) ?_)
      first | refine aops_split_d 19 rfl (fun h9 => ?_) (fun h10 => ?_) | refine aops_split 19 rfl (fun h9 => ?_) (fun h10 => ?_)
      · (try simp only [Bool.not_eq_true', Bool.not_eq_false', Bool.not_eq_true, Bool.not_eq_false, decide_eq_true_eq, decide_eq_false_iff_not, List.length_map, List.length_range] at h9)
        refine aops_guard_t rfl rfl rfl (w_pure rfl (p_field_v fo_84_1 rfl) ?_)
        refine aops_guard_t rfl rfl rfl (w_pure rfl (p_load_v ag_3 rfl (by rfl) noX) ?_)
        refine aops_guard_t rfl rfl rfl (w_pure rfl (p_eql rfl rfl) ?_)
        refine aops_cons rfl (w_pure rfl (p_pick_t rfl rfl) ?_)
        refine aops_cons rfl (w_pure rfl (p_assign rfl) ?_)
        refine aops_nil ?_
        refine a_ret ?_
        refine ret_ok (hands1 rfl (.tmp rfl)) (.nil _) ?_
        first | (refine ret_dec ?_; unfold OpOk; constructor; (intro q; exact .inl ⟨by omega, q⟩); (rintro (⟨q1, q2⟩ | ⟨q1, q2⟩); (exact q2); (exfalso; omega))) | (refine ret_dec ?_; unfold OpOk; constructor; (intro q; exact .inr ⟨by omega, q⟩); (rintro (⟨q1, q2⟩ | ⟨q1, q2⟩); (exfalso; omega); (exact q2))) | (refine ret_false ?_; unfold OpOk; rintro (⟨q1, q2⟩ | ⟨q1, q2⟩) <;> omega)
      · (try simp only [Bool.not_eq_true', Bool.not_eq_false', Bool.not_eq_true, Bool.not_eq_false, decide_eq_true_eq, decide_eq_false_iff_not, List.length_map, List.length_range] at h10)
        refine g_pass' rfl rfl rfl rfl rfl ?_
        refine g_pass' rfl rfl rfl rfl rfl ?_
        refine g_pass' rfl rfl rfl rfl rfl ?_
        refine aops_cons rfl (w_pure rfl (p_pick_f rfl rfl) ?_)
        refine aops_cons rfl (w_pure rfl (p_assign rfl) ?_)
        refine aops_nil ?_
        refine a_ret ?_
        refine ret_ok (hands1 rfl (.tmp rfl)) (.nil _) ?_
        first | (refine ret_dec ?_; unfold OpOk; constructor; (intro q; exact .inl ⟨by omega, q⟩); (rintro (⟨q1, q2⟩ | ⟨q1, q2⟩); (exact q2); (exfalso; omega))) | (refine ret_dec ?_; unfold OpOk; constructor; (intro q; exact .inr ⟨by omega, q⟩); (rintro (⟨q1, q2⟩ | ⟨q1, q2⟩); (exfalso; omega); (exact q2))) | (refine ret_false ?_; unfold OpOk; rintro (⟨q1, q2⟩ | ⟨q1, q2⟩) <;> omega)

theorem c_impl_runHall_1 (h : Hall) (hn : SmallHall h) (o : HallOp) : ACalls Try.prog 139 [.agg (eHallOp o), .vptr (eHall h)] [] (Ret (.bool (!decide (OpOk h o)))) := by
  refine a_enter Try.func139 rfl rfl (fun w0 M0 => ?_)
  refine a_seq ?_
  refine a_region ?_
  refine aops_cons rfl (w_box_v rfl rfl rfl ?_)
  refine aops_cons rfl (w_pure rfl (p_assign rfl) ?_)
  refine aops_nil ?_
  refine a_seq ?_
  refine a_region ?_
  refine aops_cons rfl (w_pure rfl (p_load_v_all ag_62 rfl (by rfl) noX) ?_)
  refine aops_cons rfl (w_pure rfl (p_load_v_all ag_84 rfl (by rfl) noX) ?_)
  refine aops_cons rfl (w_callR rfl rfl rfl cl_140 (c_impl_isHallOp h (by assumption) o) ?_)
  refine aops_cons rfl (w_pure rfl (p_not rfl) ?_)
  refine aops_cons rfl (w_pure rfl (p_assign rfl) ?_)
  refine aops_nil ?_
  refine a_ret ?_
  refine ret_ok (hands1 rfl (.tmp rfl)) (.nil _) ?_
  exact ⟨rfl, rfl⟩

theorem c_slices_IndexFunc_impl_HallOp_impl_HallOp (h : Hall) (hn : SmallHall h) (ops : List HallOp) (hm : ops.length ≤ 1048576) : ACalls Try.prog 146 [.sl (ops.map eHallOp), .fn 139 [.vptr (eHall h)]] [] (Ret (.int .i64 (first (badOp h ops) ops.length))) := by
  refine a_enter Try.func146 rfl rfl (fun w0 M0 => ?_)
  refine a_seq ?_
  refine a_region ?_
  refine aops_cons rfl (w_pure rfl (p_assign rfl) ?_)
  refine aops_nil ?_
  refine a_seq ?_
  refine a_seq ?_
  refine a_region ?_
  refine aops_cons rfl (w_pure rfl (p_move rfl) ?_)
  refine aops_cons rfl (w_pure rfl (p_len sl_64 rfl rfl) ?_)
  refine aops_cons rfl (w_pure rfl (p_move rfl) ?_)
  refine aops_nil ?_
  refine a_block ?_
  refine a_loop (ι := Nat) (fun i => i ≤ ops.length ∧ ∀ j, j < i → badOp h ops j = false) (fun i => [(8, .int .i64 (i : Int))]) (fun i => []) (fun i => ops.length - i) 0 ⟨Nat.zero_le _, below_zero⟩ (by repeat (first | exact Knows.nil | refine Knows.cons (by rfl) ?_)) (by repeat (first | exact Picks.nil _ | exact Pick.here _ _ _ | apply Pick.next | apply Picks.cons)) ?_
  rintro i ⟨hi, hI⟩
  skip
  refine a_seq ?_
  refine a_region ?_
  refine aops_cons rfl (w_pure rfl (p_lss rfl rfl) ?_)
  refine aops_nil ?_
  refine a_seq ?_
  first | refine a_cond_d rfl (fun h1 => ?_) (fun h2 => ?_) | refine a_cond_n rfl (fun h1 => ?_) (fun h2 => ?_) | refine a_cond_nb rfl (fun h1 => ?_) (fun h2 => ?_) | refine a_cond rfl (fun h1 => ?_) (fun h2 => ?_)
  · (try simp only [Bool.not_eq_true', Bool.not_eq_false', Bool.not_eq_true, Bool.not_eq_false, decide_eq_true_eq, decide_eq_false_iff_not, List.length_map, List.length_range] at h1)
    refine a_skip ?_
    refine a_seq ?_
    refine a_block ?_
    refine a_seq ?_
    refine a_region ?_
    refine aops_cons rfl (w_pure rfl (p_move rfl) ?_)
    refine aops_cons rfl (w_pure rfl (p_assign rfl) ?_)
    refine aops_nil ?_
    refine a_seq ?_
    refine a_region ?_
    refine aops_cons rfl (w_pure rfl (p_move rfl) ?_)
    refine aops_cons rfl (w_pure rfl (p_move rfl) ?_)
    refine aops_cons rfl (w_pure rfl (p_move rfl) ?_)
    refine aops_cons rfl (w_pure rfl (p_index_sl _ rfl rfl rfl (rowD _ _ zHallOp (by omega)) es_64) ?_)
    refine aops_cons rfl (w_pure rfl (p_load_v_all ag_84 rfl (by rfl) noX) ?_)
    refine aops_cons rfl (w_callR rfl rfl rfl cl_139 (c_impl_runHall_1 h (by assumption) (ops.getD i zHallOp)) ?_)
    refine aops_nil ?_
    first | refine a_cond_d rfl (fun h3 => ?_) (fun h4 => ?_) | refine a_cond_n rfl (fun h3 => ?_) (fun h4 => ?_) | refine a_cond_nb rfl (fun h3 => ?_) (fun h4 => ?_) | refine a_cond rfl (fun h3 => ?_) (fun h4 => ?_)
    · (try simp only [Bool.not_eq_true', Bool.not_eq_false', Bool.not_eq_true, Bool.not_eq_false, decide_eq_true_eq, decide_eq_false_iff_not, List.length_map, List.length_range] at h3)
      refine a_seq ?_
      refine a_region ?_
      refine aops_cons rfl (w_pure rfl (p_move rfl) ?_)
      refine aops_cons rfl (w_pure rfl (p_assign rfl) ?_)
      refine aops_nil ?_
      refine a_ret ?_
      refine ret_ok (hands1 rfl (.tmp rfl)) (.nil _) ?_
      first | (refine And.intro (congrArg (AV.int .i64) (first_none fun j hj => ?_).symm) rfl; exact hI j (by omega)) | (refine And.intro (congrArg (AV.int .i64) (first_at (i := i) (by omega) hI (show badOp h ops i = true by unfold badOp; rw [decide_eq_false (by assumption)]; rfl)).symm) rfl)
    · (try simp only [Bool.not_eq_true', Bool.not_eq_false', Bool.not_eq_true, Bool.not_eq_false, decide_eq_true_eq, decide_eq_false_iff_not, List.length_map, List.length_range] at h4)
      refine a_skip ?_
      refine a_region ?_
      refine aops_cons rfl (w_pure rfl (p_add' rfl rfl ⟨by omega, by omega⟩) ?_)
      refine aops_cons rfl (w_pure rfl (p_move rfl) ?_)
      refine aops_nil ?_
      refine ⟨(i + 1), _, ?_, ?_, (by repeat (first | exact Knows.nil | refine Knows.cons (by rfl) ?_)), (by repeat (first | exact Back.refl _ _ | refine Back.cons (by rfl) ?_)), (by repeat (first | exact Picks.nil _ | exact Pick.here _ _ _ | apply Pick.next | apply Picks.cons))⟩
      · exact ⟨by omega, below_succ hI (show badOp h ops i = false by unfold badOp; rw [decide_eq_true (by assumption)]; rfl)⟩
      · (try dsimp only); omega
  · (try simp only [Bool.not_eq_true', Bool.not_eq_false', Bool.not_eq_true, Bool.not_eq_false, decide_eq_true_eq, decide_eq_false_iff_not, List.length_map, List.length_range] at h2)
    refine a_exit ?_
    refine a_seq ?_
    refine a_region ?_
    refine aops_cons rfl (w_pure rfl (p_assign rfl) ?_)
    refine aops_nil ?_
    refine a_ret ?_
    refine ret_ok (hands1 rfl (.tmp rfl)) (.nil _) ?_
    first | (refine And.intro (congrArg (AV.int .i64) (first_none fun j hj => ?_).symm) rfl; exact hI j (by omega)) | (refine And.intro (congrArg (AV.int .i64) (first_at (i := i) (by omega) hI (show badOp h ops i = true by unfold badOp; rw [decide_eq_false (by assumption)]; rfl)).symm) rfl)

theorem c_slices_ContainsFunc_impl_HallOp_impl_HallOp (h : Hall) (hn : SmallHall h) (ops : List HallOp) (hm : ops.length ≤ 1048576) : ACalls Try.prog 138 [.sl (ops.map eHallOp), .fn 139 [.vptr (eHall h)]] [] (Ret (.bool (decide (0 ≤ first (badOp h ops) ops.length)))) := by
  refine a_enter Try.func138 rfl rfl (fun w0 M0 => ?_)
  refine a_seq ?_
  refine a_region ?_
  refine aops_cons rfl (w_pure rfl (p_assign rfl) ?_)
  refine aops_nil ?_
  refine a_seq ?_
  refine a_region ?_
  refine aops_cons rfl (w_pure rfl (p_move rfl) ?_)
  refine aops_cons rfl (w_pure rfl (p_move rfl) ?_)
  refine aops_cons rfl (w_callR rfl rfl rfl cl_146 (c_slices_IndexFunc_impl_HallOp_impl_HallOp h (by assumption) _ (by omega)) ?_)
  refine aops_cons rfl (w_pure rfl (p_geq rfl rfl) ?_)
  refine aops_cons rfl (w_pure rfl (p_assign rfl) ?_)
  refine aops_nil ?_
  refine a_ret ?_
  refine ret_ok (hands1 rfl (.tmp rfl)) (.nil _) ?_
  exact ⟨rfl, rfl⟩

theorem c_spec_l15Ops (h : Hall) (hn : SmallHall h) (ops : List HallOp) (hm : ops.length ≤ 1048576) : ACalls Try.prog 103 [.agg (eHall h), .sl (ops.map eHallOp)] [] (Ret (.bool (decide (GoodOps h ops)))) := by
  have hnn := hn
  obtain ⟨hn1, hn2⟩ := hnn
  refine a_enter Try.func103 rfl rfl (fun w0 M0 => ?_)
  refine a_seq ?_
  refine a_region ?_
  refine aops_cons rfl (w_box_v rfl rfl rfl ?_)
  refine aops_cons rfl (w_pure rfl (p_assign rfl) ?_)
  refine aops_nil ?_
  refine a_seq ?_
  refine a_seq ?_
  refine a_region ?_
  refine aops_cons rfl (w_pure rfl (p_assign rfl) ?_)
  refine aops_nil ?_
  refine a_block ?_
  refine a_loop (ι := Nat) (fun i => i ≤ ops.length ∧ ∀ j, j < i → OpOk2 h (ops.getD j zHallOp)) (fun i => [(5, .int .i64 (i : Int))]) (fun i => []) (fun i => ops.length - i) 0 ⟨Nat.zero_le _, below_zero⟩ (by repeat (first | exact Knows.nil | refine Knows.cons (by rfl) ?_)) (by repeat (first | exact Picks.nil _ | exact Pick.here _ _ _ | apply Pick.next | apply Picks.cons)) ?_
  rintro i ⟨hi, hI⟩
  skip
  refine a_seq ?_
  refine a_seq ?_
  refine a_region ?_
  refine aops_cons rfl (w_pure rfl (p_move rfl) ?_)
  refine aops_cons rfl (w_pure rfl (p_move rfl) ?_)
  refine aops_cons rfl (w_pure rfl (p_len sl_64 rfl rfl) ?_)
  refine aops_cons rfl (w_pure rfl (p_lss rfl rfl) ?_)
  refine aops_nil ?_
  first | refine a_cond_d rfl (fun h1 => ?_) (fun h2 => ?_) | refine a_cond_n rfl (fun h1 => ?_) (fun h2 => ?_) | refine a_cond_nb rfl (fun h1 => ?_) (fun h2 => ?_) | refine a_cond rfl (fun h1 => ?_) (fun h2 => ?_)
  · (try simp only [Bool.not_eq_true', Bool.not_eq_false', Bool.not_eq_true, Bool.not_eq_false, decide_eq_true_eq, decide_eq_false_iff_not, List.length_map, List.length_range] at h1); (try simp only [bne_iff_ne, ne_eq, bne_eq_false_iff_eq, decide_eq_decide, beq_iff_eq] at h1)
    refine a_skip ?_
    refine a_seq ?_
    refine a_block ?_
    refine a_seq ?_
    refine a_region ?_
    refine aops_cons rfl (w_pure rfl (p_move rfl) ?_)
    refine aops_cons rfl (w_pure rfl (p_move rfl) ?_)
    refine aops_cons rfl (w_pure rfl (p_index_sl _ rfl rfl rfl (rowD _ _ zHallOp (by omega)) es_64) ?_)
    refine aops_cons rfl (w_pure rfl (p_load_v_all ag_84 rfl (by rfl) noX) ?_)
    refine aops_cons rfl (w_alloc rfl z_84 fun b1 => ?_)
    refine aops_cons rfl (w_store (cells' := [_, _]) rfl rfl rfl (by repeat (first | exact Pick.here _ _ _ | apply Pick.next)) cn_84 (by rfl) (by rfl) (by rfl) trivial ?_)
    refine aops_nil ?_
    refine a_seq ?_
    refine a_region ?_
    refine aops_cons rfl (w_pure rfl (p_field_box fo_84_0 rfl) ?_)
    refine aops_cons rfl (w_pure rfl (p_load_box ag_3 rfl (by repeat (first | exact Pick.here _ _ _ | apply Pick.next)) (by rfl) noX) ?_)
    refine aops_cons rfl (w_callR rfl rfl rfl cl_129 (c_spec_l1In ..) ?_)
    refine aops_cons rfl (w_pure rfl (p_not rfl) ?_)
    refine aops_cons rfl (w_pure rfl (p_move rfl) ?_)
    first | refine aops_split_d 21 rfl (fun h3 => ?_) (fun h4 => ?_) | refine aops_split 21 rfl (fun h3 => ?_) (fun h4 => ?_)
    · (try simp only [Bool.not_eq_true', Bool.not_eq_false', Bool.not_eq_true, Bool.not_eq_false, decide_eq_true_eq, decide_eq_false_iff_not, List.length_map, List.length_range] at h3); (try simp only [bne_iff_ne, ne_eq, bne_eq_false_iff_eq, decide_eq_decide, beq_iff_eq] at h3)
      refine g_pass' rfl rfl rfl rfl rfl ?_
      refine g_pass' rfl rfl rfl rfl rfl ?_
      refine g_pass' rfl rfl rfl rfl rfl ?_
      refine g_pass' rfl rfl rfl rfl rfl ?_
      refine g_pass' rfl rfl rfl rfl rfl ?_
      refine g_pass' rfl rfl rfl rfl rfl ?_
      refine g_pass' rfl rfl rfl rfl rfl ?_
      refine aops_cons rfl (w_pure rfl (p_pick_t rfl rfl) ?_)
      refine aops_cons rfl (w_pure rfl (p_move rfl) ?_)
      refine g_pass' rfl rfl rfl rfl rfl ?_
      refine g_pass' rfl rfl rfl rfl rfl ?_
      refine g_pass' rfl rfl rfl rfl rfl ?_
      refine g_pass' rfl rfl rfl rfl rfl ?_
      refine g_pass_u rfl rfl rfl rfl rfl ?_
      refine g_pass_u rfl rfl rfl rfl rfl ?_
      refine g_pass_u rfl rfl rfl rfl rfl ?_
      refine g_pass_u rfl rfl rfl rfl rfl ?_
      refine g_pass_u rfl rfl rfl rfl rfl ?_
      refine g_pass' rfl rfl rfl rfl rfl ?_
      refine aops_cons rfl (w_pure rfl (p_pick_t rfl rfl) ?_)
      refine aops_nil ?_
      refine a_cond_t rfl ?_
      refine a_seq ?_
      refine a_region ?_
      refine aops_cons rfl (w_pure rfl (p_assign rfl) ?_)
      refine aops_nil ?_
      refine a_ret ?_
      refine ret_ok (hands1 rfl (.tmp rfl)) (.nil _) ?_
      first | (refine ret_false ?_; exact goodOps_not (i := i) (by omega) (by unfold OpOk2; omega)) | (refine ret_false ?_; exact fun g => absurd g.1 (by assumption)) | (refine ret_dec ?_; simp only [List.length_map]; exact ⟨fun q => goodOps_of (by assumption) (by omega) (below_all hI (by omega)), fun g => by have := g.2.1; omega⟩)
    · (try simp only [Bool.not_eq_true', Bool.not_eq_false', Bool.not_eq_true, Bool.not_eq_false, decide_eq_true_eq, decide_eq_false_iff_not, List.length_map, List.length_range] at h4); (try simp only [bne_iff_ne, ne_eq, bne_eq_false_iff_eq, decide_eq_decide, beq_iff_eq] at h4)
      refine aops_guard_t rfl rfl rfl (w_pure rfl (p_field_box fo_84_0 rfl) ?_)
      refine aops_guard_t rfl rfl rfl (w_pure rfl (p_load_box ag_3 rfl (by repeat (first | exact Pick.here _ _ _ | apply Pick.next)) (by rfl) noX) ?_)
      refine aops_guard_t rfl rfl rfl (w_pure rfl (p_eql rfl rfl) ?_)
      refine aops_guard_t rfl rfl rfl (w_pure rfl (p_field_box fo_84_1 rfl) ?_)
      refine aops_guard_t rfl rfl rfl (w_pure rfl (p_load_box ag_3 rfl (by repeat (first | exact Pick.here _ _ _ | apply Pick.next)) (by rfl) noX) ?_)
      refine aops_guard_t rfl rfl rfl (w_pure rfl (p_eql rfl rfl) ?_)
      refine aops_guard_t rfl rfl rfl (w_pure rfl (p_neq_b um_4 rfl rfl) ?_)
      refine aops_cons rfl (w_pure rfl (p_pick_f rfl rfl) ?_)
      refine aops_cons rfl (w_pure rfl (p_move rfl) ?_)
      first | refine aops_split_d 30 rfl (fun h5 => ?_) (fun h6 => ?_) | refine aops_split 30 rfl (fun h5 => ?_) (fun h6 => ?_)
      · (try simp only [Bool.not_eq_true', Bool.not_eq_false', Bool.not_eq_true, Bool.not_eq_false, decide_eq_true_eq, decide_eq_false_iff_not, List.length_map, List.length_range] at h5); (try simp only [bne_iff_ne, ne_eq, bne_eq_false_iff_eq, decide_eq_decide, beq_iff_eq] at h5)
        refine g_pass' rfl rfl rfl rfl rfl ?_
        refine g_pass' rfl rfl rfl rfl rfl ?_
        refine g_pass' rfl rfl rfl rfl rfl ?_
        refine g_pass' rfl rfl rfl rfl rfl ?_
        refine g_pass_u rfl rfl rfl rfl rfl ?_
        refine g_pass_u rfl rfl rfl rfl rfl ?_
        refine g_pass_u rfl rfl rfl rfl rfl ?_
        refine g_pass_u rfl rfl rfl rfl rfl ?_
        refine g_pass_u rfl rfl rfl rfl rfl ?_
        refine g_pass' rfl rfl rfl rfl rfl ?_
        refine aops_cons rfl (w_pure rfl (p_pick_t rfl rfl) ?_)
        refine aops_nil ?_
        refine a_cond_t rfl ?_
        refine a_seq ?_
        refine a_region ?_
        refine aops_cons rfl (w_pure rfl (p_assign rfl) ?_)
        refine aops_nil ?_
        refine a_ret ?_
        refine ret_ok (hands1 rfl (.tmp rfl)) (.nil _) ?_
        first | (refine ret_false ?_; exact goodOps_not (i := i) (by omega) (by unfold OpOk2; omega)) | (refine ret_false ?_; exact fun g => absurd g.1 (by assumption)) | (refine ret_dec ?_; simp only [List.length_map]; exact ⟨fun q => goodOps_of (by assumption) (by omega) (below_all hI (by omega)), fun g => by have := g.2.1; omega⟩)
      · (try simp only [Bool.not_eq_true', Bool.not_eq_false', Bool.not_eq_true, Bool.not_eq_false, decide_eq_true_eq, decide_eq_false_iff_not, List.length_map, List.length_range] at h6); (try simp only [bne_iff_ne, ne_eq, bne_eq_false_iff_eq, decide_eq_decide, beq_iff_eq] at h6)
        refine aops_guard_t rfl rfl rfl (w_pure rfl (p_field_box fo_84_1 rfl) ?_)
        refine aops_guard_t rfl rfl rfl (w_pure rfl (p_load_box ag_3 rfl (by repeat (first | exact Pick.here _ _ _ | apply Pick.next)) (by rfl) noX) ?_)
        refine aops_guard_t rfl rfl rfl (w_pure rfl (p_neq rfl rfl) ?_)
        refine aops_guard_t rfl rfl rfl (w_pure rfl (p_move rfl) ?_)
        first | refine aops_split_d 34 rfl (fun h7 => ?_) (fun h8 => ?_) | refine aops_split 34 rfl (fun h7 => ?_) (fun h8 => ?_)
        · (try simp only [Bool.not_eq_true', Bool.not_eq_false', Bool.not_eq_true, Bool.not_eq_false, decide_eq_true_eq, decide_eq_false_iff_not, List.length_map, List.length_range] at h7); (try simp only [bne_iff_ne, ne_eq, bne_eq_false_iff_eq, decide_eq_decide, beq_iff_eq] at h7)
          refine aops_guard_t rfl rfl rfl (w_pure rfl (p_load_v_all ag_62 rfl (by rfl) noX) ?_)
          refine aops_guard_t rfl rfl rfl (w_pure rfl (p_field_box fo_84_1 rfl) ?_)
          refine aops_guard_t rfl rfl rfl (w_pure rfl (p_load_box ag_3 rfl (by repeat (first | exact Pick.here _ _ _ | apply Pick.next)) (by rfl) noX) ?_)
          refine aops_guard_t rfl rfl rfl (w_callR rfl rfl rfl cl_104 (c_spec_l15Find h (by assumption) _) ?_)
          refine aops_guard_t rfl rfl rfl (w_pure rfl (p_lss rfl rfl) ?_)
          refine aops_guard_t rfl rfl rfl (w_pure rfl (p_pick_t rfl rfl) ?_)
          refine aops_cons rfl (w_pure rfl (p_pick_f rfl rfl) ?_)
          refine aops_nil ?_
          first | refine a_cond_d rfl (fun h9 => ?_) (fun h10 => ?_) | refine a_cond_n rfl (fun h9 => ?_) (fun h10 => ?_) | refine a_cond_nb rfl (fun h9 => ?_) (fun h10 => ?_) | refine a_cond rfl (fun h9 => ?_) (fun h10 => ?_)
          · (try simp only [Bool.not_eq_true', Bool.not_eq_false', Bool.not_eq_true, Bool.not_eq_false, decide_eq_true_eq, decide_eq_false_iff_not, List.length_map, List.length_range] at h9); (try simp only [bne_iff_ne, ne_eq, bne_eq_false_iff_eq, decide_eq_decide, beq_iff_eq] at h9)
            refine a_seq ?_
            refine a_region ?_
            refine aops_cons rfl (w_pure rfl (p_assign rfl) ?_)
            refine aops_nil ?_
            refine a_ret ?_
            refine ret_ok (hands1 rfl (.tmp rfl)) (.nil _) ?_
            first | (refine ret_false ?_; exact goodOps_not (i := i) (by omega) (by unfold OpOk2; omega)) | (refine ret_false ?_; exact fun g => absurd g.1 (by assumption)) | (refine ret_dec ?_; simp only [List.length_map]; exact ⟨fun q => goodOps_of (by assumption) (by omega) (below_all hI (by omega)), fun g => by have := g.2.1; omega⟩)
          · (try simp only [Bool.not_eq_true', Bool.not_eq_false', Bool.not_eq_true, Bool.not_eq_false, decide_eq_true_eq, decide_eq_false_iff_not, List.length_map, List.length_range] at h10); (try simp only [bne_iff_ne, ne_eq, bne_eq_false_iff_eq, decide_eq_decide, beq_iff_eq] at h10)
            refine a_skip ?_
            refine a_region ?_
            refine aops_cons rfl (w_pure rfl (p_move rfl) ?_)
            refine aops_cons rfl (w_pure rfl (p_add' rfl rfl ⟨by omega, by omega⟩) ?_)
            refine aops_cons rfl (w_pure rfl (p_assign rfl) ?_)
            refine aops_nil ?_
            refine ⟨(i + 1), _, ?_, ?_, (by repeat (first | exact Knows.nil | refine Knows.cons (by rfl) ?_)), (by repeat (first | exact Back.refl _ _ | refine Back.cons (by rfl) ?_)), (by repeat (first | exact Picks.nil _ | exact Pick.here _ _ _ | apply Pick.next | apply Picks.cons))⟩
            · exact ⟨by omega, below_succ hI (by unfold OpOk2; omega)⟩
            · (try dsimp only); omega
        · (try simp only [Bool.not_eq_true', Bool.not_eq_false', Bool.not_eq_true, Bool.not_eq_false, decide_eq_true_eq, decide_eq_false_iff_not, List.length_map, List.length_range] at h8); (try simp only [bne_iff_ne, ne_eq, bne_eq_false_iff_eq, decide_eq_decide, beq_iff_eq] at h8)
          refine g_pass' rfl rfl rfl rfl rfl ?_
          refine g_pass' rfl rfl rfl rfl rfl ?_
          refine g_pass' rfl rfl rfl rfl rfl ?_
          refine g_pass' rfl rfl rfl rfl rfl ?_
          refine g_pass' rfl rfl rfl rfl rfl ?_
          refine aops_guard_t rfl rfl rfl (w_pure rfl (p_pick_f rfl rfl) ?_)
          refine aops_cons rfl (w_pure rfl (p_pick_f rfl rfl) ?_)
          refine aops_nil ?_
          refine a_cond_f rfl ?_
          refine a_skip ?_
          refine a_region ?_
          refine aops_cons rfl (w_pure rfl (p_move rfl) ?_)
          refine aops_cons rfl (w_pure rfl (p_add' rfl rfl ⟨by omega, by omega⟩) ?_)
          refine aops_cons rfl (w_pure rfl (p_assign rfl) ?_)
          refine aops_nil ?_
          refine ⟨(i + 1), _, ?_, ?_, (by repeat (first | exact Knows.nil | refine Knows.cons (by rfl) ?_)), (by repeat (first | exact Back.refl _ _ | refine Back.cons (by rfl) ?_)), (by repeat (first | exact Picks.nil _ | exact Pick.here _ _ _ | apply Pick.next | apply Picks.cons))⟩
          · exact ⟨by omega, below_succ hI (by unfold OpOk2; omega)⟩
          · (try dsimp only); omega
  · (try simp only [Bool.not_eq_true', Bool.not_eq_false', Bool.not_eq_true, Bool.not_eq_false, decide_eq_true_eq, decide_eq_false_iff_not, List.length_map, List.length_range] at h2); (try simp only [bne_iff_ne, ne_eq, bne_eq_false_iff_eq, decide_eq_decide, beq_iff_eq] at h2)
    refine a_exit ?_
    refine a_seq ?_
    refine a_region ?_
    refine aops_cons rfl (w_pure rfl (p_load_v_all ag_62 rfl (by rfl) noX) ?_)
    refine aops_cons rfl (w_callR rfl rfl rfl cl_114 (c_spec_l15Good _ ‹_›) ?_)
    refine aops_cons rfl (w_pure rfl (p_move rfl) ?_)
    first | refine aops_split_d 44 rfl (fun h11 => ?_) (fun h12 => ?_) | refine aops_split 44 rfl (fun h11 => ?_) (fun h12 => ?_)
    · (try simp only [Bool.not_eq_true', Bool.not_eq_false', Bool.not_eq_true, Bool.not_eq_false, decide_eq_true_eq, decide_eq_false_iff_not, List.length_map, List.length_range] at h11); (try simp only [bne_iff_ne, ne_eq, bne_eq_false_iff_eq, decide_eq_decide, beq_iff_eq] at h11)
      refine aops_guard_t rfl rfl rfl (w_pure rfl (p_move rfl) ?_)
      refine aops_guard_t rfl rfl rfl (w_pure rfl (p_len sl_64 rfl rfl) ?_)
      refine aops_guard_t rfl rfl rfl (w_pure rfl (p_leq rfl rfl) ?_)
      refine aops_cons rfl (w_pure rfl (p_pick_t rfl rfl) ?_)
      refine aops_cons rfl (w_pure rfl (p_assign rfl) ?_)
      refine aops_nil ?_
      refine a_ret ?_
      refine ret_ok (hands1 rfl (.tmp rfl)) (.nil _) ?_
      first | (refine ret_false ?_; exact goodOps_not (i := i) (by omega) (by unfold OpOk2; omega)) | (refine ret_false ?_; exact fun g => absurd g.1 (by assumption)) | (refine ret_dec ?_; simp only [List.length_map]; exact ⟨fun q => goodOps_of (by assumption) (by omega) (below_all hI (by omega)), fun g => by have := g.2.1; omega⟩)
    · (try simp only [Bool.not_eq_true', Bool.not_eq_false', Bool.not_eq_true, Bool.not_eq_false, decide_eq_true_eq, decide_eq_false_iff_not, List.length_map, List.length_range] at h12); (try simp only [bne_iff_ne, ne_eq, bne_eq_false_iff_eq, decide_eq_decide, beq_iff_eq] at h12)
      refine g_pass' rfl rfl rfl rfl rfl ?_
      refine g_pass' rfl rfl rfl rfl rfl ?_
      refine g_pass' rfl rfl rfl rfl rfl ?_
      refine aops_cons rfl (w_pure rfl (p_pick_f rfl rfl) ?_)
      refine aops_cons rfl (w_pure rfl (p_assign rfl) ?_)
      refine aops_nil ?_
      refine a_ret ?_
      refine ret_ok (hands1 rfl (.tmp rfl)) (.nil _) ?_
      first | (refine ret_false ?_; exact goodOps_not (i := i) (by omega) (by unfold OpOk2; omega)) | (refine ret_false ?_; exact fun g => absurd g.1 (by assumption)) | (refine ret_dec ?_; simp only [List.length_map]; exact ⟨fun q => goodOps_of (by assumption) (by omega) (below_all hI (by omega)), fun g => by have := g.2.1; omega⟩)

theorem c3_impl_signal (q b1 b2 n1 n2 : Nat) (tl : List AV) (h : Hall) (hn : SmallHall h) (e1 : h.list.length = n1) (e2 : h.events.length = n2) (i : Int) (h0 : 0 ≤ i) (h1 : i < h.list.length) (h2 : h.events.length = h.list.length) : ACalls Try.prog 120 [.ptr q 0, .int .i64 i] [(q, .box (.own 5 b1 0 n1 :: .own 1 b2 0 n2 :: tl)), (b1, .arr 46 5 (h.list.map eVcpu)), (b2, .arr 4 1 (h.events.map eBool))] (fun r st => r = .bool (h.list.getD i.toNat zVcpu).blocked ∧ st = [(q, .box (.own 5 b1 0 n1 :: .own 1 b2 0 n2 :: tl)), (b1, .arr 46 5 ((signalH h i.toNat).list.map eVcpu)), (b2, .arr 4 1 ((signalH h i.toNat).events.map eBool))]) := by
  subst e1 e2; exact c_impl_signal q b1 b2 tl h hn i h0 h1 h2

theorem c3_impl_wait (q b1 b2 n1 n2 : Nat) (tl : List AV) (h : Hall) (hn : SmallHall h) (e1 : h.list.length = n1) (e2 : h.events.length = n2) (i : Int) (h0 : 0 ≤ i) (h1 : i < h.list.length) (h2 : h.events.length = h.list.length) : ACalls Try.prog 122 [.ptr q 0, .int .i64 i] [(q, .box (.own 5 b1 0 n1 :: .own 1 b2 0 n2 :: tl)), (b1, .arr 46 5 (h.list.map eVcpu)), (b2, .arr 4 1 (h.events.map eBool))] (fun r st => r = .bool (h.events.getD i.toNat false) ∧ st = [(q, .box (.own 5 b1 0 n1 :: .own 1 b2 0 n2 :: tl)), (b1, .arr 46 5 ((waitH h i.toNat).list.map eVcpu)), (b2, .arr 4 1 ((waitH h i.toNat).events.map eBool))]) := by
  subst e1 e2; exact c_impl_wait q b1 b2 tl h hn i h0 h1 h2

theorem cb_impl_tickVcpus (xs : List Vcpu) (hn : xs.length ≤ 1000) (hA : AreVcpus xs) : ACalls Try.prog 91 [.sl (xs.map eVcpu)] [] (fun r st => ∃ b1, r = .tup [.own 5 b1 0 (tickB xs).1.length, .int .i64 (tickB xs).2] ∧ st = [(b1, .arr 46 5 ((tickB xs).1.map eVcpu))]) := by
  by_cases hR : Runs xs
  · rw [tickB_t hR]; exact cy_impl_tickVcpus xs hn hA hR
  · rw [tickB_f hR]; exact cn_impl_tickVcpus xs hn hA hR

theorem co2_spec_l15Tick (l : List Vcpu) (e : List Bool) (hI : IsHall ⟨l, e⟩) : ACalls Try.prog 123 [.agg [.sl (l.map eVcpu), .sl (e.map eBool)]] [] (fun r st => ∃ b1 b2, r = .tup [.agg [.own 5 b1 0 (tickH ⟨l, e⟩).1.list.length, .own 1 b2 0 (tickH ⟨l, e⟩).1.events.length], .int .i64 (tickH ⟨l, e⟩).2] ∧ st = [(b1, .arr 46 5 ((tickH ⟨l, e⟩).1.list.map eVcpu)), (b2, .arr 4 1 ((tickH ⟨l, e⟩).1.events.map eBool))]) := co_spec_l15Tick ⟨l, e⟩ (small_of hI ⟨rfl, rfl⟩) hI

theorem co_spec_l15Run (h : Hall) (hn : SmallHall h) (ops : List HallOp) (hm : ops.length ≤ 1048576) (id : Int) (g : GoodOps h ops) : ACalls Try.prog 105 [.agg (eHall h), .sl (ops.map eHallOp), .int .i64 id] [] (fun r st => ∃ b1 b2 b3, r = .tup [.agg [.own 5 b1 0 (fin h ops id).hall.list.length, .own 1 b2 0 (fin h ops id).hall.events.length], .own 1 b3 0 (fin h ops id).ticks.length, .int .i64 (fin h ops id).woken, .int .i64 (fin h ops id).takes] ∧ st = [(b1, .arr 46 5 ((fin h ops id).hall.list.map eVcpu)), (b2, .arr 4 1 ((fin h ops id).hall.events.map eBool)), (b3, .arr 3 1 ((fin h ops id).ticks.map eInt))]) := by
  have hnn := hn
  obtain ⟨hn1, hn2⟩ := hnn
  have hops := g.2.1
  refine a_enter Try.func105 rfl rfl (fun w0 M0 => ?_)
  refine a_seq ?_
  refine a_region ?_
  refine aops_cons rfl (w_box_v rfl rfl rfl ?_)
  refine aops_cons rfl (w_alloc rfl z_62 fun b1 => ?_)
  refine aops_cons rfl (w_pure rfl (p_assign rfl) ?_)
  refine aops_cons rfl (w_pure rfl (p_assign rfl) ?_)
  refine aops_cons rfl (w_pure rfl (p_assign rfl) ?_)
  refine aops_nil ?_
  refine a_seq ?_
  refine a_region ?_
  refine aops_cons rfl (w_pure rfl (p_load_v_all ag_62 rfl (by rfl) noX) ?_)
  refine aops_cons rfl (w_call rfl rfl rfl cl_137 (co_spec_l15Own h (by assumption)) ?_)
  rintro _ _ ⟨b2, b3, rfl, rfl⟩
  refine aops_cons rfl (w_litM eInt [] rfl el_34 rfl rfl rfl rfl rfl fun b4 => ?_)
  refine aops_cons rfl (w_alloc rfl z_62 fun b5 => ?_)
  refine aops_cons rfl (w_store (cells' := [_, _]) rfl rfl rfl (by repeat (first | exact Pick.here _ _ _ | apply Pick.next)) cn_62 (by rfl) (by rfl) (by rfl) trivial ?_)
  refine aops_cons rfl (w_pure rfl (p_assign rfl) ?_)
  refine aops_nil ?_
  refine a_seq ?_
  refine a_region ?_
  refine aops_cons rfl (w_pure rfl (p_assign rfl) ?_)
  refine aops_cons rfl (w_pure rfl (p_assign rfl) ?_)
  refine aops_nil ?_
  refine a_seq ?_
  refine a_seq ?_
  refine a_region ?_
  refine aops_cons rfl (w_pure rfl (p_assign rfl) ?_)
  refine aops_nil ?_
  refine a_block ?_
  refine a_loop (ι := Nat × Nat × Nat × Nat × List Vcpu × List Bool × List Int × Int × Int) (fun ⟨k, b1, b2, c, l, e, tk, w, t⟩ => RInv h ops id k l e tk w t) (fun ⟨k, b1, b2, c, l, e, tk, w, t⟩ => [(14, .int .i64 (k : Int)), (11, .own 1 c 0 tk.length), (12, .int .i64 w), (13, .int .i64 t)]) (fun ⟨k, b1, b2, c, l, e, tk, w, t⟩ => [(b5, .box [.own 5 b1 0 l.length, .own 1 b2 0 e.length]), (b1, .arr 46 5 (l.map eVcpu)), (b2, .arr 4 1 (e.map eBool)), (c, .arr 3 1 (tk.map eInt))]) (fun ⟨k, b1, b2, c, l, e, tk, w, t⟩ => ops.length - k) (0, b2, b3, b4, h.list, h.events, [], 0, 0) (.zero g) (by repeat (first | exact Knows.nil | refine Knows.cons (by rfl) ?_)) (by repeat (first | exact Picks.nil _ | exact Pick.here _ _ _ | apply Pick.next | apply Picks.cons)) ?_
  rintro ⟨k, b1, b2, c, l, e, tk, w, t⟩ hR
  replace hR : RInv h ops id k l e tk w t := hR; have hsm := hR.small; have hwb := hR.wb; have htb := hR.tb; have htl := hR.tl; have hfx := fun x => hR.find x; have hid : k < ops.length → _ := fun hk => hR.idx g hk
  refine a_seq ?_
  refine a_seq ?_
  refine a_region ?_
  refine aops_cons rfl (w_pure rfl (p_move rfl) ?_)
  refine aops_cons rfl (w_pure rfl (p_move rfl) ?_)
  refine aops_cons rfl (w_pure rfl (p_len sl_64 rfl rfl) ?_)
  refine aops_cons rfl (w_pure rfl (p_lss rfl rfl) ?_)
  refine aops_nil ?_
  first | refine a_cond_d rfl (fun h1 => ?_) (fun h2 => ?_) | refine a_cond_n rfl (fun h1 => ?_) (fun h2 => ?_) | refine a_cond_nb rfl (fun h1 => ?_) (fun h2 => ?_) | refine a_cond rfl (fun h1 => ?_) (fun h2 => ?_)
  · (try simp only [Bool.not_eq_true', Bool.not_eq_false', Bool.not_eq_true, Bool.not_eq_false, decide_eq_true_eq, decide_eq_false_iff_not, List.length_map, List.length_range] at h1)
    refine a_skip ?_
    refine a_seq ?_
    refine a_block ?_
    refine a_seq ?_
    refine a_region ?_
    refine aops_cons rfl (w_pure rfl (p_move rfl) ?_)
    refine aops_cons rfl (w_pure rfl (p_move rfl) ?_)
    refine aops_cons rfl (w_pure rfl (p_index_sl _ rfl rfl rfl (rowD _ _ zHallOp (by omega)) es_64) ?_)
    refine aops_cons rfl (w_pure rfl (p_load_v_all ag_84 rfl (by rfl) noX) ?_)
    refine aops_cons rfl (w_alloc rfl z_84 fun b6 => ?_)
    refine aops_cons rfl (w_store (cells' := [_, _]) rfl rfl rfl (by repeat (first | exact Pick.here _ _ _ | apply Pick.next)) cn_84 (by rfl) (by rfl) (by rfl) trivial ?_)
    refine aops_nil ?_
    refine a_seq ?_
    refine a_region ?_
    refine aops_cons rfl (w_pure rfl (p_load_box_all ag_62 rfl (by repeat (first | exact Pick.here _ _ _ | apply Pick.next)) (by rfl) noX) ?_)
    refine aops_cons rfl (w_pure rfl (p_field_box fo_84_1 rfl) ?_)
    refine aops_cons rfl (w_pure rfl (p_load_box ag_3 rfl (by repeat (first | exact Pick.here _ _ _ | apply Pick.next)) (by rfl) noX) ?_)
    refine aops_cons rfl (w_callLR rfl rfl rfl cl_104 (.cons (.agg (.cons (.own (by repeat (first | exact List.Mem.head _ | apply List.Mem.tail)) (by first | (simp; done) | (simp; assumption) | (simp; omega) | (simp [mkL]; done))) (.cons (.own (by repeat (first | exact List.Mem.head _ | apply List.Mem.tail)) (by first | (simp; done) | (simp; assumption) | (simp; omega) | (simp [mkL]; done))) .nil))) (.cons (.refl _) .nil)) (show ACalls Try.prog 104 [.agg [.sl (l.map eVcpu), .sl (e.map eBool)], .int .i64 (ops.getD k zHallOp).id] [] (Ret (.int .i64 (findI h.list (ops.getD k zHallOp).id))) by rw [← hfx]; exact c_spec_l15Find (⟨l, e⟩ : Hall) (small_of hR.hall ⟨rfl, rfl⟩) _) (closed_int _ _) ?_)
    refine aops_cons rfl (w_pure rfl (p_assign rfl) ?_)
    refine aops_nil ?_
    refine a_block ?_
    refine a_seq ?_
    refine a_region ?_
    refine aops_cons rfl (w_pure rfl (p_field_box fo_84_0 rfl) ?_)
    refine aops_cons rfl (w_pure rfl (p_load_box ag_3 rfl (by repeat (first | exact Pick.here _ _ _ | apply Pick.next)) (by rfl) noX) ?_)
    refine aops_cons rfl (w_pure rfl (p_eql rfl rfl) ?_)
    refine aops_cons rfl (w_pure rfl (p_assign rfl) ?_)
    refine aops_nil ?_
    first | refine a_cond_d rfl (fun h3 => ?_) (fun h4 => ?_) | refine a_cond_n rfl (fun h3 => ?_) (fun h4 => ?_) | refine a_cond_nb rfl (fun h3 => ?_) (fun h4 => ?_) | refine a_cond rfl (fun h3 => ?_) (fun h4 => ?_)
    · (try simp only [Bool.not_eq_true', Bool.not_eq_false', Bool.not_eq_true, Bool.not_eq_false, decide_eq_true_eq, decide_eq_false_iff_not, List.length_map, List.length_range] at h3)
      refine a_seq ?_
      refine a_region ?_
      refine aops_cons rfl (w_pure rfl (p_load_box_all ag_62 rfl (by repeat (first | exact Pick.here _ _ _ | apply Pick.next)) (by rfl) noX) ?_)
      refine aops_cons rfl (w_callL rfl rfl rfl cl_123 (.cons (.agg (.cons (.own (by repeat (first | exact List.Mem.head _ | apply List.Mem.tail)) (by first | (simp; done) | (simp; assumption) | (simp; omega) | (simp [mkL]; done))) (.cons (.own (by repeat (first | exact List.Mem.head _ | apply List.Mem.tail)) (by first | (simp; done) | (simp; assumption) | (simp; omega) | (simp [mkL]; done))) .nil))) .nil) (co2_spec_l15Tick l e hR.hall) ?_)
      rintro _ _ ⟨b7, b8, rfl, rfl⟩
      refine ⟨(closed_tup (all_cons' (closed_agg (all_cons' (closed_own _ _ _ _) (all_cons' (closed_own _ _ _ _) all_nil'))) (all_cons' (closed_int _ _) all_nil'))), (closedS_cons (closedAll _ _ _ _ cl_eVcpu) (closedS_cons (closedAll _ _ _ _ cl_eBool) closedS_nil)), ?_⟩
      refine aops_cons rfl (w_pure rfl (p_move rfl) ?_)
      refine aops_cons rfl (w_pure rfl (p_extract rfl rfl) ?_)
      refine aops_cons rfl (w_pure rfl (p_extract rfl rfl) ?_)
      refine aops_cons rfl (w_alloc rfl z_62 fun b9 => ?_)
      refine aops_cons rfl (w_store (cells' := [_, _]) rfl rfl rfl (by repeat (first | exact Pick.here _ _ _ | apply Pick.next)) cn_62 (by rfl) (by rfl) (by rfl) trivial ?_)
      refine aops_cons rfl (w_pure rfl (p_assign rfl) ?_)
      refine aops_nil ?_
      refine a_seq ?_
      refine a_region ?_
      refine aops_cons rfl (w_pure rfl (p_load_box_all ag_62 rfl (by repeat (first | exact Pick.here _ _ _ | apply Pick.next)) (by rfl) noX) ?_)
      refine aops_cons rfl (w_store (cells' := [_, _]) rfl rfl rfl (by repeat (first | exact Pick.here _ _ _ | apply Pick.next)) cn_62 (by rfl) (by rfl) (by rfl) trivial ?_)
      refine aops_nil ?_
      refine a_region ?_
      refine aops_cons rfl (w_pure rfl (p_move rfl) ?_)
      refine aops_cons rfl (w_pure rfl (p_move rfl) ?_)
      refine aops_cons rfl (w_lit_vM eInt [(tickH (⟨l, e⟩ : Hall)).2] rfl el_34 rfl rfl rfl rfl rfl ?_)
      refine aops_cons rfl (w_appendM eInt rfl el_34 rfl rfl (by repeat (first | exact Pick.here _ _ _ | apply Pick.next)) rfl (.sl _) (fun _ => rfl) (fun _ => rfl) (by simp; omega) (by simp; omega) trivial fun b10 => ?_)
      refine aops_cons rfl (w_pure rfl (p_assign rfl) ?_)
      refine aops_nil ?_
      refine a_region ?_
      refine aops_cons rfl (w_pure rfl (p_move rfl) ?_)
      refine aops_cons rfl (w_pure rfl (p_add' rfl rfl ⟨by omega, by omega⟩) ?_)
      refine aops_cons rfl (w_pure rfl (p_assign rfl) ?_)
      refine aops_nil ?_
      refine ⟨(k + 1, _, _, _, _, _, _, _, _), _, ?_, ?_, (by repeat (first | exact Knows.nil | refine Knows.cons (by rfl) ?_)), (by repeat (first | exact Back.refl _ _ | refine Back.cons (by rfl) ?_)), (by repeat (first | exact Picks.nil _ | exact Pick.here _ _ _ | apply Pick.next | apply Picks.cons))⟩
      · first | exact hR.next g (by omega) (st_tick (by assumption)) | exact hR.next g (by omega) (st_tickH (by assumption)) | exact hR.next g (by omega) (st_sig1 (by assumption) (by assumption) (by assumption) (by assumption)) | exact hR.next g (by omega) (st_sig2 (by assumption) (by assumption) (by assumption) (by assumption)) | exact hR.next g (by omega) (st_sig3 (by assumption) (by assumption) (by assumption)) | exact hR.next g (by omega) (st_wait1 (by assumption) (by assumption) (by assumption) (by assumption) (by assumption)) | exact hR.next g (by omega) (st_wait2 (by assumption) (by assumption) (by assumption) (by assumption) (by assumption)) | exact hR.next g (by omega) (st_wait3 (by assumption) (by assumption) (by assumption) (by assumption)) | exact hR.next g (by omega) (st_none (by assumption) (by assumption) (by assumption))
      · (try dsimp only); omega
    · (try simp only [Bool.not_eq_true', Bool.not_eq_false', Bool.not_eq_true, Bool.not_eq_false, decide_eq_true_eq, decide_eq_false_iff_not, List.length_map, List.length_range] at h4)
      refine a_seq ?_
      refine a_region ?_
      refine aops_cons rfl (w_pure rfl (p_field_box fo_84_0 rfl) ?_)
      refine aops_cons rfl (w_pure rfl (p_load_box ag_3 rfl (by repeat (first | exact Pick.here _ _ _ | apply Pick.next)) (by rfl) noX) ?_)
      refine aops_cons rfl (w_pure rfl (p_eql rfl rfl) ?_)
      refine aops_cons rfl (w_pure rfl (p_assign rfl) ?_)
      refine aops_nil ?_
      first | refine a_cond_d rfl (fun h5 => ?_) (fun h6 => ?_) | refine a_cond_n rfl (fun h5 => ?_) (fun h6 => ?_) | refine a_cond_nb rfl (fun h5 => ?_) (fun h6 => ?_) | refine a_cond rfl (fun h5 => ?_) (fun h6 => ?_)
      · (try simp only [Bool.not_eq_true', Bool.not_eq_false', Bool.not_eq_true, Bool.not_eq_false, decide_eq_true_eq, decide_eq_false_iff_not, List.length_map, List.length_range] at h5)
        refine a_seq ?_
        refine a_seq ?_
        refine a_region ?_
        refine aops_cons rfl (w_pure rfl (p_field_box fo_62_0 rfl) ?_)
        refine aops_cons rfl (w_pure rfl (p_load_box ag_24 rfl (by repeat (first | exact Pick.here _ _ _ | apply Pick.next)) (by rfl) noX) ?_)
        refine aops_cons rfl (w_pure rfl (p_move rfl) ?_)
        refine aops_cons rfl (w_pure rfl (p_index_own0 (findI h.list (ops.getD k zHallOp).id).toNat rfl rfl (by have := hid (by omega); omega) (by have := hid (by omega); omega) es_24) ?_)
        refine aops_cons rfl (w_pure rfl (p_field_e fo_46_3 rfl) ?_)
        refine aops_cons rfl (w_pure rfl (p_load_e ag_4 rfl (by repeat (first | exact Pick.here _ _ _ | apply Pick.next)) (rowD _ _ zVcpu (by omega)) (by rfl) noX) ?_)
        refine aops_cons rfl (w_pure rfl (p_move rfl) ?_)
        first | refine aops_split_d 60 rfl (fun h7 => ?_) (fun h8 => ?_) | refine aops_split 60 rfl (fun h7 => ?_) (fun h8 => ?_)
        · (try simp only [Bool.not_eq_true', Bool.not_eq_false', Bool.not_eq_true, Bool.not_eq_false, decide_eq_true_eq, decide_eq_false_iff_not, List.length_map, List.length_range] at h7)
          refine aops_guard_t rfl rfl rfl (w_pure rfl (p_field_box fo_84_1 rfl) ?_)
          refine aops_guard_t rfl rfl rfl (w_pure rfl (p_load_box ag_3 rfl (by repeat (first | exact Pick.here _ _ _ | apply Pick.next)) (by rfl) noX) ?_)
          refine aops_guard_t rfl rfl rfl (w_pure rfl (p_move rfl) ?_)
          refine aops_guard_t rfl rfl rfl (w_pure rfl (p_eql rfl rfl) ?_)
          refine aops_cons rfl (w_pure rfl (p_pick_t rfl rfl) ?_)
          refine aops_nil ?_
          first | refine a_cond_d rfl (fun h9 => ?_) (fun h10 => ?_) | refine a_cond_n rfl (fun h9 => ?_) (fun h10 => ?_) | refine a_cond_nb rfl (fun h9 => ?_) (fun h10 => ?_) | refine a_cond rfl (fun h9 => ?_) (fun h10 => ?_)
          · (try simp only [Bool.not_eq_true', Bool.not_eq_false', Bool.not_eq_true, Bool.not_eq_false, decide_eq_true_eq, decide_eq_false_iff_not, List.length_map, List.length_range] at h9)
            refine a_region ?_
            refine aops_cons rfl (w_pure rfl (p_move rfl) ?_)
            refine aops_cons rfl (w_pure rfl (p_add' rfl rfl ⟨by omega, by omega⟩) ?_)
            refine aops_cons rfl (w_pure rfl (p_assign rfl) ?_)
            refine aops_nil ?_
            refine a_region ?_
            refine aops_cons rfl (w_pure rfl (p_load_box_all ag_62 rfl (by repeat (first | exact Pick.here _ _ _ | apply Pick.next)) (by rfl) noX) ?_)
            refine aops_cons rfl (w_pure rfl (p_move rfl) ?_)
            refine aops_cons rfl (w_callL rfl rfl rfl cl_118 (.cons (.agg (.cons (.own (by repeat (first | exact List.Mem.head _ | apply List.Mem.tail)) (by first | (simp; done) | (simp; assumption) | (simp; omega) | (simp [mkL]; done))) (.cons (.own (by repeat (first | exact List.Mem.head _ | apply List.Mem.tail)) (by first | (simp; done) | (simp; assumption) | (simp; omega) | (simp [mkL]; done))) .nil))) (.cons (.refl _) .nil)) (co_spec_l15Signal (⟨l, e⟩ : Hall) (small_of hR.hall ⟨rfl, rfl⟩) (findI h.list (ops.getD k zHallOp).id) (by have := hid (by omega); omega) (by have := hid (by omega); show _ < (l.length : Int); omega) hsm.2.2.2) ?_)
            rintro _ _ ⟨b11, b12, rfl, rfl⟩
            refine ⟨(closed_agg (all_cons' (closed_own _ _ _ _) (all_cons' (closed_own _ _ _ _) all_nil'))), (closedS_cons (closedAll _ _ _ _ cl_eVcpu) (closedS_cons (closedAll _ _ _ _ cl_eBool) closedS_nil)), ?_⟩
            refine aops_cons rfl (w_store (cells' := [_, _]) rfl rfl rfl (by repeat (first | exact Pick.here _ _ _ | apply Pick.next)) cn_62 (by rfl) (by rfl) (by rfl) trivial ?_)
            refine aops_nil ?_
            refine a_region ?_
            refine aops_cons rfl (w_pure rfl (p_move rfl) ?_)
            refine aops_cons rfl (w_pure rfl (p_add' rfl rfl ⟨by omega, by omega⟩) ?_)
            refine aops_cons rfl (w_pure rfl (p_assign rfl) ?_)
            refine aops_nil ?_
            refine ⟨(k + 1, _, _, _, _, _, _, _, _), _, ?_, ?_, (by repeat (first | exact Knows.nil | refine Knows.cons (by rfl) ?_)), (by repeat (first | exact Back.refl _ _ | refine Back.cons (by rfl) ?_)), (by repeat (first | exact Picks.nil _ | exact Pick.here _ _ _ | apply Pick.next | apply Picks.cons))⟩
            · first | exact hR.next g (by omega) (st_tick (by assumption)) | exact hR.next g (by omega) (st_tickH (by assumption)) | exact hR.next g (by omega) (st_sig1 (by assumption) (by assumption) (by assumption) (by assumption)) | exact hR.next g (by omega) (st_sig2 (by assumption) (by assumption) (by assumption) (by assumption)) | exact hR.next g (by omega) (st_sig3 (by assumption) (by assumption) (by assumption)) | exact hR.next g (by omega) (st_wait1 (by assumption) (by assumption) (by assumption) (by assumption) (by assumption)) | exact hR.next g (by omega) (st_wait2 (by assumption) (by assumption) (by assumption) (by assumption) (by assumption)) | exact hR.next g (by omega) (st_wait3 (by assumption) (by assumption) (by assumption) (by assumption)) | exact hR.next g (by omega) (st_none (by assumption) (by assumption) (by assumption))
            · (try dsimp only); omega
          · (try simp only [Bool.not_eq_true', Bool.not_eq_false', Bool.not_eq_true, Bool.not_eq_false, decide_eq_true_eq, decide_eq_false_iff_not, List.length_map, List.length_range] at h10)
            refine a_skip ?_
            refine a_region ?_
            refine aops_cons rfl (w_pure rfl (p_load_box_all ag_62 rfl (by repeat (first | exact Pick.here _ _ _ | apply Pick.next)) (by rfl) noX) ?_)
            refine aops_cons rfl (w_pure rfl (p_move rfl) ?_)
            refine aops_cons rfl (w_callL rfl rfl rfl cl_118 (.cons (.agg (.cons (.own (by repeat (first | exact List.Mem.head _ | apply List.Mem.tail)) (by first | (simp; done) | (simp; assumption) | (simp; omega) | (simp [mkL]; done))) (.cons (.own (by repeat (first | exact List.Mem.head _ | apply List.Mem.tail)) (by first | (simp; done) | (simp; assumption) | (simp; omega) | (simp [mkL]; done))) .nil))) (.cons (.refl _) .nil)) (co_spec_l15Signal (⟨l, e⟩ : Hall) (small_of hR.hall ⟨rfl, rfl⟩) (findI h.list (ops.getD k zHallOp).id) (by have := hid (by omega); omega) (by have := hid (by omega); show _ < (l.length : Int); omega) hsm.2.2.2) ?_)
            rintro _ _ ⟨b13, b14, rfl, rfl⟩
            refine ⟨(closed_agg (all_cons' (closed_own _ _ _ _) (all_cons' (closed_own _ _ _ _) all_nil'))), (closedS_cons (closedAll _ _ _ _ cl_eVcpu) (closedS_cons (closedAll _ _ _ _ cl_eBool) closedS_nil)), ?_⟩
            refine aops_cons rfl (w_store (cells' := [_, _]) rfl rfl rfl (by repeat (first | exact Pick.here _ _ _ | apply Pick.next)) cn_62 (by rfl) (by rfl) (by rfl) trivial ?_)
            refine aops_nil ?_
            refine a_region ?_
            refine aops_cons rfl (w_pure rfl (p_move rfl) ?_)
            refine aops_cons rfl (w_pure rfl (p_add' rfl rfl ⟨by omega, by omega⟩) ?_)
            refine aops_cons rfl (w_pure rfl (p_assign rfl) ?_)
            refine aops_nil ?_
            refine ⟨(k + 1, _, _, _, _, _, _, _, _), _, ?_, ?_, (by repeat (first | exact Knows.nil | refine Knows.cons (by rfl) ?_)), (by repeat (first | exact Back.refl _ _ | refine Back.cons (by rfl) ?_)), (by repeat (first | exact Picks.nil _ | exact Pick.here _ _ _ | apply Pick.next | apply Picks.cons))⟩
            · first | exact hR.next g (by omega) (st_tick (by assumption)) | exact hR.next g (by omega) (st_tickH (by assumption)) | exact hR.next g (by omega) (st_sig1 (by assumption) (by assumption) (by assumption) (by assumption)) | exact hR.next g (by omega) (st_sig2 (by assumption) (by assumption) (by assumption) (by assumption)) | exact hR.next g (by omega) (st_sig3 (by assumption) (by assumption) (by assumption)) | exact hR.next g (by omega) (st_wait1 (by assumption) (by assumption) (by assumption) (by assumption) (by assumption)) | exact hR.next g (by omega) (st_wait2 (by assumption) (by assumption) (by assumption) (by assumption) (by assumption)) | exact hR.next g (by omega) (st_wait3 (by assumption) (by assumption) (by assumption) (by assumption)) | exact hR.next g (by omega) (st_none (by assumption) (by assumption) (by assumption))
            · (try dsimp only); omega
        · (try simp only [Bool.not_eq_true', Bool.not_eq_false', Bool.not_eq_true, Bool.not_eq_false, decide_eq_true_eq, decide_eq_false_iff_not, List.length_map, List.length_range] at h8)
          refine g_pass' rfl rfl rfl rfl rfl ?_
          refine g_pass' rfl rfl rfl rfl rfl ?_
          refine g_pass' rfl rfl rfl rfl rfl ?_
          refine g_pass' rfl rfl rfl rfl rfl ?_
          refine aops_cons rfl (w_pure rfl (p_pick_f rfl rfl) ?_)
          refine aops_nil ?_
          refine a_cond_f rfl ?_
          refine a_skip ?_
          refine a_region ?_
          refine aops_cons rfl (w_pure rfl (p_load_box_all ag_62 rfl (by repeat (first | exact Pick.here _ _ _ | apply Pick.next)) (by rfl) noX) ?_)
          refine aops_cons rfl (w_pure rfl (p_move rfl) ?_)
          refine aops_cons rfl (w_callL rfl rfl rfl cl_118 (.cons (.agg (.cons (.own (by repeat (first | exact List.Mem.head _ | apply List.Mem.tail)) (by first | (simp; done) | (simp; assumption) | (simp; omega) | (simp [mkL]; done))) (.cons (.own (by repeat (first | exact List.Mem.head _ | apply List.Mem.tail)) (by first | (simp; done) | (simp; assumption) | (simp; omega) | (simp [mkL]; done))) .nil))) (.cons (.refl _) .nil)) (co_spec_l15Signal (⟨l, e⟩ : Hall) (small_of hR.hall ⟨rfl, rfl⟩) (findI h.list (ops.getD k zHallOp).id) (by have := hid (by omega); omega) (by have := hid (by omega); show _ < (l.length : Int); omega) hsm.2.2.2) ?_)
          rintro _ _ ⟨b15, b16, rfl, rfl⟩
          refine ⟨(closed_agg (all_cons' (closed_own _ _ _ _) (all_cons' (closed_own _ _ _ _) all_nil'))), (closedS_cons (closedAll _ _ _ _ cl_eVcpu) (closedS_cons (closedAll _ _ _ _ cl_eBool) closedS_nil)), ?_⟩
          refine aops_cons rfl (w_store (cells' := [_, _]) rfl rfl rfl (by repeat (first | exact Pick.here _ _ _ | apply Pick.next)) cn_62 (by rfl) (by rfl) (by rfl) trivial ?_)
          refine aops_nil ?_
          refine a_region ?_
          refine aops_cons rfl (w_pure rfl (p_move rfl) ?_)
          refine aops_cons rfl (w_pure rfl (p_add' rfl rfl ⟨by omega, by omega⟩) ?_)
          refine aops_cons rfl (w_pure rfl (p_assign rfl) ?_)
          refine aops_nil ?_
          refine ⟨(k + 1, _, _, _, _, _, _, _, _), _, ?_, ?_, (by repeat (first | exact Knows.nil | refine Knows.cons (by rfl) ?_)), (by repeat (first | exact Back.refl _ _ | refine Back.cons (by rfl) ?_)), (by repeat (first | exact Picks.nil _ | exact Pick.here _ _ _ | apply Pick.next | apply Picks.cons))⟩
          · first | exact hR.next g (by omega) (st_tick (by assumption)) | exact hR.next g (by omega) (st_tickH (by assumption)) | exact hR.next g (by omega) (st_sig1 (by assumption) (by assumption) (by assumption) (by assumption)) | exact hR.next g (by omega) (st_sig2 (by assumption) (by assumption) (by assumption) (by assumption)) | exact hR.next g (by omega) (st_sig3 (by assumption) (by assumption) (by assumption)) | exact hR.next g (by omega) (st_wait1 (by assumption) (by assumption) (by assumption) (by assumption) (by assumption)) | exact hR.next g (by omega) (st_wait2 (by assumption) (by assumption) (by assumption) (by assumption) (by assumption)) | exact hR.next g (by omega) (st_wait3 (by assumption) (by assumption) (by assumption) (by assumption)) | exact hR.next g (by omega) (st_none (by assumption) (by assumption) (by assumption))
          · (try dsimp only); omega
      · (try simp only [Bool.not_eq_true', Bool.not_eq_false', Bool.not_eq_true, Bool.not_eq_false, decide_eq_true_eq, decide_eq_false_iff_not, List.length_map, List.length_range] at h6)
        refine a_seq ?_
        refine a_region ?_
        refine aops_cons rfl (w_pure rfl (p_field_box fo_62_0 rfl) ?_)
        refine aops_cons rfl (w_pure rfl (p_load_box ag_24 rfl (by repeat (first | exact Pick.here _ _ _ | apply Pick.next)) (by rfl) noX) ?_)
        refine aops_cons rfl (w_pure rfl (p_move rfl) ?_)
        refine aops_cons rfl (w_pure rfl (p_index_own0 (findI h.list (ops.getD k zHallOp).id).toNat rfl rfl (by have := hid (by omega); omega) (by have := hid (by omega); omega) es_24) ?_)
        refine aops_cons rfl (w_pure rfl (p_field_e fo_46_3 rfl) ?_)
        refine aops_cons rfl (w_pure rfl (p_load_e ag_4 rfl (by repeat (first | exact Pick.here _ _ _ | apply Pick.next)) (rowD _ _ zVcpu (by omega)) (by rfl) noX) ?_)
        refine aops_cons rfl (w_pure rfl (p_not rfl) ?_)
        refine aops_cons rfl (w_pure rfl (p_assign rfl) ?_)
        refine aops_nil ?_
        first | refine a_cond_d rfl (fun h11 => ?_) (fun h12 => ?_) | refine a_cond_n rfl (fun h11 => ?_) (fun h12 => ?_) | refine a_cond_nb rfl (fun h11 => ?_) (fun h12 => ?_) | refine a_cond rfl (fun h11 => ?_) (fun h12 => ?_)
        · (try simp only [Bool.not_eq_true', Bool.not_eq_false', Bool.not_eq_true, Bool.not_eq_false, decide_eq_true_eq, decide_eq_false_iff_not, List.length_map, List.length_range] at h11)
          refine a_seq ?_
          refine a_seq ?_
          refine a_region ?_
          refine aops_cons rfl (w_pure rfl (p_field_box fo_62_1 rfl) ?_)
          refine aops_cons rfl (w_pure rfl (p_load_box ag_54 rfl (by repeat (first | exact Pick.here _ _ _ | apply Pick.next)) (by rfl) noX) ?_)
          refine aops_cons rfl (w_pure rfl (p_move rfl) ?_)
          refine aops_cons rfl (w_pure rfl (p_index_own0 (findI h.list (ops.getD k zHallOp).id).toNat rfl rfl (by have := hid (by omega); omega) (by have := hid (by omega); omega) es_54) ?_)
          refine aops_cons rfl (w_pure rfl (p_load_e ag_4 rfl (by repeat (first | exact Pick.here _ _ _ | apply Pick.next)) (rowD _ _ false (by omega)) (by rfl) noX) ?_)
          refine aops_cons rfl (w_pure rfl (p_move rfl) ?_)
          first | refine aops_split_d 84 rfl (fun h13 => ?_) (fun h14 => ?_) | refine aops_split 84 rfl (fun h13 => ?_) (fun h14 => ?_)
          · (try simp only [Bool.not_eq_true', Bool.not_eq_false', Bool.not_eq_true, Bool.not_eq_false, decide_eq_true_eq, decide_eq_false_iff_not, List.length_map, List.length_range] at h13)
            refine aops_guard_t rfl rfl rfl (w_pure rfl (p_field_box fo_84_1 rfl) ?_)
            refine aops_guard_t rfl rfl rfl (w_pure rfl (p_load_box ag_3 rfl (by repeat (first | exact Pick.here _ _ _ | apply Pick.next)) (by rfl) noX) ?_)
            refine aops_guard_t rfl rfl rfl (w_pure rfl (p_move rfl) ?_)
            refine aops_guard_t rfl rfl rfl (w_pure rfl (p_eql rfl rfl) ?_)
            refine aops_cons rfl (w_pure rfl (p_pick_t rfl rfl) ?_)
            refine aops_nil ?_
            first | refine a_cond_d rfl (fun h15 => ?_) (fun h16 => ?_) | refine a_cond_n rfl (fun h15 => ?_) (fun h16 => ?_) | refine a_cond_nb rfl (fun h15 => ?_) (fun h16 => ?_) | refine a_cond rfl (fun h15 => ?_) (fun h16 => ?_)
            · (try simp only [Bool.not_eq_true', Bool.not_eq_false', Bool.not_eq_true, Bool.not_eq_false, decide_eq_true_eq, decide_eq_false_iff_not, List.length_map, List.length_range] at h15)
              refine a_region ?_
              refine aops_cons rfl (w_pure rfl (p_move rfl) ?_)
              refine aops_cons rfl (w_pure rfl (p_add' rfl rfl ⟨by omega, by omega⟩) ?_)
              refine aops_cons rfl (w_pure rfl (p_assign rfl) ?_)
              refine aops_nil ?_
              refine a_region ?_
              refine aops_cons rfl (w_pure rfl (p_load_box_all ag_62 rfl (by repeat (first | exact Pick.here _ _ _ | apply Pick.next)) (by rfl) noX) ?_)
              refine aops_cons rfl (w_pure rfl (p_move rfl) ?_)
              refine aops_cons rfl (w_callL rfl rfl rfl cl_121 (.cons (.agg (.cons (.own (by repeat (first | exact List.Mem.head _ | apply List.Mem.tail)) (by first | (simp; done) | (simp; assumption) | (simp; omega) | (simp [mkL]; done))) (.cons (.own (by repeat (first | exact List.Mem.head _ | apply List.Mem.tail)) (by first | (simp; done) | (simp; assumption) | (simp; omega) | (simp [mkL]; done))) .nil))) (.cons (.refl _) .nil)) (co_spec_l15Wait (⟨l, e⟩ : Hall) (small_of hR.hall ⟨rfl, rfl⟩) (findI h.list (ops.getD k zHallOp).id) (by have := hid (by omega); omega) (by have := hid (by omega); show _ < (l.length : Int); omega) hsm.2.2.2) ?_)
              rintro _ _ ⟨b17, b18, rfl, rfl⟩
              refine ⟨(closed_agg (all_cons' (closed_own _ _ _ _) (all_cons' (closed_own _ _ _ _) all_nil'))), (closedS_cons (closedAll _ _ _ _ cl_eVcpu) (closedS_cons (closedAll _ _ _ _ cl_eBool) closedS_nil)), ?_⟩
              refine aops_cons rfl (w_store (cells' := [_, _]) rfl rfl rfl (by repeat (first | exact Pick.here _ _ _ | apply Pick.next)) cn_62 (by rfl) (by rfl) (by rfl) trivial ?_)
              refine aops_nil ?_
              refine a_region ?_
              refine aops_cons rfl (w_pure rfl (p_move rfl) ?_)
              refine aops_cons rfl (w_pure rfl (p_add' rfl rfl ⟨by omega, by omega⟩) ?_)
              refine aops_cons rfl (w_pure rfl (p_assign rfl) ?_)
              refine aops_nil ?_
              refine ⟨(k + 1, _, _, _, _, _, _, _, _), _, ?_, ?_, (by repeat (first | exact Knows.nil | refine Knows.cons (by rfl) ?_)), (by repeat (first | exact Back.refl _ _ | refine Back.cons (by rfl) ?_)), (by repeat (first | exact Picks.nil _ | exact Pick.here _ _ _ | apply Pick.next | apply Picks.cons))⟩
              · first | exact hR.next g (by omega) (st_tick (by assumption)) | exact hR.next g (by omega) (st_tickH (by assumption)) | exact hR.next g (by omega) (st_sig1 (by assumption) (by assumption) (by assumption) (by assumption)) | exact hR.next g (by omega) (st_sig2 (by assumption) (by assumption) (by assumption) (by assumption)) | exact hR.next g (by omega) (st_sig3 (by assumption) (by assumption) (by assumption)) | exact hR.next g (by omega) (st_wait1 (by assumption) (by assumption) (by assumption) (by assumption) (by assumption)) | exact hR.next g (by omega) (st_wait2 (by assumption) (by assumption) (by assumption) (by assumption) (by assumption)) | exact hR.next g (by omega) (st_wait3 (by assumption) (by assumption) (by assumption) (by assumption)) | exact hR.next g (by omega) (st_none (by assumption) (by assumption) (by assumption))
              · (try dsimp only); omega
            · (try simp only [Bool.not_eq_true', Bool.not_eq_false', Bool.not_eq_true, Bool.not_eq_false, decide_eq_true_eq, decide_eq_false_iff_not, List.length_map, List.length_range] at h16)
              refine a_skip ?_
              refine a_region ?_
              refine aops_cons rfl (w_pure rfl (p_load_box_all ag_62 rfl (by repeat (first | exact Pick.here _ _ _ | apply Pick.next)) (by rfl) noX) ?_)
              refine aops_cons rfl (w_pure rfl (p_move rfl) ?_)
              refine aops_cons rfl (w_callL rfl rfl rfl cl_121 (.cons (.agg (.cons (.own (by repeat (first | exact List.Mem.head _ | apply List.Mem.tail)) (by first | (simp; done) | (simp; assumption) | (simp; omega) | (simp [mkL]; done))) (.cons (.own (by repeat (first | exact List.Mem.head _ | apply List.Mem.tail)) (by first | (simp; done) | (simp; assumption) | (simp; omega) | (simp [mkL]; done))) .nil))) (.cons (.refl _) .nil)) (co_spec_l15Wait (⟨l, e⟩ : Hall) (small_of hR.hall ⟨rfl, rfl⟩) (findI h.list (ops.getD k zHallOp).id) (by have := hid (by omega); omega) (by have := hid (by omega); show _ < (l.length : Int); omega) hsm.2.2.2) ?_)
              rintro _ _ ⟨b19, b20, rfl, rfl⟩
              refine ⟨(closed_agg (all_cons' (closed_own _ _ _ _) (all_cons' (closed_own _ _ _ _) all_nil'))), (closedS_cons (closedAll _ _ _ _ cl_eVcpu) (closedS_cons (closedAll _ _ _ _ cl_eBool) closedS_nil)), ?_⟩
              refine aops_cons rfl (w_store (cells' := [_, _]) rfl rfl rfl (by repeat (first | exact Pick.here _ _ _ | apply Pick.next)) cn_62 (by rfl) (by rfl) (by rfl) trivial ?_)
              refine aops_nil ?_
              refine a_region ?_
              refine aops_cons rfl (w_pure rfl (p_move rfl) ?_)
              refine aops_cons rfl (w_pure rfl (p_add' rfl rfl ⟨by omega, by omega⟩) ?_)
              refine aops_cons rfl (w_pure rfl (p_assign rfl) ?_)
              refine aops_nil ?_
              refine ⟨(k + 1, _, _, _, _, _, _, _, _), _, ?_, ?_, (by repeat (first | exact Knows.nil | refine Knows.cons (by rfl) ?_)), (by repeat (first | exact Back.refl _ _ | refine Back.cons (by rfl) ?_)), (by repeat (first | exact Picks.nil _ | exact Pick.here _ _ _ | apply Pick.next | apply Picks.cons))⟩
              · first | exact hR.next g (by omega) (st_tick (by assumption)) | exact hR.next g (by omega) (st_tickH (by assumption)) | exact hR.next g (by omega) (st_sig1 (by assumption) (by assumption) (by assumption) (by assumption)) | exact hR.next g (by omega) (st_sig2 (by assumption) (by assumption) (by assumption) (by assumption)) | exact hR.next g (by omega) (st_sig3 (by assumption) (by assumption) (by assumption)) | exact hR.next g (by omega) (st_wait1 (by assumption) (by assumption) (by assumption) (by assumption) (by assumption)) | exact hR.next g (by omega) (st_wait2 (by assumption) (by assumption) (by assumption) (by assumption) (by assumption)) | exact hR.next g (by omega) (st_wait3 (by assumption) (by assumption) (by assumption) (by assumption)) | exact hR.next g (by omega) (st_none (by assumption) (by assumption) (by assumption))
              · (try dsimp only); omega
          · (try simp only [Bool.not_eq_true', Bool.not_eq_false', Bool.not_eq_true, Bool.not_eq_false, decide_eq_true_eq, decide_eq_false_iff_not, List.length_map, List.length_range] at h14)
            refine g_pass' rfl rfl rfl rfl rfl ?_
            refine g_pass' rfl rfl rfl rfl rfl ?_
            refine g_pass' rfl rfl rfl rfl rfl ?_
            refine g_pass' rfl rfl rfl rfl rfl ?_
            refine aops_cons rfl (w_pure rfl (p_pick_f rfl rfl) ?_)
            refine aops_nil ?_
            refine a_cond_f rfl ?_
            refine a_skip ?_
            refine a_region ?_
            refine aops_cons rfl (w_pure rfl (p_load_box_all ag_62 rfl (by repeat (first | exact Pick.here _ _ _ | apply Pick.next)) (by rfl) noX) ?_)
            refine aops_cons rfl (w_pure rfl (p_move rfl) ?_)
            refine aops_cons rfl (w_callL rfl rfl rfl cl_121 (.cons (.agg (.cons (.own (by repeat (first | exact List.Mem.head _ | apply List.Mem.tail)) (by first | (simp; done) | (simp; assumption) | (simp; omega) | (simp [mkL]; done))) (.cons (.own (by repeat (first | exact List.Mem.head _ | apply List.Mem.tail)) (by first | (simp; done) | (simp; assumption) | (simp; omega) | (simp [mkL]; done))) .nil))) (.cons (.refl _) .nil)) (co_spec_l15Wait (⟨l, e⟩ : Hall) (small_of hR.hall ⟨rfl, rfl⟩) (findI h.list (ops.getD k zHallOp).id) (by have := hid (by omega); omega) (by have := hid (by omega); show _ < (l.length : Int); omega) hsm.2.2.2) ?_)
            rintro _ _ ⟨b21, b22, rfl, rfl⟩
            refine ⟨(closed_agg (all_cons' (closed_own _ _ _ _) (all_cons' (closed_own _ _ _ _) all_nil'))), (closedS_cons (closedAll _ _ _ _ cl_eVcpu) (closedS_cons (closedAll _ _ _ _ cl_eBool) closedS_nil)), ?_⟩
            refine aops_cons rfl (w_store (cells' := [_, _]) rfl rfl rfl (by repeat (first | exact Pick.here _ _ _ | apply Pick.next)) cn_62 (by rfl) (by rfl) (by rfl) trivial ?_)
            refine aops_nil ?_
            refine a_region ?_
            refine aops_cons rfl (w_pure rfl (p_move rfl) ?_)
            refine aops_cons rfl (w_pure rfl (p_add' rfl rfl ⟨by omega, by omega⟩) ?_)
            refine aops_cons rfl (w_pure rfl (p_assign rfl) ?_)
            refine aops_nil ?_
            refine ⟨(k + 1, _, _, _, _, _, _, _, _), _, ?_, ?_, (by repeat (first | exact Knows.nil | refine Knows.cons (by rfl) ?_)), (by repeat (first | exact Back.refl _ _ | refine Back.cons (by rfl) ?_)), (by repeat (first | exact Picks.nil _ | exact Pick.here _ _ _ | apply Pick.next | apply Picks.cons))⟩
            · first | exact hR.next g (by omega) (st_tick (by assumption)) | exact hR.next g (by omega) (st_tickH (by assumption)) | exact hR.next g (by omega) (st_sig1 (by assumption) (by assumption) (by assumption) (by assumption)) | exact hR.next g (by omega) (st_sig2 (by assumption) (by assumption) (by assumption) (by assumption)) | exact hR.next g (by omega) (st_sig3 (by assumption) (by assumption) (by assumption)) | exact hR.next g (by omega) (st_wait1 (by assumption) (by assumption) (by assumption) (by assumption) (by assumption)) | exact hR.next g (by omega) (st_wait2 (by assumption) (by assumption) (by assumption) (by assumption) (by assumption)) | exact hR.next g (by omega) (st_wait3 (by assumption) (by assumption) (by assumption) (by assumption)) | exact hR.next g (by omega) (st_none (by assumption) (by assumption) (by assumption))
            · (try dsimp only); omega
        · (try simp only [Bool.not_eq_true', Bool.not_eq_false', Bool.not_eq_true, Bool.not_eq_false, decide_eq_true_eq, decide_eq_false_iff_not, List.length_map, List.length_range] at h12)
          refine a_skip ?_
          refine a_region ?_
          refine aops_cons rfl (w_pure rfl (p_move rfl) ?_)
          refine aops_cons rfl (w_pure rfl (p_add' rfl rfl ⟨by omega, by omega⟩) ?_)
          refine aops_cons rfl (w_pure rfl (p_assign rfl) ?_)
          refine aops_nil ?_
          refine ⟨(k + 1, _, _, _, _, _, _, _, _), _, ?_, ?_, (by repeat (first | exact Knows.nil | refine Knows.cons (by rfl) ?_)), (by repeat (first | exact Back.refl _ _ | refine Back.cons (by rfl) ?_)), (by repeat (first | exact Picks.nil _ | exact Pick.here _ _ _ | apply Pick.next | apply Picks.cons))⟩
          · first | exact hR.next g (by omega) (st_tick (by assumption)) | exact hR.next g (by omega) (st_tickH (by assumption)) | exact hR.next g (by omega) (st_sig1 (by assumption) (by assumption) (by assumption) (by assumption)) | exact hR.next g (by omega) (st_sig2 (by assumption) (by assumption) (by assumption) (by assumption)) | exact hR.next g (by omega) (st_sig3 (by assumption) (by assumption) (by assumption)) | exact hR.next g (by omega) (st_wait1 (by assumption) (by assumption) (by assumption) (by assumption) (by assumption)) | exact hR.next g (by omega) (st_wait2 (by assumption) (by assumption) (by assumption) (by assumption) (by assumption)) | exact hR.next g (by omega) (st_wait3 (by assumption) (by assumption) (by assumption) (by assumption)) | exact hR.next g (by omega) (st_none (by assumption) (by assumption) (by assumption))
          · (try dsimp only); omega
  · (try simp only [Bool.not_eq_true', Bool.not_eq_false', Bool.not_eq_true, Bool.not_eq_false, decide_eq_true_eq, decide_eq_false_iff_not, List.length_map, List.length_range] at h2)
    refine a_exit ?_
    refine a_seq ?_
    refine a_region ?_
    refine aops_cons rfl (w_pure rfl (p_load_box_all ag_62 rfl (by repeat (first | exact Pick.here _ _ _ | apply Pick.next)) (by rfl) noX) ?_)
    refine aops_cons rfl (w_pure rfl (p_move rfl) ?_)
    refine aops_cons rfl (w_pure rfl (p_move rfl) ?_)
    refine aops_cons rfl (w_pure rfl (p_move rfl) ?_)
    refine aops_cons rfl (w_store (cells' := [_, _]) rfl rfl rfl (by repeat (first | exact Pick.here _ _ _ | apply Pick.next)) cn_62 (by rfl) (by rfl) (by rfl) trivial ?_)
    refine aops_cons rfl (w_pure rfl (p_assign rfl) ?_)
    refine aops_cons rfl (w_pure rfl (p_assign rfl) ?_)
    refine aops_cons rfl (w_pure rfl (p_assign rfl) ?_)
    refine aops_nil ?_
    refine a_ret ?_
    refine ret_ok (hands4 rfl (.cell ag_62 rfl (by repeat (first | exact Pick.here _ _ _ | apply Pick.next)) (by rfl)) (.tmp rfl) (.tmp rfl) (.tmp rfl)) (st' := [(b1, _), (b2, _), (c, _)]) (.cons (by repeat (first | exact Pick.here _ _ _ | apply Pick.next)) (.cons (by repeat (first | exact Pick.here _ _ _ | apply Pick.next)) (.cons (by repeat (first | exact Pick.here _ _ _ | apply Pick.next)) (.nil _)))) ?_
    exact ⟨_, _, _, by rw [hR.fin (by omega)], by rw [hR.fin (by omega)]⟩

theorem c_spec_l15Run (h : Hall) (hn : SmallHall h) (ops : List HallOp) (hm : ops.length ≤ 1048576) (id : Int) (g : GoodOps h ops) : ACalls Try.prog 105 [.agg (eHall h), .sl (ops.map eHallOp), .int .i64 id] [] (Ret (.tup [.agg (eHall (fin h ops id).hall), .sl ((fin h ops id).ticks.map eInt), .int .i64 (fin h ops id).woken, .int .i64 (fin h ops id).takes])) :=
  (co_spec_l15Run h hn ops hm id g).freeze (by rintro _ _ ⟨_, _, _, rfl, rfl⟩; exact (.tup (.cons (.agg (.cons (.own (by repeat (first | exact List.Mem.head _ | apply List.Mem.tail)) (List.length_map _)) (.cons (.own (by repeat (first | exact List.Mem.head _ | apply List.Mem.tail)) (List.length_map _)) .nil))) (.cons (.own (by repeat (first | exact List.Mem.head _ | apply List.Mem.tail)) (List.length_map _)) (.cons (.refl _) (.cons (.refl _) .nil))))))

theorem cy_impl_runHall (h : Hall) (hn : SmallHall h) (ops : List HallOp) (hm : ops.length ≤ 1048576) (id : Int) (g : GoodOps h ops) : ACalls Try.prog 108 [.agg (eHall h), .sl (ops.map eHallOp), .int .i64 id] [] (fun r st => ∃ b1 b2 b3, r = .tup [.agg [.own 5 b1 0 (fin h ops id).hall.list.length, .own 1 b2 0 (fin h ops id).hall.events.length, .own 1 b3 0 (fin h ops id).ticks.length, .int .i64 (fin h ops id).woken, .int .i64 (fin h ops id).takes], .bool true] ∧ st = [(b1, .arr 46 5 ((fin h ops id).hall.list.map eVcpu)), (b2, .arr 4 1 ((fin h ops id).hall.events.map eBool)), (b3, .arr 3 1 ((fin h ops id).ticks.map eInt))]) := by
  have hnn := hn
  obtain ⟨hn1, hn2⟩ := hnn
  have hops := g.2.1
  refine a_enter Try.func108 rfl rfl (fun w0 M0 => ?_)
  refine a_seq ?_
  refine a_region ?_
  refine aops_cons rfl (w_box_v rfl rfl rfl ?_)
  refine aops_cons rfl (w_alloc rfl z_117 fun b1 => ?_)
  refine aops_cons rfl (w_pure rfl (p_assign rfl) ?_)
  refine aops_nil ?_
  refine a_seq ?_
  refine a_seq ?_
  refine a_region ?_
  refine aops_cons rfl (w_pure rfl (p_load_v_all ag_62 rfl (by rfl) noX) ?_)
  refine aops_cons rfl (w_callR rfl rfl rfl cl_81 (c_impl_IsHall _ ‹_›) ?_)
  refine aops_cons rfl (w_pure rfl (p_not rfl) ?_)
  refine aops_cons rfl (w_pure rfl (p_move rfl) ?_)
  first | refine aops_split_d 17 rfl (fun h1 => ?_) (fun h2 => ?_) | refine aops_split 17 rfl (fun h1 => ?_) (fun h2 => ?_)
  · (try simp only [Bool.not_eq_true', Bool.not_eq_false', Bool.not_eq_true, Bool.not_eq_false, decide_eq_true_eq, decide_eq_false_iff_not, List.length_map, List.length_range] at h1)
    refine g_pass' rfl rfl rfl rfl rfl ?_
    refine g_pass' rfl rfl rfl rfl rfl ?_
    refine g_pass' rfl rfl rfl rfl rfl ?_
    refine aops_cons rfl (w_pure rfl (p_pick_t rfl rfl) ?_)
    refine aops_cons rfl (w_pure rfl (p_move rfl) ?_)
    refine g_pass' rfl rfl rfl rfl rfl ?_
    refine g_pass' rfl rfl rfl rfl rfl ?_
    refine g_pass' rfl rfl rfl rfl rfl ?_
    refine aops_cons rfl (w_pure rfl (p_pick_t rfl rfl) ?_)
    refine aops_nil ?_
    refine a_cond_t rfl ?_
    refine a_seq ?_
    refine a_region ?_
    refine aops_cons rfl (w_pure rfl (p_build (cells := [_, _, _, _, _]) z_117 pl_117 rfl rfl) ?_)
    refine aops_cons rfl (w_store (cells' := [_, _, _, _, _]) rfl rfl rfl (by repeat (first | exact Pick.here _ _ _ | apply Pick.next)) cn_117 (by rfl) (by rfl) (by rfl) trivial ?_)
    refine aops_cons rfl (w_pure rfl (p_assign rfl) ?_)
    refine aops_nil ?_
    refine a_ret ?_
    refine ret_ok (hands2 rfl (.cell ag_117 rfl (by repeat (first | exact Pick.here _ _ _ | apply Pick.next)) (by rfl)) (.tmp rfl)) (.nil _) ?_
    first | (exfalso; first | exact absurd g.1 (by assumption) | (have q1 := g.2.1; have q2 := g.2.2; omega)) | exact ⟨_, _, _, by rw [hR.fin (by omega), hsm.1, hsm.2.1], by rw [hR.fin (by omega)]⟩
  · (try simp only [Bool.not_eq_true', Bool.not_eq_false', Bool.not_eq_true, Bool.not_eq_false, decide_eq_true_eq, decide_eq_false_iff_not, List.length_map, List.length_range] at h2)
    refine aops_guard_t rfl rfl rfl (w_pure rfl (p_move rfl) ?_)
    refine aops_guard_t rfl rfl rfl (w_pure rfl (p_len sl_64 rfl rfl) ?_)
    refine aops_guard_t rfl rfl rfl (w_pure rfl (p_gtr rfl rfl) ?_)
    refine aops_cons rfl (w_pure rfl (p_pick_f rfl rfl) ?_)
    refine aops_cons rfl (w_pure rfl (p_move rfl) ?_)
    first | refine aops_split_d 22 rfl (fun h3 => ?_) (fun h4 => ?_) | refine aops_split 22 rfl (fun h3 => ?_) (fun h4 => ?_)
    · (try simp only [Bool.not_eq_true', Bool.not_eq_false', Bool.not_eq_true, Bool.not_eq_false, decide_eq_true_eq, decide_eq_false_iff_not, List.length_map, List.length_range] at h3)
      refine g_pass' rfl rfl rfl rfl rfl ?_
      refine g_pass' rfl rfl rfl rfl rfl ?_
      refine g_pass' rfl rfl rfl rfl rfl ?_
      refine aops_cons rfl (w_pure rfl (p_pick_t rfl rfl) ?_)
      refine aops_nil ?_
      refine a_cond_t rfl ?_
      refine a_seq ?_
      refine a_region ?_
      refine aops_cons rfl (w_pure rfl (p_build (cells := [_, _, _, _, _]) z_117 pl_117 rfl rfl) ?_)
      refine aops_cons rfl (w_store (cells' := [_, _, _, _, _]) rfl rfl rfl (by repeat (first | exact Pick.here _ _ _ | apply Pick.next)) cn_117 (by rfl) (by rfl) (by rfl) trivial ?_)
      refine aops_cons rfl (w_pure rfl (p_assign rfl) ?_)
      refine aops_nil ?_
      refine a_ret ?_
      refine ret_ok (hands2 rfl (.cell ag_117 rfl (by repeat (first | exact Pick.here _ _ _ | apply Pick.next)) (by rfl)) (.tmp rfl)) (.nil _) ?_
      first | (exfalso; first | exact absurd g.1 (by assumption) | (have q1 := g.2.1; have q2 := g.2.2; omega)) | exact ⟨_, _, _, by rw [hR.fin (by omega), hsm.1, hsm.2.1], by rw [hR.fin (by omega)]⟩
    · (try simp only [Bool.not_eq_true', Bool.not_eq_false', Bool.not_eq_true, Bool.not_eq_false, decide_eq_true_eq, decide_eq_false_iff_not, List.length_map, List.length_range] at h4)
      refine aops_guard_t rfl rfl rfl (w_pure rfl (p_move rfl) ?_)
      refine aops_guard_t rfl rfl rfl (w_pure rfl (p_func rfl) ?_)
      refine aops_guard_t rfl rfl rfl (w_callR rfl rfl rfl cl_138 (c_slices_ContainsFunc_impl_HallOp_impl_HallOp h (by assumption) _ (by omega)) ?_)
      refine aops_cons rfl (w_pure rfl (p_pick_f rfl rfl) ?_)
      refine aops_nil ?_
      first | refine a_cond_d rfl (fun h5 => ?_) (fun h6 => ?_) | refine a_cond_n rfl (fun h5 => ?_) (fun h6 => ?_) | refine a_cond_nb rfl (fun h5 => ?_) (fun h6 => ?_) | refine a_cond rfl (fun h5 => ?_) (fun h6 => ?_)
      · (try simp only [Bool.not_eq_true', Bool.not_eq_false', Bool.not_eq_true, Bool.not_eq_false, decide_eq_true_eq, decide_eq_false_iff_not, List.length_map, List.length_range] at h5)
        refine a_seq ?_
        refine a_region ?_
        refine aops_cons rfl (w_pure rfl (p_build (cells := [_, _, _, _, _]) z_117 pl_117 rfl rfl) ?_)
        refine aops_cons rfl (w_store (cells' := [_, _, _, _, _]) rfl rfl rfl (by repeat (first | exact Pick.here _ _ _ | apply Pick.next)) cn_117 (by rfl) (by rfl) (by rfl) trivial ?_)
        refine aops_cons rfl (w_pure rfl (p_assign rfl) ?_)
        refine aops_nil ?_
        refine a_ret ?_
        refine ret_ok (hands2 rfl (.cell ag_117 rfl (by repeat (first | exact Pick.here _ _ _ | apply Pick.next)) (by rfl)) (.tmp rfl)) (.nil _) ?_
        first | (exfalso; first | exact absurd g.1 (by assumption) | (have q1 := g.2.1; have q2 := g.2.2; omega)) | exact ⟨_, _, _, by rw [hR.fin (by omega), hsm.1, hsm.2.1], by rw [hR.fin (by omega)]⟩
      · (try simp only [Bool.not_eq_true', Bool.not_eq_false', Bool.not_eq_true, Bool.not_eq_false, decide_eq_true_eq, decide_eq_false_iff_not, List.length_map, List.length_range] at h6)
        refine a_skip ?_
        refine a_seq ?_
        refine a_region ?_
        refine aops_cons rfl (w_pure rfl (p_load_v_all ag_62 rfl (by rfl) noX) ?_)
        refine aops_cons rfl (w_call rfl rfl rfl cl_119 (co_impl_newHall h (by assumption)) ?_)
        rintro _ _ ⟨b2, b3, rfl, rfl⟩
        refine aops_cons rfl (w_litM eInt [] rfl el_34 rfl rfl rfl rfl rfl fun b4 => ?_)
        refine aops_cons rfl (w_pure rfl (p_build (cells := [_, _, _, _, _]) z_117 pl_117 rfl rfl) ?_)
        refine aops_cons rfl (w_alloc rfl z_117 fun b5 => ?_)
        refine aops_cons rfl (w_store (cells' := [_, _, _, _, _]) rfl rfl rfl (by repeat (first | exact Pick.here _ _ _ | apply Pick.next)) cn_117 (by rfl) (by rfl) (by rfl) trivial ?_)
        refine aops_nil ?_
        refine a_seq ?_
        refine a_seq ?_
        refine a_region ?_
        refine aops_cons rfl (w_pure rfl (p_move rfl) ?_)
        refine aops_cons rfl (w_pure rfl (p_len sl_64 rfl rfl) ?_)
        refine aops_cons rfl (w_pure rfl (p_move rfl) ?_)
        refine aops_nil ?_
        refine a_block ?_
        refine a_loop (ι := Nat × Nat × Nat × Nat × List Vcpu × List Bool × List Int × Int × Int) (fun ⟨k, b1, b2, c, l, e, tk, w, t⟩ => RInv h ops id k l e tk w t) (fun ⟨k, b1, b2, c, l, e, tk, w, t⟩ => [(34, .int .i64 (k : Int))]) (fun ⟨k, b1, b2, c, l, e, tk, w, t⟩ => [(b5, .box [.own 5 b1 0 h.list.length, .own 1 b2 0 h.events.length, .own 1 c 0 tk.length, .int .i64 w, .int .i64 t]), (b1, .arr 46 5 (l.map eVcpu)), (b2, .arr 4 1 (e.map eBool)), (c, .arr 3 1 (tk.map eInt))]) (fun ⟨k, b1, b2, c, l, e, tk, w, t⟩ => ops.length - k) (0, b2, b3, b4, h.list, h.events, [], 0, 0) (.zero g) (by repeat (first | exact Knows.nil | refine Knows.cons (by rfl) ?_)) (by repeat (first | exact Picks.nil _ | exact Pick.here _ _ _ | apply Pick.next | apply Picks.cons)) ?_
        rintro ⟨k, b1, b2, c, l, e, tk, w, t⟩ hR
        replace hR : RInv h ops id k l e tk w t := hR; have hsm := hR.small; have hwb := hR.wb; have htb := hR.tb; have htl := hR.tl; have hfx := fun x => hR.find x; have hid : k < ops.length → _ := fun hk => hR.idx g hk
        refine a_seq ?_
        refine a_region ?_
        refine aops_cons rfl (w_pure rfl (p_lss rfl rfl) ?_)
        refine aops_nil ?_
        refine a_seq ?_
        first | refine a_cond_d rfl (fun h7 => ?_) (fun h8 => ?_) | refine a_cond_n rfl (fun h7 => ?_) (fun h8 => ?_) | refine a_cond_nb rfl (fun h7 => ?_) (fun h8 => ?_) | refine a_cond rfl (fun h7 => ?_) (fun h8 => ?_)
        · (try simp only [Bool.not_eq_true', Bool.not_eq_false', Bool.not_eq_true, Bool.not_eq_false, decide_eq_true_eq, decide_eq_false_iff_not, List.length_map, List.length_range] at h7)
          refine a_skip ?_
          refine a_seq ?_
          refine a_block ?_
          refine a_seq ?_
          refine a_region ?_
          refine aops_cons rfl (w_pure rfl (p_index_sl _ rfl rfl rfl (rowD _ _ zHallOp (by omega)) es_64) ?_)
          refine aops_cons rfl (w_pure rfl (p_load_v_all ag_84 rfl (by rfl) noX) ?_)
          refine aops_cons rfl (w_alloc rfl z_84 fun b6 => ?_)
          refine aops_cons rfl (w_store (cells' := [_, _]) rfl rfl rfl (by repeat (first | exact Pick.here _ _ _ | apply Pick.next)) cn_84 (by rfl) (by rfl) (by rfl) trivial ?_)
          refine aops_nil ?_
          refine a_seq ?_
          refine a_region ?_
          refine aops_cons rfl (w_pure rfl (p_field_v fo_62_0 rfl) ?_)
          refine aops_cons rfl (w_pure rfl (p_load_v ag_24 rfl (by rfl) noX) ?_)
          refine aops_cons rfl (w_pure rfl (p_field_box fo_84_1 rfl) ?_)
          refine aops_cons rfl (w_pure rfl (p_load_box ag_3 rfl (by repeat (first | exact Pick.here _ _ _ | apply Pick.next)) (by rfl) noX) ?_)
          refine aops_cons rfl (w_callR rfl rfl rfl cl_109 (c_impl_vcpuIndex _ (by omega) _) ?_)
          refine aops_cons rfl (w_pure rfl (p_assign rfl) ?_)
          refine aops_nil ?_
          refine a_block ?_
          refine a_seq ?_
          refine a_region ?_
          refine aops_cons rfl (w_pure rfl (p_field_box fo_84_0 rfl) ?_)
          refine aops_cons rfl (w_pure rfl (p_load_box ag_3 rfl (by repeat (first | exact Pick.here _ _ _ | apply Pick.next)) (by rfl) noX) ?_)
          refine aops_cons rfl (w_pure rfl (p_eql rfl rfl) ?_)
          refine aops_cons rfl (w_pure rfl (p_assign rfl) ?_)
          refine aops_nil ?_
          first | refine a_cond_d rfl (fun h9 => ?_) (fun h10 => ?_) | refine a_cond_n rfl (fun h9 => ?_) (fun h10 => ?_) | refine a_cond_nb rfl (fun h9 => ?_) (fun h10 => ?_) | refine a_cond rfl (fun h9 => ?_) (fun h10 => ?_)
          · (try simp only [Bool.not_eq_true', Bool.not_eq_false', Bool.not_eq_true, Bool.not_eq_false, decide_eq_true_eq, decide_eq_false_iff_not, List.length_map, List.length_range] at h9)
            refine a_seq ?_
            refine a_region ?_
            refine aops_cons rfl (w_pure rfl (p_field_box fo_117_0 rfl) ?_)
            refine aops_cons rfl (w_pure rfl (p_field_box fo_62_0 rfl) ?_)
            refine aops_cons rfl (w_pure rfl (p_load_box ag_24 rfl (by repeat (first | exact Pick.here _ _ _ | apply Pick.next)) (by rfl) noX) ?_)
            refine aops_cons rfl (w_callL rfl rfl rfl cl_91 (.cons (.own (by repeat (first | exact List.Mem.head _ | apply List.Mem.tail)) (by first | (simp; done) | (simp; assumption) | (simp; omega) | (simp [mkL]; done))) .nil) (cb_impl_tickVcpus l (by omega) hR.hall.1.1) ?_)
            rintro _ _ ⟨b7, rfl, rfl⟩
            refine ⟨(closed_tup (all_cons' (closed_own _ _ _ _) (all_cons' (closed_int _ _) all_nil'))), (closedS_cons (closedAll _ _ _ _ cl_eVcpu) closedS_nil), ?_⟩
            rw [tickB_len, hsm.1]
            refine aops_cons rfl (w_pure rfl (p_move rfl) ?_)
            refine aops_cons rfl (w_pure rfl (p_extract rfl rfl) ?_)
            refine aops_cons rfl (w_pure rfl (p_extract rfl rfl) ?_)
            refine aops_cons rfl (w_pure rfl (p_assign rfl) ?_)
            refine aops_cons rfl (w_pure rfl (p_assign rfl) ?_)
            refine aops_nil ?_
            refine a_seq ?_
            refine a_region ?_
            refine aops_cons rfl (w_pure rfl (p_move rfl) ?_)
            refine aops_cons rfl (w_pure rfl (p_field_box fo_117_0 rfl) ?_)
            refine aops_cons rfl (w_pure rfl (p_field_box fo_62_0 rfl) ?_)
            refine aops_cons rfl (w_store (cells' := [_, _, _, _, _]) rfl rfl rfl (by repeat (first | exact Pick.here _ _ _ | apply Pick.next)) cn_24 (by rfl) (by rfl) (by rfl) trivial ?_)
            refine aops_nil ?_
            refine a_region ?_
            refine aops_cons rfl (w_pure rfl (p_field_box fo_117_1 rfl) ?_)
            refine aops_cons rfl (w_pure rfl (p_load_box ag_34 rfl (by repeat (first | exact Pick.here _ _ _ | apply Pick.next)) (by rfl) noX) ?_)
            refine aops_cons rfl (w_pure rfl (p_move rfl) ?_)
            refine aops_cons rfl (w_lit_vM eInt [(tickB l).2] rfl el_34 rfl rfl rfl rfl rfl ?_)
            refine aops_cons rfl (w_appendM eInt rfl el_34 rfl rfl (by repeat (first | exact Pick.here _ _ _ | apply Pick.next)) rfl (.sl _) (fun _ => rfl) (fun _ => rfl) (by simp; omega) (by simp; omega) trivial fun b8 => ?_)
            refine aops_cons rfl (w_pure rfl (p_field_box fo_117_1 rfl) ?_)
            refine aops_cons rfl (w_store (cells' := [_, _, _, _, _]) rfl rfl rfl (by repeat (first | exact Pick.here _ _ _ | apply Pick.next)) cn_34 (by rfl) (by rfl) (by rfl) trivial ?_)
            refine aops_nil ?_
            refine a_region ?_
            refine aops_cons rfl (w_pure rfl (p_add' rfl rfl ⟨by omega, by omega⟩) ?_)
            refine aops_cons rfl (w_pure rfl (p_move rfl) ?_)
            refine aops_nil ?_
            refine ⟨(k + 1, _, _, _, _, _, _, _, _), _, ?_, ?_, (by repeat (first | exact Knows.nil | refine Knows.cons (by rfl) ?_)), (by repeat (first | exact Back.refl _ _ | refine Back.cons (by rfl) ?_)), (by repeat (first | exact Picks.nil _ | exact Pick.here _ _ _ | apply Pick.next | apply Picks.cons))⟩
            · first | exact hR.next g (by omega) (st_tick (by assumption)) | exact hR.next g (by omega) (st_tickH (by assumption)) | exact hR.next g (by omega) (st_sig1 (by assumption) (by assumption) (by assumption) (by assumption)) | exact hR.next g (by omega) (st_sig2 (by assumption) (by assumption) (by assumption) (by assumption)) | exact hR.next g (by omega) (st_sig3 (by assumption) (by assumption) (by assumption)) | exact hR.next g (by omega) (st_wait1 (by assumption) (by assumption) (by assumption) (by assumption) (by assumption)) | exact hR.next g (by omega) (st_wait2 (by assumption) (by assumption) (by assumption) (by assumption) (by assumption)) | exact hR.next g (by omega) (st_wait3 (by assumption) (by assumption) (by assumption) (by assumption)) | exact hR.next g (by omega) (st_none (by assumption) (by assumption) (by assumption))
            · (try dsimp only); omega
          · (try simp only [Bool.not_eq_true', Bool.not_eq_false', Bool.not_eq_true, Bool.not_eq_false, decide_eq_true_eq, decide_eq_false_iff_not, List.length_map, List.length_range] at h10)
            refine a_seq ?_
            refine a_region ?_
            refine aops_cons rfl (w_pure rfl (p_field_box fo_84_0 rfl) ?_)
            refine aops_cons rfl (w_pure rfl (p_load_box ag_3 rfl (by repeat (first | exact Pick.here _ _ _ | apply Pick.next)) (by rfl) noX) ?_)
            refine aops_cons rfl (w_pure rfl (p_eql rfl rfl) ?_)
            refine aops_cons rfl (w_pure rfl (p_assign rfl) ?_)
            refine aops_nil ?_
            first | refine a_cond_d rfl (fun h11 => ?_) (fun h12 => ?_) | refine a_cond_n rfl (fun h11 => ?_) (fun h12 => ?_) | refine a_cond_nb rfl (fun h11 => ?_) (fun h12 => ?_) | refine a_cond rfl (fun h11 => ?_) (fun h12 => ?_)
            · (try simp only [Bool.not_eq_true', Bool.not_eq_false', Bool.not_eq_true, Bool.not_eq_false, decide_eq_true_eq, decide_eq_false_iff_not, List.length_map, List.length_range] at h11)
              refine a_seq ?_
              refine a_region ?_
              refine aops_cons rfl (w_pure rfl (p_field_box fo_117_0 rfl) ?_)
              refine aops_cons rfl (w_pure rfl (p_move rfl) ?_)
              refine aops_cons rfl (w_callM0 rfl rfl rfl cl_120 (.cons (by repeat (first | exact Pick.here _ _ _ | apply Pick.next)) (.cons (by repeat (first | exact Pick.here _ _ _ | apply Pick.next)) (.cons (by repeat (first | exact Pick.here _ _ _ | apply Pick.next)) (.nil _)))) (c3_impl_signal _ _ _ _ _ _ (⟨l, e⟩ : Hall) (small_of hR.hall ⟨rfl, rfl⟩) hsm.1 hsm.2.1 (findI h.list (ops.getD k zHallOp).id) (by have := hid (by omega); omega) (by have := hid (by omega); show _ < (l.length : Int); omega) hsm.2.2.2) trivial ?_)
              rintro _ _ ⟨rfl, rfl⟩
              refine aops_cons rfl (w_pure rfl (p_move rfl) ?_)
              first | refine aops_split_d 70 rfl (fun h13 => ?_) (fun h14 => ?_) | refine aops_split 70 rfl (fun h13 => ?_) (fun h14 => ?_)
              · (try simp only [Bool.not_eq_true', Bool.not_eq_false', Bool.not_eq_true, Bool.not_eq_false, decide_eq_true_eq, decide_eq_false_iff_not, List.length_map, List.length_range] at h13)
                refine aops_guard_t rfl rfl rfl (w_pure rfl (p_field_box fo_84_1 rfl) ?_)
                refine aops_guard_t rfl rfl rfl (w_pure rfl (p_load_box ag_3 rfl (by repeat (first | exact Pick.here _ _ _ | apply Pick.next)) (by rfl) noX) ?_)
                refine aops_guard_t rfl rfl rfl (w_pure rfl (p_move rfl) ?_)
                refine aops_guard_t rfl rfl rfl (w_pure rfl (p_eql rfl rfl) ?_)
                refine aops_cons rfl (w_pure rfl (p_pick_t rfl rfl) ?_)
                refine aops_nil ?_
                first | refine a_cond_d rfl (fun h15 => ?_) (fun h16 => ?_) | refine a_cond_n rfl (fun h15 => ?_) (fun h16 => ?_) | refine a_cond_nb rfl (fun h15 => ?_) (fun h16 => ?_) | refine a_cond rfl (fun h15 => ?_) (fun h16 => ?_)
                · (try simp only [Bool.not_eq_true', Bool.not_eq_false', Bool.not_eq_true, Bool.not_eq_false, decide_eq_true_eq, decide_eq_false_iff_not, List.length_map, List.length_range] at h15)
                  refine a_region ?_
                  refine aops_cons rfl (w_pure rfl (p_field_box fo_117_2 rfl) ?_)
                  refine aops_cons rfl (w_pure rfl (p_load_box ag_3 rfl (by repeat (first | exact Pick.here _ _ _ | apply Pick.next)) (by rfl) noX) ?_)
                  refine aops_cons rfl (w_pure rfl (p_add' rfl rfl ⟨by omega, by omega⟩) ?_)
                  refine aops_cons rfl (w_pure rfl (p_field_box fo_117_2 rfl) ?_)
                  refine aops_cons rfl (w_store (cells' := [_, _, _, _, _]) rfl rfl rfl (by repeat (first | exact Pick.here _ _ _ | apply Pick.next)) cn_3 (by rfl) (by rfl) (by rfl) trivial ?_)
                  refine aops_nil ?_
                  refine a_region ?_
                  refine aops_cons rfl (w_pure rfl (p_add' rfl rfl ⟨by omega, by omega⟩) ?_)
                  refine aops_cons rfl (w_pure rfl (p_move rfl) ?_)
                  refine aops_nil ?_
                  refine ⟨(k + 1, _, _, _, _, _, _, _, _), _, ?_, ?_, (by repeat (first | exact Knows.nil | refine Knows.cons (by rfl) ?_)), (by repeat (first | exact Back.refl _ _ | refine Back.cons (by rfl) ?_)), (by repeat (first | exact Picks.nil _ | exact Pick.here _ _ _ | apply Pick.next | apply Picks.cons))⟩
                  · first | exact hR.next g (by omega) (st_tick (by assumption)) | exact hR.next g (by omega) (st_tickH (by assumption)) | exact hR.next g (by omega) (st_sig1 (by assumption) (by assumption) (by assumption) (by assumption)) | exact hR.next g (by omega) (st_sig2 (by assumption) (by assumption) (by assumption) (by assumption)) | exact hR.next g (by omega) (st_sig3 (by assumption) (by assumption) (by assumption)) | exact hR.next g (by omega) (st_wait1 (by assumption) (by assumption) (by assumption) (by assumption) (by assumption)) | exact hR.next g (by omega) (st_wait2 (by assumption) (by assumption) (by assumption) (by assumption) (by assumption)) | exact hR.next g (by omega) (st_wait3 (by assumption) (by assumption) (by assumption) (by assumption)) | exact hR.next g (by omega) (st_none (by assumption) (by assumption) (by assumption))
                  · (try dsimp only); omega
                · (try simp only [Bool.not_eq_true', Bool.not_eq_false', Bool.not_eq_true, Bool.not_eq_false, decide_eq_true_eq, decide_eq_false_iff_not, List.length_map, List.length_range] at h16)
                  refine a_skip ?_
                  refine a_region ?_
                  refine aops_cons rfl (w_pure rfl (p_add' rfl rfl ⟨by omega, by omega⟩) ?_)
                  refine aops_cons rfl (w_pure rfl (p_move rfl) ?_)
                  refine aops_nil ?_
                  refine ⟨(k + 1, _, _, _, _, _, _, _, _), _, ?_, ?_, (by repeat (first | exact Knows.nil | refine Knows.cons (by rfl) ?_)), (by repeat (first | exact Back.refl _ _ | refine Back.cons (by rfl) ?_)), (by repeat (first | exact Picks.nil _ | exact Pick.here _ _ _ | apply Pick.next | apply Picks.cons))⟩
                  · first | exact hR.next g (by omega) (st_tick (by assumption)) | exact hR.next g (by omega) (st_tickH (by assumption)) | exact hR.next g (by omega) (st_sig1 (by assumption) (by assumption) (by assumption) (by assumption)) | exact hR.next g (by omega) (st_sig2 (by assumption) (by assumption) (by assumption) (by assumption)) | exact hR.next g (by omega) (st_sig3 (by assumption) (by assumption) (by assumption)) | exact hR.next g (by omega) (st_wait1 (by assumption) (by assumption) (by assumption) (by assumption) (by assumption)) | exact hR.next g (by omega) (st_wait2 (by assumption) (by assumption) (by assumption) (by assumption) (by assumption)) | exact hR.next g (by omega) (st_wait3 (by assumption) (by assumption) (by assumption) (by assumption)) | exact hR.next g (by omega) (st_none (by assumption) (by assumption) (by assumption))
                  · (try dsimp only); omega
              · (try simp only [Bool.not_eq_true', Bool.not_eq_false', Bool.not_eq_true, Bool.not_eq_false, decide_eq_true_eq, decide_eq_false_iff_not, List.length_map, List.length_range] at h14)
                refine g_pass' rfl rfl rfl rfl rfl ?_
                refine g_pass' rfl rfl rfl rfl rfl ?_
                refine g_pass' rfl rfl rfl rfl rfl ?_
                refine g_pass' rfl rfl rfl rfl rfl ?_
                refine aops_cons rfl (w_pure rfl (p_pick_f rfl rfl) ?_)
                refine aops_nil ?_
                refine a_cond_f rfl ?_
                refine a_skip ?_
                refine a_region ?_
                refine aops_cons rfl (w_pure rfl (p_add' rfl rfl ⟨by omega, by omega⟩) ?_)
                refine aops_cons rfl (w_pure rfl (p_move rfl) ?_)
                refine aops_nil ?_
                refine ⟨(k + 1, _, _, _, _, _, _, _, _), _, ?_, ?_, (by repeat (first | exact Knows.nil | refine Knows.cons (by rfl) ?_)), (by repeat (first | exact Back.refl _ _ | refine Back.cons (by rfl) ?_)), (by repeat (first | exact Picks.nil _ | exact Pick.here _ _ _ | apply Pick.next | apply Picks.cons))⟩
                · first | exact hR.next g (by omega) (st_tick (by assumption)) | exact hR.next g (by omega) (st_tickH (by assumption)) | exact hR.next g (by omega) (st_sig1 (by assumption) (by assumption) (by assumption) (by assumption)) | exact hR.next g (by omega) (st_sig2 (by assumption) (by assumption) (by assumption) (by assumption)) | exact hR.next g (by omega) (st_sig3 (by assumption) (by assumption) (by assumption)) | exact hR.next g (by omega) (st_wait1 (by assumption) (by assumption) (by assumption) (by assumption) (by assumption)) | exact hR.next g (by omega) (st_wait2 (by assumption) (by assumption) (by assumption) (by assumption) (by assumption)) | exact hR.next g (by omega) (st_wait3 (by assumption) (by assumption) (by assumption) (by assumption)) | exact hR.next g (by omega) (st_none (by assumption) (by assumption) (by assumption))
                · (try dsimp only); omega
            · (try simp only [Bool.not_eq_true', Bool.not_eq_false', Bool.not_eq_true, Bool.not_eq_false, decide_eq_true_eq, decide_eq_false_iff_not, List.length_map, List.length_range] at h12)
              refine a_seq ?_
              refine a_region ?_
              refine aops_cons rfl (w_pure rfl (p_field_box fo_117_0 rfl) ?_)
              refine aops_cons rfl (w_pure rfl (p_field_box fo_62_0 rfl) ?_)
              refine aops_cons rfl (w_pure rfl (p_load_box ag_24 rfl (by repeat (first | exact Pick.here _ _ _ | apply Pick.next)) (by rfl) noX) ?_)
              refine aops_cons rfl (w_pure rfl (p_move rfl) ?_)
              refine aops_cons rfl (w_pure rfl (p_index_own0 (findI h.list (ops.getD k zHallOp).id).toNat rfl rfl (by have := hid (by omega); omega) (by have := hid (by omega); omega) es_24) ?_)
              refine aops_cons rfl (w_pure rfl (p_field_e fo_46_3 rfl) ?_)
              refine aops_cons rfl (w_pure rfl (p_load_e ag_4 rfl (by repeat (first | exact Pick.here _ _ _ | apply Pick.next)) (rowD _ _ zVcpu (by have := hid (by omega); omega)) (by rfl) noX) ?_)
              refine aops_cons rfl (w_pure rfl (p_not rfl) ?_)
              refine aops_cons rfl (w_pure rfl (p_assign rfl) ?_)
              refine aops_nil ?_
              first | refine a_cond_d rfl (fun h17 => ?_) (fun h18 => ?_) | refine a_cond_n rfl (fun h17 => ?_) (fun h18 => ?_) | refine a_cond_nb rfl (fun h17 => ?_) (fun h18 => ?_) | refine a_cond rfl (fun h17 => ?_) (fun h18 => ?_)
              · (try simp only [Bool.not_eq_true', Bool.not_eq_false', Bool.not_eq_true, Bool.not_eq_false, decide_eq_true_eq, decide_eq_false_iff_not, List.length_map, List.length_range] at h17)
                refine a_seq ?_
                refine a_region ?_
                refine aops_cons rfl (w_pure rfl (p_field_box fo_117_0 rfl) ?_)
                refine aops_cons rfl (w_pure rfl (p_move rfl) ?_)
                refine aops_cons rfl (w_callM0 rfl rfl rfl cl_122 (.cons (by repeat (first | exact Pick.here _ _ _ | apply Pick.next)) (.cons (by repeat (first | exact Pick.here _ _ _ | apply Pick.next)) (.cons (by repeat (first | exact Pick.here _ _ _ | apply Pick.next)) (.nil _)))) (c3_impl_wait _ _ _ _ _ _ (⟨l, e⟩ : Hall) (small_of hR.hall ⟨rfl, rfl⟩) hsm.1 hsm.2.1 (findI h.list (ops.getD k zHallOp).id) (by have := hid (by omega); omega) (by have := hid (by omega); show _ < (l.length : Int); omega) hsm.2.2.2) trivial ?_)
                rintro _ _ ⟨rfl, rfl⟩
                refine aops_cons rfl (w_pure rfl (p_move rfl) ?_)
                first | refine aops_split_d 92 rfl (fun h19 => ?_) (fun h20 => ?_) | refine aops_split 92 rfl (fun h19 => ?_) (fun h20 => ?_)
                · (try simp only [Bool.not_eq_true', Bool.not_eq_false', Bool.not_eq_true, Bool.not_eq_false, decide_eq_true_eq, decide_eq_false_iff_not, List.length_map, List.length_range] at h19)
                  refine aops_guard_t rfl rfl rfl (w_pure rfl (p_field_box fo_84_1 rfl) ?_)
                  refine aops_guard_t rfl rfl rfl (w_pure rfl (p_load_box ag_3 rfl (by repeat (first | exact Pick.here _ _ _ | apply Pick.next)) (by rfl) noX) ?_)
                  refine aops_guard_t rfl rfl rfl (w_pure rfl (p_move rfl) ?_)
                  refine aops_guard_t rfl rfl rfl (w_pure rfl (p_eql rfl rfl) ?_)
                  refine aops_cons rfl (w_pure rfl (p_pick_t rfl rfl) ?_)
                  refine aops_nil ?_
                  first | refine a_cond_d rfl (fun h21 => ?_) (fun h22 => ?_) | refine a_cond_n rfl (fun h21 => ?_) (fun h22 => ?_) | refine a_cond_nb rfl (fun h21 => ?_) (fun h22 => ?_) | refine a_cond rfl (fun h21 => ?_) (fun h22 => ?_)
                  · (try simp only [Bool.not_eq_true', Bool.not_eq_false', Bool.not_eq_true, Bool.not_eq_false, decide_eq_true_eq, decide_eq_false_iff_not, List.length_map, List.length_range] at h21)
                    refine a_region ?_
                    refine aops_cons rfl (w_pure rfl (p_field_box fo_117_3 rfl) ?_)
                    refine aops_cons rfl (w_pure rfl (p_load_box ag_3 rfl (by repeat (first | exact Pick.here _ _ _ | apply Pick.next)) (by rfl) noX) ?_)
                    refine aops_cons rfl (w_pure rfl (p_add' rfl rfl ⟨by omega, by omega⟩) ?_)
                    refine aops_cons rfl (w_pure rfl (p_field_box fo_117_3 rfl) ?_)
                    refine aops_cons rfl (w_store (cells' := [_, _, _, _, _]) rfl rfl rfl (by repeat (first | exact Pick.here _ _ _ | apply Pick.next)) cn_3 (by rfl) (by rfl) (by rfl) trivial ?_)
                    refine aops_nil ?_
                    refine a_region ?_
                    refine aops_cons rfl (w_pure rfl (p_add' rfl rfl ⟨by omega, by omega⟩) ?_)
                    refine aops_cons rfl (w_pure rfl (p_move rfl) ?_)
                    refine aops_nil ?_
                    refine ⟨(k + 1, _, _, _, _, _, _, _, _), _, ?_, ?_, (by repeat (first | exact Knows.nil | refine Knows.cons (by rfl) ?_)), (by repeat (first | exact Back.refl _ _ | refine Back.cons (by rfl) ?_)), (by repeat (first | exact Picks.nil _ | exact Pick.here _ _ _ | apply Pick.next | apply Picks.cons))⟩
                    · first | exact hR.next g (by omega) (st_tick (by assumption)) | exact hR.next g (by omega) (st_tickH (by assumption)) | exact hR.next g (by omega) (st_sig1 (by assumption) (by assumption) (by assumption) (by assumption)) | exact hR.next g (by omega) (st_sig2 (by assumption) (by assumption) (by assumption) (by assumption)) | exact hR.next g (by omega) (st_sig3 (by assumption) (by assumption) (by assumption)) | exact hR.next g (by omega) (st_wait1 (by assumption) (by assumption) (by assumption) (by assumption) (by assumption)) | exact hR.next g (by omega) (st_wait2 (by assumption) (by assumption) (by assumption) (by assumption) (by assumption)) | exact hR.next g (by omega) (st_wait3 (by assumption) (by assumption) (by assumption) (by assumption)) | exact hR.next g (by omega) (st_none (by assumption) (by assumption) (by assumption))
                    · (try dsimp only); omega
                  · (try simp only [Bool.not_eq_true', Bool.not_eq_false', Bool.not_eq_true, Bool.not_eq_false, decide_eq_true_eq, decide_eq_false_iff_not, List.length_map, List.length_range] at h22)
                    refine a_skip ?_
                    refine a_region ?_
                    refine aops_cons rfl (w_pure rfl (p_add' rfl rfl ⟨by omega, by omega⟩) ?_)
                    refine aops_cons rfl (w_pure rfl (p_move rfl) ?_)
                    refine aops_nil ?_
                    refine ⟨(k + 1, _, _, _, _, _, _, _, _), _, ?_, ?_, (by repeat (first | exact Knows.nil | refine Knows.cons (by rfl) ?_)), (by repeat (first | exact Back.refl _ _ | refine Back.cons (by rfl) ?_)), (by repeat (first | exact Picks.nil _ | exact Pick.here _ _ _ | apply Pick.next | apply Picks.cons))⟩
                    · first | exact hR.next g (by omega) (st_tick (by assumption)) | exact hR.next g (by omega) (st_tickH (by assumption)) | exact hR.next g (by omega) (st_sig1 (by assumption) (by assumption) (by assumption) (by assumption)) | exact hR.next g (by omega) (st_sig2 (by assumption) (by assumption) (by assumption) (by assumption)) | exact hR.next g (by omega) (st_sig3 (by assumption) (by assumption) (by assumption)) | exact hR.next g (by omega) (st_wait1 (by assumption) (by assumption) (by assumption) (by assumption) (by assumption)) | exact hR.next g (by omega) (st_wait2 (by assumption) (by assumption) (by assumption) (by assumption) (by assumption)) | exact hR.next g (by omega) (st_wait3 (by assumption) (by assumption) (by assumption) (by assumption)) | exact hR.next g (by omega) (st_none (by assumption) (by assumption) (by assumption))
                    · (try dsimp only); omega
                · (try simp only [Bool.not_eq_true', Bool.not_eq_false', Bool.not_eq_true, Bool.not_eq_false, decide_eq_true_eq, decide_eq_false_iff_not, List.length_map, List.length_range] at h20)
                  refine g_pass' rfl rfl rfl rfl rfl ?_
                  refine g_pass' rfl rfl rfl rfl rfl ?_
                  refine g_pass' rfl rfl rfl rfl rfl ?_
                  refine g_pass' rfl rfl rfl rfl rfl ?_
                  refine aops_cons rfl (w_pure rfl (p_pick_f rfl rfl) ?_)
                  refine aops_nil ?_
                  refine a_cond_f rfl ?_
                  refine a_skip ?_
                  refine a_region ?_
                  refine aops_cons rfl (w_pure rfl (p_add' rfl rfl ⟨by omega, by omega⟩) ?_)
                  refine aops_cons rfl (w_pure rfl (p_move rfl) ?_)
                  refine aops_nil ?_
                  refine ⟨(k + 1, _, _, _, _, _, _, _, _), _, ?_, ?_, (by repeat (first | exact Knows.nil | refine Knows.cons (by rfl) ?_)), (by repeat (first | exact Back.refl _ _ | refine Back.cons (by rfl) ?_)), (by repeat (first | exact Picks.nil _ | exact Pick.here _ _ _ | apply Pick.next | apply Picks.cons))⟩
                  · first | exact hR.next g (by omega) (st_tick (by assumption)) | exact hR.next g (by omega) (st_tickH (by assumption)) | exact hR.next g (by omega) (st_sig1 (by assumption) (by assumption) (by assumption) (by assumption)) | exact hR.next g (by omega) (st_sig2 (by assumption) (by assumption) (by assumption) (by assumption)) | exact hR.next g (by omega) (st_sig3 (by assumption) (by assumption) (by assumption)) | exact hR.next g (by omega) (st_wait1 (by assumption) (by assumption) (by assumption) (by assumption) (by assumption)) | exact hR.next g (by omega) (st_wait2 (by assumption) (by assumption) (by assumption) (by assumption) (by assumption)) | exact hR.next g (by omega) (st_wait3 (by assumption) (by assumption) (by assumption) (by assumption)) | exact hR.next g (by omega) (st_none (by assumption) (by assumption) (by assumption))
                  · (try dsimp only); omega
              · (try simp only [Bool.not_eq_true', Bool.not_eq_false', Bool.not_eq_true, Bool.not_eq_false, decide_eq_true_eq, decide_eq_false_iff_not, List.length_map, List.length_range] at h18)
                refine a_skip ?_
                refine a_region ?_
                refine aops_cons rfl (w_pure rfl (p_add' rfl rfl ⟨by omega, by omega⟩) ?_)
                refine aops_cons rfl (w_pure rfl (p_move rfl) ?_)
                refine aops_nil ?_
                refine ⟨(k + 1, _, _, _, _, _, _, _, _), _, ?_, ?_, (by repeat (first | exact Knows.nil | refine Knows.cons (by rfl) ?_)), (by repeat (first | exact Back.refl _ _ | refine Back.cons (by rfl) ?_)), (by repeat (first | exact Picks.nil _ | exact Pick.here _ _ _ | apply Pick.next | apply Picks.cons))⟩
                · first | exact hR.next g (by omega) (st_tick (by assumption)) | exact hR.next g (by omega) (st_tickH (by assumption)) | exact hR.next g (by omega) (st_sig1 (by assumption) (by assumption) (by assumption) (by assumption)) | exact hR.next g (by omega) (st_sig2 (by assumption) (by assumption) (by assumption) (by assumption)) | exact hR.next g (by omega) (st_sig3 (by assumption) (by assumption) (by assumption)) | exact hR.next g (by omega) (st_wait1 (by assumption) (by assumption) (by assumption) (by assumption) (by assumption)) | exact hR.next g (by omega) (st_wait2 (by assumption) (by assumption) (by assumption) (by assumption) (by assumption)) | exact hR.next g (by omega) (st_wait3 (by assumption) (by assumption) (by assumption) (by assumption)) | exact hR.next g (by omega) (st_none (by assumption) (by assumption) (by assumption))
                · (try dsimp only); omega
        · (try simp only [Bool.not_eq_true', Bool.not_eq_false', Bool.not_eq_true, Bool.not_eq_false, decide_eq_true_eq, decide_eq_false_iff_not, List.length_map, List.length_range] at h8)
          refine a_exit ?_
          refine a_seq ?_
          refine a_region ?_
          refine aops_cons rfl (w_pure rfl (p_load_box_all ag_117 rfl (by repeat (first | exact Pick.here _ _ _ | apply Pick.next)) (by rfl) noX) ?_)
          refine aops_cons rfl (w_store (cells' := [_, _, _, _, _]) rfl rfl rfl (by repeat (first | exact Pick.here _ _ _ | apply Pick.next)) cn_117 (by rfl) (by rfl) (by rfl) trivial ?_)
          refine aops_cons rfl (w_pure rfl (p_assign rfl) ?_)
          refine aops_nil ?_
          refine a_ret ?_
          refine ret_ok (hands2 rfl (.cell ag_117 rfl (by repeat (first | exact Pick.here _ _ _ | apply Pick.next)) (by rfl)) (.tmp rfl)) (st' := [(b1, _), (b2, _), (c, _)]) (.cons (by repeat (first | exact Pick.here _ _ _ | apply Pick.next)) (.cons (by repeat (first | exact Pick.here _ _ _ | apply Pick.next)) (.cons (by repeat (first | exact Pick.here _ _ _ | apply Pick.next)) (.nil _)))) ?_
          first | (exfalso; first | exact absurd g.1 (by assumption) | (have q1 := g.2.1; have q2 := g.2.2; omega)) | exact ⟨_, _, _, by rw [hR.fin (by omega), hsm.1, hsm.2.1], by rw [hR.fin (by omega)]⟩

theorem cn_impl_runHall (h : Hall) (hn : SmallHall h) (ops : List HallOp) (hm : ops.length ≤ 1048576) (id : Int) (g : ¬ GoodOps h ops) : ACalls Try.prog 108 [.agg (eHall h), .sl (ops.map eHallOp), .int .i64 id] [] (Ret (.tup [.agg [.nil, .nil, .nil, .int .i64 0, .int .i64 0], .bool false])) := by
  have hnn := hn
  obtain ⟨hn1, hn2⟩ := hnn
  refine a_enter Try.func108 rfl rfl (fun w0 M0 => ?_)
  refine a_seq ?_
  refine a_region ?_
  refine aops_cons rfl (w_box_v rfl rfl rfl ?_)
  refine aops_cons rfl (w_alloc rfl z_117 fun b1 => ?_)
  refine aops_cons rfl (w_pure rfl (p_assign rfl) ?_)
  refine aops_nil ?_
  refine a_seq ?_
  refine a_seq ?_
  refine a_region ?_
  refine aops_cons rfl (w_pure rfl (p_load_v_all ag_62 rfl (by rfl) noX) ?_)
  refine aops_cons rfl (w_callR rfl rfl rfl cl_81 (c_impl_IsHall _ ‹_›) ?_)
  refine aops_cons rfl (w_pure rfl (p_not rfl) ?_)
  refine aops_cons rfl (w_pure rfl (p_move rfl) ?_)
  first | refine aops_split_d 17 rfl (fun h1 => ?_) (fun h2 => ?_) | refine aops_split 17 rfl (fun h1 => ?_) (fun h2 => ?_)
  · (try simp only [Bool.not_eq_true', Bool.not_eq_false', Bool.not_eq_true, Bool.not_eq_false, decide_eq_true_eq, decide_eq_false_iff_not, List.length_map, List.length_range] at h1)
    refine g_pass' rfl rfl rfl rfl rfl ?_
    refine g_pass' rfl rfl rfl rfl rfl ?_
    refine g_pass' rfl rfl rfl rfl rfl ?_
    refine aops_cons rfl (w_pure rfl (p_pick_t rfl rfl) ?_)
    refine aops_cons rfl (w_pure rfl (p_move rfl) ?_)
    refine g_pass' rfl rfl rfl rfl rfl ?_
    refine g_pass' rfl rfl rfl rfl rfl ?_
    refine g_pass' rfl rfl rfl rfl rfl ?_
    refine aops_cons rfl (w_pure rfl (p_pick_t rfl rfl) ?_)
    refine aops_nil ?_
    refine a_cond_t rfl ?_
    refine a_seq ?_
    refine a_region ?_
    refine aops_cons rfl (w_pure rfl (p_build (cells := [_, _, _, _, _]) z_117 pl_117 rfl rfl) ?_)
    refine aops_cons rfl (w_store (cells' := [_, _, _, _, _]) rfl rfl rfl (by repeat (first | exact Pick.here _ _ _ | apply Pick.next)) cn_117 (by rfl) (by rfl) (by rfl) trivial ?_)
    refine aops_cons rfl (w_pure rfl (p_assign rfl) ?_)
    refine aops_nil ?_
    refine a_ret ?_
    refine ret_ok (hands2 rfl (.cell ag_117 rfl (by repeat (first | exact Pick.here _ _ _ | apply Pick.next)) (by rfl)) (.tmp rfl)) (.nil _) ?_
    exact ⟨rfl, rfl⟩
  · (try simp only [Bool.not_eq_true', Bool.not_eq_false', Bool.not_eq_true, Bool.not_eq_false, decide_eq_true_eq, decide_eq_false_iff_not, List.length_map, List.length_range] at h2)
    refine aops_guard_t rfl rfl rfl (w_pure rfl (p_move rfl) ?_)
    refine aops_guard_t rfl rfl rfl (w_pure rfl (p_len sl_64 rfl rfl) ?_)
    refine aops_guard_t rfl rfl rfl (w_pure rfl (p_gtr rfl rfl) ?_)
    refine aops_cons rfl (w_pure rfl (p_pick_f rfl rfl) ?_)
    refine aops_cons rfl (w_pure rfl (p_move rfl) ?_)
    first | refine aops_split_d 22 rfl (fun h3 => ?_) (fun h4 => ?_) | refine aops_split 22 rfl (fun h3 => ?_) (fun h4 => ?_)
    · (try simp only [Bool.not_eq_true', Bool.not_eq_false', Bool.not_eq_true, Bool.not_eq_false, decide_eq_true_eq, decide_eq_false_iff_not, List.length_map, List.length_range] at h3)
      refine g_pass' rfl rfl rfl rfl rfl ?_
      refine g_pass' rfl rfl rfl rfl rfl ?_
      refine g_pass' rfl rfl rfl rfl rfl ?_
      refine aops_cons rfl (w_pure rfl (p_pick_t rfl rfl) ?_)
      refine aops_nil ?_
      refine a_cond_t rfl ?_
      refine a_seq ?_
      refine a_region ?_
      refine aops_cons rfl (w_pure rfl (p_build (cells := [_, _, _, _, _]) z_117 pl_117 rfl rfl) ?_)
      refine aops_cons rfl (w_store (cells' := [_, _, _, _, _]) rfl rfl rfl (by repeat (first | exact Pick.here _ _ _ | apply Pick.next)) cn_117 (by rfl) (by rfl) (by rfl) trivial ?_)
      refine aops_cons rfl (w_pure rfl (p_assign rfl) ?_)
      refine aops_nil ?_
      refine a_ret ?_
      refine ret_ok (hands2 rfl (.cell ag_117 rfl (by repeat (first | exact Pick.here _ _ _ | apply Pick.next)) (by rfl)) (.tmp rfl)) (.nil _) ?_
      exact ⟨rfl, rfl⟩
    · (try simp only [Bool.not_eq_true', Bool.not_eq_false', Bool.not_eq_true, Bool.not_eq_false, decide_eq_true_eq, decide_eq_false_iff_not, List.length_map, List.length_range] at h4)
      refine aops_guard_t rfl rfl rfl (w_pure rfl (p_move rfl) ?_)
      refine aops_guard_t rfl rfl rfl (w_pure rfl (p_func rfl) ?_)
      refine aops_guard_t rfl rfl rfl (w_callR rfl rfl rfl cl_138 (c_slices_ContainsFunc_impl_HallOp_impl_HallOp h (by assumption) _ (by omega)) ?_)
      refine aops_cons rfl (w_pure rfl (p_pick_f rfl rfl) ?_)
      refine aops_nil ?_
      first | refine a_cond_d rfl (fun h5 => ?_) (fun h6 => ?_) | refine a_cond_n rfl (fun h5 => ?_) (fun h6 => ?_) | refine a_cond_nb rfl (fun h5 => ?_) (fun h6 => ?_) | refine a_cond rfl (fun h5 => ?_) (fun h6 => ?_)
      · (try simp only [Bool.not_eq_true', Bool.not_eq_false', Bool.not_eq_true, Bool.not_eq_false, decide_eq_true_eq, decide_eq_false_iff_not, List.length_map, List.length_range] at h5)
        refine a_seq ?_
        refine a_region ?_
        refine aops_cons rfl (w_pure rfl (p_build (cells := [_, _, _, _, _]) z_117 pl_117 rfl rfl) ?_)
        refine aops_cons rfl (w_store (cells' := [_, _, _, _, _]) rfl rfl rfl (by repeat (first | exact Pick.here _ _ _ | apply Pick.next)) cn_117 (by rfl) (by rfl) (by rfl) trivial ?_)
        refine aops_cons rfl (w_pure rfl (p_assign rfl) ?_)
        refine aops_nil ?_
        refine a_ret ?_
        refine ret_ok (hands2 rfl (.cell ag_117 rfl (by repeat (first | exact Pick.here _ _ _ | apply Pick.next)) (by rfl)) (.tmp rfl)) (.nil _) ?_
        exact ⟨rfl, rfl⟩
      · (try simp only [Bool.not_eq_true', Bool.not_eq_false', Bool.not_eq_true, Bool.not_eq_false, decide_eq_true_eq, decide_eq_false_iff_not, List.length_map, List.length_range] at h6)
        refine a_skip ?_
        refine a_seq ?_
        exact absurd (show GoodOps h ops from ⟨by assumption, by omega, by omega⟩) g

theorem cy_spec_RunHall (h : Hall) (hn : SmallHall h) (ops : List HallOp) (hm : ops.length ≤ 1048576) (hA : GoodOps h ops) : ACalls Try.prog 61 [.agg (eHall h), .sl (ops.map eHallOp)] [] (Ret (.tup [.agg (eHall (fin h ops 0).hall), .sl ((fin h ops 0).ticks.map eInt), .bool true])) := by
  have hnn := hn
  obtain ⟨hn1, hn2⟩ := hnn
  refine a_enter Try.func61 rfl rfl (fun w0 M0 => ?_)
  refine a_seq ?_
  refine a_region ?_
  refine aops_cons rfl (w_box_v rfl rfl rfl ?_)
  refine aops_cons rfl (w_alloc rfl z_62 fun b1 => ?_)
  refine aops_cons rfl (w_pure rfl (p_assign rfl) ?_)
  refine aops_cons rfl (w_pure rfl (p_assign rfl) ?_)
  refine aops_nil ?_
  refine a_seq ?_
  refine a_seq ?_
  refine a_region ?_
  refine aops_cons rfl (w_pure rfl (p_load_v_all ag_62 rfl (by rfl) noX) ?_)
  refine aops_cons rfl (w_pure rfl (p_move rfl) ?_)
  refine aops_cons rfl (w_callR rfl rfl rfl cl_103 (c_spec_l15Ops h (by assumption) _ (by omega)) ?_)
  refine aops_cons rfl (w_pure rfl (p_not rfl) ?_)
  refine aops_nil ?_
  first | refine a_cond_d rfl (fun h1 => ?_) (fun h2 => ?_) | refine a_cond_n rfl (fun h1 => ?_) (fun h2 => ?_) | refine a_cond_nb rfl (fun h1 => ?_) (fun h2 => ?_) | refine a_cond rfl (fun h1 => ?_) (fun h2 => ?_)
  · (try simp only [Bool.not_eq_true', Bool.not_eq_false', Bool.not_eq_true, Bool.not_eq_false, decide_eq_true_eq, decide_eq_false_iff_not, List.length_map, List.length_range] at h1)
    refine a_seq ?_
    refine a_region ?_
    refine aops_cons rfl (w_pure rfl (p_build (cells := [_, _]) z_62 pl_62 rfl rfl) ?_)
    refine aops_cons rfl (w_lit_vM eInt [] rfl el_34 rfl rfl rfl rfl rfl ?_)
    refine aops_cons rfl (w_store (cells' := [_, _]) rfl rfl rfl (by repeat (first | exact Pick.here _ _ _ | apply Pick.next)) cn_62 (by rfl) (by rfl) (by rfl) trivial ?_)
    refine aops_cons rfl (w_pure rfl (p_assign rfl) ?_)
    refine aops_cons rfl (w_pure rfl (p_assign rfl) ?_)
    refine aops_nil ?_
    refine a_ret ?_
    refine ret_ok (hands3 rfl (.cell ag_62 rfl (by repeat (first | exact Pick.here _ _ _ | apply Pick.next)) (by rfl)) (.tmp rfl) (.tmp rfl)) (.nil _) ?_
    first | exact ⟨rfl, rfl⟩ | exact absurd hA (by assumption)
  · (try simp only [Bool.not_eq_true', Bool.not_eq_false', Bool.not_eq_true, Bool.not_eq_false, decide_eq_true_eq, decide_eq_false_iff_not, List.length_map, List.length_range] at h2)
    refine a_skip ?_
    refine a_seq ?_
    refine a_region ?_
    refine aops_cons rfl (w_pure rfl (p_load_v_all ag_62 rfl (by rfl) noX) ?_)
    refine aops_cons rfl (w_pure rfl (p_move rfl) ?_)
    refine aops_cons rfl (w_callR rfl rfl rfl cl_105 (c_spec_l15Run h (by assumption) ops (by omega) 0 hA) ?_)
    refine aops_cons rfl (w_pure rfl (p_move rfl) ?_)
    refine aops_cons rfl (w_pure rfl (p_extract rfl rfl) ?_)
    refine aops_cons rfl (w_pure rfl (p_extract rfl rfl) ?_)
    refine aops_cons rfl (w_pure rfl (p_extract rfl rfl) ?_)
    refine aops_cons rfl (w_pure rfl (p_extract rfl rfl) ?_)
    refine aops_cons rfl (w_alloc rfl z_62 fun b2 => ?_)
    refine aops_cons rfl (w_store (cells' := [_, _]) rfl rfl rfl (by repeat (first | exact Pick.here _ _ _ | apply Pick.next)) cn_62 (by rfl) (by rfl) (by rfl) trivial ?_)
    refine aops_cons rfl (w_pure rfl (p_assign rfl) ?_)
    refine aops_cons rfl (w_pure rfl (p_assign rfl) ?_)
    refine aops_cons rfl (w_pure rfl (p_assign rfl) ?_)
    refine aops_nil ?_
    refine a_seq ?_
    refine a_region ?_
    refine aops_cons rfl (w_pure rfl (p_load_box_all ag_62 rfl (by repeat (first | exact Pick.here _ _ _ | apply Pick.next)) (by rfl) noX) ?_)
    refine aops_cons rfl (w_pure rfl (p_move rfl) ?_)
    refine aops_cons rfl (w_store (cells' := [_, _]) rfl rfl rfl (by repeat (first | exact Pick.here _ _ _ | apply Pick.next)) cn_62 (by rfl) (by rfl) (by rfl) trivial ?_)
    refine aops_cons rfl (w_pure rfl (p_assign rfl) ?_)
    refine aops_cons rfl (w_pure rfl (p_assign rfl) ?_)
    refine aops_nil ?_
    refine a_ret ?_
    refine ret_ok (hands3 rfl (.cell ag_62 rfl (by repeat (first | exact Pick.here _ _ _ | apply Pick.next)) (by rfl)) (.tmp rfl) (.tmp rfl)) (.nil _) ?_
    first | exact ⟨rfl, rfl⟩ | exact absurd hA (by assumption)

theorem cn_spec_RunHall (h : Hall) (hn : SmallHall h) (ops : List HallOp) (hm : ops.length ≤ 1048576) (hA : ¬ GoodOps h ops) : ACalls Try.prog 61 [.agg (eHall h), .sl (ops.map eHallOp)] [] (Ret (.tup [.agg [.nil, .nil], .sl ([] : List (List AV)), .bool false])) := by
  have hnn := hn
  obtain ⟨hn1, hn2⟩ := hnn
  refine a_enter Try.func61 rfl rfl (fun w0 M0 => ?_)
  refine a_seq ?_
  refine a_region ?_
  refine aops_cons rfl (w_box_v rfl rfl rfl ?_)
  refine aops_cons rfl (w_alloc rfl z_62 fun b1 => ?_)
  refine aops_cons rfl (w_pure rfl (p_assign rfl) ?_)
  refine aops_cons rfl (w_pure rfl (p_assign rfl) ?_)
  refine aops_nil ?_
  refine a_seq ?_
  refine a_seq ?_
  refine a_region ?_
  refine aops_cons rfl (w_pure rfl (p_load_v_all ag_62 rfl (by rfl) noX) ?_)
  refine aops_cons rfl (w_pure rfl (p_move rfl) ?_)
  refine aops_cons rfl (w_callR rfl rfl rfl cl_103 (c_spec_l15Ops h (by assumption) _ (by omega)) ?_)
  refine aops_cons rfl (w_pure rfl (p_not rfl) ?_)
  refine aops_nil ?_
  first | refine a_cond_d rfl (fun h1 => ?_) (fun h2 => ?_) | refine a_cond_n rfl (fun h1 => ?_) (fun h2 => ?_) | refine a_cond_nb rfl (fun h1 => ?_) (fun h2 => ?_) | refine a_cond rfl (fun h1 => ?_) (fun h2 => ?_)
  · (try simp only [Bool.not_eq_true', Bool.not_eq_false', Bool.not_eq_true, Bool.not_eq_false, decide_eq_true_eq, decide_eq_false_iff_not, List.length_map, List.length_range] at h1)
    refine a_seq ?_
    refine a_region ?_
    refine aops_cons rfl (w_pure rfl (p_build (cells := [_, _]) z_62 pl_62 rfl rfl) ?_)
    refine aops_cons rfl (w_lit_vM eInt [] rfl el_34 rfl rfl rfl rfl rfl ?_)
    refine aops_cons rfl (w_store (cells' := [_, _]) rfl rfl rfl (by repeat (first | exact Pick.here _ _ _ | apply Pick.next)) cn_62 (by rfl) (by rfl) (by rfl) trivial ?_)
    refine aops_cons rfl (w_pure rfl (p_assign rfl) ?_)
    refine aops_cons rfl (w_pure rfl (p_assign rfl) ?_)
    refine aops_nil ?_
    refine a_ret ?_
    refine ret_ok (hands3 rfl (.cell ag_62 rfl (by repeat (first | exact Pick.here _ _ _ | apply Pick.next)) (by rfl)) (.tmp rfl) (.tmp rfl)) (.nil _) ?_
    exact ⟨rfl, rfl⟩
  · (try simp only [Bool.not_eq_true', Bool.not_eq_false', Bool.not_eq_true, Bool.not_eq_false, decide_eq_true_eq, decide_eq_false_iff_not, List.length_map, List.length_range] at h2)
    refine a_skip ?_
    refine a_seq ?_
    exact absurd (by assumption) hA

theorem cy_impl_RunHall (h : Hall) (hn : SmallHall h) (ops : List HallOp) (hm : ops.length ≤ 1048576) (hA : GoodOps h ops) : ACalls Try.prog 62 [.agg (eHall h), .sl (ops.map eHallOp)] [] (fun r st => ∃ b1 b2 b3, r = .tup [.agg [.own 5 b1 0 (fin h ops 0).hall.list.length, .own 1 b2 0 (fin h ops 0).hall.events.length], .own 1 b3 0 (fin h ops 0).ticks.length, .bool true] ∧ st = [(b1, .arr 46 5 ((fin h ops 0).hall.list.map eVcpu)), (b2, .arr 4 1 ((fin h ops 0).hall.events.map eBool)), (b3, .arr 3 1 ((fin h ops 0).ticks.map eInt))]) := by
  have hnn := hn
  obtain ⟨hn1, hn2⟩ := hnn
  refine a_enter Try.func62 rfl rfl (fun w0 M0 => ?_)
  refine a_seq ?_
  refine a_region ?_
  refine aops_cons rfl (w_box_v rfl rfl rfl ?_)
  refine aops_cons rfl (w_alloc rfl z_62 fun b1 => ?_)
  refine aops_cons rfl (w_pure rfl (p_assign rfl) ?_)
  refine aops_cons rfl (w_pure rfl (p_assign rfl) ?_)
  refine aops_nil ?_
  refine a_seq ?_
  refine a_region ?_
  refine aops_cons rfl (w_pure rfl (p_load_v_all ag_62 rfl (by rfl) noX) ?_)
  refine aops_cons rfl (w_pure rfl (p_move rfl) ?_)
  refine aops_cons rfl (w_call rfl rfl rfl cl_108 (cy_impl_runHall h (by assumption) ops (by omega) 0 hA) ?_)
  rintro _ _ ⟨b2, b3, b4, rfl, rfl⟩
  refine aops_cons rfl (w_pure rfl (p_move rfl) ?_)
  refine aops_cons rfl (w_pure rfl (p_extract rfl rfl) ?_)
  refine aops_cons rfl (w_pure rfl (p_extract rfl rfl) ?_)
  refine aops_cons rfl (w_alloc rfl z_117 fun b5 => ?_)
  refine aops_cons rfl (w_store (cells' := [_, _, _, _, _]) rfl rfl rfl (by repeat (first | exact Pick.here _ _ _ | apply Pick.next)) cn_117 (by rfl) (by rfl) (by rfl) trivial ?_)
  refine aops_cons rfl (w_pure rfl (p_assign rfl) ?_)
  refine aops_nil ?_
  refine a_seq ?_
  refine a_draw [b1] (by kernel_rfl) ?_
  show ADraw _ _ _ _ _ _ 8 _ _ _ _
  refine d_take 0 rfl (by kernel_rfl) (by kernel_rfl) (by kernel_rfl) rfl (p_field_box fo_117_0 rfl) ?_
  refine d_load 1 rfl (by kernel_rfl) (by kernel_rfl) (by kernel_rfl) rfl (p_load_box_agg (cs' := [_, _]) ag_62 rfl (by repeat (first | exact Pick.here _ _ _ | apply Pick.next)) (by rfl) (by rfl) (by simp [keys])) ?_
  refine d_take 2 rfl (by kernel_rfl) (by kernel_rfl) (by kernel_rfl) rfl (p_field_box fo_117_1 rfl) ?_
  refine d_load 3 rfl (by kernel_rfl) (by kernel_rfl) (by kernel_rfl) rfl (p_load_box ag_34 rfl (by repeat (first | exact Pick.here _ _ _ | apply Pick.next)) (by rfl) (by simp [keys])) ?_
  refine d_take 4 rfl (by kernel_rfl) (by kernel_rfl) (by kernel_rfl) rfl (p_move rfl) ?_
  refine draw_all [5] (by kernel_rfl) (by simp) ?_
  refine all_cons rfl rfl ?_ ?_
  · skip
    refine w_store (cells' := [_, _]) rfl rfl rfl (by repeat (first | exact Pick.here _ _ _ | apply Pick.next)) cn_62 (by rfl) (by rfl) (by rfl) (by first | (refine .inl ?_; simp; done) | (refine .inr ?_; simp [keys]; done)) ?_
    refine d_take 6 rfl (by kernel_rfl) (by kernel_rfl) (by kernel_rfl) rfl (p_assign rfl) ?_
    refine d_take 7 rfl (by kernel_rfl) (by kernel_rfl) (by kernel_rfl) rfl (p_assign rfl) ?_
    refine draw_done (by kernel_rfl) ?_
    refine a_ret ?_
    refine ret_ok (hands3 rfl (.cell ag_62 rfl (by repeat (first | exact Pick.here _ _ _ | apply Pick.next)) (by rfl)) (.tmp rfl) (.tmp rfl)) (st' := [(b2, _), (b3, _), (b4, _)]) (.cons (by repeat (first | exact Pick.here _ _ _ | apply Pick.next)) (.cons (by repeat (first | exact Pick.here _ _ _ | apply Pick.next)) (.cons (by repeat (first | exact Pick.here _ _ _ | apply Pick.next)) (.nil _)))) ?_
    exact ⟨_, _, _, rfl, rfl⟩
  exact all_nil

theorem cf_impl_RunHall (h : Hall) (hn : SmallHall h) (ops : List HallOp) (hm : ops.length ≤ 1048576) (hA : GoodOps h ops) : ACalls Try.prog 62 [.agg (eHall h), .sl (ops.map eHallOp)] [] (Ret (.tup [.agg (eHall (fin h ops 0).hall), .sl ((fin h ops 0).ticks.map eInt), .bool true])) :=
  (cy_impl_RunHall h hn ops hm hA).freeze (by rintro _ _ ⟨_, _, _, rfl, rfl⟩; exact (.tup (.cons (.agg (.cons (.own (by repeat (first | exact List.Mem.head _ | apply List.Mem.tail)) (List.length_map _)) (.cons (.own (by repeat (first | exact List.Mem.head _ | apply List.Mem.tail)) (List.length_map _)) .nil))) (.cons (.own (by repeat (first | exact List.Mem.head _ | apply List.Mem.tail)) (List.length_map _)) (.cons (.refl _) .nil)))))

theorem cn_impl_RunHall (h : Hall) (hn : SmallHall h) (ops : List HallOp) (hm : ops.length ≤ 1048576) (hA : ¬ GoodOps h ops) : ACalls Try.prog 62 [.agg (eHall h), .sl (ops.map eHallOp)] [] (Ret (.tup [.agg [.nil, .nil], .nil, .bool false])) := by
  have hnn := hn
  obtain ⟨hn1, hn2⟩ := hnn
  refine a_enter Try.func62 rfl rfl (fun w0 M0 => ?_)
  refine a_seq ?_
  refine a_region ?_
  refine aops_cons rfl (w_box_v rfl rfl rfl ?_)
  refine aops_cons rfl (w_alloc rfl z_62 fun b1 => ?_)
  refine aops_cons rfl (w_pure rfl (p_assign rfl) ?_)
  refine aops_cons rfl (w_pure rfl (p_assign rfl) ?_)
  refine aops_nil ?_
  refine a_seq ?_
  refine a_region ?_
  refine aops_cons rfl (w_pure rfl (p_load_v_all ag_62 rfl (by rfl) noX) ?_)
  refine aops_cons rfl (w_pure rfl (p_move rfl) ?_)
  refine aops_cons rfl (w_callR rfl rfl rfl cl_108 (cn_impl_runHall h (by assumption) ops (by omega) 0 hA) ?_)
  refine aops_cons rfl (w_pure rfl (p_move rfl) ?_)
  refine aops_cons rfl (w_pure rfl (p_extract rfl rfl) ?_)
  refine aops_cons rfl (w_pure rfl (p_extract rfl rfl) ?_)
  refine aops_cons rfl (w_alloc rfl z_117 fun b2 => ?_)
  refine aops_cons rfl (w_store (cells' := [_, _, _, _, _]) rfl rfl rfl (by repeat (first | exact Pick.here _ _ _ | apply Pick.next)) cn_117 (by rfl) (by rfl) (by rfl) trivial ?_)
  refine aops_cons rfl (w_pure rfl (p_assign rfl) ?_)
  refine aops_nil ?_
  refine a_seq ?_
  refine a_draw [b1] (by kernel_rfl) ?_
  show ADraw _ _ _ _ _ _ 8 _ _ _ _
  refine d_take 0 rfl (by kernel_rfl) (by kernel_rfl) (by kernel_rfl) rfl (p_field_box fo_117_0 rfl) ?_
  refine d_load 1 rfl (by kernel_rfl) (by kernel_rfl) (by kernel_rfl) rfl (p_load_box_agg (cs' := [_, _]) ag_62 rfl (by repeat (first | exact Pick.here _ _ _ | apply Pick.next)) (by rfl) (by rfl) (by simp [keys])) ?_
  refine d_take 2 rfl (by kernel_rfl) (by kernel_rfl) (by kernel_rfl) rfl (p_field_box fo_117_1 rfl) ?_
  refine d_load 3 rfl (by kernel_rfl) (by kernel_rfl) (by kernel_rfl) rfl (p_load_box ag_34 rfl (by repeat (first | exact Pick.here _ _ _ | apply Pick.next)) (by rfl) (by simp [keys])) ?_
  refine d_take 4 rfl (by kernel_rfl) (by kernel_rfl) (by kernel_rfl) rfl (p_move rfl) ?_
  refine draw_all [5] (by kernel_rfl) (by simp) ?_
  refine all_cons rfl rfl ?_ ?_
  · skip
    refine w_store (cells' := [_, _]) rfl rfl rfl (by repeat (first | exact Pick.here _ _ _ | apply Pick.next)) cn_62 (by rfl) (by rfl) (by rfl) (by first | (refine .inl ?_; simp; done) | (refine .inr ?_; simp [keys]; done)) ?_
    refine d_take 6 rfl (by kernel_rfl) (by kernel_rfl) (by kernel_rfl) rfl (p_assign rfl) ?_
    refine d_take 7 rfl (by kernel_rfl) (by kernel_rfl) (by kernel_rfl) rfl (p_assign rfl) ?_
    refine draw_done (by kernel_rfl) ?_
    refine a_ret ?_
    refine ret_ok (hands3 rfl (.cell ag_62 rfl (by repeat (first | exact Pick.here _ _ _ | apply Pick.next)) (by rfl)) (.tmp rfl) (.tmp rfl)) (.nil _) ?_
    exact ⟨rfl, rfl⟩
  exact all_nil

set_option maxHeartbeats 2000000 in
theorem c_laws_FnExactRunHall (h : Hall) (_hc0 : okHall h) (ops : List HallOp) (_hc1 : (∀ x ∈ ops, okHallOp x) ∧ ops.length ≤ maxLen) : ACalls Try.prog 10 [.agg (eHall h), .sl (ops.map eHallOp)] [] (Ret (.bool true)) := by
  have hm0 : h.list.length ≤ 9223372036854775807 ∧ h.events.length ≤ 9223372036854775807 := ⟨_hc0.1.2, _hc0.2.1.2⟩
  have hq0 : szHall h 1048576 ≤ 1048576 := szHall_ub (Int.le_refl _)
  have hm1 : ops.length ≤ 9223372036854775807 := _hc1.2
  by_cases hA : GoodOps h ops
  all_goals refine a_enter Try.func10 rfl rfl (fun w0 M0 => ?_)
  · skip
    refine a_seq ?_
    refine a_region ?_
    refine aops_cons rfl (w_box_v rfl rfl rfl ?_)
    refine aops_cons rfl (w_pure rfl (p_assign rfl) ?_)
    refine aops_nil ?_
    refine a_seq ?_
    refine a_region ?_
    refine aops_cons rfl (w_pure rfl (p_assign rfl) ?_)
    refine aops_nil ?_
    refine a_seq ?_
    refine a_region ?_
    refine aops_cons rfl (w_pure rfl (p_load_v_all ag_56 rfl (by rfl) noX) ?_)
    refine aops_cons rfl (w_pure rfl (p_move rfl) ?_)
    refine aops_cons rfl (w_callR rfl rfl rfl cl_53 (c_laws_szHall _ (by assumption) _ (by omega) (by omega)) ?_)
    refine aops_cons rfl (w_pure rfl (p_assign rfl) ?_)
    refine aops_nil ?_
    refine a_seq ?_
    refine a_seq ?_
    refine a_region ?_
    refine aops_cons rfl (w_pure rfl (p_move rfl) ?_)
    refine aops_cons rfl (w_pure rfl (p_lss rfl rfl) ?_)
    refine aops_nil ?_
    first | refine a_cond_d rfl (fun h1 => ?_) (fun h2 => ?_) | refine a_cond_n rfl (fun h1 => ?_) (fun h2 => ?_) | refine a_cond_nb rfl (fun h1 => ?_) (fun h2 => ?_) | refine a_cond rfl (fun h1 => ?_) (fun h2 => ?_)
    · (try simp only [Bool.not_eq_true', Bool.not_eq_false', Bool.not_eq_true, Bool.not_eq_false, decide_eq_true_eq, decide_eq_false_iff_not, List.length_map, List.length_range] at h1)
      refine a_seq ?_
      refine a_region ?_
      refine aops_cons rfl (w_pure rfl (p_assign rfl) ?_)
      refine aops_nil ?_
      refine a_ret ?_
      refine ret_ok (hands1 rfl (.tmp rfl)) (.nil _) ?_
      first | exact ⟨rfl, rfl⟩ | (exfalso; omega)
    · (try simp only [Bool.not_eq_true', Bool.not_eq_false', Bool.not_eq_true, Bool.not_eq_false, decide_eq_true_eq, decide_eq_false_iff_not, List.length_map, List.length_range] at h2)
      refine a_skip ?_
      refine a_seq ?_
      refine a_region ?_
      refine aops_cons rfl (w_pure rfl (p_move rfl) ?_)
      refine aops_cons rfl (w_pure rfl (p_move rfl) ?_)
      refine aops_cons rfl (w_callR rfl rfl rfl cl_54 (c_laws_szHallOpS _ ‹_› _ (by omega) (by omega)) ?_)
      refine aops_cons rfl (w_pure rfl (p_assign rfl) ?_)
      refine aops_nil ?_
      refine a_seq ?_
      refine a_seq ?_
      refine a_region ?_
      refine aops_cons rfl (w_pure rfl (p_move rfl) ?_)
      refine aops_cons rfl (w_pure rfl (p_lss rfl rfl) ?_)
      refine aops_nil ?_
      first | refine a_cond_d rfl (fun h3 => ?_) (fun h4 => ?_) | refine a_cond_n rfl (fun h3 => ?_) (fun h4 => ?_) | refine a_cond_nb rfl (fun h3 => ?_) (fun h4 => ?_) | refine a_cond rfl (fun h3 => ?_) (fun h4 => ?_)
      · (try simp only [Bool.not_eq_true', Bool.not_eq_false', Bool.not_eq_true, Bool.not_eq_false, decide_eq_true_eq, decide_eq_false_iff_not, List.length_map, List.length_range] at h3)
        refine a_seq ?_
        refine a_region ?_
        refine aops_cons rfl (w_pure rfl (p_assign rfl) ?_)
        refine aops_nil ?_
        refine a_ret ?_
        refine ret_ok (hands1 rfl (.tmp rfl)) (.nil _) ?_
        first | exact ⟨rfl, rfl⟩ | (exfalso; omega)
      · (try simp only [Bool.not_eq_true', Bool.not_eq_false', Bool.not_eq_true, Bool.not_eq_false, decide_eq_true_eq, decide_eq_false_iff_not, List.length_map, List.length_range] at h4)
        refine a_skip ?_
        refine a_seq ?_
        have hl0 : SmallHall h := szHall_le (left := 1048576) (by omega) (by omega) ‹_›; have hz0_ := hl0; simp only [SmallHall] at hz0_; obtain ⟨hz0_0, hz0_1⟩ := hz0_; have hl1' : (ops.length : Int) ≤ (szHall h 1048576) := szv_le ‹_›; have hb1 := szv_b (n := ops.length) (left := (szHall h 1048576)) (by first | omega | exact Int.not_lt.1 ‹_›); have hl1 : ops.length ≤ 1048576 := (by omega); have hr0 : SmallHall (fin h ops 0).hall := (by have := (fin_inv (id := 0) hA ops.length (Nat.le_refl _)).small; have := hA.1.small; exact ⟨by show (runR h ops 0 ops.length).hall.list.length ≤ _; omega, by show (runR h ops 0 ops.length).hall.events.length ≤ _; omega⟩); have hy0_ := hr0; simp only [SmallHall] at hy0_; obtain ⟨hy0_0, hy0_1⟩ := hy0_; have hr1 : (fin h ops 0).ticks.length ≤ 1048576 := (by have := (fin_inv (id := 0) hA ops.length (Nat.le_refl _)).tl; show (runR h ops 0 ops.length).ticks.length ≤ _; omega)
        refine a_region ?_
        refine aops_cons rfl (w_pure rfl (p_load_v_all ag_56 rfl (by rfl) noX) ?_)
        refine aops_cons rfl (w_callR rfl rfl rfl cl_56 (c_laws_toHall h hl0) ?_)
        refine aops_cons rfl (w_pure rfl (p_move rfl) ?_)
        refine aops_cons rfl (w_callR rfl rfl rfl cl_57 (c_laws_toHallOpS ops hl1) ?_)
        refine aops_cons rfl (w_callR rfl rfl rfl cl_61 (cy_spec_RunHall h hl0 ops hl1 hA) ?_)
        refine aops_cons rfl (w_pure rfl (p_move rfl) ?_)
        refine aops_cons rfl (w_pure rfl (p_extract rfl rfl) ?_)
        refine aops_cons rfl (w_pure rfl (p_extract rfl rfl) ?_)
        refine aops_cons rfl (w_pure rfl (p_extract rfl rfl) ?_)
        refine aops_cons rfl (w_alloc rfl z_62 fun b1 => ?_)
        refine aops_cons rfl (w_store (cells' := [_, _]) rfl rfl rfl (by repeat (first | exact Pick.here _ _ _ | apply Pick.next)) cn_62 (by rfl) (by rfl) (by rfl) trivial ?_)
        refine aops_cons rfl (w_pure rfl (p_assign rfl) ?_)
        refine aops_cons rfl (w_pure rfl (p_assign rfl) ?_)
        refine aops_nil ?_
        refine a_seq ?_
        refine a_region ?_
        refine aops_cons rfl (w_pure rfl (p_load_v_all ag_56 rfl (by rfl) noX) ?_)
        refine aops_cons rfl (w_call rfl rfl rfl cl_56 (co_laws_toHall h hl0) ?_)
        rintro _ _ ⟨b2, b3, rfl, rfl⟩
        refine aops_cons rfl (w_alloc rfl z_62 fun b4 => ?_)
        refine aops_cons rfl (w_store (cells' := [_, _]) rfl rfl rfl (by repeat (first | exact Pick.here _ _ _ | apply Pick.next)) cn_62 (by rfl) (by rfl) (by rfl) trivial ?_)
        refine aops_nil ?_
        refine a_seq ?_
        refine a_region ?_
        refine aops_cons rfl (w_pure rfl (p_move rfl) ?_)
        refine aops_cons rfl (w_call rfl rfl rfl cl_57 ((co_laws_toHallOpS ops hl1).mono fun _ _ h => h.len) ?_)
        rintro _ _ ⟨b5, rfl, rfl⟩
        refine aops_cons rfl (w_pure rfl (p_assign rfl) ?_)
        refine aops_nil ?_
        refine a_seq ?_
        refine a_region ?_
        refine aops_cons rfl (w_pure rfl (p_load_box_all ag_62 rfl (by repeat (first | exact Pick.here _ _ _ | apply Pick.next)) (by rfl) noX) ?_)
        refine aops_cons rfl (w_pure rfl (p_move rfl) ?_)
        refine aops_cons rfl (w_callL rfl rfl rfl cl_62 (.cons (.agg (.cons (.own (by repeat (first | exact List.Mem.head _ | apply List.Mem.tail)) (by first | (simp; done) | (simp; assumption) | (simp; omega) | (simp [mkL]; done))) (.cons (.own (by repeat (first | exact List.Mem.head _ | apply List.Mem.tail)) (by first | (simp; done) | (simp; assumption) | (simp; omega) | (simp [mkL]; done))) .nil))) (.cons (.own (by repeat (first | exact List.Mem.head _ | apply List.Mem.tail)) (by first | (simp; done) | (simp; assumption) | (simp; omega) | (simp [mkL]; done))) .nil)) (cy_impl_RunHall h hl0 ops hl1 hA) ?_)
        rintro _ _ ⟨b6, b7, b8, rfl, rfl⟩
        refine ⟨(closed_tup (all_cons' (closed_agg (all_cons' (closed_own _ _ _ _) (all_cons' (closed_own _ _ _ _) all_nil'))) (all_cons' (closed_own _ _ _ _) (all_cons' (closed_bool _) all_nil')))), (closedS_cons (closedAll _ _ _ _ cl_eVcpu) (closedS_cons (closedAll _ _ _ _ cl_eBool) (closedS_cons (closedAll _ _ _ _ cl_eInt) closedS_nil))), ?_⟩
        refine aops_cons rfl (w_pure rfl (p_move rfl) ?_)
        refine aops_cons rfl (w_pure rfl (p_extract rfl rfl) ?_)
        refine aops_cons rfl (w_pure rfl (p_extract rfl rfl) ?_)
        refine aops_cons rfl (w_pure rfl (p_extract rfl rfl) ?_)
        refine aops_cons rfl (w_alloc rfl z_62 fun b9 => ?_)
        refine aops_cons rfl (w_store (cells' := [_, _]) rfl rfl rfl (by repeat (first | exact Pick.here _ _ _ | apply Pick.next)) cn_62 (by rfl) (by rfl) (by rfl) trivial ?_)
        refine aops_cons rfl (w_pure rfl (p_assign rfl) ?_)
        refine aops_cons rfl (w_pure rfl (p_assign rfl) ?_)
        refine aops_nil ?_
        refine a_seq ?_
        refine a_seq ?_
        refine a_region ?_
        refine aops_cons rfl (w_pure rfl (p_load_box_all ag_62 rfl (by repeat (first | exact Pick.here _ _ _ | apply Pick.next)) (by rfl) noX) ?_)
        refine aops_cons rfl (w_pure rfl (p_load_box_all ag_62 rfl (by repeat (first | exact Pick.here _ _ _ | apply Pick.next)) (by rfl) noX) ?_)
        refine aops_cons rfl (w_callLR rfl rfl rfl cl_59 (.cons (.agg (.cons (.own (by repeat (first | exact List.Mem.head _ | apply List.Mem.tail)) (by first | (simp; done) | (simp; assumption) | (simp; omega) | (simp [mkL]; done))) (.cons (.own (by repeat (first | exact List.Mem.head _ | apply List.Mem.tail)) (by first | (simp; done) | (simp; assumption) | (simp; omega) | (simp [mkL]; done))) .nil))) (.cons (.refl _) .nil)) (c_laws_eqHall (fin h ops 0).hall (by have := (fin_inv (id := 0) hA ops.length (Nat.le_refl _)).small; have := hA.1.small; exact ⟨by show (runR h ops 0 ops.length).hall.list.length ≤ _; omega, by show (runR h ops 0 ops.length).hall.events.length ≤ _; omega⟩)) (closed_bool _) ?_)
        refine aops_cons rfl (w_pure rfl (p_not rfl) ?_)
        refine aops_cons rfl (w_pure rfl (p_move rfl) ?_)
        refine aops_guard_t rfl rfl rfl (w_pure rfl (p_move rfl) ?_)
        refine aops_guard_t rfl rfl rfl (w_pure rfl (p_move rfl) ?_)
        refine aops_guard_t rfl rfl rfl (w_callLR rfl rfl rfl cl_29 (.cons (.own (by repeat (first | exact List.Mem.head _ | apply List.Mem.tail)) (by first | (simp; done) | (simp; assumption) | (simp; omega) | (simp [mkL]; done))) (.cons (.refl _) .nil)) (c_laws_eqIntS (fin h ops 0).ticks (by have := (fin_inv (id := 0) hA ops.length (Nat.le_refl _)).tl; show (runR h ops 0 ops.length).ticks.length ≤ _; omega)) (closed_bool _) ?_)
        refine aops_guard_t rfl rfl rfl (w_pure rfl (p_not rfl) ?_)
        refine aops_cons rfl (w_pure rfl (p_pick_f rfl rfl) ?_)
        refine aops_cons rfl (w_pure rfl (p_move rfl) ?_)
        refine aops_guard_t rfl rfl rfl (w_pure rfl (p_move rfl) ?_)
        refine aops_guard_t rfl rfl rfl (w_pure rfl (p_move rfl) ?_)
        refine aops_guard_t rfl rfl rfl (w_pure rfl (p_neq_bsame um_4 rfl rfl) ?_)
        refine aops_cons rfl (w_pure rfl (p_pick_f rfl rfl) ?_)
        refine aops_nil ?_
        refine a_cond_f rfl ?_
        refine a_skip ?_
        refine a_seq ?_
        refine a_seq ?_
        refine a_draw [] (by kernel_rfl) ?_
        show ADraw _ _ _ _ _ _ 5 _ _ _ _
        refine d_load 0 rfl (by kernel_rfl) (by kernel_rfl) (by kernel_rfl) rfl (p_load_box_all ag_62 rfl (by repeat (first | exact Pick.here _ _ _ | apply Pick.next)) (by rfl) noX) ?_
        refine d_load 1 rfl (by kernel_rfl) (by kernel_rfl) (by kernel_rfl) rfl (p_load_v_all ag_56 rfl (by rfl) noX) ?_
        refine draw_all [2] (by kernel_rfl) (by simp) ?_
        refine all_cons rfl rfl ?_ ?_
        · skip
          refine w_callR rfl rfl rfl cl_56 (c_laws_toHall h hl0) ?_
          refine draw_all [3] (by kernel_rfl) (by simp) ?_
          refine all_cons rfl rfl ?_ ?_
          · skip
            refine w_callLR rfl rfl rfl cl_59 (.cons (.agg (.cons (.own (by repeat (first | exact List.Mem.head _ | apply List.Mem.tail)) (by first | (simp; done) | (simp; assumption) | (simp; omega) | (simp [mkL]; done))) (.cons (.own (by repeat (first | exact List.Mem.head _ | apply List.Mem.tail)) (by first | (simp; done) | (simp; assumption) | (simp; omega) | (simp [mkL]; done))) .nil))) (.cons (.refl _) .nil)) (c_laws_eqHall h hl0) (closed_bool _) ?_
            refine d_take 4 rfl (by kernel_rfl) (by kernel_rfl) (by kernel_rfl) rfl (p_not rfl) ?_
            refine draw_done (by kernel_rfl) ?_
            refine a_cond_f rfl ?_
            refine a_skip ?_
            refine a_seq ?_
            refine a_seq ?_
            refine a_region ?_
            refine aops_cons rfl (w_pure rfl (p_move rfl) ?_)
            refine aops_cons rfl (w_pure rfl (p_move rfl) ?_)
            refine aops_cons rfl (w_callR rfl rfl rfl cl_57 (c_laws_toHallOpS ops hl1) ?_)
            refine aops_cons rfl (w_callLR rfl rfl rfl cl_60 (.cons (.own (by repeat (first | exact List.Mem.head _ | apply List.Mem.tail)) (by first | (simp; done) | (simp; assumption) | (simp; omega) | (simp [mkL]; done))) (.cons (.refl _) .nil)) (c_laws_eqHallOpS ops hl1) (closed_bool _) ?_)
            refine aops_cons rfl (w_pure rfl (p_not rfl) ?_)
            refine aops_nil ?_
            refine a_cond_f rfl ?_
            refine a_skip ?_
            refine a_seq ?_
            refine a_region ?_
            refine aops_cons rfl (w_pure rfl (p_assign rfl) ?_)
            refine aops_nil ?_
            refine a_seq ?_
            refine a_region ?_
            refine aops_cons rfl (w_pure rfl (p_load_box_all ag_62 rfl (by repeat (first | exact Pick.here _ _ _ | apply Pick.next)) (by rfl) noX) ?_)
            refine aops_cons rfl (w_pure rfl (p_move rfl) ?_)
            refine aops_cons rfl (w_callM rfl rfl rfl cl_63 (.cons (by repeat (first | exact Pick.here _ _ _ | apply Pick.next)) (.cons (by repeat (first | exact Pick.here _ _ _ | apply Pick.next)) (.nil _))) (.cons (.refl _) (.cons (.refl _) .nil)) (c_laws_markHall _ _ h hl0 _ (by first | omega | (simp; done) | (simp; omega)) (by first | omega | (simp; done) | (simp; omega))) trivial ?_)
            rintro _ _ ⟨rfl, rfl⟩
            refine ⟨(closed_int _ _), (closedS_cons (closedAll _ _ _ _ cl_eVcpu) (closedS_cons (closedAll _ _ _ _ cl_eBool) closedS_nil)), ?_⟩
            refine aops_cons rfl (w_pure rfl (p_assign rfl) ?_)
            refine aops_nil ?_
            refine a_seq ?_
            refine a_region ?_
            refine aops_cons rfl (w_pure rfl (p_move rfl) ?_)
            refine aops_cons rfl (w_pure rfl (p_move rfl) ?_)
            refine aops_cons rfl (w_callM rfl rfl rfl cl_64 (.cons (by repeat (first | exact Pick.here _ _ _ | apply Pick.next)) (.nil _)) (.cons (.refl _) (.cons (.refl _) .nil)) (c_laws_markHallOpS _ ops hl1 _ (by first | omega | (simp; done) | (simp; omega)) (by first | omega | (simp; done) | (simp; omega))) trivial ?_)
            rintro _ _ ⟨rfl, rfl⟩
            refine ⟨(closed_int _ _), (closedS_cons (closedAll _ _ _ _ cl_eHallOp) closedS_nil), ?_⟩
            refine aops_cons rfl (w_pure rfl (p_assign rfl) ?_)
            refine aops_nil ?_
            refine a_seq ?_
            refine a_seq ?_
            refine a_region ?_
            refine aops_cons rfl (w_pure rfl (p_move rfl) ?_)
            refine aops_cons rfl (w_pure rfl (p_lss rfl rfl) ?_)
            refine aops_cons rfl (w_pure rfl (p_move rfl) ?_)
            first | refine aops_split_d 83 rfl (fun h5 => ?_) (fun h6 => ?_) | refine aops_split 83 rfl (fun h5 => ?_) (fun h6 => ?_)
            · (try simp only [Bool.not_eq_true', Bool.not_eq_false', Bool.not_eq_true, Bool.not_eq_false, decide_eq_true_eq, decide_eq_false_iff_not, List.length_map, List.length_range] at h5)
              refine g_pass' rfl rfl rfl rfl rfl ?_
              refine g_pass' rfl rfl rfl rfl rfl ?_
              refine g_pass' rfl rfl rfl rfl rfl ?_
              refine g_pass' rfl rfl rfl rfl rfl ?_
              refine aops_cons rfl (w_pure rfl (p_pick_t rfl rfl) ?_)
              refine aops_cons rfl (w_pure rfl (p_move rfl) ?_)
              refine g_pass' rfl rfl rfl rfl rfl ?_
              refine g_pass' rfl rfl rfl rfl rfl ?_
              refine g_pass' rfl rfl rfl rfl rfl ?_
              refine g_pass' rfl rfl rfl rfl rfl ?_
              refine aops_cons rfl (w_pure rfl (p_pick_t rfl rfl) ?_)
              refine aops_cons rfl (w_pure rfl (p_move rfl) ?_)
              refine g_pass' rfl rfl rfl rfl rfl ?_
              refine g_pass' rfl rfl rfl rfl rfl ?_
              refine g_pass' rfl rfl rfl rfl rfl ?_
              refine aops_cons rfl (w_pure rfl (p_pick_t rfl rfl) ?_)
              refine aops_nil ?_
              refine a_cond_t rfl ?_
              refine a_seq ?_
              refine a_region ?_
              refine aops_cons rfl (w_pure rfl (p_assign rfl) ?_)
              refine aops_nil ?_
              refine a_ret ?_
              refine ret_ok (hands1 rfl (.tmp rfl)) (.nil _) ?_
              first | exact ⟨rfl, rfl⟩ | (exfalso; omega)
            · (try simp only [Bool.not_eq_true', Bool.not_eq_false', Bool.not_eq_true, Bool.not_eq_false, decide_eq_true_eq, decide_eq_false_iff_not, List.length_map, List.length_range] at h6)
              refine aops_guard_t rfl rfl rfl (w_pure rfl (p_load_box_all ag_62 rfl (by repeat (first | exact Pick.here _ _ _ | apply Pick.next)) (by rfl) noX) ?_)
              refine aops_guard_t rfl rfl rfl (w_pure rfl (p_load_box_all ag_62 rfl (by repeat (first | exact Pick.here _ _ _ | apply Pick.next)) (by rfl) noX) ?_)
              refine aops_guard_t rfl rfl rfl (w_callLR rfl rfl rfl cl_59 (.cons (.agg (.cons (.own (by repeat (first | exact List.Mem.head _ | apply List.Mem.tail)) (by first | (simp; done) | (simp; assumption) | (simp; omega) | (simp [mkL]; done))) (.cons (.own (by repeat (first | exact List.Mem.head _ | apply List.Mem.tail)) (by first | (simp; done) | (simp; assumption) | (simp; omega) | (simp [mkL]; done))) .nil))) (.cons (.refl _) .nil)) (c_laws_eqHall (fin h ops 0).hall (by have := (fin_inv (id := 0) hA ops.length (Nat.le_refl _)).small; have := hA.1.small; exact ⟨by show (runR h ops 0 ops.length).hall.list.length ≤ _; omega, by show (runR h ops 0 ops.length).hall.events.length ≤ _; omega⟩)) (closed_bool _) ?_)
              refine aops_guard_t rfl rfl rfl (w_pure rfl (p_not rfl) ?_)
              refine aops_cons rfl (w_pure rfl (p_pick_f rfl rfl) ?_)
              refine aops_cons rfl (w_pure rfl (p_move rfl) ?_)
              refine aops_guard_t rfl rfl rfl (w_pure rfl (p_move rfl) ?_)
              refine aops_guard_t rfl rfl rfl (w_pure rfl (p_move rfl) ?_)
              refine aops_guard_t rfl rfl rfl (w_callLR rfl rfl rfl cl_29 (.cons (.own (by repeat (first | exact List.Mem.head _ | apply List.Mem.tail)) (by first | (simp; done) | (simp; assumption) | (simp; omega) | (simp [mkL]; done))) (.cons (.refl _) .nil)) (c_laws_eqIntS (fin h ops 0).ticks (by have := (fin_inv (id := 0) hA ops.length (Nat.le_refl _)).tl; show (runR h ops 0 ops.length).ticks.length ≤ _; omega)) (closed_bool _) ?_)
              refine aops_guard_t rfl rfl rfl (w_pure rfl (p_not rfl) ?_)
              refine aops_cons rfl (w_pure rfl (p_pick_f rfl rfl) ?_)
              refine aops_cons rfl (w_pure rfl (p_move rfl) ?_)
              refine aops_guard_t rfl rfl rfl (w_pure rfl (p_move rfl) ?_)
              refine aops_guard_t rfl rfl rfl (w_pure rfl (p_move rfl) ?_)
              refine aops_guard_t rfl rfl rfl (w_pure rfl (p_neq_bsame um_4 rfl rfl) ?_)
              refine aops_cons rfl (w_pure rfl (p_pick_f rfl rfl) ?_)
              refine aops_nil ?_
              refine a_cond_f rfl ?_
              refine a_skip ?_
              refine a_seq ?_
              refine a_region ?_
              refine aops_cons rfl (w_pure rfl (p_assign rfl) ?_)
              refine aops_nil ?_
              refine a_seq ?_
              refine a_region ?_
              refine aops_cons rfl (w_pure rfl (p_load_box_all ag_62 rfl (by repeat (first | exact Pick.here _ _ _ | apply Pick.next)) (by rfl) noX) ?_)
              refine aops_cons rfl (w_pure rfl (p_move rfl) ?_)
              refine aops_cons rfl (w_callM rfl rfl rfl cl_63 (.cons (by repeat (first | exact Pick.here _ _ _ | apply Pick.next)) (.cons (by repeat (first | exact Pick.here _ _ _ | apply Pick.next)) (.nil _))) (.cons (.refl _) (.cons (.refl _) .nil)) (c_laws_markHall _ _ (fin h ops 0).hall (by have := (fin_inv (id := 0) hA ops.length (Nat.le_refl _)).small; have := hA.1.small; exact ⟨by show (runR h ops 0 ops.length).hall.list.length ≤ _; omega, by show (runR h ops 0 ops.length).hall.events.length ≤ _; omega⟩) _ (by first | omega | (simp; done) | (simp; omega)) (by first | omega | (simp; done) | (simp; omega))) trivial ?_)
              rintro _ _ ⟨rfl, rfl⟩
              refine ⟨(closed_int _ _), (closedS_cons (closedAll _ _ _ _ cl_eVcpu) (closedS_cons (closedAll _ _ _ _ cl_eBool) closedS_nil)), ?_⟩
              refine aops_cons rfl (w_pure rfl (p_assign rfl) ?_)
              refine aops_nil ?_
              refine a_seq ?_
              refine a_region ?_
              refine aops_cons rfl (w_pure rfl (p_move rfl) ?_)
              refine aops_cons rfl (w_pure rfl (p_move rfl) ?_)
              refine aops_cons rfl (w_callM rfl rfl rfl cl_30 (.cons (by repeat (first | exact Pick.here _ _ _ | apply Pick.next)) (.nil _)) (.cons (.refl _) (.cons (.refl _) .nil)) (c_laws_markIntS _ (fin h ops 0).ticks (by have := (fin_inv (id := 0) hA ops.length (Nat.le_refl _)).tl; show (runR h ops 0 ops.length).ticks.length ≤ _; omega) _ (by first | omega | (simp; done) | (simp; omega)) (by first | omega | (simp; done) | (simp; omega))) trivial ?_)
              rintro _ _ ⟨rfl, rfl⟩
              refine ⟨(closed_int _ _), (closedS_cons (closedAll _ _ _ _ cl_eInt) closedS_nil), ?_⟩
              refine aops_cons rfl (w_pure rfl (p_assign rfl) ?_)
              refine aops_nil ?_
              refine a_seq ?_
              refine a_region ?_
              refine aops_cons rfl (w_pure rfl (p_assign rfl) ?_)
              refine aops_nil ?_
              refine a_seq ?_
              refine a_region ?_
              refine aops_cons rfl (w_pure rfl (p_load_box_all ag_62 rfl (by repeat (first | exact Pick.here _ _ _ | apply Pick.next)) (by rfl) noX) ?_)
              refine aops_cons rfl (w_pure rfl (p_move rfl) ?_)
              refine aops_cons rfl (w_callLR rfl rfl rfl cl_65 (.cons (.agg (.cons (.own (by repeat (first | exact List.Mem.head _ | apply List.Mem.tail)) (by first | (simp; done) | (simp; assumption) | (simp; omega) | (simp [mkL]; done))) (.cons (.own (by repeat (first | exact List.Mem.head _ | apply List.Mem.tail)) (by first | (simp; done) | (simp; assumption) | (simp; omega) | (simp [mkL]; done))) .nil))) (.cons (.refl _) .nil)) (c_laws_heldHall (fin h ops 0).hall (by have := (fin_inv (id := 0) hA ops.length (Nat.le_refl _)).small; have := hA.1.small; exact ⟨by show (runR h ops 0 ops.length).hall.list.length ≤ _; omega, by show (runR h ops 0 ops.length).hall.events.length ≤ _; omega⟩) _ (by first | omega | (simp; done) | (simp; omega)) (by first | omega | (simp; done) | (simp; omega))) (closed_int _ _) ?_)
              refine aops_cons rfl (w_pure rfl (p_assign rfl) ?_)
              refine aops_nil ?_
              refine a_seq ?_
              refine a_seq ?_
              refine a_region ?_
              refine aops_cons rfl (w_pure rfl (p_move rfl) ?_)
              refine aops_cons rfl (w_pure rfl (p_lss rfl rfl) ?_)
              refine aops_nil ?_
              first | refine a_cond_d rfl (fun h7 => ?_) (fun h8 => ?_) | refine a_cond_n rfl (fun h7 => ?_) (fun h8 => ?_) | refine a_cond_nb rfl (fun h7 => ?_) (fun h8 => ?_) | refine a_cond rfl (fun h7 => ?_) (fun h8 => ?_)
              · (try simp only [Bool.not_eq_true', Bool.not_eq_false', Bool.not_eq_true, Bool.not_eq_false, decide_eq_true_eq, decide_eq_false_iff_not, List.length_map, List.length_range] at h7)
                refine a_seq ?_
                refine a_region ?_
                refine aops_cons rfl (w_pure rfl (p_assign rfl) ?_)
                refine aops_nil ?_
                refine a_ret ?_
                refine ret_ok (hands1 rfl (.tmp rfl)) (.nil _) ?_
                first | exact ⟨rfl, rfl⟩ | (exfalso; omega)
              · (try simp only [Bool.not_eq_true', Bool.not_eq_false', Bool.not_eq_true, Bool.not_eq_false, decide_eq_true_eq, decide_eq_false_iff_not, List.length_map, List.length_range] at h8)
                refine a_skip ?_
                refine a_seq ?_
                refine a_region ?_
                refine aops_cons rfl (w_pure rfl (p_move rfl) ?_)
                refine aops_cons rfl (w_pure rfl (p_move rfl) ?_)
                refine aops_cons rfl (w_callLR rfl rfl rfl cl_31 (.cons (.own (by repeat (first | exact List.Mem.head _ | apply List.Mem.tail)) (by first | (simp; done) | (simp; assumption) | (simp; omega) | (simp [mkL]; done))) (.cons (.refl _) .nil)) (c_laws_heldIntS (fin h ops 0).ticks.length (by have := (fin_inv (id := 0) hA ops.length (Nat.le_refl _)).tl; show (runR h ops 0 ops.length).ticks.length ≤ _; omega) _ (by first | omega | (simp; done) | (simp; omega)) (by first | omega | (simp; done) | (simp; omega))) (closed_int _ _) ?_)
                refine aops_cons rfl (w_pure rfl (p_assign rfl) ?_)
                refine aops_nil ?_
                refine a_seq ?_
                refine a_seq ?_
                refine a_region ?_
                refine aops_cons rfl (w_pure rfl (p_move rfl) ?_)
                refine aops_cons rfl (w_pure rfl (p_lss rfl rfl) ?_)
                refine aops_nil ?_
                first | refine a_cond_d rfl (fun h9 => ?_) (fun h10 => ?_) | refine a_cond_n rfl (fun h9 => ?_) (fun h10 => ?_) | refine a_cond_nb rfl (fun h9 => ?_) (fun h10 => ?_) | refine a_cond rfl (fun h9 => ?_) (fun h10 => ?_)
                · (try simp only [Bool.not_eq_true', Bool.not_eq_false', Bool.not_eq_true, Bool.not_eq_false, decide_eq_true_eq, decide_eq_false_iff_not, List.length_map, List.length_range] at h9)
                  refine a_seq ?_
                  refine a_region ?_
                  refine aops_cons rfl (w_pure rfl (p_assign rfl) ?_)
                  refine aops_nil ?_
                  refine a_ret ?_
                  refine ret_ok (hands1 rfl (.tmp rfl)) (.nil _) ?_
                  first | exact ⟨rfl, rfl⟩ | (exfalso; omega)
                · (try simp only [Bool.not_eq_true', Bool.not_eq_false', Bool.not_eq_true, Bool.not_eq_false, decide_eq_true_eq, decide_eq_false_iff_not, List.length_map, List.length_range] at h10)
                  refine a_skip ?_
                  refine a_seq ?_
                  refine a_seq ?_
                  refine a_region ?_
                  refine aops_cons rfl (w_pure rfl (p_move rfl) ?_)
                  refine aops_cons rfl (w_pure rfl (p_move rfl) ?_)
                  refine aops_cons rfl (w_pure rfl (p_neq_same rfl rfl) ?_)
                  refine aops_nil ?_
                  refine a_cond_f rfl ?_
                  refine a_skip ?_
                  refine a_seq ?_
                  refine a_region ?_
                  refine aops_cons rfl (w_pure rfl (p_load_v_all ag_56 rfl (by rfl) noX) ?_)
                  refine aops_cons rfl (w_callR rfl rfl rfl cl_56 (c_laws_toHall h hl0) ?_)
                  refine aops_cons rfl (w_pure rfl (p_move rfl) ?_)
                  refine aops_cons rfl (w_callR rfl rfl rfl cl_57 (c_laws_toHallOpS ops hl1) ?_)
                  refine aops_cons rfl (w_callR rfl rfl rfl cl_62 (cf_impl_RunHall h hl0 ops hl1 hA) ?_)
                  refine aops_cons rfl (w_pure rfl (p_move rfl) ?_)
                  refine aops_cons rfl (w_pure rfl (p_extract rfl rfl) ?_)
                  refine aops_cons rfl (w_pure rfl (p_extract rfl rfl) ?_)
                  refine aops_cons rfl (w_pure rfl (p_extract rfl rfl) ?_)
                  refine aops_cons rfl (w_alloc rfl z_62 fun b10 => ?_)
                  refine aops_cons rfl (w_store (cells' := [_, _]) rfl rfl rfl (by repeat (first | exact Pick.here _ _ _ | apply Pick.next)) cn_62 (by rfl) (by rfl) (by rfl) trivial ?_)
                  refine aops_cons rfl (w_pure rfl (p_assign rfl) ?_)
                  refine aops_cons rfl (w_pure rfl (p_assign rfl) ?_)
                  refine aops_nil ?_
                  refine a_seq ?_
                  refine a_seq ?_
                  refine a_region ?_
                  refine aops_cons rfl (w_pure rfl (p_load_box_all ag_62 rfl (by repeat (first | exact Pick.here _ _ _ | apply Pick.next)) (by rfl) noX) ?_)
                  refine aops_cons rfl (w_pure rfl (p_load_box_all ag_62 rfl (by repeat (first | exact Pick.here _ _ _ | apply Pick.next)) (by rfl) noX) ?_)
                  refine aops_cons rfl (w_callLR rfl rfl rfl cl_59 (.cons (.refl _) (.cons (.refl _) .nil)) (c_laws_eqHall (fin h ops 0).hall (by have := (fin_inv (id := 0) hA ops.length (Nat.le_refl _)).small; have := hA.1.small; exact ⟨by show (runR h ops 0 ops.length).hall.list.length ≤ _; omega, by show (runR h ops 0 ops.length).hall.events.length ≤ _; omega⟩)) (closed_bool _) ?_)
                  refine aops_cons rfl (w_pure rfl (p_not rfl) ?_)
                  refine aops_cons rfl (w_pure rfl (p_move rfl) ?_)
                  refine aops_guard_t rfl rfl rfl (w_pure rfl (p_move rfl) ?_)
                  refine aops_guard_t rfl rfl rfl (w_pure rfl (p_move rfl) ?_)
                  refine aops_guard_t rfl rfl rfl (w_callLR rfl rfl rfl cl_29 (.cons (.refl _) (.cons (.refl _) .nil)) (c_laws_eqIntS (fin h ops 0).ticks (by have := (fin_inv (id := 0) hA ops.length (Nat.le_refl _)).tl; show (runR h ops 0 ops.length).ticks.length ≤ _; omega)) (closed_bool _) ?_)
                  refine aops_guard_t rfl rfl rfl (w_pure rfl (p_not rfl) ?_)
                  refine aops_cons rfl (w_pure rfl (p_pick_f rfl rfl) ?_)
                  refine aops_cons rfl (w_pure rfl (p_move rfl) ?_)
                  refine aops_guard_t rfl rfl rfl (w_pure rfl (p_move rfl) ?_)
                  refine aops_guard_t rfl rfl rfl (w_pure rfl (p_move rfl) ?_)
                  refine aops_guard_t rfl rfl rfl (w_pure rfl (p_neq_bsame um_4 rfl rfl) ?_)
                  refine aops_cons rfl (w_pure rfl (p_pick_f rfl rfl) ?_)
                  refine aops_nil ?_
                  refine a_cond_f rfl ?_
                  refine a_skip ?_
                  refine a_seq ?_
                  refine a_region ?_
                  refine aops_cons rfl (w_pure rfl (p_assign rfl) ?_)
                  refine aops_nil ?_
                  refine a_seq ?_
                  refine a_region ?_
                  refine aops_cons rfl (w_pure rfl (p_load_box_all ag_62 rfl (by repeat (first | exact Pick.here _ _ _ | apply Pick.next)) (by rfl) noX) ?_)
                  refine aops_cons rfl (w_pure rfl (p_move rfl) ?_)
                  refine aops_cons rfl (w_callLR rfl rfl rfl cl_65 (.cons (.agg (.cons (.own (by repeat (first | exact List.Mem.head _ | apply List.Mem.tail)) (by first | (simp; done) | (simp; assumption) | (simp; omega) | (simp [mkL]; done))) (.cons (.own (by repeat (first | exact List.Mem.head _ | apply List.Mem.tail)) (by first | (simp; done) | (simp; assumption) | (simp; omega) | (simp [mkL]; done))) .nil))) (.cons (.refl _) .nil)) (c_laws_heldHall (fin h ops 0).hall (by have := (fin_inv (id := 0) hA ops.length (Nat.le_refl _)).small; have := hA.1.small; exact ⟨by show (runR h ops 0 ops.length).hall.list.length ≤ _; omega, by show (runR h ops 0 ops.length).hall.events.length ≤ _; omega⟩) _ (by first | omega | (simp; done) | (simp; omega)) (by first | omega | (simp; done) | (simp; omega))) (closed_int _ _) ?_)
                  refine aops_cons rfl (w_pure rfl (p_assign rfl) ?_)
                  refine aops_nil ?_
                  refine a_seq ?_
                  refine a_seq ?_
                  refine a_region ?_
                  refine aops_cons rfl (w_pure rfl (p_move rfl) ?_)
                  refine aops_cons rfl (w_pure rfl (p_lss rfl rfl) ?_)
                  refine aops_nil ?_
                  first | refine a_cond_d rfl (fun h11 => ?_) (fun h12 => ?_) | refine a_cond_n rfl (fun h11 => ?_) (fun h12 => ?_) | refine a_cond_nb rfl (fun h11 => ?_) (fun h12 => ?_) | refine a_cond rfl (fun h11 => ?_) (fun h12 => ?_)
                  · (try simp only [Bool.not_eq_true', Bool.not_eq_false', Bool.not_eq_true, Bool.not_eq_false, decide_eq_true_eq, decide_eq_false_iff_not, List.length_map, List.length_range] at h11)
                    refine a_seq ?_
                    refine a_region ?_
                    refine aops_cons rfl (w_pure rfl (p_assign rfl) ?_)
                    refine aops_nil ?_
                    refine a_ret ?_
                    refine ret_ok (hands1 rfl (.tmp rfl)) (.nil _) ?_
                    first | exact ⟨rfl, rfl⟩ | (exfalso; omega)
                  · (try simp only [Bool.not_eq_true', Bool.not_eq_false', Bool.not_eq_true, Bool.not_eq_false, decide_eq_true_eq, decide_eq_false_iff_not, List.length_map, List.length_range] at h12)
                    refine a_skip ?_
                    refine a_seq ?_
                    refine a_region ?_
                    refine aops_cons rfl (w_pure rfl (p_move rfl) ?_)
                    refine aops_cons rfl (w_pure rfl (p_move rfl) ?_)
                    refine aops_cons rfl (w_callLR rfl rfl rfl cl_31 (.cons (.own (by repeat (first | exact List.Mem.head _ | apply List.Mem.tail)) (by first | (simp; done) | (simp; assumption) | (simp; omega) | (simp [mkL]; done))) (.cons (.refl _) .nil)) (c_laws_heldIntS (fin h ops 0).ticks.length (by have := (fin_inv (id := 0) hA ops.length (Nat.le_refl _)).tl; show (runR h ops 0 ops.length).ticks.length ≤ _; omega) _ (by first | omega | (simp; done) | (simp; omega)) (by first | omega | (simp; done) | (simp; omega))) (closed_int _ _) ?_)
                    refine aops_cons rfl (w_pure rfl (p_assign rfl) ?_)
                    refine aops_nil ?_
                    refine a_seq ?_
                    refine a_seq ?_
                    refine a_region ?_
                    refine aops_cons rfl (w_pure rfl (p_move rfl) ?_)
                    refine aops_cons rfl (w_pure rfl (p_lss rfl rfl) ?_)
                    refine aops_nil ?_
                    first | refine a_cond_d rfl (fun h13 => ?_) (fun h14 => ?_) | refine a_cond_n rfl (fun h13 => ?_) (fun h14 => ?_) | refine a_cond_nb rfl (fun h13 => ?_) (fun h14 => ?_) | refine a_cond rfl (fun h13 => ?_) (fun h14 => ?_)
                    · (try simp only [Bool.not_eq_true', Bool.not_eq_false', Bool.not_eq_true, Bool.not_eq_false, decide_eq_true_eq, decide_eq_false_iff_not, List.length_map, List.length_range] at h13)
                      refine a_seq ?_
                      refine a_region ?_
                      refine aops_cons rfl (w_pure rfl (p_assign rfl) ?_)
                      refine aops_nil ?_
                      refine a_ret ?_
                      refine ret_ok (hands1 rfl (.tmp rfl)) (.nil _) ?_
                      first | exact ⟨rfl, rfl⟩ | (exfalso; omega)
                    · (try simp only [Bool.not_eq_true', Bool.not_eq_false', Bool.not_eq_true, Bool.not_eq_false, decide_eq_true_eq, decide_eq_false_iff_not, List.length_map, List.length_range] at h14)
                      refine a_skip ?_
                      refine a_seq ?_
                      refine a_seq ?_
                      refine a_region ?_
                      refine aops_cons rfl (w_pure rfl (p_move rfl) ?_)
                      refine aops_cons rfl (w_pure rfl (p_move rfl) ?_)
                      refine aops_cons rfl (w_pure rfl (p_neq_same rfl rfl) ?_)
                      refine aops_nil ?_
                      refine a_cond_f rfl ?_
                      refine a_skip ?_
                      refine a_seq ?_
                      refine a_region ?_
                      refine aops_cons rfl (w_pure rfl (p_assign rfl) ?_)
                      refine aops_nil ?_
                      refine a_ret ?_
                      refine ret_ok (hands1 rfl (.tmp rfl)) (.nil _) ?_
                      first | exact ⟨rfl, rfl⟩ | (exfalso; omega)
          exact all_nil
        exact all_nil
  · skip
    refine a_seq ?_
    refine a_region ?_
    refine aops_cons rfl (w_box_v rfl rfl rfl ?_)
    refine aops_cons rfl (w_pure rfl (p_assign rfl) ?_)
    refine aops_nil ?_
    refine a_seq ?_
    refine a_region ?_
    refine aops_cons rfl (w_pure rfl (p_assign rfl) ?_)
    refine aops_nil ?_
    refine a_seq ?_
    refine a_region ?_
    refine aops_cons rfl (w_pure rfl (p_load_v_all ag_56 rfl (by rfl) noX) ?_)
    refine aops_cons rfl (w_pure rfl (p_move rfl) ?_)
    refine aops_cons rfl (w_callR rfl rfl rfl cl_53 (c_laws_szHall _ (by assumption) _ (by omega) (by omega)) ?_)
    refine aops_cons rfl (w_pure rfl (p_assign rfl) ?_)
    refine aops_nil ?_
    refine a_seq ?_
    refine a_seq ?_
    refine a_region ?_
    refine aops_cons rfl (w_pure rfl (p_move rfl) ?_)
    refine aops_cons rfl (w_pure rfl (p_lss rfl rfl) ?_)
    refine aops_nil ?_
    first | refine a_cond_d rfl (fun h1 => ?_) (fun h2 => ?_) | refine a_cond_n rfl (fun h1 => ?_) (fun h2 => ?_) | refine a_cond_nb rfl (fun h1 => ?_) (fun h2 => ?_) | refine a_cond rfl (fun h1 => ?_) (fun h2 => ?_)
    · (try simp only [Bool.not_eq_true', Bool.not_eq_false', Bool.not_eq_true, Bool.not_eq_false, decide_eq_true_eq, decide_eq_false_iff_not, List.length_map, List.length_range] at h1)
      refine a_seq ?_
      refine a_region ?_
      refine aops_cons rfl (w_pure rfl (p_assign rfl) ?_)
      refine aops_nil ?_
      refine a_ret ?_
      refine ret_ok (hands1 rfl (.tmp rfl)) (.nil _) ?_
      first | exact ⟨rfl, rfl⟩ | (exfalso; omega)
    · (try simp only [Bool.not_eq_true', Bool.not_eq_false', Bool.not_eq_true, Bool.not_eq_false, decide_eq_true_eq, decide_eq_false_iff_not, List.length_map, List.length_range] at h2)
      refine a_skip ?_
      refine a_seq ?_
      refine a_region ?_
      refine aops_cons rfl (w_pure rfl (p_move rfl) ?_)
      refine aops_cons rfl (w_pure rfl (p_move rfl) ?_)
      refine aops_cons rfl (w_callR rfl rfl rfl cl_54 (c_laws_szHallOpS _ ‹_› _ (by omega) (by omega)) ?_)
      refine aops_cons rfl (w_pure rfl (p_assign rfl) ?_)
      refine aops_nil ?_
      refine a_seq ?_
      refine a_seq ?_
      refine a_region ?_
      refine aops_cons rfl (w_pure rfl (p_move rfl) ?_)
      refine aops_cons rfl (w_pure rfl (p_lss rfl rfl) ?_)
      refine aops_nil ?_
      first | refine a_cond_d rfl (fun h3 => ?_) (fun h4 => ?_) | refine a_cond_n rfl (fun h3 => ?_) (fun h4 => ?_) | refine a_cond_nb rfl (fun h3 => ?_) (fun h4 => ?_) | refine a_cond rfl (fun h3 => ?_) (fun h4 => ?_)
      · (try simp only [Bool.not_eq_true', Bool.not_eq_false', Bool.not_eq_true, Bool.not_eq_false, decide_eq_true_eq, decide_eq_false_iff_not, List.length_map, List.length_range] at h3)
        refine a_seq ?_
        refine a_region ?_
        refine aops_cons rfl (w_pure rfl (p_assign rfl) ?_)
        refine aops_nil ?_
        refine a_ret ?_
        refine ret_ok (hands1 rfl (.tmp rfl)) (.nil _) ?_
        first | exact ⟨rfl, rfl⟩ | (exfalso; omega)
      · (try simp only [Bool.not_eq_true', Bool.not_eq_false', Bool.not_eq_true, Bool.not_eq_false, decide_eq_true_eq, decide_eq_false_iff_not, List.length_map, List.length_range] at h4)
        refine a_skip ?_
        refine a_seq ?_
        have hl0 : SmallHall h := szHall_le (left := 1048576) (by omega) (by omega) ‹_›; have hz0_ := hl0; simp only [SmallHall] at hz0_; obtain ⟨hz0_0, hz0_1⟩ := hz0_; have hl1' : (ops.length : Int) ≤ (szHall h 1048576) := szv_le ‹_›; have hb1 := szv_b (n := ops.length) (left := (szHall h 1048576)) (by first | omega | exact Int.not_lt.1 ‹_›); have hl1 : ops.length ≤ 1048576 := (by omega)
        refine a_region ?_
        refine aops_cons rfl (w_pure rfl (p_load_v_all ag_56 rfl (by rfl) noX) ?_)
        refine aops_cons rfl (w_callR rfl rfl rfl cl_56 (c_laws_toHall h hl0) ?_)
        refine aops_cons rfl (w_pure rfl (p_move rfl) ?_)
        refine aops_cons rfl (w_callR rfl rfl rfl cl_57 (c_laws_toHallOpS ops hl1) ?_)
        refine aops_cons rfl (w_callR rfl rfl rfl cl_61 (cn_spec_RunHall h hl0 ops hl1 hA) ?_)
        refine aops_cons rfl (w_pure rfl (p_move rfl) ?_)
        refine aops_cons rfl (w_pure rfl (p_extract rfl rfl) ?_)
        refine aops_cons rfl (w_pure rfl (p_extract rfl rfl) ?_)
        refine aops_cons rfl (w_pure rfl (p_extract rfl rfl) ?_)
        refine aops_cons rfl (w_alloc rfl z_62 fun b1 => ?_)
        refine aops_cons rfl (w_store (cells' := [_, _]) rfl rfl rfl (by repeat (first | exact Pick.here _ _ _ | apply Pick.next)) cn_62 (by rfl) (by rfl) (by rfl) trivial ?_)
        refine aops_cons rfl (w_pure rfl (p_assign rfl) ?_)
        refine aops_cons rfl (w_pure rfl (p_assign rfl) ?_)
        refine aops_nil ?_
        refine a_seq ?_
        refine a_region ?_
        refine aops_cons rfl (w_pure rfl (p_load_v_all ag_56 rfl (by rfl) noX) ?_)
        refine aops_cons rfl (w_call rfl rfl rfl cl_56 (co_laws_toHall h hl0) ?_)
        rintro _ _ ⟨b2, b3, rfl, rfl⟩
        refine aops_cons rfl (w_alloc rfl z_62 fun b4 => ?_)
        refine aops_cons rfl (w_store (cells' := [_, _]) rfl rfl rfl (by repeat (first | exact Pick.here _ _ _ | apply Pick.next)) cn_62 (by rfl) (by rfl) (by rfl) trivial ?_)
        refine aops_nil ?_
        refine a_seq ?_
        refine a_region ?_
        refine aops_cons rfl (w_pure rfl (p_move rfl) ?_)
        refine aops_cons rfl (w_call rfl rfl rfl cl_57 ((co_laws_toHallOpS ops hl1).mono fun _ _ h => h.len) ?_)
        rintro _ _ ⟨b5, rfl, rfl⟩
        refine aops_cons rfl (w_pure rfl (p_assign rfl) ?_)
        refine aops_nil ?_
        refine a_seq ?_
        refine a_region ?_
        refine aops_cons rfl (w_pure rfl (p_load_box_all ag_62 rfl (by repeat (first | exact Pick.here _ _ _ | apply Pick.next)) (by rfl) noX) ?_)
        refine aops_cons rfl (w_pure rfl (p_move rfl) ?_)
        refine aops_cons rfl (w_callLR rfl rfl rfl cl_62 (.cons (.agg (.cons (.own (by repeat (first | exact List.Mem.head _ | apply List.Mem.tail)) (by first | (simp; done) | (simp; assumption) | (simp; omega) | (simp [mkL]; done))) (.cons (.own (by repeat (first | exact List.Mem.head _ | apply List.Mem.tail)) (by first | (simp; done) | (simp; assumption) | (simp; omega) | (simp [mkL]; done))) .nil))) (.cons (.own (by repeat (first | exact List.Mem.head _ | apply List.Mem.tail)) (by first | (simp; done) | (simp; assumption) | (simp; omega) | (simp [mkL]; done))) .nil)) (cn_impl_RunHall h hl0 ops hl1 hA) (closed_tup (all_cons' (closed_agg (all_cons' closed_nil (all_cons' closed_nil all_nil'))) (all_cons' closed_nil (all_cons' (closed_bool _) all_nil')))) ?_)
        refine aops_cons rfl (w_pure rfl (p_move rfl) ?_)
        refine aops_cons rfl (w_pure rfl (p_extract rfl rfl) ?_)
        refine aops_cons rfl (w_pure rfl (p_extract rfl rfl) ?_)
        refine aops_cons rfl (w_pure rfl (p_extract rfl rfl) ?_)
        refine aops_cons rfl (w_alloc rfl z_62 fun b6 => ?_)
        refine aops_cons rfl (w_store (cells' := [_, _]) rfl rfl rfl (by repeat (first | exact Pick.here _ _ _ | apply Pick.next)) cn_62 (by rfl) (by rfl) (by rfl) trivial ?_)
        refine aops_cons rfl (w_pure rfl (p_assign rfl) ?_)
        refine aops_cons rfl (w_pure rfl (p_assign rfl) ?_)
        refine aops_nil ?_
        refine a_seq ?_
        refine a_seq ?_
        refine a_region ?_
        refine aops_cons rfl (w_pure rfl (p_load_box_all ag_62 rfl (by repeat (first | exact Pick.here _ _ _ | apply Pick.next)) (by rfl) noX) ?_)
        refine aops_cons rfl (w_pure rfl (p_load_box_all ag_62 rfl (by repeat (first | exact Pick.here _ _ _ | apply Pick.next)) (by rfl) noX) ?_)
        refine aops_cons rfl (w_callLR rfl rfl rfl cl_59 (.cons (.agg (.cons .nil (.cons .nil .nil))) (.cons (.agg (.cons .nil (.cons .nil .nil))) .nil)) (c_laws_eqHall (⟨[], []⟩ : Hall) (by first | decide | (simp; done) | exact ⟨by decide, by decide⟩)) (closed_bool _) ?_)
        refine aops_cons rfl (w_pure rfl (p_not rfl) ?_)
        refine aops_cons rfl (w_pure rfl (p_move rfl) ?_)
        refine aops_guard_t rfl rfl rfl (w_pure rfl (p_move rfl) ?_)
        refine aops_guard_t rfl rfl rfl (w_pure rfl (p_move rfl) ?_)
        refine aops_guard_t rfl rfl rfl (w_callLR rfl rfl rfl cl_29 (.cons .nil (.cons (.refl _) .nil)) (c_laws_eqIntS ([] : List Int) (by first | decide | (simp; done) | exact ⟨by decide, by decide⟩)) (closed_bool _) ?_)
        refine aops_guard_t rfl rfl rfl (w_pure rfl (p_not rfl) ?_)
        refine aops_cons rfl (w_pure rfl (p_pick_f rfl rfl) ?_)
        refine aops_cons rfl (w_pure rfl (p_move rfl) ?_)
        refine aops_guard_t rfl rfl rfl (w_pure rfl (p_move rfl) ?_)
        refine aops_guard_t rfl rfl rfl (w_pure rfl (p_move rfl) ?_)
        refine aops_guard_t rfl rfl rfl (w_pure rfl (p_neq_bsame um_4 rfl rfl) ?_)
        refine aops_cons rfl (w_pure rfl (p_pick_f rfl rfl) ?_)
        refine aops_nil ?_
        refine a_cond_f rfl ?_
        refine a_skip ?_
        refine a_seq ?_
        refine a_seq ?_
        refine a_draw [] (by kernel_rfl) ?_
        show ADraw _ _ _ _ _ _ 5 _ _ _ _
        refine d_load 0 rfl (by kernel_rfl) (by kernel_rfl) (by kernel_rfl) rfl (p_load_box_all ag_62 rfl (by repeat (first | exact Pick.here _ _ _ | apply Pick.next)) (by rfl) noX) ?_
        refine d_load 1 rfl (by kernel_rfl) (by kernel_rfl) (by kernel_rfl) rfl (p_load_v_all ag_56 rfl (by rfl) noX) ?_
        refine draw_all [2] (by kernel_rfl) (by simp) ?_
        refine all_cons rfl rfl ?_ ?_
        · skip
          refine w_callR rfl rfl rfl cl_56 (c_laws_toHall h hl0) ?_
          refine draw_all [3] (by kernel_rfl) (by simp) ?_
          refine all_cons rfl rfl ?_ ?_
          · skip
            refine w_callLR rfl rfl rfl cl_59 (.cons (.agg (.cons (.own (by repeat (first | exact List.Mem.head _ | apply List.Mem.tail)) (by first | (simp; done) | (simp; assumption) | (simp; omega) | (simp [mkL]; done))) (.cons (.own (by repeat (first | exact List.Mem.head _ | apply List.Mem.tail)) (by first | (simp; done) | (simp; assumption) | (simp; omega) | (simp [mkL]; done))) .nil))) (.cons (.refl _) .nil)) (c_laws_eqHall h hl0) (closed_bool _) ?_
            refine d_take 4 rfl (by kernel_rfl) (by kernel_rfl) (by kernel_rfl) rfl (p_not rfl) ?_
            refine draw_done (by kernel_rfl) ?_
            refine a_cond_f rfl ?_
            refine a_skip ?_
            refine a_seq ?_
            refine a_seq ?_
            refine a_region ?_
            refine aops_cons rfl (w_pure rfl (p_move rfl) ?_)
            refine aops_cons rfl (w_pure rfl (p_move rfl) ?_)
            refine aops_cons rfl (w_callR rfl rfl rfl cl_57 (c_laws_toHallOpS ops hl1) ?_)
            refine aops_cons rfl (w_callLR rfl rfl rfl cl_60 (.cons (.own (by repeat (first | exact List.Mem.head _ | apply List.Mem.tail)) (by first | (simp; done) | (simp; assumption) | (simp; omega) | (simp [mkL]; done))) (.cons (.refl _) .nil)) (c_laws_eqHallOpS ops hl1) (closed_bool _) ?_)
            refine aops_cons rfl (w_pure rfl (p_not rfl) ?_)
            refine aops_nil ?_
            refine a_cond_f rfl ?_
            refine a_skip ?_
            refine a_seq ?_
            refine a_region ?_
            refine aops_cons rfl (w_pure rfl (p_assign rfl) ?_)
            refine aops_nil ?_
            refine a_seq ?_
            refine a_region ?_
            refine aops_cons rfl (w_pure rfl (p_load_box_all ag_62 rfl (by repeat (first | exact Pick.here _ _ _ | apply Pick.next)) (by rfl) noX) ?_)
            refine aops_cons rfl (w_pure rfl (p_move rfl) ?_)
            refine aops_cons rfl (w_callM rfl rfl rfl cl_63 (.cons (by repeat (first | exact Pick.here _ _ _ | apply Pick.next)) (.cons (by repeat (first | exact Pick.here _ _ _ | apply Pick.next)) (.nil _))) (.cons (.refl _) (.cons (.refl _) .nil)) (c_laws_markHall _ _ h hl0 _ (by first | omega | (simp; done) | (simp; omega)) (by first | omega | (simp; done) | (simp; omega))) trivial ?_)
            rintro _ _ ⟨rfl, rfl⟩
            refine ⟨(closed_int _ _), (closedS_cons (closedAll _ _ _ _ cl_eVcpu) (closedS_cons (closedAll _ _ _ _ cl_eBool) closedS_nil)), ?_⟩
            refine aops_cons rfl (w_pure rfl (p_assign rfl) ?_)
            refine aops_nil ?_
            refine a_seq ?_
            refine a_region ?_
            refine aops_cons rfl (w_pure rfl (p_move rfl) ?_)
            refine aops_cons rfl (w_pure rfl (p_move rfl) ?_)
            refine aops_cons rfl (w_callM rfl rfl rfl cl_64 (.cons (by repeat (first | exact Pick.here _ _ _ | apply Pick.next)) (.nil _)) (.cons (.refl _) (.cons (.refl _) .nil)) (c_laws_markHallOpS _ ops hl1 _ (by first | omega | (simp; done) | (simp; omega)) (by first | omega | (simp; done) | (simp; omega))) trivial ?_)
            rintro _ _ ⟨rfl, rfl⟩
            refine ⟨(closed_int _ _), (closedS_cons (closedAll _ _ _ _ cl_eHallOp) closedS_nil), ?_⟩
            refine aops_cons rfl (w_pure rfl (p_assign rfl) ?_)
            refine aops_nil ?_
            refine a_seq ?_
            refine a_seq ?_
            refine a_region ?_
            refine aops_cons rfl (w_pure rfl (p_move rfl) ?_)
            refine aops_cons rfl (w_pure rfl (p_lss rfl rfl) ?_)
            refine aops_cons rfl (w_pure rfl (p_move rfl) ?_)
            first | refine aops_split_d 83 rfl (fun h5 => ?_) (fun h6 => ?_) | refine aops_split 83 rfl (fun h5 => ?_) (fun h6 => ?_)
            · (try simp only [Bool.not_eq_true', Bool.not_eq_false', Bool.not_eq_true, Bool.not_eq_false, decide_eq_true_eq, decide_eq_false_iff_not, List.length_map, List.length_range] at h5)
              refine g_pass' rfl rfl rfl rfl rfl ?_
              refine g_pass' rfl rfl rfl rfl rfl ?_
              refine g_pass' rfl rfl rfl rfl rfl ?_
              refine g_pass' rfl rfl rfl rfl rfl ?_
              refine aops_cons rfl (w_pure rfl (p_pick_t rfl rfl) ?_)
              refine aops_cons rfl (w_pure rfl (p_move rfl) ?_)
              refine g_pass' rfl rfl rfl rfl rfl ?_
              refine g_pass' rfl rfl rfl rfl rfl ?_
              refine g_pass' rfl rfl rfl rfl rfl ?_
              refine g_pass' rfl rfl rfl rfl rfl ?_
              refine aops_cons rfl (w_pure rfl (p_pick_t rfl rfl) ?_)
              refine aops_cons rfl (w_pure rfl (p_move rfl) ?_)
              refine g_pass' rfl rfl rfl rfl rfl ?_
              refine g_pass' rfl rfl rfl rfl rfl ?_
              refine g_pass' rfl rfl rfl rfl rfl ?_
              refine aops_cons rfl (w_pure rfl (p_pick_t rfl rfl) ?_)
              refine aops_nil ?_
              refine a_cond_t rfl ?_
              refine a_seq ?_
              refine a_region ?_
              refine aops_cons rfl (w_pure rfl (p_assign rfl) ?_)
              refine aops_nil ?_
              refine a_ret ?_
              refine ret_ok (hands1 rfl (.tmp rfl)) (.nil _) ?_
              first | exact ⟨rfl, rfl⟩ | (exfalso; omega)
            · (try simp only [Bool.not_eq_true', Bool.not_eq_false', Bool.not_eq_true, Bool.not_eq_false, decide_eq_true_eq, decide_eq_false_iff_not, List.length_map, List.length_range] at h6)
              refine aops_guard_t rfl rfl rfl (w_pure rfl (p_load_box_all ag_62 rfl (by repeat (first | exact Pick.here _ _ _ | apply Pick.next)) (by rfl) noX) ?_)
              refine aops_guard_t rfl rfl rfl (w_pure rfl (p_load_box_all ag_62 rfl (by repeat (first | exact Pick.here _ _ _ | apply Pick.next)) (by rfl) noX) ?_)
              refine aops_guard_t rfl rfl rfl (w_callLR rfl rfl rfl cl_59 (.cons (.agg (.cons .nil (.cons .nil .nil))) (.cons (.agg (.cons .nil (.cons .nil .nil))) .nil)) (c_laws_eqHall (⟨[], []⟩ : Hall) (by first | decide | (simp; done) | exact ⟨by decide, by decide⟩)) (closed_bool _) ?_)
              refine aops_guard_t rfl rfl rfl (w_pure rfl (p_not rfl) ?_)
              refine aops_cons rfl (w_pure rfl (p_pick_f rfl rfl) ?_)
              refine aops_cons rfl (w_pure rfl (p_move rfl) ?_)
              refine aops_guard_t rfl rfl rfl (w_pure rfl (p_move rfl) ?_)
              refine aops_guard_t rfl rfl rfl (w_pure rfl (p_move rfl) ?_)
              refine aops_guard_t rfl rfl rfl (w_callLR rfl rfl rfl cl_29 (.cons .nil (.cons (.refl _) .nil)) (c_laws_eqIntS ([] : List Int) (by first | decide | (simp; done) | exact ⟨by decide, by decide⟩)) (closed_bool _) ?_)
              refine aops_guard_t rfl rfl rfl (w_pure rfl (p_not rfl) ?_)
              refine aops_cons rfl (w_pure rfl (p_pick_f rfl rfl) ?_)
              refine aops_cons rfl (w_pure rfl (p_move rfl) ?_)
              refine aops_guard_t rfl rfl rfl (w_pure rfl (p_move rfl) ?_)
              refine aops_guard_t rfl rfl rfl (w_pure rfl (p_move rfl) ?_)
              refine aops_guard_t rfl rfl rfl (w_pure rfl (p_neq_bsame um_4 rfl rfl) ?_)
              refine aops_cons rfl (w_pure rfl (p_pick_f rfl rfl) ?_)
              refine aops_nil ?_
              refine a_cond_f rfl ?_
              refine a_skip ?_
              refine a_seq ?_
              refine a_region ?_
              refine aops_cons rfl (w_pure rfl (p_assign rfl) ?_)
              refine aops_nil ?_
              refine a_seq ?_
              refine a_region ?_
              refine aops_cons rfl (w_pure rfl (p_load_box_all ag_62 rfl (by repeat (first | exact Pick.here _ _ _ | apply Pick.next)) (by rfl) noX) ?_)
              refine aops_cons rfl (w_pure rfl (p_move rfl) ?_)
              refine aops_cons rfl (w_callR rfl rfl rfl cl_63 (cn_laws_markHall ..) ?_)
              refine aops_cons rfl (w_pure rfl (p_assign rfl) ?_)
              refine aops_nil ?_
              refine a_seq ?_
              refine a_region ?_
              refine aops_cons rfl (w_pure rfl (p_move rfl) ?_)
              refine aops_cons rfl (w_pure rfl (p_move rfl) ?_)
              refine aops_cons rfl (w_callR rfl rfl rfl cl_30 (cn_laws_markIntS ..) ?_)
              refine aops_cons rfl (w_pure rfl (p_assign rfl) ?_)
              refine aops_nil ?_
              refine a_seq ?_
              refine a_region ?_
              refine aops_cons rfl (w_pure rfl (p_assign rfl) ?_)
              refine aops_nil ?_
              refine a_seq ?_
              refine a_region ?_
              refine aops_cons rfl (w_pure rfl (p_load_box_all ag_62 rfl (by repeat (first | exact Pick.here _ _ _ | apply Pick.next)) (by rfl) noX) ?_)
              refine aops_cons rfl (w_pure rfl (p_move rfl) ?_)
              refine aops_cons rfl (w_callLR rfl rfl rfl cl_65 (.cons (.agg (.cons .nil (.cons .nil .nil))) (.cons (.refl _) .nil)) (c_laws_heldHall (⟨[], []⟩ : Hall) (by first | decide | (simp; done) | exact ⟨by decide, by decide⟩) _ (by first | omega | (simp; done) | (simp; omega)) (by first | omega | (simp; done) | (simp; omega))) (closed_int _ _) ?_)
              refine aops_cons rfl (w_pure rfl (p_assign rfl) ?_)
              refine aops_nil ?_
              refine a_seq ?_
              refine a_seq ?_
              refine a_region ?_
              refine aops_cons rfl (w_pure rfl (p_move rfl) ?_)
              refine aops_cons rfl (w_pure rfl (p_lss rfl rfl) ?_)
              refine aops_nil ?_
              first | refine a_cond_d rfl (fun h7 => ?_) (fun h8 => ?_) | refine a_cond_n rfl (fun h7 => ?_) (fun h8 => ?_) | refine a_cond_nb rfl (fun h7 => ?_) (fun h8 => ?_) | refine a_cond rfl (fun h7 => ?_) (fun h8 => ?_)
              · (try simp only [Bool.not_eq_true', Bool.not_eq_false', Bool.not_eq_true, Bool.not_eq_false, decide_eq_true_eq, decide_eq_false_iff_not, List.length_map, List.length_range] at h7)
                refine a_seq ?_
                refine a_region ?_
                refine aops_cons rfl (w_pure rfl (p_assign rfl) ?_)
                refine aops_nil ?_
                refine a_ret ?_
                refine ret_ok (hands1 rfl (.tmp rfl)) (.nil _) ?_
                first | exact ⟨rfl, rfl⟩ | (exfalso; omega)
              · (try simp only [Bool.not_eq_true', Bool.not_eq_false', Bool.not_eq_true, Bool.not_eq_false, decide_eq_true_eq, decide_eq_false_iff_not, List.length_map, List.length_range] at h8)
                refine a_skip ?_
                refine a_seq ?_
                refine a_region ?_
                refine aops_cons rfl (w_pure rfl (p_move rfl) ?_)
                refine aops_cons rfl (w_pure rfl (p_move rfl) ?_)
                refine aops_cons rfl (w_callLR rfl rfl rfl cl_31 (.cons .nil (.cons (.refl _) .nil)) (c_laws_heldIntS 0 (by decide) _ (by first | omega | (simp; done) | (simp; omega)) (by first | omega | (simp; done) | (simp; omega))) (closed_int _ _) ?_)
                refine aops_cons rfl (w_pure rfl (p_assign rfl) ?_)
                refine aops_nil ?_
                refine a_seq ?_
                refine a_seq ?_
                refine a_region ?_
                refine aops_cons rfl (w_pure rfl (p_move rfl) ?_)
                refine aops_cons rfl (w_pure rfl (p_lss rfl rfl) ?_)
                refine aops_nil ?_
                first | refine a_cond_d rfl (fun h9 => ?_) (fun h10 => ?_) | refine a_cond_n rfl (fun h9 => ?_) (fun h10 => ?_) | refine a_cond_nb rfl (fun h9 => ?_) (fun h10 => ?_) | refine a_cond rfl (fun h9 => ?_) (fun h10 => ?_)
                · (try simp only [Bool.not_eq_true', Bool.not_eq_false', Bool.not_eq_true, Bool.not_eq_false, decide_eq_true_eq, decide_eq_false_iff_not, List.length_map, List.length_range] at h9)
                  refine a_seq ?_
                  refine a_region ?_
                  refine aops_cons rfl (w_pure rfl (p_assign rfl) ?_)
                  refine aops_nil ?_
                  refine a_ret ?_
                  refine ret_ok (hands1 rfl (.tmp rfl)) (.nil _) ?_
                  first | exact ⟨rfl, rfl⟩ | (exfalso; omega)
                · (try simp only [Bool.not_eq_true', Bool.not_eq_false', Bool.not_eq_true, Bool.not_eq_false, decide_eq_true_eq, decide_eq_false_iff_not, List.length_map, List.length_range] at h10)
                  refine a_skip ?_
                  refine a_seq ?_
                  refine a_seq ?_
                  refine a_region ?_
                  refine aops_cons rfl (w_pure rfl (p_move rfl) ?_)
                  refine aops_cons rfl (w_pure rfl (p_move rfl) ?_)
                  refine aops_cons rfl (w_pure rfl (p_neq_same rfl rfl) ?_)
                  refine aops_nil ?_
                  refine a_cond_f rfl ?_
                  refine a_skip ?_
                  refine a_seq ?_
                  refine a_region ?_
                  refine aops_cons rfl (w_pure rfl (p_load_v_all ag_56 rfl (by rfl) noX) ?_)
                  refine aops_cons rfl (w_callR rfl rfl rfl cl_56 (c_laws_toHall h hl0) ?_)
                  refine aops_cons rfl (w_pure rfl (p_move rfl) ?_)
                  refine aops_cons rfl (w_callR rfl rfl rfl cl_57 (c_laws_toHallOpS ops hl1) ?_)
                  refine aops_cons rfl (w_callR rfl rfl rfl cl_62 (cn_impl_RunHall h hl0 ops hl1 hA) ?_)
                  refine aops_cons rfl (w_pure rfl (p_move rfl) ?_)
                  refine aops_cons rfl (w_pure rfl (p_extract rfl rfl) ?_)
                  refine aops_cons rfl (w_pure rfl (p_extract rfl rfl) ?_)
                  refine aops_cons rfl (w_pure rfl (p_extract rfl rfl) ?_)
                  refine aops_cons rfl (w_alloc rfl z_62 fun b7 => ?_)
                  refine aops_cons rfl (w_store (cells' := [_, _]) rfl rfl rfl (by repeat (first | exact Pick.here _ _ _ | apply Pick.next)) cn_62 (by rfl) (by rfl) (by rfl) trivial ?_)
                  refine aops_cons rfl (w_pure rfl (p_assign rfl) ?_)
                  refine aops_cons rfl (w_pure rfl (p_assign rfl) ?_)
                  refine aops_nil ?_
                  refine a_seq ?_
                  refine a_seq ?_
                  refine a_region ?_
                  refine aops_cons rfl (w_pure rfl (p_load_box_all ag_62 rfl (by repeat (first | exact Pick.here _ _ _ | apply Pick.next)) (by rfl) noX) ?_)
                  refine aops_cons rfl (w_pure rfl (p_load_box_all ag_62 rfl (by repeat (first | exact Pick.here _ _ _ | apply Pick.next)) (by rfl) noX) ?_)
                  refine aops_cons rfl (w_callLR rfl rfl rfl cl_59 (.cons (.agg (.cons .nil (.cons .nil .nil))) (.cons (.agg (.cons .nil (.cons .nil .nil))) .nil)) (c_laws_eqHall (⟨[], []⟩ : Hall) (by first | decide | (simp; done) | exact ⟨by decide, by decide⟩)) (closed_bool _) ?_)
                  refine aops_cons rfl (w_pure rfl (p_not rfl) ?_)
                  refine aops_cons rfl (w_pure rfl (p_move rfl) ?_)
                  refine aops_guard_t rfl rfl rfl (w_pure rfl (p_move rfl) ?_)
                  refine aops_guard_t rfl rfl rfl (w_pure rfl (p_move rfl) ?_)
                  refine aops_guard_t rfl rfl rfl (w_callLR rfl rfl rfl cl_29 (.cons .nil (.cons (.refl _) .nil)) (c_laws_eqIntS ([] : List Int) (by first | decide | (simp; done) | exact ⟨by decide, by decide⟩)) (closed_bool _) ?_)
                  refine aops_guard_t rfl rfl rfl (w_pure rfl (p_not rfl) ?_)
                  refine aops_cons rfl (w_pure rfl (p_pick_f rfl rfl) ?_)
                  refine aops_cons rfl (w_pure rfl (p_move rfl) ?_)
                  refine aops_guard_t rfl rfl rfl (w_pure rfl (p_move rfl) ?_)
                  refine aops_guard_t rfl rfl rfl (w_pure rfl (p_move rfl) ?_)
                  refine aops_guard_t rfl rfl rfl (w_pure rfl (p_neq_bsame um_4 rfl rfl) ?_)
                  refine aops_cons rfl (w_pure rfl (p_pick_f rfl rfl) ?_)
                  refine aops_nil ?_
                  refine a_cond_f rfl ?_
                  refine a_skip ?_
                  refine a_seq ?_
                  refine a_region ?_
                  refine aops_cons rfl (w_pure rfl (p_assign rfl) ?_)
                  refine aops_nil ?_
                  refine a_seq ?_
                  refine a_region ?_
                  refine aops_cons rfl (w_pure rfl (p_load_box_all ag_62 rfl (by repeat (first | exact Pick.here _ _ _ | apply Pick.next)) (by rfl) noX) ?_)
                  refine aops_cons rfl (w_pure rfl (p_move rfl) ?_)
                  refine aops_cons rfl (w_callLR rfl rfl rfl cl_65 (.cons (.agg (.cons .nil (.cons .nil .nil))) (.cons (.refl _) .nil)) (c_laws_heldHall (⟨[], []⟩ : Hall) (by first | decide | (simp; done) | exact ⟨by decide, by decide⟩) _ (by first | omega | (simp; done) | (simp; omega)) (by first | omega | (simp; done) | (simp; omega))) (closed_int _ _) ?_)
                  refine aops_cons rfl (w_pure rfl (p_assign rfl) ?_)
                  refine aops_nil ?_
                  refine a_seq ?_
                  refine a_seq ?_
                  refine a_region ?_
                  refine aops_cons rfl (w_pure rfl (p_move rfl) ?_)
                  refine aops_cons rfl (w_pure rfl (p_lss rfl rfl) ?_)
                  refine aops_nil ?_
                  first | refine a_cond_d rfl (fun h11 => ?_) (fun h12 => ?_) | refine a_cond_n rfl (fun h11 => ?_) (fun h12 => ?_) | refine a_cond_nb rfl (fun h11 => ?_) (fun h12 => ?_) | refine a_cond rfl (fun h11 => ?_) (fun h12 => ?_)
                  · (try simp only [Bool.not_eq_true', Bool.not_eq_false', Bool.not_eq_true, Bool.not_eq_false, decide_eq_true_eq, decide_eq_false_iff_not, List.length_map, List.length_range] at h11)
                    refine a_seq ?_
                    refine a_region ?_
                    refine aops_cons rfl (w_pure rfl (p_assign rfl) ?_)
                    refine aops_nil ?_
                    refine a_ret ?_
                    refine ret_ok (hands1 rfl (.tmp rfl)) (.nil _) ?_
                    first | exact ⟨rfl, rfl⟩ | (exfalso; omega)
                  · (try simp only [Bool.not_eq_true', Bool.not_eq_false', Bool.not_eq_true, Bool.not_eq_false, decide_eq_true_eq, decide_eq_false_iff_not, List.length_map, List.length_range] at h12)
                    refine a_skip ?_
                    refine a_seq ?_
                    refine a_region ?_
                    refine aops_cons rfl (w_pure rfl (p_move rfl) ?_)
                    refine aops_cons rfl (w_pure rfl (p_move rfl) ?_)
                    refine aops_cons rfl (w_callLR rfl rfl rfl cl_31 (.cons .nil (.cons (.refl _) .nil)) (c_laws_heldIntS 0 (by decide) _ (by first | omega | (simp; done) | (simp; omega)) (by first | omega | (simp; done) | (simp; omega))) (closed_int _ _) ?_)
                    refine aops_cons rfl (w_pure rfl (p_assign rfl) ?_)
                    refine aops_nil ?_
                    refine a_seq ?_
                    refine a_seq ?_
                    refine a_region ?_
                    refine aops_cons rfl (w_pure rfl (p_move rfl) ?_)
                    refine aops_cons rfl (w_pure rfl (p_lss rfl rfl) ?_)
                    refine aops_nil ?_
                    first | refine a_cond_d rfl (fun h13 => ?_) (fun h14 => ?_) | refine a_cond_n rfl (fun h13 => ?_) (fun h14 => ?_) | refine a_cond_nb rfl (fun h13 => ?_) (fun h14 => ?_) | refine a_cond rfl (fun h13 => ?_) (fun h14 => ?_)
                    · (try simp only [Bool.not_eq_true', Bool.not_eq_false', Bool.not_eq_true, Bool.not_eq_false, decide_eq_true_eq, decide_eq_false_iff_not, List.length_map, List.length_range] at h13)
                      refine a_seq ?_
                      refine a_region ?_
                      refine aops_cons rfl (w_pure rfl (p_assign rfl) ?_)
                      refine aops_nil ?_
                      refine a_ret ?_
                      refine ret_ok (hands1 rfl (.tmp rfl)) (.nil _) ?_
                      first | exact ⟨rfl, rfl⟩ | (exfalso; omega)
                    · (try simp only [Bool.not_eq_true', Bool.not_eq_false', Bool.not_eq_true, Bool.not_eq_false, decide_eq_true_eq, decide_eq_false_iff_not, List.length_map, List.length_range] at h14)
                      refine a_skip ?_
                      refine a_seq ?_
                      refine a_seq ?_
                      refine a_region ?_
                      refine aops_cons rfl (w_pure rfl (p_move rfl) ?_)
                      refine aops_cons rfl (w_pure rfl (p_move rfl) ?_)
                      refine aops_cons rfl (w_pure rfl (p_neq_same rfl rfl) ?_)
                      refine aops_nil ?_
                      refine a_cond_f rfl ?_
                      refine a_skip ?_
                      refine a_seq ?_
                      refine a_region ?_
                      refine aops_cons rfl (w_pure rfl (p_assign rfl) ?_)
                      refine aops_nil ?_
                      refine a_ret ?_
                      refine ret_ok (hands1 rfl (.tmp rfl)) (.nil _) ?_
                      first | exact ⟨rfl, rfl⟩ | (exfalso; omega)
          exact all_nil
        exact all_nil

theorem cy_spec_WakesOf (h : Hall) (hn : SmallHall h) (ops : List HallOp) (hm : ops.length ≤ 1048576) (id : Int) (hA : GoodWk h ops id) : ACalls Try.prog 55 [.agg (eHall h), .sl (ops.map eHallOp), .int .i64 id] [] (Ret (.tup [.int .i64 (fin h ops id).woken, .int .i64 (fin h ops id).takes, .bool true])) := by
  have hnn := hn
  obtain ⟨hn1, hn2⟩ := hnn
  refine a_enter Try.func55 rfl rfl (fun w0 M0 => ?_)
  refine a_seq ?_
  refine a_region ?_
  refine aops_cons rfl (w_box_v rfl rfl rfl ?_)
  refine aops_cons rfl (w_pure rfl (p_assign rfl) ?_)
  refine aops_cons rfl (w_pure rfl (p_assign rfl) ?_)
  refine aops_cons rfl (w_pure rfl (p_assign rfl) ?_)
  refine aops_nil ?_
  refine a_seq ?_
  refine a_seq ?_
  refine a_region ?_
  refine aops_cons rfl (w_pure rfl (p_load_v_all ag_62 rfl (by rfl) noX) ?_)
  refine aops_cons rfl (w_pure rfl (p_move rfl) ?_)
  refine aops_cons rfl (w_callR rfl rfl rfl cl_103 (c_spec_l15Ops h (by assumption) _ (by omega)) ?_)
  refine aops_cons rfl (w_pure rfl (p_not rfl) ?_)
  refine aops_cons rfl (w_pure rfl (p_move rfl) ?_)
  first | refine aops_split_d 17 rfl (fun h1 => ?_) (fun h2 => ?_) | refine aops_split 17 rfl (fun h1 => ?_) (fun h2 => ?_)
  · (try simp only [Bool.not_eq_true', Bool.not_eq_false', Bool.not_eq_true, Bool.not_eq_false, decide_eq_true_eq, decide_eq_false_iff_not, List.length_map, List.length_range] at h1)
    refine g_pass' rfl rfl rfl rfl rfl ?_
    refine g_pass' rfl rfl rfl rfl rfl ?_
    refine g_pass' rfl rfl rfl rfl rfl ?_
    refine g_pass' rfl rfl rfl rfl rfl ?_
    refine aops_cons rfl (w_pure rfl (p_pick_t rfl rfl) ?_)
    refine aops_nil ?_
    refine a_cond_t rfl ?_
    refine a_seq ?_
    refine a_region ?_
    refine aops_cons rfl (w_pure rfl (p_assign rfl) ?_)
    refine aops_cons rfl (w_pure rfl (p_assign rfl) ?_)
    refine aops_cons rfl (w_pure rfl (p_assign rfl) ?_)
    refine aops_nil ?_
    refine a_ret ?_
    refine ret_ok (hands3 rfl (.tmp rfl) (.tmp rfl) (.tmp rfl)) (.nil _) ?_
    first | exact ⟨rfl, rfl⟩ | exact absurd hA.1 (by assumption) | (exfalso; have := hA.2; omega)
  · (try simp only [Bool.not_eq_true', Bool.not_eq_false', Bool.not_eq_true, Bool.not_eq_false, decide_eq_true_eq, decide_eq_false_iff_not, List.length_map, List.length_range] at h2)
    refine aops_guard_t rfl rfl rfl (w_pure rfl (p_load_v_all ag_62 rfl (by rfl) noX) ?_)
    refine aops_guard_t rfl rfl rfl (w_pure rfl (p_move rfl) ?_)
    refine aops_guard_t rfl rfl rfl (w_callR rfl rfl rfl cl_104 (c_spec_l15Find h (by assumption) _) ?_)
    refine aops_guard_t rfl rfl rfl (w_pure rfl (p_lss rfl rfl) ?_)
    refine aops_cons rfl (w_pure rfl (p_pick_f rfl rfl) ?_)
    refine aops_nil ?_
    first | refine a_cond_d rfl (fun h3 => ?_) (fun h4 => ?_) | refine a_cond_n rfl (fun h3 => ?_) (fun h4 => ?_) | refine a_cond_nb rfl (fun h3 => ?_) (fun h4 => ?_) | refine a_cond rfl (fun h3 => ?_) (fun h4 => ?_)
    · (try simp only [Bool.not_eq_true', Bool.not_eq_false', Bool.not_eq_true, Bool.not_eq_false, decide_eq_true_eq, decide_eq_false_iff_not, List.length_map, List.length_range] at h3)
      refine a_seq ?_
      refine a_region ?_
      refine aops_cons rfl (w_pure rfl (p_assign rfl) ?_)
      refine aops_cons rfl (w_pure rfl (p_assign rfl) ?_)
      refine aops_cons rfl (w_pure rfl (p_assign rfl) ?_)
      refine aops_nil ?_
      refine a_ret ?_
      refine ret_ok (hands3 rfl (.tmp rfl) (.tmp rfl) (.tmp rfl)) (.nil _) ?_
      first | exact ⟨rfl, rfl⟩ | exact absurd hA.1 (by assumption) | (exfalso; have := hA.2; omega)
    · (try simp only [Bool.not_eq_true', Bool.not_eq_false', Bool.not_eq_true, Bool.not_eq_false, decide_eq_true_eq, decide_eq_false_iff_not, List.length_map, List.length_range] at h4)
      refine a_skip ?_
      refine a_seq ?_
      refine a_region ?_
      refine aops_cons rfl (w_pure rfl (p_load_v_all ag_62 rfl (by rfl) noX) ?_)
      refine aops_cons rfl (w_pure rfl (p_move rfl) ?_)
      refine aops_cons rfl (w_pure rfl (p_move rfl) ?_)
      refine aops_cons rfl (w_callR rfl rfl rfl cl_105 (c_spec_l15Run h (by assumption) ops (by omega) id hA.1) ?_)
      refine aops_cons rfl (w_pure rfl (p_move rfl) ?_)
      refine aops_cons rfl (w_pure rfl (p_extract rfl rfl) ?_)
      refine aops_cons rfl (w_pure rfl (p_extract rfl rfl) ?_)
      refine aops_cons rfl (w_pure rfl (p_extract rfl rfl) ?_)
      refine aops_cons rfl (w_pure rfl (p_extract rfl rfl) ?_)
      refine aops_cons rfl (w_alloc rfl z_62 fun b1 => ?_)
      refine aops_cons rfl (w_store (cells' := [_, _]) rfl rfl rfl (by repeat (first | exact Pick.here _ _ _ | apply Pick.next)) cn_62 (by rfl) (by rfl) (by rfl) trivial ?_)
      refine aops_cons rfl (w_pure rfl (p_assign rfl) ?_)
      refine aops_cons rfl (w_pure rfl (p_assign rfl) ?_)
      refine aops_cons rfl (w_pure rfl (p_assign rfl) ?_)
      refine aops_nil ?_
      refine a_seq ?_
      refine a_region ?_
      refine aops_cons rfl (w_pure rfl (p_move rfl) ?_)
      refine aops_cons rfl (w_pure rfl (p_move rfl) ?_)
      refine aops_cons rfl (w_pure rfl (p_assign rfl) ?_)
      refine aops_cons rfl (w_pure rfl (p_assign rfl) ?_)
      refine aops_cons rfl (w_pure rfl (p_assign rfl) ?_)
      refine aops_nil ?_
      refine a_ret ?_
      refine ret_ok (hands3 rfl (.tmp rfl) (.tmp rfl) (.tmp rfl)) (.nil _) ?_
      first | exact ⟨rfl, rfl⟩ | exact absurd hA.1 (by assumption) | (exfalso; have := hA.2; omega)

theorem cn_spec_WakesOf (h : Hall) (hn : SmallHall h) (ops : List HallOp) (hm : ops.length ≤ 1048576) (id : Int) (hA : ¬ GoodWk h ops id) : ACalls Try.prog 55 [.agg (eHall h), .sl (ops.map eHallOp), .int .i64 id] [] (Ret (.tup [.int .i64 0, .int .i64 0, .bool false])) := by
  have hnn := hn
  obtain ⟨hn1, hn2⟩ := hnn
  refine a_enter Try.func55 rfl rfl (fun w0 M0 => ?_)
  refine a_seq ?_
  refine a_region ?_
  refine aops_cons rfl (w_box_v rfl rfl rfl ?_)
  refine aops_cons rfl (w_pure rfl (p_assign rfl) ?_)
  refine aops_cons rfl (w_pure rfl (p_assign rfl) ?_)
  refine aops_cons rfl (w_pure rfl (p_assign rfl) ?_)
  refine aops_nil ?_
  refine a_seq ?_
  refine a_seq ?_
  refine a_region ?_
  refine aops_cons rfl (w_pure rfl (p_load_v_all ag_62 rfl (by rfl) noX) ?_)
  refine aops_cons rfl (w_pure rfl (p_move rfl) ?_)
  refine aops_cons rfl (w_callR rfl rfl rfl cl_103 (c_spec_l15Ops h (by assumption) _ (by omega)) ?_)
  refine aops_cons rfl (w_pure rfl (p_not rfl) ?_)
  refine aops_cons rfl (w_pure rfl (p_move rfl) ?_)
  first | refine aops_split_d 17 rfl (fun h1 => ?_) (fun h2 => ?_) | refine aops_split 17 rfl (fun h1 => ?_) (fun h2 => ?_)
  · (try simp only [Bool.not_eq_true', Bool.not_eq_false', Bool.not_eq_true, Bool.not_eq_false, decide_eq_true_eq, decide_eq_false_iff_not, List.length_map, List.length_range] at h1)
    refine g_pass' rfl rfl rfl rfl rfl ?_
    refine g_pass' rfl rfl rfl rfl rfl ?_
    refine g_pass' rfl rfl rfl rfl rfl ?_
    refine g_pass' rfl rfl rfl rfl rfl ?_
    refine aops_cons rfl (w_pure rfl (p_pick_t rfl rfl) ?_)
    refine aops_nil ?_
    refine a_cond_t rfl ?_
    refine a_seq ?_
    refine a_region ?_
    refine aops_cons rfl (w_pure rfl (p_assign rfl) ?_)
    refine aops_cons rfl (w_pure rfl (p_assign rfl) ?_)
    refine aops_cons rfl (w_pure rfl (p_assign rfl) ?_)
    refine aops_nil ?_
    refine a_ret ?_
    refine ret_ok (hands3 rfl (.tmp rfl) (.tmp rfl) (.tmp rfl)) (.nil _) ?_
    exact ⟨rfl, rfl⟩
  · (try simp only [Bool.not_eq_true', Bool.not_eq_false', Bool.not_eq_true, Bool.not_eq_false, decide_eq_true_eq, decide_eq_false_iff_not, List.length_map, List.length_range] at h2)
    refine aops_guard_t rfl rfl rfl (w_pure rfl (p_load_v_all ag_62 rfl (by rfl) noX) ?_)
    refine aops_guard_t rfl rfl rfl (w_pure rfl (p_move rfl) ?_)
    refine aops_guard_t rfl rfl rfl (w_callR rfl rfl rfl cl_104 (c_spec_l15Find h (by assumption) _) ?_)
    refine aops_guard_t rfl rfl rfl (w_pure rfl (p_lss rfl rfl) ?_)
    refine aops_cons rfl (w_pure rfl (p_pick_f rfl rfl) ?_)
    refine aops_nil ?_
    first | refine a_cond_d rfl (fun h3 => ?_) (fun h4 => ?_) | refine a_cond_n rfl (fun h3 => ?_) (fun h4 => ?_) | refine a_cond_nb rfl (fun h3 => ?_) (fun h4 => ?_) | refine a_cond rfl (fun h3 => ?_) (fun h4 => ?_)
    · (try simp only [Bool.not_eq_true', Bool.not_eq_false', Bool.not_eq_true, Bool.not_eq_false, decide_eq_true_eq, decide_eq_false_iff_not, List.length_map, List.length_range] at h3)
      refine a_seq ?_
      refine a_region ?_
      refine aops_cons rfl (w_pure rfl (p_assign rfl) ?_)
      refine aops_cons rfl (w_pure rfl (p_assign rfl) ?_)
      refine aops_cons rfl (w_pure rfl (p_assign rfl) ?_)
      refine aops_nil ?_
      refine a_ret ?_
      refine ret_ok (hands3 rfl (.tmp rfl) (.tmp rfl) (.tmp rfl)) (.nil _) ?_
      exact ⟨rfl, rfl⟩
    · (try simp only [Bool.not_eq_true', Bool.not_eq_false', Bool.not_eq_true, Bool.not_eq_false, decide_eq_true_eq, decide_eq_false_iff_not, List.length_map, List.length_range] at h4)
      refine a_skip ?_
      refine a_seq ?_
      exact absurd (show GoodWk h ops id from ⟨by assumption, by omega⟩) hA

theorem cy_impl_WakesOf (h : Hall) (hn : SmallHall h) (ops : List HallOp) (hm : ops.length ≤ 1048576) (id : Int) (hA : GoodWk h ops id) : ACalls Try.prog 58 [.agg (eHall h), .sl (ops.map eHallOp), .int .i64 id] [] (Ret (.tup [.int .i64 (fin h ops id).woken, .int .i64 (fin h ops id).takes, .bool true])) := by
  have hnn := hn
  obtain ⟨hn1, hn2⟩ := hnn
  refine a_enter Try.func58 rfl rfl (fun w0 M0 => ?_)
  refine a_seq ?_
  refine a_region ?_
  refine aops_cons rfl (w_box_v rfl rfl rfl ?_)
  refine aops_cons rfl (w_pure rfl (p_assign rfl) ?_)
  refine aops_cons rfl (w_pure rfl (p_assign rfl) ?_)
  refine aops_cons rfl (w_pure rfl (p_assign rfl) ?_)
  refine aops_nil ?_
  refine a_seq ?_
  refine a_region ?_
  refine aops_cons rfl (w_pure rfl (p_load_v_all ag_62 rfl (by rfl) noX) ?_)
  refine aops_cons rfl (w_pure rfl (p_move rfl) ?_)
  refine aops_cons rfl (w_pure rfl (p_move rfl) ?_)
  refine aops_cons rfl (w_call rfl rfl rfl cl_108 (cy_impl_runHall h (by assumption) ops (by omega) id hA.1) ?_)
  rintro _ _ ⟨b1, b2, b3, rfl, rfl⟩
  refine aops_cons rfl (w_pure rfl (p_move rfl) ?_)
  refine aops_cons rfl (w_pure rfl (p_extract rfl rfl) ?_)
  refine aops_cons rfl (w_pure rfl (p_extract rfl rfl) ?_)
  refine aops_cons rfl (w_alloc rfl z_117 fun b4 => ?_)
  refine aops_cons rfl (w_store (cells' := [_, _, _, _, _]) rfl rfl rfl (by repeat (first | exact Pick.here _ _ _ | apply Pick.next)) cn_117 (by rfl) (by rfl) (by rfl) trivial ?_)
  refine aops_cons rfl (w_pure rfl (p_assign rfl) ?_)
  refine aops_nil ?_
  refine a_seq ?_
  refine a_seq ?_
  refine a_region ?_
  refine aops_cons rfl (w_pure rfl (p_move rfl) ?_)
  refine aops_cons rfl (w_pure rfl (p_not rfl) ?_)
  refine aops_cons rfl (w_pure rfl (p_move rfl) ?_)
  refine aops_guard_t rfl rfl rfl (w_pure rfl (p_field_v fo_62_0 rfl) ?_)
  refine aops_guard_t rfl rfl rfl (w_pure rfl (p_load_v ag_24 rfl (by rfl) noX) ?_)
  refine aops_guard_t rfl rfl rfl (w_pure rfl (p_move rfl) ?_)
  refine aops_guard_t rfl rfl rfl (w_callR rfl rfl rfl cl_109 (c_impl_vcpuIndex _ (by omega) _) ?_)
  refine aops_guard_t rfl rfl rfl (w_pure rfl (p_lss rfl rfl) ?_)
  refine aops_cons rfl (w_pure rfl (p_pick_f rfl rfl) ?_)
  refine aops_nil ?_
  first | refine a_cond_d rfl (fun h1 => ?_) (fun h2 => ?_) | refine a_cond_n rfl (fun h1 => ?_) (fun h2 => ?_) | refine a_cond_nb rfl (fun h1 => ?_) (fun h2 => ?_) | refine a_cond rfl (fun h1 => ?_) (fun h2 => ?_)
  · (try simp only [Bool.not_eq_true', Bool.not_eq_false', Bool.not_eq_true, Bool.not_eq_false, decide_eq_true_eq, decide_eq_false_iff_not, List.length_map, List.length_range] at h1)
    refine a_seq ?_
    refine a_region ?_
    refine aops_cons rfl (w_pure rfl (p_assign rfl) ?_)
    refine aops_cons rfl (w_pure rfl (p_assign rfl) ?_)
    refine aops_cons rfl (w_pure rfl (p_assign rfl) ?_)
    refine aops_nil ?_
    refine a_ret ?_
    refine ret_ok (hands3 rfl (.tmp rfl) (.tmp rfl) (.tmp rfl)) (.nil _) ?_
    first | (exfalso; have := hA.2; omega) | exact ⟨rfl, rfl⟩
  · (try simp only [Bool.not_eq_true', Bool.not_eq_false', Bool.not_eq_true, Bool.not_eq_false, decide_eq_true_eq, decide_eq_false_iff_not, List.length_map, List.length_range] at h2)
    refine a_skip ?_
    refine a_seq ?_
    refine a_draw [] (by kernel_rfl) ?_
    show ADraw _ _ _ _ _ _ 7 _ _ _ _
    refine d_take 0 rfl (by kernel_rfl) (by kernel_rfl) (by kernel_rfl) rfl (p_field_box fo_117_2 rfl) ?_
    refine d_load 1 rfl (by kernel_rfl) (by kernel_rfl) (by kernel_rfl) rfl (p_load_box ag_3 rfl (by repeat (first | exact Pick.here _ _ _ | apply Pick.next)) (by rfl) noX) ?_
    refine d_take 2 rfl (by kernel_rfl) (by kernel_rfl) (by kernel_rfl) rfl (p_field_box fo_117_3 rfl) ?_
    refine d_load 3 rfl (by kernel_rfl) (by kernel_rfl) (by kernel_rfl) rfl (p_load_box ag_3 rfl (by repeat (first | exact Pick.here _ _ _ | apply Pick.next)) (by rfl) noX) ?_
    refine d_take 4 rfl (by kernel_rfl) (by kernel_rfl) (by kernel_rfl) rfl (p_assign rfl) ?_
    refine d_take 5 rfl (by kernel_rfl) (by kernel_rfl) (by kernel_rfl) rfl (p_assign rfl) ?_
    refine d_take 6 rfl (by kernel_rfl) (by kernel_rfl) (by kernel_rfl) rfl (p_assign rfl) ?_
    refine draw_done (by kernel_rfl) ?_
    refine a_ret ?_
    refine ret_ok (hands3 rfl (.tmp rfl) (.tmp rfl) (.tmp rfl)) (.nil _) ?_
    first | (exfalso; have := hA.2; omega) | exact ⟨rfl, rfl⟩

theorem cn_impl_WakesOf (h : Hall) (hn : SmallHall h) (ops : List HallOp) (hm : ops.length ≤ 1048576) (id : Int) (hA : ¬ GoodWk h ops id) : ACalls Try.prog 58 [.agg (eHall h), .sl (ops.map eHallOp), .int .i64 id] [] (Ret (.tup [.int .i64 0, .int .i64 0, .bool false])) := by
  have hnn := hn
  obtain ⟨hn1, hn2⟩ := hnn
  by_cases hG : GoodOps h ops
  all_goals refine a_enter Try.func58 rfl rfl (fun w0 M0 => ?_)
  · skip
    refine a_seq ?_
    refine a_region ?_
    refine aops_cons rfl (w_box_v rfl rfl rfl ?_)
    refine aops_cons rfl (w_pure rfl (p_assign rfl) ?_)
    refine aops_cons rfl (w_pure rfl (p_assign rfl) ?_)
    refine aops_cons rfl (w_pure rfl (p_assign rfl) ?_)
    refine aops_nil ?_
    refine a_seq ?_
    refine a_region ?_
    refine aops_cons rfl (w_pure rfl (p_load_v_all ag_62 rfl (by rfl) noX) ?_)
    refine aops_cons rfl (w_pure rfl (p_move rfl) ?_)
    refine aops_cons rfl (w_pure rfl (p_move rfl) ?_)
    refine aops_cons rfl (w_call rfl rfl rfl cl_108 (cy_impl_runHall h (by assumption) ops (by omega) id hG) ?_)
    rintro _ _ ⟨b1, b2, b3, rfl, rfl⟩
    refine aops_cons rfl (w_pure rfl (p_move rfl) ?_)
    refine aops_cons rfl (w_pure rfl (p_extract rfl rfl) ?_)
    refine aops_cons rfl (w_pure rfl (p_extract rfl rfl) ?_)
    refine aops_cons rfl (w_alloc rfl z_117 fun b4 => ?_)
    refine aops_cons rfl (w_store (cells' := [_, _, _, _, _]) rfl rfl rfl (by repeat (first | exact Pick.here _ _ _ | apply Pick.next)) cn_117 (by rfl) (by rfl) (by rfl) trivial ?_)
    refine aops_cons rfl (w_pure rfl (p_assign rfl) ?_)
    refine aops_nil ?_
    refine a_seq ?_
    refine a_seq ?_
    refine a_region ?_
    refine aops_cons rfl (w_pure rfl (p_move rfl) ?_)
    refine aops_cons rfl (w_pure rfl (p_not rfl) ?_)
    refine aops_cons rfl (w_pure rfl (p_move rfl) ?_)
    refine aops_guard_t rfl rfl rfl (w_pure rfl (p_field_v fo_62_0 rfl) ?_)
    refine aops_guard_t rfl rfl rfl (w_pure rfl (p_load_v ag_24 rfl (by rfl) noX) ?_)
    refine aops_guard_t rfl rfl rfl (w_pure rfl (p_move rfl) ?_)
    refine aops_guard_t rfl rfl rfl (w_callR rfl rfl rfl cl_109 (c_impl_vcpuIndex _ (by omega) _) ?_)
    refine aops_guard_t rfl rfl rfl (w_pure rfl (p_lss rfl rfl) ?_)
    refine aops_cons rfl (w_pure rfl (p_pick_f rfl rfl) ?_)
    refine aops_nil ?_
    first | refine a_cond_d rfl (fun h1 => ?_) (fun h2 => ?_) | refine a_cond_n rfl (fun h1 => ?_) (fun h2 => ?_) | refine a_cond_nb rfl (fun h1 => ?_) (fun h2 => ?_) | refine a_cond rfl (fun h1 => ?_) (fun h2 => ?_)
    · (try simp only [Bool.not_eq_true', Bool.not_eq_false', Bool.not_eq_true, Bool.not_eq_false, decide_eq_true_eq, decide_eq_false_iff_not, List.length_map, List.length_range] at h1)
      refine a_seq ?_
      refine a_region ?_
      refine aops_cons rfl (w_pure rfl (p_assign rfl) ?_)
      refine aops_cons rfl (w_pure rfl (p_assign rfl) ?_)
      refine aops_cons rfl (w_pure rfl (p_assign rfl) ?_)
      refine aops_nil ?_
      refine a_ret ?_
      refine ret_ok (hands3 rfl (.tmp rfl) (.tmp rfl) (.tmp rfl)) (.nil _) ?_
      exact ⟨rfl, rfl⟩
    · (try simp only [Bool.not_eq_true', Bool.not_eq_false', Bool.not_eq_true, Bool.not_eq_false, decide_eq_true_eq, decide_eq_false_iff_not, List.length_map, List.length_range] at h2)
      refine a_skip ?_
      refine a_seq ?_
      exact absurd (show GoodWk h ops id from ⟨hG, by omega⟩) hA
  · skip
    refine a_seq ?_
    refine a_region ?_
    refine aops_cons rfl (w_box_v rfl rfl rfl ?_)
    refine aops_cons rfl (w_pure rfl (p_assign rfl) ?_)
    refine aops_cons rfl (w_pure rfl (p_assign rfl) ?_)
    refine aops_cons rfl (w_pure rfl (p_assign rfl) ?_)
    refine aops_nil ?_
    refine a_seq ?_
    refine a_region ?_
    refine aops_cons rfl (w_pure rfl (p_load_v_all ag_62 rfl (by rfl) noX) ?_)
    refine aops_cons rfl (w_pure rfl (p_move rfl) ?_)
    refine aops_cons rfl (w_pure rfl (p_move rfl) ?_)
    refine aops_cons rfl (w_callR rfl rfl rfl cl_108 (cn_impl_runHall h (by assumption) ops (by omega) id hG) ?_)
    refine aops_cons rfl (w_pure rfl (p_move rfl) ?_)
    refine aops_cons rfl (w_pure rfl (p_extract rfl rfl) ?_)
    refine aops_cons rfl (w_pure rfl (p_extract rfl rfl) ?_)
    refine aops_cons rfl (w_alloc rfl z_117 fun b1 => ?_)
    refine aops_cons rfl (w_store (cells' := [_, _, _, _, _]) rfl rfl rfl (by repeat (first | exact Pick.here _ _ _ | apply Pick.next)) cn_117 (by rfl) (by rfl) (by rfl) trivial ?_)
    refine aops_cons rfl (w_pure rfl (p_assign rfl) ?_)
    refine aops_nil ?_
    refine a_seq ?_
    refine a_seq ?_
    refine a_region ?_
    refine aops_cons rfl (w_pure rfl (p_move rfl) ?_)
    refine aops_cons rfl (w_pure rfl (p_not rfl) ?_)
    refine aops_cons rfl (w_pure rfl (p_move rfl) ?_)
    refine g_pass' rfl rfl rfl rfl rfl ?_
    refine g_pass' rfl rfl rfl rfl rfl ?_
    refine g_pass' rfl rfl rfl rfl rfl ?_
    refine g_pass' rfl rfl rfl rfl rfl ?_
    refine g_pass' rfl rfl rfl rfl rfl ?_
    refine aops_cons rfl (w_pure rfl (p_pick_t rfl rfl) ?_)
    refine aops_nil ?_
    refine a_cond_t rfl ?_
    refine a_seq ?_
    refine a_region ?_
    refine aops_cons rfl (w_pure rfl (p_assign rfl) ?_)
    refine aops_cons rfl (w_pure rfl (p_assign rfl) ?_)
    refine aops_cons rfl (w_pure rfl (p_assign rfl) ?_)
    refine aops_nil ?_
    refine a_ret ?_
    refine ret_ok (hands3 rfl (.tmp rfl) (.tmp rfl) (.tmp rfl)) (.nil _) ?_
    exact ⟨rfl, rfl⟩

set_option maxHeartbeats 2000000 in
theorem c_laws_FnExactWakesOf (h : Hall) (_hc0 : okHall h) (ops : List HallOp) (_hc1 : (∀ x ∈ ops, okHallOp x) ∧ ops.length ≤ maxLen) (id : Int) (_hc2 : InI id) : ACalls Try.prog 9 [.agg (eHall h), .sl (ops.map eHallOp), .int .i64 id] [] (Ret (.bool true)) := by
  have hm0 : h.list.length ≤ 9223372036854775807 ∧ h.events.length ≤ 9223372036854775807 := ⟨_hc0.1.2, _hc0.2.1.2⟩
  have hq0 : szHall h 1048576 ≤ 1048576 := szHall_ub (Int.le_refl _)
  have hm1 : ops.length ≤ 9223372036854775807 := _hc1.2
  by_cases hA : GoodWk h ops id
  all_goals refine a_enter Try.func9 rfl rfl (fun w0 M0 => ?_)
  · skip
    refine a_seq ?_
    refine a_region ?_
    refine aops_cons rfl (w_box_v rfl rfl rfl ?_)
    refine aops_cons rfl (w_pure rfl (p_assign rfl) ?_)
    refine aops_nil ?_
    refine a_seq ?_
    refine a_region ?_
    refine aops_cons rfl (w_pure rfl (p_assign rfl) ?_)
    refine aops_nil ?_
    refine a_seq ?_
    refine a_region ?_
    refine aops_cons rfl (w_pure rfl (p_load_v_all ag_56 rfl (by rfl) noX) ?_)
    refine aops_cons rfl (w_pure rfl (p_move rfl) ?_)
    refine aops_cons rfl (w_callR rfl rfl rfl cl_53 (c_laws_szHall _ (by assumption) _ (by omega) (by omega)) ?_)
    refine aops_cons rfl (w_pure rfl (p_assign rfl) ?_)
    refine aops_nil ?_
    refine a_seq ?_
    refine a_seq ?_
    refine a_region ?_
    refine aops_cons rfl (w_pure rfl (p_move rfl) ?_)
    refine aops_cons rfl (w_pure rfl (p_lss rfl rfl) ?_)
    refine aops_nil ?_
    first | refine a_cond_d rfl (fun h1 => ?_) (fun h2 => ?_) | refine a_cond_n rfl (fun h1 => ?_) (fun h2 => ?_) | refine a_cond_nb rfl (fun h1 => ?_) (fun h2 => ?_) | refine a_cond rfl (fun h1 => ?_) (fun h2 => ?_)
    · (try simp only [Bool.not_eq_true', Bool.not_eq_false', Bool.not_eq_true, Bool.not_eq_false, decide_eq_true_eq, decide_eq_false_iff_not, List.length_map, List.length_range] at h1)
      refine a_seq ?_
      refine a_region ?_
      refine aops_cons rfl (w_pure rfl (p_assign rfl) ?_)
      refine aops_nil ?_
      refine a_ret ?_
      refine ret_ok (hands1 rfl (.tmp rfl)) (.nil _) ?_
      first | exact ⟨rfl, rfl⟩ | (exfalso; omega)
    · (try simp only [Bool.not_eq_true', Bool.not_eq_false', Bool.not_eq_true, Bool.not_eq_false, decide_eq_true_eq, decide_eq_false_iff_not, List.length_map, List.length_range] at h2)
      refine a_skip ?_
      refine a_seq ?_
      refine a_region ?_
      refine aops_cons rfl (w_pure rfl (p_move rfl) ?_)
      refine aops_cons rfl (w_pure rfl (p_move rfl) ?_)
      refine aops_cons rfl (w_callR rfl rfl rfl cl_54 (c_laws_szHallOpS _ ‹_› _ (by omega) (by omega)) ?_)
      refine aops_cons rfl (w_pure rfl (p_assign rfl) ?_)
      refine aops_nil ?_
      refine a_seq ?_
      refine a_seq ?_
      refine a_region ?_
      refine aops_cons rfl (w_pure rfl (p_move rfl) ?_)
      refine aops_cons rfl (w_pure rfl (p_lss rfl rfl) ?_)
      refine aops_nil ?_
      first | refine a_cond_d rfl (fun h3 => ?_) (fun h4 => ?_) | refine a_cond_n rfl (fun h3 => ?_) (fun h4 => ?_) | refine a_cond_nb rfl (fun h3 => ?_) (fun h4 => ?_) | refine a_cond rfl (fun h3 => ?_) (fun h4 => ?_)
      · (try simp only [Bool.not_eq_true', Bool.not_eq_false', Bool.not_eq_true, Bool.not_eq_false, decide_eq_true_eq, decide_eq_false_iff_not, List.length_map, List.length_range] at h3)
        refine a_seq ?_
        refine a_region ?_
        refine aops_cons rfl (w_pure rfl (p_assign rfl) ?_)
        refine aops_nil ?_
        refine a_ret ?_
        refine ret_ok (hands1 rfl (.tmp rfl)) (.nil _) ?_
        first | exact ⟨rfl, rfl⟩ | (exfalso; omega)
      · (try simp only [Bool.not_eq_true', Bool.not_eq_false', Bool.not_eq_true, Bool.not_eq_false, decide_eq_true_eq, decide_eq_false_iff_not, List.length_map, List.length_range] at h4)
        refine a_skip ?_
        refine a_seq ?_
        have hl0 : SmallHall h := szHall_le (left := 1048576) (by omega) (by omega) ‹_›; have hz0_ := hl0; simp only [SmallHall] at hz0_; obtain ⟨hz0_0, hz0_1⟩ := hz0_; have hl1' : (ops.length : Int) ≤ (szHall h 1048576) := szv_le ‹_›; have hb1 := szv_b (n := ops.length) (left := (szHall h 1048576)) (by first | omega | exact Int.not_lt.1 ‹_›); have hl1 : ops.length ≤ 1048576 := (by omega)
        refine a_region ?_
        refine aops_cons rfl (w_pure rfl (p_load_v_all ag_56 rfl (by rfl) noX) ?_)
        refine aops_cons rfl (w_callR rfl rfl rfl cl_56 (c_laws_toHall h hl0) ?_)
        refine aops_cons rfl (w_pure rfl (p_move rfl) ?_)
        refine aops_cons rfl (w_callR rfl rfl rfl cl_57 (c_laws_toHallOpS ops hl1) ?_)
        refine aops_cons rfl (w_pure rfl (p_move rfl) ?_)
        refine aops_cons rfl (w_callR rfl rfl rfl cl_55 (cy_spec_WakesOf h hl0 ops hl1 id hA) ?_)
        refine aops_cons rfl (w_pure rfl (p_move rfl) ?_)
        refine aops_cons rfl (w_pure rfl (p_extract rfl rfl) ?_)
        refine aops_cons rfl (w_pure rfl (p_extract rfl rfl) ?_)
        refine aops_cons rfl (w_pure rfl (p_extract rfl rfl) ?_)
        refine aops_cons rfl (w_pure rfl (p_assign rfl) ?_)
        refine aops_cons rfl (w_pure rfl (p_assign rfl) ?_)
        refine aops_cons rfl (w_pure rfl (p_assign rfl) ?_)
        refine aops_nil ?_
        refine a_seq ?_
        refine a_region ?_
        refine aops_cons rfl (w_pure rfl (p_load_v_all ag_56 rfl (by rfl) noX) ?_)
        refine aops_cons rfl (w_callR rfl rfl rfl cl_56 (c_laws_toHall h hl0) ?_)
        refine aops_cons rfl (w_alloc rfl z_62 fun b1 => ?_)
        refine aops_cons rfl (w_store (cells' := [_, _]) rfl rfl rfl (by repeat (first | exact Pick.here _ _ _ | apply Pick.next)) cn_62 (by rfl) (by rfl) (by rfl) trivial ?_)
        refine aops_nil ?_
        refine a_seq ?_
        refine a_region ?_
        refine aops_cons rfl (w_pure rfl (p_move rfl) ?_)
        refine aops_cons rfl (w_callR rfl rfl rfl cl_57 (c_laws_toHallOpS ops hl1) ?_)
        refine aops_cons rfl (w_pure rfl (p_assign rfl) ?_)
        refine aops_nil ?_
        refine a_seq ?_
        refine a_region ?_
        refine aops_cons rfl (w_pure rfl (p_load_box_all ag_62 rfl (by repeat (first | exact Pick.here _ _ _ | apply Pick.next)) (by rfl) noX) ?_)
        refine aops_cons rfl (w_pure rfl (p_move rfl) ?_)
        refine aops_cons rfl (w_pure rfl (p_move rfl) ?_)
        refine aops_cons rfl (w_callR rfl rfl rfl cl_58 (cy_impl_WakesOf h hl0 ops hl1 id hA) ?_)
        refine aops_cons rfl (w_pure rfl (p_move rfl) ?_)
        refine aops_cons rfl (w_pure rfl (p_extract rfl rfl) ?_)
        refine aops_cons rfl (w_pure rfl (p_extract rfl rfl) ?_)
        refine aops_cons rfl (w_pure rfl (p_extract rfl rfl) ?_)
        refine aops_cons rfl (w_pure rfl (p_assign rfl) ?_)
        refine aops_cons rfl (w_pure rfl (p_assign rfl) ?_)
        refine aops_cons rfl (w_pure rfl (p_assign rfl) ?_)
        refine aops_nil ?_
        refine a_seq ?_
        refine a_seq ?_
        refine a_region ?_
        refine aops_cons rfl (w_pure rfl (p_move rfl) ?_)
        refine aops_cons rfl (w_pure rfl (p_move rfl) ?_)
        refine aops_cons rfl (w_pure rfl (p_neq_same rfl rfl) ?_)
        refine aops_cons rfl (w_pure rfl (p_move rfl) ?_)
        refine aops_guard_t rfl rfl rfl (w_pure rfl (p_move rfl) ?_)
        refine aops_guard_t rfl rfl rfl (w_pure rfl (p_move rfl) ?_)
        refine aops_guard_t rfl rfl rfl (w_pure rfl (p_neq_same rfl rfl) ?_)
        refine aops_cons rfl (w_pure rfl (p_pick_f rfl rfl) ?_)
        refine aops_cons rfl (w_pure rfl (p_move rfl) ?_)
        refine aops_guard_t rfl rfl rfl (w_pure rfl (p_move rfl) ?_)
        refine aops_guard_t rfl rfl rfl (w_pure rfl (p_move rfl) ?_)
        refine aops_guard_t rfl rfl rfl (w_pure rfl (p_neq_bsame um_4 rfl rfl) ?_)
        refine aops_cons rfl (w_pure rfl (p_pick_f rfl rfl) ?_)
        refine aops_nil ?_
        refine a_cond_f rfl ?_
        refine a_skip ?_
        refine a_seq ?_
        refine a_seq ?_
        refine a_draw [] (by kernel_rfl) ?_
        show ADraw _ _ _ _ _ _ 5 _ _ _ _
        refine d_load 0 rfl (by kernel_rfl) (by kernel_rfl) (by kernel_rfl) rfl (p_load_box_all ag_62 rfl (by repeat (first | exact Pick.here _ _ _ | apply Pick.next)) (by rfl) noX) ?_
        refine d_load 1 rfl (by kernel_rfl) (by kernel_rfl) (by kernel_rfl) rfl (p_load_v_all ag_56 rfl (by rfl) noX) ?_
        refine draw_all [2] (by kernel_rfl) (by simp) ?_
        refine all_cons rfl rfl ?_ ?_
        · skip
          refine w_callR rfl rfl rfl cl_56 (c_laws_toHall h hl0) ?_
          refine draw_all [3] (by kernel_rfl) (by simp) ?_
          refine all_cons rfl rfl ?_ ?_
          · skip
            refine w_callLR rfl rfl rfl cl_59 (.cons (.refl _) (.cons (.refl _) .nil)) (c_laws_eqHall h hl0) (closed_bool _) ?_
            refine d_take 4 rfl (by kernel_rfl) (by kernel_rfl) (by kernel_rfl) rfl (p_not rfl) ?_
            refine draw_done (by kernel_rfl) ?_
            refine a_cond_f rfl ?_
            refine a_skip ?_
            refine a_seq ?_
            refine a_seq ?_
            refine a_region ?_
            refine aops_cons rfl (w_pure rfl (p_move rfl) ?_)
            refine aops_cons rfl (w_pure rfl (p_move rfl) ?_)
            refine aops_cons rfl (w_callR rfl rfl rfl cl_57 (c_laws_toHallOpS ops hl1) ?_)
            refine aops_cons rfl (w_callLR rfl rfl rfl cl_60 (.cons (.refl _) (.cons (.refl _) .nil)) (c_laws_eqHallOpS ops hl1) (closed_bool _) ?_)
            refine aops_cons rfl (w_pure rfl (p_not rfl) ?_)
            refine aops_nil ?_
            refine a_cond_f rfl ?_
            refine a_skip ?_
            refine a_seq ?_
            refine a_region ?_
            refine aops_cons rfl (w_pure rfl (p_assign rfl) ?_)
            refine aops_nil ?_
            refine a_ret ?_
            refine ret_ok (hands1 rfl (.tmp rfl)) (.nil _) ?_
            first | exact ⟨rfl, rfl⟩ | (exfalso; omega)
          exact all_nil
        exact all_nil
  · skip
    refine a_seq ?_
    refine a_region ?_
    refine aops_cons rfl (w_box_v rfl rfl rfl ?_)
    refine aops_cons rfl (w_pure rfl (p_assign rfl) ?_)
    refine aops_nil ?_
    refine a_seq ?_
    refine a_region ?_
    refine aops_cons rfl (w_pure rfl (p_assign rfl) ?_)
    refine aops_nil ?_
    refine a_seq ?_
    refine a_region ?_
    refine aops_cons rfl (w_pure rfl (p_load_v_all ag_56 rfl (by rfl) noX) ?_)
    refine aops_cons rfl (w_pure rfl (p_move rfl) ?_)
    refine aops_cons rfl (w_callR rfl rfl rfl cl_53 (c_laws_szHall _ (by assumption) _ (by omega) (by omega)) ?_)
    refine aops_cons rfl (w_pure rfl (p_assign rfl) ?_)
    refine aops_nil ?_
    refine a_seq ?_
    refine a_seq ?_
    refine a_region ?_
    refine aops_cons rfl (w_pure rfl (p_move rfl) ?_)
    refine aops_cons rfl (w_pure rfl (p_lss rfl rfl) ?_)
    refine aops_nil ?_
    first | refine a_cond_d rfl (fun h1 => ?_) (fun h2 => ?_) | refine a_cond_n rfl (fun h1 => ?_) (fun h2 => ?_) | refine a_cond_nb rfl (fun h1 => ?_) (fun h2 => ?_) | refine a_cond rfl (fun h1 => ?_) (fun h2 => ?_)
    · (try simp only [Bool.not_eq_true', Bool.not_eq_false', Bool.not_eq_true, Bool.not_eq_false, decide_eq_true_eq, decide_eq_false_iff_not, List.length_map, List.length_range] at h1)
      refine a_seq ?_
      refine a_region ?_
      refine aops_cons rfl (w_pure rfl (p_assign rfl) ?_)
      refine aops_nil ?_
      refine a_ret ?_
      refine ret_ok (hands1 rfl (.tmp rfl)) (.nil _) ?_
      first | exact ⟨rfl, rfl⟩ | (exfalso; omega)
    · (try simp only [Bool.not_eq_true', Bool.not_eq_false', Bool.not_eq_true, Bool.not_eq_false, decide_eq_true_eq, decide_eq_false_iff_not, List.length_map, List.length_range] at h2)
      refine a_skip ?_
      refine a_seq ?_
      refine a_region ?_
      refine aops_cons rfl (w_pure rfl (p_move rfl) ?_)
      refine aops_cons rfl (w_pure rfl (p_move rfl) ?_)
      refine aops_cons rfl (w_callR rfl rfl rfl cl_54 (c_laws_szHallOpS _ ‹_› _ (by omega) (by omega)) ?_)
      refine aops_cons rfl (w_pure rfl (p_assign rfl) ?_)
      refine aops_nil ?_
      refine a_seq ?_
      refine a_seq ?_
      refine a_region ?_
      refine aops_cons rfl (w_pure rfl (p_move rfl) ?_)
      refine aops_cons rfl (w_pure rfl (p_lss rfl rfl) ?_)
      refine aops_nil ?_
      first | refine a_cond_d rfl (fun h3 => ?_) (fun h4 => ?_) | refine a_cond_n rfl (fun h3 => ?_) (fun h4 => ?_) | refine a_cond_nb rfl (fun h3 => ?_) (fun h4 => ?_) | refine a_cond rfl (fun h3 => ?_) (fun h4 => ?_)
      · (try simp only [Bool.not_eq_true', Bool.not_eq_false', Bool.not_eq_true, Bool.not_eq_false, decide_eq_true_eq, decide_eq_false_iff_not, List.length_map, List.length_range] at h3)
        refine a_seq ?_
        refine a_region ?_
        refine aops_cons rfl (w_pure rfl (p_assign rfl) ?_)
        refine aops_nil ?_
        refine a_ret ?_
        refine ret_ok (hands1 rfl (.tmp rfl)) (.nil _) ?_
        first | exact ⟨rfl, rfl⟩ | (exfalso; omega)
      · (try simp only [Bool.not_eq_true', Bool.not_eq_false', Bool.not_eq_true, Bool.not_eq_false, decide_eq_true_eq, decide_eq_false_iff_not, List.length_map, List.length_range] at h4)
        refine a_skip ?_
        refine a_seq ?_
        have hl0 : SmallHall h := szHall_le (left := 1048576) (by omega) (by omega) ‹_›; have hz0_ := hl0; simp only [SmallHall] at hz0_; obtain ⟨hz0_0, hz0_1⟩ := hz0_; have hl1' : (ops.length : Int) ≤ (szHall h 1048576) := szv_le ‹_›; have hb1 := szv_b (n := ops.length) (left := (szHall h 1048576)) (by first | omega | exact Int.not_lt.1 ‹_›); have hl1 : ops.length ≤ 1048576 := (by omega)
        refine a_region ?_
        refine aops_cons rfl (w_pure rfl (p_load_v_all ag_56 rfl (by rfl) noX) ?_)
        refine aops_cons rfl (w_callR rfl rfl rfl cl_56 (c_laws_toHall h hl0) ?_)
        refine aops_cons rfl (w_pure rfl (p_move rfl) ?_)
        refine aops_cons rfl (w_callR rfl rfl rfl cl_57 (c_laws_toHallOpS ops hl1) ?_)
        refine aops_cons rfl (w_pure rfl (p_move rfl) ?_)
        refine aops_cons rfl (w_callR rfl rfl rfl cl_55 (cn_spec_WakesOf h hl0 ops hl1 id hA) ?_)
        refine aops_cons rfl (w_pure rfl (p_move rfl) ?_)
        refine aops_cons rfl (w_pure rfl (p_extract rfl rfl) ?_)
        refine aops_cons rfl (w_pure rfl (p_extract rfl rfl) ?_)
        refine aops_cons rfl (w_pure rfl (p_extract rfl rfl) ?_)
        refine aops_cons rfl (w_pure rfl (p_assign rfl) ?_)
        refine aops_cons rfl (w_pure rfl (p_assign rfl) ?_)
        refine aops_cons rfl (w_pure rfl (p_assign rfl) ?_)
        refine aops_nil ?_
        refine a_seq ?_
        refine a_region ?_
        refine aops_cons rfl (w_pure rfl (p_load_v_all ag_56 rfl (by rfl) noX) ?_)
        refine aops_cons rfl (w_callR rfl rfl rfl cl_56 (c_laws_toHall h hl0) ?_)
        refine aops_cons rfl (w_alloc rfl z_62 fun b1 => ?_)
        refine aops_cons rfl (w_store (cells' := [_, _]) rfl rfl rfl (by repeat (first | exact Pick.here _ _ _ | apply Pick.next)) cn_62 (by rfl) (by rfl) (by rfl) trivial ?_)
        refine aops_nil ?_
        refine a_seq ?_
        refine a_region ?_
        refine aops_cons rfl (w_pure rfl (p_move rfl) ?_)
        refine aops_cons rfl (w_callR rfl rfl rfl cl_57 (c_laws_toHallOpS ops hl1) ?_)
        refine aops_cons rfl (w_pure rfl (p_assign rfl) ?_)
        refine aops_nil ?_
        refine a_seq ?_
        refine a_region ?_
        refine aops_cons rfl (w_pure rfl (p_load_box_all ag_62 rfl (by repeat (first | exact Pick.here _ _ _ | apply Pick.next)) (by rfl) noX) ?_)
        refine aops_cons rfl (w_pure rfl (p_move rfl) ?_)
        refine aops_cons rfl (w_pure rfl (p_move rfl) ?_)
        refine aops_cons rfl (w_callR rfl rfl rfl cl_58 (cn_impl_WakesOf h hl0 ops hl1 id hA) ?_)
        refine aops_cons rfl (w_pure rfl (p_move rfl) ?_)
        refine aops_cons rfl (w_pure rfl (p_extract rfl rfl) ?_)
        refine aops_cons rfl (w_pure rfl (p_extract rfl rfl) ?_)
        refine aops_cons rfl (w_pure rfl (p_extract rfl rfl) ?_)
        refine aops_cons rfl (w_pure rfl (p_assign rfl) ?_)
        refine aops_cons rfl (w_pure rfl (p_assign rfl) ?_)
        refine aops_cons rfl (w_pure rfl (p_assign rfl) ?_)
        refine aops_nil ?_
        refine a_seq ?_
        refine a_seq ?_
        refine a_region ?_
        refine aops_cons rfl (w_pure rfl (p_move rfl) ?_)
        refine aops_cons rfl (w_pure rfl (p_move rfl) ?_)
        refine aops_cons rfl (w_pure rfl (p_neq_same rfl rfl) ?_)
        refine aops_cons rfl (w_pure rfl (p_move rfl) ?_)
        refine aops_guard_t rfl rfl rfl (w_pure rfl (p_move rfl) ?_)
        refine aops_guard_t rfl rfl rfl (w_pure rfl (p_move rfl) ?_)
        refine aops_guard_t rfl rfl rfl (w_pure rfl (p_neq_same rfl rfl) ?_)
        refine aops_cons rfl (w_pure rfl (p_pick_f rfl rfl) ?_)
        refine aops_cons rfl (w_pure rfl (p_move rfl) ?_)
        refine aops_guard_t rfl rfl rfl (w_pure rfl (p_move rfl) ?_)
        refine aops_guard_t rfl rfl rfl (w_pure rfl (p_move rfl) ?_)
        refine aops_guard_t rfl rfl rfl (w_pure rfl (p_neq_bsame um_4 rfl rfl) ?_)
        refine aops_cons rfl (w_pure rfl (p_pick_f rfl rfl) ?_)
        refine aops_nil ?_
        refine a_cond_f rfl ?_
        refine a_skip ?_
        refine a_seq ?_
        refine a_seq ?_
        refine a_draw [] (by kernel_rfl) ?_
        show ADraw _ _ _ _ _ _ 5 _ _ _ _
        refine d_load 0 rfl (by kernel_rfl) (by kernel_rfl) (by kernel_rfl) rfl (p_load_box_all ag_62 rfl (by repeat (first | exact Pick.here _ _ _ | apply Pick.next)) (by rfl) noX) ?_
        refine d_load 1 rfl (by kernel_rfl) (by kernel_rfl) (by kernel_rfl) rfl (p_load_v_all ag_56 rfl (by rfl) noX) ?_
        refine draw_all [2] (by kernel_rfl) (by simp) ?_
        refine all_cons rfl rfl ?_ ?_
        · skip
          refine w_callR rfl rfl rfl cl_56 (c_laws_toHall h hl0) ?_
          refine draw_all [3] (by kernel_rfl) (by simp) ?_
          refine all_cons rfl rfl ?_ ?_
          · skip
            refine w_callLR rfl rfl rfl cl_59 (.cons (.refl _) (.cons (.refl _) .nil)) (c_laws_eqHall h hl0) (closed_bool _) ?_
            refine d_take 4 rfl (by kernel_rfl) (by kernel_rfl) (by kernel_rfl) rfl (p_not rfl) ?_
            refine draw_done (by kernel_rfl) ?_
            refine a_cond_f rfl ?_
            refine a_skip ?_
            refine a_seq ?_
            refine a_seq ?_
            refine a_region ?_
            refine aops_cons rfl (w_pure rfl (p_move rfl) ?_)
            refine aops_cons rfl (w_pure rfl (p_move rfl) ?_)
            refine aops_cons rfl (w_callR rfl rfl rfl cl_57 (c_laws_toHallOpS ops hl1) ?_)
            refine aops_cons rfl (w_callLR rfl rfl rfl cl_60 (.cons (.refl _) (.cons (.refl _) .nil)) (c_laws_eqHallOpS ops hl1) (closed_bool _) ?_)
            refine aops_cons rfl (w_pure rfl (p_not rfl) ?_)
            refine aops_nil ?_
            refine a_cond_f rfl ?_
            refine a_skip ?_
            refine a_seq ?_
            refine a_region ?_
            refine aops_cons rfl (w_pure rfl (p_assign rfl) ?_)
            refine aops_nil ?_
            refine a_ret ?_
            refine ret_ok (hands1 rfl (.tmp rfl)) (.nil _) ?_
            first | exact ⟨rfl, rfl⟩ | (exfalso; omega)
          exact all_nil
        exact all_nil

end Go.Proofs.Ytkgnhpilpmbheaa
