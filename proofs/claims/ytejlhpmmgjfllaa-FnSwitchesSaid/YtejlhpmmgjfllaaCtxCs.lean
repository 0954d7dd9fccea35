/-
  The walks of this part: each theorem is the contract of one function. Condition: none but those that it names.
-/
import Derived.Test.YtejlhpmmgjfllaaCtxCd
import Derived.Test.YtejlhpmmgjfllaaCtxCF
import Derived.Test.YtejlhpmmgjfllaaCtxA
import Derived.Test.YtejlhpmmgjfllaaCtxB
namespace Go.Proofs.Ytejlhpmmgjfllaa
open Go Go.Fw Go.Hv
attribute [local irreducible] awp Aops Aop ADraw ADrawAll ACalls
set_option maxRecDepth 4000
set_option linter.unusedSimpArgs false
set_option linter.unusedVariables false

theorem co_laws_toRegisters (p : Registers) (hn : SmallR p) : ACalls Try.prog 63 [.agg (eRegisters p)] [] (fun r st => ∃ b1, r = .agg [.own 1 b1 0 p.words.length, .int .i64 p.pc, .bool p.f, .bool p.g] ∧ st = [(b1, .arr 3 1 (p.words.map eInt))]) := by
  have hs := hn
  simp only [SmallR] at hs
  refine a_enter Try.func63 rfl rfl (fun w0 M0 => ?_)
  refine a_seq ?_
  refine a_region ?_
  refine aops_cons rfl (w_box_v rfl rfl rfl ?_)
  refine aops_cons rfl (w_alloc rfl z_30 fun b1 => ?_)
  refine aops_nil ?_
  refine a_seq ?_
  refine a_region ?_
  refine aops_cons rfl (w_alloc rfl z_30 fun b2 => ?_)
  refine aops_nil ?_
  refine a_seq ?_
  refine a_region ?_
  refine aops_cons rfl (w_pure rfl (p_field_v fo_24_0 rfl) ?_)
  refine aops_cons rfl (w_pure rfl (p_load_v ag_22 rfl (by rfl) noX) ?_)
  refine aops_cons rfl (w_call rfl rfl rfl cl_105 ((co_laws_toIntS _ (by first | omega | assumption)).mono fun _ _ h => h.len) ?_)
  rintro _ _ ⟨b3, rfl, rfl⟩
  refine aops_cons rfl (w_pure rfl (p_field_box fo_30_0 rfl) ?_)
  refine aops_cons rfl (w_store (cells' := [_, _, _, _]) rfl rfl rfl (by repeat (first | exact Pick.here _ _ _ | apply Pick.next)) cn_22 (by rfl) (by rfl) (by rfl) trivial ?_)
  refine aops_nil ?_
  refine a_seq ?_
  refine a_region ?_
  refine aops_cons rfl (w_pure rfl (p_field_v fo_24_1 rfl) ?_)
  refine aops_cons rfl (w_pure rfl (p_load_v ag_3 rfl (by rfl) noX) ?_)
  refine aops_cons rfl (w_pure rfl (p_field_box fo_30_1 rfl) ?_)
  refine aops_cons rfl (w_store (cells' := [_, _, _, _]) rfl rfl rfl (by repeat (first | exact Pick.here _ _ _ | apply Pick.next)) cn_3 (by rfl) (by rfl) (by rfl) trivial ?_)
  refine aops_nil ?_
  refine a_seq ?_
  refine a_region ?_
  refine aops_cons rfl (w_pure rfl (p_field_v fo_24_2 rfl) ?_)
  refine aops_cons rfl (w_pure rfl (p_load_v ag_4 rfl (by rfl) noX) ?_)
  refine aops_cons rfl (w_pure rfl (p_field_box fo_30_2 rfl) ?_)
  refine aops_cons rfl (w_store (cells' := [_, _, _, _]) rfl rfl rfl (by repeat (first | exact Pick.here _ _ _ | apply Pick.next)) cn_4 (by rfl) (by rfl) (by rfl) trivial ?_)
  refine aops_nil ?_
  refine a_seq ?_
  refine a_region ?_
  refine aops_cons rfl (w_pure rfl (p_field_v fo_24_3 rfl) ?_)
  refine aops_cons rfl (w_pure rfl (p_load_v ag_4 rfl (by rfl) noX) ?_)
  refine aops_cons rfl (w_pure rfl (p_field_box fo_30_3 rfl) ?_)
  refine aops_cons rfl (w_store (cells' := [_, _, _, _]) rfl rfl rfl (by repeat (first | exact Pick.here _ _ _ | apply Pick.next)) cn_4 (by rfl) (by rfl) (by rfl) trivial ?_)
  refine aops_nil ?_
  refine a_seq ?_
  refine a_region ?_
  refine aops_cons rfl (w_pure rfl (p_load_box_all ag_30 rfl (by repeat (first | exact Pick.here _ _ _ | apply Pick.next)) (by rfl) noX) ?_)
  refine aops_cons rfl (w_store (cells' := [_, _, _, _]) rfl rfl rfl (by repeat (first | exact Pick.here _ _ _ | apply Pick.next)) cn_30 (by rfl) (by rfl) (by rfl) trivial ?_)
  refine aops_nil ?_
  refine a_ret ?_
  refine ret_ok (hands1 rfl (.cell ag_30 rfl (by repeat (first | exact Pick.here _ _ _ | apply Pick.next)) (by rfl))) (st' := [(b3, _)]) (.cons (by repeat (first | exact Pick.here _ _ _ | apply Pick.next)) (.nil _)) ?_
  exact ⟨_, rfl, rfl⟩

theorem co_laws_toContext (p : Context) (hn : SmallC p) : ACalls Try.prog 14 [.agg (eContext p)] [] (fun r st => ∃ b1, r = .agg [.int .i64 p.id, .own 1 b1 0 p.regs.words.length, .int .i64 p.regs.pc, .bool p.regs.f, .bool p.regs.g, .int .i64 p.wait, .int .i64 p.pend] ∧ st = [(b1, .arr 3 1 (p.regs.words.map eInt))]) := by
  have hs := hn
  simp only [SmallC] at hs
  refine a_enter Try.func14 rfl rfl (fun w0 M0 => ?_)
  refine a_seq ?_
  refine a_region ?_
  refine aops_cons rfl (w_box_v rfl rfl rfl ?_)
  refine aops_cons rfl (w_alloc rfl z_32 fun b1 => ?_)
  refine aops_nil ?_
  refine a_seq ?_
  refine a_region ?_
  refine aops_cons rfl (w_alloc rfl z_32 fun b2 => ?_)
  refine aops_nil ?_
  refine a_seq ?_
  refine a_region ?_
  refine aops_cons rfl (w_pure rfl (p_field_v fo_26_0 rfl) ?_)
  refine aops_cons rfl (w_pure rfl (p_load_v ag_3 rfl (by rfl) noX) ?_)
  refine aops_cons rfl (w_pure rfl (p_field_box fo_32_0 rfl) ?_)
  refine aops_cons rfl (w_store (cells' := [_, _, _, _, _, _, _]) rfl rfl rfl (by repeat (first | exact Pick.here _ _ _ | apply Pick.next)) cn_3 (by rfl) (by rfl) (by rfl) trivial ?_)
  refine aops_nil ?_
  refine a_seq ?_
  refine a_region ?_
  refine aops_cons rfl (w_pure rfl (p_field_v fo_26_1 rfl) ?_)
  refine aops_cons rfl (w_pure rfl (p_load_v_agg (cs' := [_, _, _, _]) ag_24 rfl (by rfl) (by rfl) noX) ?_)
  refine aops_cons rfl (w_call rfl rfl rfl cl_63 (co_laws_toRegisters _ (by first | omega | assumption)) ?_)
  rintro _ _ ⟨b3, rfl, rfl⟩
  refine aops_cons rfl (w_pure rfl (p_field_box fo_32_1 rfl) ?_)
  refine aops_cons rfl (w_store (cells' := [_, _, _, _, _, _, _]) rfl rfl rfl (by repeat (first | exact Pick.here _ _ _ | apply Pick.next)) cn_30 (by rfl) (by rfl) (by rfl) trivial ?_)
  refine aops_nil ?_
  refine a_seq ?_
  refine a_region ?_
  refine aops_cons rfl (w_pure rfl (p_field_v fo_26_2 rfl) ?_)
  refine aops_cons rfl (w_pure rfl (p_load_v ag_3 rfl (by rfl) noX) ?_)
  refine aops_cons rfl (w_pure rfl (p_field_box fo_32_2 rfl) ?_)
  refine aops_cons rfl (w_store (cells' := [_, _, _, _, _, _, _]) rfl rfl rfl (by repeat (first | exact Pick.here _ _ _ | apply Pick.next)) cn_3 (by rfl) (by rfl) (by rfl) trivial ?_)
  refine aops_nil ?_
  refine a_seq ?_
  refine a_region ?_
  refine aops_cons rfl (w_pure rfl (p_field_v fo_26_3 rfl) ?_)
  refine aops_cons rfl (w_pure rfl (p_load_v ag_3 rfl (by rfl) noX) ?_)
  refine aops_cons rfl (w_pure rfl (p_field_box fo_32_3 rfl) ?_)
  refine aops_cons rfl (w_store (cells' := [_, _, _, _, _, _, _]) rfl rfl rfl (by repeat (first | exact Pick.here _ _ _ | apply Pick.next)) cn_3 (by rfl) (by rfl) (by rfl) trivial ?_)
  refine aops_nil ?_
  refine a_seq ?_
  refine a_region ?_
  refine aops_cons rfl (w_pure rfl (p_load_box_all ag_32 rfl (by repeat (first | exact Pick.here _ _ _ | apply Pick.next)) (by rfl) noX) ?_)
  refine aops_cons rfl (w_store (cells' := [_, _, _, _, _, _, _]) rfl rfl rfl (by repeat (first | exact Pick.here _ _ _ | apply Pick.next)) cn_32 (by rfl) (by rfl) (by rfl) trivial ?_)
  refine aops_nil ?_
  refine a_ret ?_
  refine ret_ok (hands1 rfl (.cell ag_32 rfl (by repeat (first | exact Pick.here _ _ _ | apply Pick.next)) (by rfl))) (st' := [(b3, _)]) (.cons (by repeat (first | exact Pick.here _ _ _ | apply Pick.next)) (.nil _)) ?_
  exact ⟨_, rfl, rfl⟩

theorem c_slices_Grow_int_int (n : Nat) (h0 : 0 < n) (h1 : n ≤ 1000) : ACalls Try.prog 116 [.nil, .int .i64 (n : Int)] [] (fun r st => ∃ b, r = .own 1 b 0 0 ∧ st = [(b, .arr 3 1 [])]) := by
  refine a_enter Try.func116 rfl rfl (fun w0 M0 => ?_)
  refine a_seq ?_
  refine a_region ?_
  refine aops_cons rfl (w_pure rfl (p_assign rfl) ?_)
  refine aops_nil ?_
  refine a_seq ?_
  refine a_seq ?_
  refine a_region ?_
  refine aops_cons rfl (w_pure rfl (p_move rfl) ?_)
  refine aops_cons rfl (w_pure rfl (p_lss rfl rfl) ?_)
  refine aops_nil ?_
  first | refine a_cond_d rfl (fun h1 => ?_) (fun h2 => ?_) | refine a_cond_n rfl (fun h1 => ?_) (fun h2 => ?_) | refine a_cond_nb rfl (fun h1 => ?_) (fun h2 => ?_) | refine a_cond rfl (fun h1 => ?_) (fun h2 => ?_)
  · (try simp only [Bool.not_eq_true', Bool.not_eq_false', Bool.not_eq_true, Bool.not_eq_false, decide_eq_true_eq, decide_eq_false_iff_not, List.length_map, List.length_range] at h1)
    exfalso; omega
  · (try simp only [Bool.not_eq_true', Bool.not_eq_false', Bool.not_eq_true, Bool.not_eq_false, decide_eq_true_eq, decide_eq_false_iff_not, List.length_map, List.length_range] at h2)
    refine a_skip ?_
    refine a_seq ?_
    refine a_seq ?_
    refine a_region ?_
    refine aops_cons rfl (w_pure rfl (p_move rfl) ?_)
    refine aops_cons rfl (w_pure rfl (p_move rfl) ?_)
    refine aops_cons rfl (w_pure rfl (p_cap_nil sl_22 rfl) ?_)
    refine aops_cons rfl (w_pure rfl (p_move rfl) ?_)
    refine aops_cons rfl (w_pure rfl (p_len sl_22 rfl rfl) ?_)
    refine aops_cons rfl (w_pure rfl (p_sub' rfl rfl ⟨by omega, by omega⟩) ?_)
    refine aops_cons rfl (w_pure rfl (p_sub' rfl rfl ⟨by omega, by omega⟩) ?_)
    refine aops_cons rfl (w_pure rfl (p_assign rfl) ?_)
    refine aops_nil ?_
    refine a_seq ?_
    refine a_region ?_
    refine aops_cons rfl (w_pure rfl (p_move rfl) ?_)
    refine aops_cons rfl (w_pure rfl (p_gtr rfl rfl) ?_)
    refine aops_nil ?_
    first | refine a_cond_d rfl (fun h3 => ?_) (fun h4 => ?_) | refine a_cond_n rfl (fun h3 => ?_) (fun h4 => ?_) | refine a_cond_nb rfl (fun h3 => ?_) (fun h4 => ?_) | refine a_cond rfl (fun h3 => ?_) (fun h4 => ?_)
    · (try simp only [Bool.not_eq_true', Bool.not_eq_false', Bool.not_eq_true, Bool.not_eq_false, decide_eq_true_eq, decide_eq_false_iff_not, List.length_map, List.length_range] at h3)
      refine a_region ?_
      refine aops_cons rfl (w_pure rfl (p_move rfl) ?_)
      refine aops_cons rfl (w_pure rfl (p_move rfl) ?_)
      refine aops_cons rfl (w_pure rfl (p_cap_nil sl_22 rfl) ?_)
      refine aops_cons rfl (w_pure rfl (p_slice_nil es_22 rfl (hi_some rfl rfl)) ?_)
      refine aops_cons rfl (w_pure rfl (p_move rfl) ?_)
      refine aops_cons rfl (w_grow n rfl el_22 um_3 rfl rfl (by omega) (by omega) (by omega) (by omega) fun b1 => ?_)
      refine aops_cons rfl (w_pure rfl (p_move rfl) ?_)
      refine aops_cons rfl (w_pure rfl (p_len sl_22 rfl rfl) ?_)
      refine aops_cons rfl (w_pure rfl (p_slice_own 0 es_22 rfl (hi_some rfl rfl) (Nat.zero_le _)) ?_)
      refine aops_cons rfl (w_pure rfl (p_assign rfl) ?_)
      refine aops_nil ?_
      refine a_seq ?_
      refine a_region ?_
      refine aops_cons rfl (w_pure rfl (p_move rfl) ?_)
      refine aops_cons rfl (w_pure rfl (p_assign rfl) ?_)
      refine aops_nil ?_
      refine a_ret ?_
      refine ret_ok (hands1 rfl (.tmp rfl)) (st' := [(b1, _)]) (.cons (by repeat (first | exact Pick.here _ _ _ | apply Pick.next)) (.nil _)) ?_
      first | (exfalso; omega) | exact ⟨b1, rfl, rfl⟩
    · (try simp only [Bool.not_eq_true', Bool.not_eq_false', Bool.not_eq_true, Bool.not_eq_false, decide_eq_true_eq, decide_eq_false_iff_not, List.length_map, List.length_range] at h4)
      refine a_skip ?_
      refine a_seq ?_
      refine a_region ?_
      refine aops_cons rfl (w_pure rfl (p_move rfl) ?_)
      refine aops_cons rfl (w_pure rfl (p_assign rfl) ?_)
      refine aops_nil ?_
      refine a_ret ?_
      refine ret_ok (hands1 rfl (.tmp rfl)) (.nil _) ?_
      first | (exfalso; omega) | exact ⟨b1, rfl, rfl⟩

theorem co_Concat (xss : List (List Int)) (h0 : 0 < lenT xss xss.length) (hb : ∀ i, i ≤ xss.length → 0 ≤ lenT xss i ∧ lenT xss i ≤ 1000) (hn : xss.length ≤ 1000) : ACalls Try.prog 106 [.sl (xss.map eInts)] [] (RetOwn 3 1 ((flatT xss xss.length).map eInt)) := by
  refine a_enter Try.func106 rfl rfl (fun w0 M0 => ?_)
  refine a_seq ?_
  refine a_region ?_
  refine aops_cons rfl (w_pure rfl (p_assign rfl) ?_)
  refine aops_nil ?_
  refine a_seq ?_
  refine a_region ?_
  refine aops_cons rfl (w_pure rfl (p_assign rfl) ?_)
  refine aops_nil ?_
  refine a_seq ?_
  refine a_seq ?_
  refine a_region ?_
  refine aops_cons rfl (w_pure rfl (p_move rfl) ?_)
  refine aops_cons rfl (w_pure rfl (p_len sl_54 rfl rfl) ?_)
  refine aops_cons rfl (w_pure rfl (p_move rfl) ?_)
  refine aops_nil ?_
  refine a_block ?_
  refine a_loop (ι := Nat × Int) (fun ⟨i, m⟩ => i ≤ xss.length ∧ m = lenT xss i) (fun ⟨i, m⟩ => [(11, .int .i64 (i : Int)), (3, .int .i64 m)]) (fun ⟨i, m⟩ => []) (fun ⟨i, m⟩ => xss.length - i) (0, 0) ⟨Nat.zero_le _, rfl⟩ (by repeat (first | exact Knows.nil | refine Knows.cons (by rfl) ?_)) (by repeat (first | exact Picks.nil _ | exact Pick.here _ _ _ | apply Pick.next | apply Picks.cons)) ?_
  rintro ⟨i, m⟩ ⟨hi, hM⟩
  replace hM : m = lenT xss i := hM; subst hM; have hbi := hb i hi
  have hbj := fun h : i < xss.length => hb (i + 1) h
  refine a_seq ?_
  refine a_region ?_
  refine aops_cons rfl (w_pure rfl (p_lss rfl rfl) ?_)
  refine aops_nil ?_
  refine a_seq ?_
  first | refine a_cond_d rfl (fun h1 => ?_) (fun h2 => ?_) | refine a_cond_n rfl (fun h1 => ?_) (fun h2 => ?_) | refine a_cond_nb rfl (fun h1 => ?_) (fun h2 => ?_) | refine a_cond rfl (fun h1 => ?_) (fun h2 => ?_)
  · (try simp only [Bool.not_eq_true', Bool.not_eq_false', Bool.not_eq_true, Bool.not_eq_false, decide_eq_true_eq, decide_eq_false_iff_not, List.length_map, List.length_range] at h1)
    refine a_skip ?_
    refine a_seq ?_
    refine a_block ?_
    refine a_seq ?_
    refine a_region ?_
    refine aops_cons rfl (w_pure rfl (p_index_sl _ rfl rfl rfl (rowD eInts xss ([] : List Int) (by omega)) es_54) ?_)
    refine aops_cons rfl (w_pure rfl (p_load_v ag_22 rfl (by rfl) noX) ?_)
    refine aops_cons rfl (w_pure rfl (p_assign rfl) ?_)
    refine aops_nil ?_
    refine a_seq ?_
    refine a_region ?_
    refine aops_cons rfl (w_pure rfl (p_move rfl) ?_)
    refine aops_cons rfl (w_pure rfl (p_move rfl) ?_)
    refine aops_cons rfl (w_pure rfl (p_len sl_22 rfl rfl) ?_)
    refine aops_cons rfl (w_pure rfl (p_add' rfl rfl ⟨by have := hbj (by omega); rw [lenT] at this; simp only [List.length_map]; omega, by have := hbj (by omega); rw [lenT] at this; simp only [List.length_map]; omega⟩) ?_)
    refine aops_cons rfl (w_pure rfl (p_assign rfl) ?_)
    refine aops_nil ?_
    refine a_seq ?_
    refine a_region ?_
    refine aops_cons rfl (w_pure rfl (p_move rfl) ?_)
    refine aops_cons rfl (w_pure rfl (p_lss rfl rfl) ?_)
    refine aops_nil ?_
    first | refine a_cond_d rfl (fun h3 => ?_) (fun h4 => ?_) | refine a_cond_n rfl (fun h3 => ?_) (fun h4 => ?_) | refine a_cond_nb rfl (fun h3 => ?_) (fun h4 => ?_) | refine a_cond rfl (fun h3 => ?_) (fun h4 => ?_)
    · (try simp only [Bool.not_eq_true', Bool.not_eq_false', Bool.not_eq_true, Bool.not_eq_false, decide_eq_true_eq, decide_eq_false_iff_not, List.length_map, List.length_range] at h3)
      exfalso; omega
    · (try simp only [Bool.not_eq_true', Bool.not_eq_false', Bool.not_eq_true, Bool.not_eq_false, decide_eq_true_eq, decide_eq_false_iff_not, List.length_map, List.length_range] at h4)
      refine a_skip ?_
      refine a_region ?_
      refine aops_cons rfl (w_pure rfl (p_add' rfl rfl ⟨by (try simp only [List.length_map, List.length_append, List.length_cons, List.length_nil]); omega, by (try simp only [List.length_map, List.length_append, List.length_cons, List.length_nil]); omega⟩) ?_)
      refine aops_cons rfl (w_pure rfl (p_move rfl) ?_)
      refine aops_nil ?_
      refine ⟨(i + 1, _), _, ?_, ?_, (by repeat (first | exact Knows.nil | refine Knows.cons (by rfl) ?_)), (by repeat (first | exact Back.refl _ _ | refine Back.cons (by rfl) ?_)), (by repeat (first | exact Picks.nil _ | exact Pick.here _ _ _ | apply Pick.next | apply Picks.cons))⟩
      · refine ⟨by omega, ?_⟩; rw [lenT, List.length_map]
      · (try dsimp only); omega
  · (try simp only [Bool.not_eq_true', Bool.not_eq_false', Bool.not_eq_true, Bool.not_eq_false, decide_eq_true_eq, decide_eq_false_iff_not, List.length_map, List.length_range] at h2)
    refine a_exit ?_
    refine a_seq ?_
    have hx : i = xss.length := (by omega)
    subst hx
    obtain ⟨n, hn2⟩ : ∃ n : Nat, lenT xss xss.length = (n : Int) := ⟨(lenT xss xss.length).toNat, by omega⟩
    have hb2 := hb xss.length (Nat.le_refl _)
    rw [hn2]
    refine a_region ?_
    refine aops_cons rfl (w_pure rfl (p_move rfl) ?_)
    refine aops_cons rfl (w_call rfl rfl rfl cl_116 (c_slices_Grow_int_int n (by omega) (by omega)) ?_)
    rintro _ _ ⟨b1, rfl, rfl⟩
    refine aops_cons rfl (w_pure rfl (p_assign rfl) ?_)
    refine aops_nil ?_
    refine a_seq ?_
    refine a_seq ?_
    refine a_region ?_
    refine aops_cons rfl (w_pure rfl (p_move rfl) ?_)
    refine aops_cons rfl (w_pure rfl (p_len sl_54 rfl rfl) ?_)
    refine aops_cons rfl (w_pure rfl (p_move rfl) ?_)
    refine aops_nil ?_
    refine a_block ?_
    refine a_loop (ι := Nat × Nat × List Int) (fun ⟨i, b, l⟩ => i ≤ xss.length ∧ l = flatT xss i) (fun ⟨i, b, l⟩ => [(27, .int .i64 (i : Int)), (6, .own 1 b 0 l.length)]) (fun ⟨i, b, l⟩ => [(b, .arr 3 1 (l.map eInt))]) (fun ⟨i, b, l⟩ => xss.length - i) (0, b1, []) ⟨Nat.zero_le _, rfl⟩ (by repeat (first | exact Knows.nil | refine Knows.cons (by rfl) ?_)) (by repeat (first | exact Picks.nil _ | exact Pick.here _ _ _ | apply Pick.next | apply Picks.cons)) ?_
    rintro ⟨i, b, l⟩ ⟨hi, hI⟩
    have hfl := flatT_len xss i; rw [← hI] at hfl; have hbi := hb i hi; have hbj := fun h : i < xss.length => hb (i + 1) h; have hbk : lenT xss (i + 1) = lenT xss i + ((xss.getD i []).length : Int) := rfl
    refine a_seq ?_
    refine a_region ?_
    refine aops_cons rfl (w_pure rfl (p_lss rfl rfl) ?_)
    refine aops_nil ?_
    refine a_seq ?_
    first | refine a_cond_d rfl (fun h5 => ?_) (fun h6 => ?_) | refine a_cond_n rfl (fun h5 => ?_) (fun h6 => ?_) | refine a_cond_nb rfl (fun h5 => ?_) (fun h6 => ?_) | refine a_cond rfl (fun h5 => ?_) (fun h6 => ?_)
    · (try simp only [Bool.not_eq_true', Bool.not_eq_false', Bool.not_eq_true, Bool.not_eq_false, decide_eq_true_eq, decide_eq_false_iff_not, List.length_map, List.length_range] at h5)
      refine a_skip ?_
      refine a_seq ?_
      refine a_block ?_
      refine a_seq ?_
      refine a_region ?_
      refine aops_cons rfl (w_pure rfl (p_index_sl _ rfl rfl rfl (rowD eInts xss ([] : List Int) (by omega)) es_54) ?_)
      refine aops_cons rfl (w_pure rfl (p_load_v ag_22 rfl (by rfl) noX) ?_)
      refine aops_cons rfl (w_pure rfl (p_assign rfl) ?_)
      refine aops_nil ?_
      refine a_region ?_
      refine aops_cons rfl (w_pure rfl (p_move rfl) ?_)
      refine aops_cons rfl (w_pure rfl (p_move rfl) ?_)
      refine aops_cons rfl (w_appendM eInt rfl el_22 rfl rfl (by repeat (first | exact Pick.here _ _ _ | apply Pick.next)) rfl (.sl _) (fun _ => rfl) (fun _ => rfl) (by have := hbj (by omega); omega) (by have := hbj (by omega); omega) trivial fun b2 => ?_)
      refine aops_cons rfl (w_pure rfl (p_assign rfl) ?_)
      refine aops_nil ?_
      refine a_region ?_
      refine aops_cons rfl (w_pure rfl (p_add' rfl rfl ⟨by (try simp only [List.length_map, List.length_append, List.length_cons, List.length_nil]); omega, by (try simp only [List.length_map, List.length_append, List.length_cons, List.length_nil]); omega⟩) ?_)
      refine aops_cons rfl (w_pure rfl (p_move rfl) ?_)
      refine aops_nil ?_
      refine ⟨(i + 1, _, _), _, ?_, ?_, (by repeat (first | exact Knows.nil | refine Knows.cons (by rfl) ?_)), (by repeat (first | exact Back.refl _ _ | refine Back.cons (by rfl) ?_)), (by repeat (first | exact Picks.nil _ | exact Pick.here _ _ _ | apply Pick.next | apply Picks.cons))⟩
      · refine ⟨by omega, ?_⟩; rw [flatT, ← hI]
      · (try dsimp only); omega
    · (try simp only [Bool.not_eq_true', Bool.not_eq_false', Bool.not_eq_true, Bool.not_eq_false, decide_eq_true_eq, decide_eq_false_iff_not, List.length_map, List.length_range] at h6)
      refine a_exit ?_
      refine a_seq ?_
      refine a_region ?_
      refine aops_cons rfl (w_pure rfl (p_move rfl) ?_)
      refine aops_cons rfl (w_pure rfl (p_assign rfl) ?_)
      refine aops_nil ?_
      refine a_ret ?_
      refine ret_ok (hands1 rfl (.tmp rfl)) (.cons (by repeat (first | exact Pick.here _ _ _ | apply Pick.next)) (.nil _)) ?_
      have hx : i = xss.length := (by omega); subst hx; subst hI; exact ⟨b, by rw [List.length_map], rfl⟩

theorem co_impl_imageOf (c : Context) (hn : SmallC c) (hA : IsContext c) : ACalls Try.prog 64 [.agg (eContext c)] [] (RetOwn 3 1 ((imageV c).map eInt)) := by
  have hn1 : c.regs.words.length ≤ 1048576 := hn
  have hw4 := hA.2.1.1
  have hlb : ∀ fl : Int, ∀ i, i ≤ [[2, c.id], c.regs.words, [c.regs.pc, fl, c.wait, c.pend]].length → 0 ≤ lenT [[2, c.id], c.regs.words, [c.regs.pc, fl, c.wait, c.pend]] i ∧ lenT [[2, c.id], c.regs.words, [c.regs.pc, fl, c.wait, c.pend]] i ≤ 1000 := (fun fl i hi => by have : i = 0 ∨ i = 1 ∨ i = 2 ∨ i = 3 := (by simp at hi; omega); rcases this with e | e | e | e <;> subst e <;> simp [lenT, hw4])
  refine a_enter Try.func64 rfl rfl (fun w0 M0 => ?_)
  refine a_seq ?_
  refine a_region ?_
  refine aops_cons rfl (w_box_v rfl rfl rfl ?_)
  refine aops_cons rfl (w_pure rfl (p_assign rfl) ?_)
  refine aops_nil ?_
  refine a_seq ?_
  refine a_region ?_
  refine aops_cons rfl (w_pure rfl (p_assign rfl) ?_)
  refine aops_nil ?_
  refine a_seq ?_
  refine a_seq ?_
  refine a_region ?_
  refine aops_cons rfl (w_pure rfl (p_field_v fo_32_1 rfl) ?_)
  refine aops_cons rfl (w_pure rfl (p_field_v fo_30_2 rfl) ?_)
  refine aops_cons rfl (w_pure rfl (p_load_v ag_4 rfl (by rfl) noX) ?_)
  refine aops_nil ?_
  first | refine a_cond_d rfl (fun h1 => ?_) (fun h2 => ?_) | refine a_cond_n rfl (fun h1 => ?_) (fun h2 => ?_) | refine a_cond_nb rfl (fun h1 => ?_) (fun h2 => ?_) | refine a_cond rfl (fun h1 => ?_) (fun h2 => ?_)
  · (try simp only [Bool.not_eq_true', Bool.not_eq_false', Bool.not_eq_true, Bool.not_eq_false, decide_eq_true_eq, decide_eq_false_iff_not, List.length_map, List.length_range] at h1)
    refine a_region ?_
    refine aops_cons rfl (w_pure rfl (p_move rfl) ?_)
    refine aops_cons rfl (w_pure rfl (p_add' rfl rfl ⟨by omega, by omega⟩) ?_)
    refine aops_cons rfl (w_pure rfl (p_assign rfl) ?_)
    refine aops_nil ?_
    refine a_seq ?_
    refine a_seq ?_
    refine a_region ?_
    refine aops_cons rfl (w_pure rfl (p_field_v fo_32_1 rfl) ?_)
    refine aops_cons rfl (w_pure rfl (p_field_v fo_30_3 rfl) ?_)
    refine aops_cons rfl (w_pure rfl (p_load_v ag_4 rfl (by rfl) noX) ?_)
    refine aops_nil ?_
    first | refine a_cond_d rfl (fun h3 => ?_) (fun h4 => ?_) | refine a_cond_n rfl (fun h3 => ?_) (fun h4 => ?_) | refine a_cond_nb rfl (fun h3 => ?_) (fun h4 => ?_) | refine a_cond rfl (fun h3 => ?_) (fun h4 => ?_)
    · (try simp only [Bool.not_eq_true', Bool.not_eq_false', Bool.not_eq_true, Bool.not_eq_false, decide_eq_true_eq, decide_eq_false_iff_not, List.length_map, List.length_range] at h3)
      refine a_region ?_
      refine aops_cons rfl (w_pure rfl (p_move rfl) ?_)
      refine aops_cons rfl (w_pure rfl (p_add' rfl rfl ⟨by omega, by omega⟩) ?_)
      refine aops_cons rfl (w_pure rfl (p_assign rfl) ?_)
      refine aops_nil ?_
      refine a_seq ?_
      refine a_region ?_
      refine aops_cons rfl (w_pure rfl (p_field_v fo_32_0 rfl) ?_)
      refine aops_cons rfl (w_pure rfl (p_load_v ag_3 rfl (by rfl) noX) ?_)
      refine aops_cons rfl (w_lit_vM eInt [_, _] rfl el_22 rfl rfl rfl rfl rfl ?_)
      refine aops_cons rfl (w_pure rfl (p_field_v fo_32_1 rfl) ?_)
      refine aops_cons rfl (w_pure rfl (p_field_v fo_30_0 rfl) ?_)
      refine aops_cons rfl (w_pure rfl (p_load_v ag_22 rfl (by rfl) noX) ?_)
      refine aops_cons rfl (w_pure rfl (p_field_v fo_32_1 rfl) ?_)
      refine aops_cons rfl (w_pure rfl (p_field_v fo_30_1 rfl) ?_)
      refine aops_cons rfl (w_pure rfl (p_load_v ag_3 rfl (by rfl) noX) ?_)
      refine aops_cons rfl (w_pure rfl (p_move rfl) ?_)
      refine aops_cons rfl (w_pure rfl (p_field_v fo_32_2 rfl) ?_)
      refine aops_cons rfl (w_pure rfl (p_load_v ag_3 rfl (by rfl) noX) ?_)
      refine aops_cons rfl (w_pure rfl (p_field_v fo_32_3 rfl) ?_)
      refine aops_cons rfl (w_pure rfl (p_load_v ag_3 rfl (by rfl) noX) ?_)
      refine aops_cons rfl (w_lit_vM eInt [_, _, _, _] rfl el_22 rfl rfl rfl rfl rfl ?_)
      refine aops_cons rfl (w_lit_vM eInts [_, _, _] rfl el_54 rfl rfl rfl rfl rfl ?_)
      refine aops_cons rfl (w_call rfl rfl rfl cl_106 ((co_Concat _ (by simp [lenT, hw4] <;> omega) (hlb _) (by simp)).mono fun _ _ h => h.len) ?_)
      rintro _ _ ⟨b1, rfl, rfl⟩
      first | rw [show flatT [[2, c.id], c.regs.words, [c.regs.pc, 0, c.wait, c.pend]] [[2, c.id], c.regs.words, [c.regs.pc, 0, c.wait, c.pend]].length = wordsV c from flat_fl c 0 (by simp [flagsV, *])] | rw [show flatT [[2, c.id], c.regs.words, [c.regs.pc, (0 + 1), c.wait, c.pend]] [[2, c.id], c.regs.words, [c.regs.pc, (0 + 1), c.wait, c.pend]].length = wordsV c from flat_fl c (0 + 1) (by simp [flagsV, *])] | rw [show flatT [[2, c.id], c.regs.words, [c.regs.pc, (0 + 2), c.wait, c.pend]] [[2, c.id], c.regs.words, [c.regs.pc, (0 + 2), c.wait, c.pend]].length = wordsV c from flat_fl c (0 + 2) (by simp [flagsV, *])] | rw [show flatT [[2, c.id], c.regs.words, [c.regs.pc, (0 + 1 + 2), c.wait, c.pend]] [[2, c.id], c.regs.words, [c.regs.pc, (0 + 1 + 2), c.wait, c.pend]].length = wordsV c from flat_fl c (0 + 1 + 2) (by simp [flagsV, *])]
      have hwl := words_len hA
      refine aops_cons rfl (w_pure rfl (p_assign rfl) ?_)
      refine aops_nil ?_
      refine a_seq ?_
      refine a_region ?_
      refine aops_cons rfl (w_pure rfl (p_move rfl) ?_)
      refine aops_cons rfl (w_pure rfl (p_move rfl) ?_)
      refine aops_cons rfl (w_callLR rfl rfl rfl cl_85 (.cons (.own (by repeat (first | exact List.Mem.head _ | apply List.Mem.tail)) (by first | (simp; done) | (simp; assumption) | (simp; omega) | (simp [mkL]; done))) .nil) (c_impl_checkWord (wordsV c) (by rw [words_len hA]; omega) (words_ok hA)) (closed_int _ _) ?_)
      refine aops_cons rfl (w_lit_vM eInt [_] rfl el_22 rfl rfl rfl rfl rfl ?_)
      refine aops_cons rfl (w_appendM eInt rfl el_22 rfl rfl (by repeat (first | exact Pick.here _ _ _ | apply Pick.next)) rfl (.sl _) (fun _ => rfl) (fun _ => rfl) (by simp; omega) (by simp; omega) trivial fun b2 => ?_)
      refine aops_cons rfl (w_pure rfl (p_assign rfl) ?_)
      refine aops_nil ?_
      refine a_ret ?_
      refine ret_ok (hands1 rfl (.tmp rfl)) (.cons (by repeat (first | exact Pick.here _ _ _ | apply Pick.next)) (.nil _)) ?_
      refine ⟨_, ?_, rfl⟩; simp [imageV]
    · (try simp only [Bool.not_eq_true', Bool.not_eq_false', Bool.not_eq_true, Bool.not_eq_false, decide_eq_true_eq, decide_eq_false_iff_not, List.length_map, List.length_range] at h4)
      refine a_skip ?_
      refine a_seq ?_
      refine a_region ?_
      refine aops_cons rfl (w_pure rfl (p_field_v fo_32_0 rfl) ?_)
      refine aops_cons rfl (w_pure rfl (p_load_v ag_3 rfl (by rfl) noX) ?_)
      refine aops_cons rfl (w_lit_vM eInt [_, _] rfl el_22 rfl rfl rfl rfl rfl ?_)
      refine aops_cons rfl (w_pure rfl (p_field_v fo_32_1 rfl) ?_)
      refine aops_cons rfl (w_pure rfl (p_field_v fo_30_0 rfl) ?_)
      refine aops_cons rfl (w_pure rfl (p_load_v ag_22 rfl (by rfl) noX) ?_)
      refine aops_cons rfl (w_pure rfl (p_field_v fo_32_1 rfl) ?_)
      refine aops_cons rfl (w_pure rfl (p_field_v fo_30_1 rfl) ?_)
      refine aops_cons rfl (w_pure rfl (p_load_v ag_3 rfl (by rfl) noX) ?_)
      refine aops_cons rfl (w_pure rfl (p_move rfl) ?_)
      refine aops_cons rfl (w_pure rfl (p_field_v fo_32_2 rfl) ?_)
      refine aops_cons rfl (w_pure rfl (p_load_v ag_3 rfl (by rfl) noX) ?_)
      refine aops_cons rfl (w_pure rfl (p_field_v fo_32_3 rfl) ?_)
      refine aops_cons rfl (w_pure rfl (p_load_v ag_3 rfl (by rfl) noX) ?_)
      refine aops_cons rfl (w_lit_vM eInt [_, _, _, _] rfl el_22 rfl rfl rfl rfl rfl ?_)
      refine aops_cons rfl (w_lit_vM eInts [_, _, _] rfl el_54 rfl rfl rfl rfl rfl ?_)
      refine aops_cons rfl (w_call rfl rfl rfl cl_106 ((co_Concat _ (by simp [lenT, hw4] <;> omega) (hlb _) (by simp)).mono fun _ _ h => h.len) ?_)
      rintro _ _ ⟨b3, rfl, rfl⟩
      first | rw [show flatT [[2, c.id], c.regs.words, [c.regs.pc, 0, c.wait, c.pend]] [[2, c.id], c.regs.words, [c.regs.pc, 0, c.wait, c.pend]].length = wordsV c from flat_fl c 0 (by simp [flagsV, *])] | rw [show flatT [[2, c.id], c.regs.words, [c.regs.pc, (0 + 1), c.wait, c.pend]] [[2, c.id], c.regs.words, [c.regs.pc, (0 + 1), c.wait, c.pend]].length = wordsV c from flat_fl c (0 + 1) (by simp [flagsV, *])] | rw [show flatT [[2, c.id], c.regs.words, [c.regs.pc, (0 + 2), c.wait, c.pend]] [[2, c.id], c.regs.words, [c.regs.pc, (0 + 2), c.wait, c.pend]].length = wordsV c from flat_fl c (0 + 2) (by simp [flagsV, *])] | rw [show flatT [[2, c.id], c.regs.words, [c.regs.pc, (0 + 1 + 2), c.wait, c.pend]] [[2, c.id], c.regs.words, [c.regs.pc, (0 + 1 + 2), c.wait, c.pend]].length = wordsV c from flat_fl c (0 + 1 + 2) (by simp [flagsV, *])]
      have hwl := words_len hA
      refine aops_cons rfl (w_pure rfl (p_assign rfl) ?_)
      refine aops_nil ?_
      refine a_seq ?_
      refine a_region ?_
      refine aops_cons rfl (w_pure rfl (p_move rfl) ?_)
      refine aops_cons rfl (w_pure rfl (p_move rfl) ?_)
      refine aops_cons rfl (w_callLR rfl rfl rfl cl_85 (.cons (.own (by repeat (first | exact List.Mem.head _ | apply List.Mem.tail)) (by first | (simp; done) | (simp; assumption) | (simp; omega) | (simp [mkL]; done))) .nil) (c_impl_checkWord (wordsV c) (by rw [words_len hA]; omega) (words_ok hA)) (closed_int _ _) ?_)
      refine aops_cons rfl (w_lit_vM eInt [_] rfl el_22 rfl rfl rfl rfl rfl ?_)
      refine aops_cons rfl (w_appendM eInt rfl el_22 rfl rfl (by repeat (first | exact Pick.here _ _ _ | apply Pick.next)) rfl (.sl _) (fun _ => rfl) (fun _ => rfl) (by simp; omega) (by simp; omega) trivial fun b4 => ?_)
      refine aops_cons rfl (w_pure rfl (p_assign rfl) ?_)
      refine aops_nil ?_
      refine a_ret ?_
      refine ret_ok (hands1 rfl (.tmp rfl)) (.cons (by repeat (first | exact Pick.here _ _ _ | apply Pick.next)) (.nil _)) ?_
      refine ⟨_, ?_, rfl⟩; simp [imageV]
  · (try simp only [Bool.not_eq_true', Bool.not_eq_false', Bool.not_eq_true, Bool.not_eq_false, decide_eq_true_eq, decide_eq_false_iff_not, List.length_map, List.length_range] at h2)
    refine a_skip ?_
    refine a_seq ?_
    refine a_seq ?_
    refine a_region ?_
    refine aops_cons rfl (w_pure rfl (p_field_v fo_32_1 rfl) ?_)
    refine aops_cons rfl (w_pure rfl (p_field_v fo_30_3 rfl) ?_)
    refine aops_cons rfl (w_pure rfl (p_load_v ag_4 rfl (by rfl) noX) ?_)
    refine aops_nil ?_
    first | refine a_cond_d rfl (fun h5 => ?_) (fun h6 => ?_) | refine a_cond_n rfl (fun h5 => ?_) (fun h6 => ?_) | refine a_cond_nb rfl (fun h5 => ?_) (fun h6 => ?_) | refine a_cond rfl (fun h5 => ?_) (fun h6 => ?_)
    · (try simp only [Bool.not_eq_true', Bool.not_eq_false', Bool.not_eq_true, Bool.not_eq_false, decide_eq_true_eq, decide_eq_false_iff_not, List.length_map, List.length_range] at h5)
      refine a_region ?_
      refine aops_cons rfl (w_pure rfl (p_move rfl) ?_)
      refine aops_cons rfl (w_pure rfl (p_add' rfl rfl ⟨by omega, by omega⟩) ?_)
      refine aops_cons rfl (w_pure rfl (p_assign rfl) ?_)
      refine aops_nil ?_
      refine a_seq ?_
      refine a_region ?_
      refine aops_cons rfl (w_pure rfl (p_field_v fo_32_0 rfl) ?_)
      refine aops_cons rfl (w_pure rfl (p_load_v ag_3 rfl (by rfl) noX) ?_)
      refine aops_cons rfl (w_lit_vM eInt [_, _] rfl el_22 rfl rfl rfl rfl rfl ?_)
      refine aops_cons rfl (w_pure rfl (p_field_v fo_32_1 rfl) ?_)
      refine aops_cons rfl (w_pure rfl (p_field_v fo_30_0 rfl) ?_)
      refine aops_cons rfl (w_pure rfl (p_load_v ag_22 rfl (by rfl) noX) ?_)
      refine aops_cons rfl (w_pure rfl (p_field_v fo_32_1 rfl) ?_)
      refine aops_cons rfl (w_pure rfl (p_field_v fo_30_1 rfl) ?_)
      refine aops_cons rfl (w_pure rfl (p_load_v ag_3 rfl (by rfl) noX) ?_)
      refine aops_cons rfl (w_pure rfl (p_move rfl) ?_)
      refine aops_cons rfl (w_pure rfl (p_field_v fo_32_2 rfl) ?_)
      refine aops_cons rfl (w_pure rfl (p_load_v ag_3 rfl (by rfl) noX) ?_)
      refine aops_cons rfl (w_pure rfl (p_field_v fo_32_3 rfl) ?_)
      refine aops_cons rfl (w_pure rfl (p_load_v ag_3 rfl (by rfl) noX) ?_)
      refine aops_cons rfl (w_lit_vM eInt [_, _, _, _] rfl el_22 rfl rfl rfl rfl rfl ?_)
      refine aops_cons rfl (w_lit_vM eInts [_, _, _] rfl el_54 rfl rfl rfl rfl rfl ?_)
      refine aops_cons rfl (w_call rfl rfl rfl cl_106 ((co_Concat _ (by simp [lenT, hw4] <;> omega) (hlb _) (by simp)).mono fun _ _ h => h.len) ?_)
      rintro _ _ ⟨b5, rfl, rfl⟩
      first | rw [show flatT [[2, c.id], c.regs.words, [c.regs.pc, 0, c.wait, c.pend]] [[2, c.id], c.regs.words, [c.regs.pc, 0, c.wait, c.pend]].length = wordsV c from flat_fl c 0 (by simp [flagsV, *])] | rw [show flatT [[2, c.id], c.regs.words, [c.regs.pc, (0 + 1), c.wait, c.pend]] [[2, c.id], c.regs.words, [c.regs.pc, (0 + 1), c.wait, c.pend]].length = wordsV c from flat_fl c (0 + 1) (by simp [flagsV, *])] | rw [show flatT [[2, c.id], c.regs.words, [c.regs.pc, (0 + 2), c.wait, c.pend]] [[2, c.id], c.regs.words, [c.regs.pc, (0 + 2), c.wait, c.pend]].length = wordsV c from flat_fl c (0 + 2) (by simp [flagsV, *])] | rw [show flatT [[2, c.id], c.regs.words, [c.regs.pc, (0 + 1 + 2), c.wait, c.pend]] [[2, c.id], c.regs.words, [c.regs.pc, (0 + 1 + 2), c.wait, c.pend]].length = wordsV c from flat_fl c (0 + 1 + 2) (by simp [flagsV, *])]
      have hwl := words_len hA
      refine aops_cons rfl (w_pure rfl (p_assign rfl) ?_)
      refine aops_nil ?_
      refine a_seq ?_
      refine a_region ?_
      refine aops_cons rfl (w_pure rfl (p_move rfl) ?_)
      refine aops_cons rfl (w_pure rfl (p_move rfl) ?_)
      refine aops_cons rfl (w_callLR rfl rfl rfl cl_85 (.cons (.own (by repeat (first | exact List.Mem.head _ | apply List.Mem.tail)) (by first | (simp; done) | (simp; assumption) | (simp; omega) | (simp [mkL]; done))) .nil) (c_impl_checkWord (wordsV c) (by rw [words_len hA]; omega) (words_ok hA)) (closed_int _ _) ?_)
      refine aops_cons rfl (w_lit_vM eInt [_] rfl el_22 rfl rfl rfl rfl rfl ?_)
      refine aops_cons rfl (w_appendM eInt rfl el_22 rfl rfl (by repeat (first | exact Pick.here _ _ _ | apply Pick.next)) rfl (.sl _) (fun _ => rfl) (fun _ => rfl) (by simp; omega) (by simp; omega) trivial fun b6 => ?_)
      refine aops_cons rfl (w_pure rfl (p_assign rfl) ?_)
      refine aops_nil ?_
      refine a_ret ?_
      refine ret_ok (hands1 rfl (.tmp rfl)) (.cons (by repeat (first | exact Pick.here _ _ _ | apply Pick.next)) (.nil _)) ?_
      refine ⟨_, ?_, rfl⟩; simp [imageV]
    · (try simp only [Bool.not_eq_true', Bool.not_eq_false', Bool.not_eq_true, Bool.not_eq_false, decide_eq_true_eq, decide_eq_false_iff_not, List.length_map, List.length_range] at h6)
      refine a_skip ?_
      refine a_seq ?_
      refine a_region ?_
      refine aops_cons rfl (w_pure rfl (p_field_v fo_32_0 rfl) ?_)
      refine aops_cons rfl (w_pure rfl (p_load_v ag_3 rfl (by rfl) noX) ?_)
      refine aops_cons rfl (w_lit_vM eInt [_, _] rfl el_22 rfl rfl rfl rfl rfl ?_)
      refine aops_cons rfl (w_pure rfl (p_field_v fo_32_1 rfl) ?_)
      refine aops_cons rfl (w_pure rfl (p_field_v fo_30_0 rfl) ?_)
      refine aops_cons rfl (w_pure rfl (p_load_v ag_22 rfl (by rfl) noX) ?_)
      refine aops_cons rfl (w_pure rfl (p_field_v fo_32_1 rfl) ?_)
      refine aops_cons rfl (w_pure rfl (p_field_v fo_30_1 rfl) ?_)
      refine aops_cons rfl (w_pure rfl (p_load_v ag_3 rfl (by rfl) noX) ?_)
      refine aops_cons rfl (w_pure rfl (p_move rfl) ?_)
      refine aops_cons rfl (w_pure rfl (p_field_v fo_32_2 rfl) ?_)
      refine aops_cons rfl (w_pure rfl (p_load_v ag_3 rfl (by rfl) noX) ?_)
      refine aops_cons rfl (w_pure rfl (p_field_v fo_32_3 rfl) ?_)
      refine aops_cons rfl (w_pure rfl (p_load_v ag_3 rfl (by rfl) noX) ?_)
      refine aops_cons rfl (w_lit_vM eInt [_, _, _, _] rfl el_22 rfl rfl rfl rfl rfl ?_)
      refine aops_cons rfl (w_lit_vM eInts [_, _, _] rfl el_54 rfl rfl rfl rfl rfl ?_)
      refine aops_cons rfl (w_call rfl rfl rfl cl_106 ((co_Concat _ (by simp [lenT, hw4] <;> omega) (hlb _) (by simp)).mono fun _ _ h => h.len) ?_)
      rintro _ _ ⟨b7, rfl, rfl⟩
      first | rw [show flatT [[2, c.id], c.regs.words, [c.regs.pc, 0, c.wait, c.pend]] [[2, c.id], c.regs.words, [c.regs.pc, 0, c.wait, c.pend]].length = wordsV c from flat_fl c 0 (by simp [flagsV, *])] | rw [show flatT [[2, c.id], c.regs.words, [c.regs.pc, (0 + 1), c.wait, c.pend]] [[2, c.id], c.regs.words, [c.regs.pc, (0 + 1), c.wait, c.pend]].length = wordsV c from flat_fl c (0 + 1) (by simp [flagsV, *])] | rw [show flatT [[2, c.id], c.regs.words, [c.regs.pc, (0 + 2), c.wait, c.pend]] [[2, c.id], c.regs.words, [c.regs.pc, (0 + 2), c.wait, c.pend]].length = wordsV c from flat_fl c (0 + 2) (by simp [flagsV, *])] | rw [show flatT [[2, c.id], c.regs.words, [c.regs.pc, (0 + 1 + 2), c.wait, c.pend]] [[2, c.id], c.regs.words, [c.regs.pc, (0 + 1 + 2), c.wait, c.pend]].length = wordsV c from flat_fl c (0 + 1 + 2) (by simp [flagsV, *])]
      have hwl := words_len hA
      refine aops_cons rfl (w_pure rfl (p_assign rfl) ?_)
      refine aops_nil ?_
      refine a_seq ?_
      refine a_region ?_
      refine aops_cons rfl (w_pure rfl (p_move rfl) ?_)
      refine aops_cons rfl (w_pure rfl (p_move rfl) ?_)
      refine aops_cons rfl (w_callLR rfl rfl rfl cl_85 (.cons (.own (by repeat (first | exact List.Mem.head _ | apply List.Mem.tail)) (by first | (simp; done) | (simp; assumption) | (simp; omega) | (simp [mkL]; done))) .nil) (c_impl_checkWord (wordsV c) (by rw [words_len hA]; omega) (words_ok hA)) (closed_int _ _) ?_)
      refine aops_cons rfl (w_lit_vM eInt [_] rfl el_22 rfl rfl rfl rfl rfl ?_)
      refine aops_cons rfl (w_appendM eInt rfl el_22 rfl rfl (by repeat (first | exact Pick.here _ _ _ | apply Pick.next)) rfl (.sl _) (fun _ => rfl) (fun _ => rfl) (by simp; omega) (by simp; omega) trivial fun b8 => ?_)
      refine aops_cons rfl (w_pure rfl (p_assign rfl) ?_)
      refine aops_nil ?_
      refine a_ret ?_
      refine ret_ok (hands1 rfl (.tmp rfl)) (.cons (by repeat (first | exact Pick.here _ _ _ | apply Pick.next)) (.nil _)) ?_
      refine ⟨_, ?_, rfl⟩; simp [imageV]

theorem co_spec_l14Words (c : Context) (hn : SmallC c) (hA : IsContext c) : ACalls Try.prog 67 [.agg (eContext c)] [] (RetOwn 3 1 ((wordsV c).map eInt)) := by
  have hn1 : c.regs.words.length ≤ 1048576 := hn
  have hw4 := hA.2.1.1
  refine a_enter Try.func67 rfl rfl (fun w0 M0 => ?_)
  refine a_seq ?_
  refine a_region ?_
  refine aops_cons rfl (w_box_v rfl rfl rfl ?_)
  refine aops_cons rfl (w_pure rfl (p_assign rfl) ?_)
  refine aops_nil ?_
  refine a_seq ?_
  refine a_region ?_
  refine aops_cons rfl (w_pure rfl (p_assign rfl) ?_)
  refine aops_nil ?_
  refine a_seq ?_
  refine a_seq ?_
  refine a_region ?_
  refine aops_cons rfl (w_pure rfl (p_field_v fo_32_1 rfl) ?_)
  refine aops_cons rfl (w_pure rfl (p_field_v fo_30_2 rfl) ?_)
  refine aops_cons rfl (w_pure rfl (p_load_v ag_4 rfl (by rfl) noX) ?_)
  refine aops_nil ?_
  first | refine a_cond_d rfl (fun h1 => ?_) (fun h2 => ?_) | refine a_cond_n rfl (fun h1 => ?_) (fun h2 => ?_) | refine a_cond_nb rfl (fun h1 => ?_) (fun h2 => ?_) | refine a_cond rfl (fun h1 => ?_) (fun h2 => ?_)
  · (try simp only [Bool.not_eq_true', Bool.not_eq_false', Bool.not_eq_true, Bool.not_eq_false, decide_eq_true_eq, decide_eq_false_iff_not, List.length_map, List.length_range] at h1)
    refine a_region ?_
    refine aops_cons rfl (w_pure rfl (p_move rfl) ?_)
    refine aops_cons rfl (w_pure rfl (p_add' rfl rfl ⟨by omega, by omega⟩) ?_)
    refine aops_cons rfl (w_pure rfl (p_assign rfl) ?_)
    refine aops_nil ?_
    refine a_seq ?_
    refine a_seq ?_
    refine a_region ?_
    refine aops_cons rfl (w_pure rfl (p_field_v fo_32_1 rfl) ?_)
    refine aops_cons rfl (w_pure rfl (p_field_v fo_30_3 rfl) ?_)
    refine aops_cons rfl (w_pure rfl (p_load_v ag_4 rfl (by rfl) noX) ?_)
    refine aops_nil ?_
    first | refine a_cond_d rfl (fun h3 => ?_) (fun h4 => ?_) | refine a_cond_n rfl (fun h3 => ?_) (fun h4 => ?_) | refine a_cond_nb rfl (fun h3 => ?_) (fun h4 => ?_) | refine a_cond rfl (fun h3 => ?_) (fun h4 => ?_)
    · (try simp only [Bool.not_eq_true', Bool.not_eq_false', Bool.not_eq_true, Bool.not_eq_false, decide_eq_true_eq, decide_eq_false_iff_not, List.length_map, List.length_range] at h3)
      refine a_region ?_
      refine aops_cons rfl (w_pure rfl (p_move rfl) ?_)
      refine aops_cons rfl (w_pure rfl (p_add' rfl rfl ⟨by omega, by omega⟩) ?_)
      refine aops_cons rfl (w_pure rfl (p_assign rfl) ?_)
      refine aops_nil ?_
      refine a_seq ?_
      refine a_region ?_
      refine aops_cons rfl (w_pure rfl (p_field_v fo_32_0 rfl) ?_)
      refine aops_cons rfl (w_pure rfl (p_load_v ag_3 rfl (by rfl) noX) ?_)
      refine aops_cons rfl (w_litM eInt [_, _] rfl el_22 rfl rfl rfl rfl rfl fun b1 => ?_)
      refine aops_cons rfl (w_pure rfl (p_field_v fo_32_1 rfl) ?_)
      refine aops_cons rfl (w_pure rfl (p_field_v fo_30_0 rfl) ?_)
      refine aops_cons rfl (w_pure rfl (p_load_v ag_22 rfl (by rfl) noX) ?_)
      refine aops_cons rfl (w_appendM eInt rfl el_22 rfl rfl (by repeat (first | exact Pick.here _ _ _ | apply Pick.next)) rfl (.sl _) (fun _ => rfl) (fun _ => rfl) (by simp; omega) (by simp; omega) trivial fun b2 => ?_)
      refine aops_cons rfl (w_pure rfl (p_assign rfl) ?_)
      refine aops_nil ?_
      refine a_seq ?_
      refine a_region ?_
      refine aops_cons rfl (w_pure rfl (p_move rfl) ?_)
      refine aops_cons rfl (w_pure rfl (p_field_v fo_32_1 rfl) ?_)
      refine aops_cons rfl (w_pure rfl (p_field_v fo_30_1 rfl) ?_)
      refine aops_cons rfl (w_pure rfl (p_load_v ag_3 rfl (by rfl) noX) ?_)
      refine aops_cons rfl (w_pure rfl (p_move rfl) ?_)
      refine aops_cons rfl (w_pure rfl (p_field_v fo_32_2 rfl) ?_)
      refine aops_cons rfl (w_pure rfl (p_load_v ag_3 rfl (by rfl) noX) ?_)
      refine aops_cons rfl (w_pure rfl (p_field_v fo_32_3 rfl) ?_)
      refine aops_cons rfl (w_pure rfl (p_load_v ag_3 rfl (by rfl) noX) ?_)
      refine aops_cons rfl (w_lit_vM eInt [_, _, _, _] rfl el_22 rfl rfl rfl rfl rfl ?_)
      refine aops_cons rfl (w_appendM eInt rfl el_22 rfl rfl (by repeat (first | exact Pick.here _ _ _ | apply Pick.next)) (by simp) (.sl _) (fun _ => rfl) (fun _ => rfl) (by simp; omega) (by simp; omega) trivial fun b3 => ?_)
      first | rw [words_fl c 0 (by simp [flagsV, *])] | rw [words_fl c (0 + 1) (by simp [flagsV, *])] | rw [words_fl c (0 + 2) (by simp [flagsV, *])] | rw [words_fl c (0 + 1 + 2) (by simp [flagsV, *])]
      refine aops_cons rfl (w_pure rfl (p_assign rfl) ?_)
      refine aops_nil ?_
      refine a_ret ?_
      refine ret_ok (hands1 rfl (.tmp rfl)) (.cons (by repeat (first | exact Pick.here _ _ _ | apply Pick.next)) (.nil _)) ?_
      refine ⟨_, ?_, rfl⟩; rw [List.length_map, words_len hA]; try simp [hw4]
    · (try simp only [Bool.not_eq_true', Bool.not_eq_false', Bool.not_eq_true, Bool.not_eq_false, decide_eq_true_eq, decide_eq_false_iff_not, List.length_map, List.length_range] at h4)
      refine a_skip ?_
      refine a_seq ?_
      refine a_region ?_
      refine aops_cons rfl (w_pure rfl (p_field_v fo_32_0 rfl) ?_)
      refine aops_cons rfl (w_pure rfl (p_load_v ag_3 rfl (by rfl) noX) ?_)
      refine aops_cons rfl (w_litM eInt [_, _] rfl el_22 rfl rfl rfl rfl rfl fun b4 => ?_)
      refine aops_cons rfl (w_pure rfl (p_field_v fo_32_1 rfl) ?_)
      refine aops_cons rfl (w_pure rfl (p_field_v fo_30_0 rfl) ?_)
      refine aops_cons rfl (w_pure rfl (p_load_v ag_22 rfl (by rfl) noX) ?_)
      refine aops_cons rfl (w_appendM eInt rfl el_22 rfl rfl (by repeat (first | exact Pick.here _ _ _ | apply Pick.next)) rfl (.sl _) (fun _ => rfl) (fun _ => rfl) (by simp; omega) (by simp; omega) trivial fun b5 => ?_)
      refine aops_cons rfl (w_pure rfl (p_assign rfl) ?_)
      refine aops_nil ?_
      refine a_seq ?_
      refine a_region ?_
      refine aops_cons rfl (w_pure rfl (p_move rfl) ?_)
      refine aops_cons rfl (w_pure rfl (p_field_v fo_32_1 rfl) ?_)
      refine aops_cons rfl (w_pure rfl (p_field_v fo_30_1 rfl) ?_)
      refine aops_cons rfl (w_pure rfl (p_load_v ag_3 rfl (by rfl) noX) ?_)
      refine aops_cons rfl (w_pure rfl (p_move rfl) ?_)
      refine aops_cons rfl (w_pure rfl (p_field_v fo_32_2 rfl) ?_)
      refine aops_cons rfl (w_pure rfl (p_load_v ag_3 rfl (by rfl) noX) ?_)
      refine aops_cons rfl (w_pure rfl (p_field_v fo_32_3 rfl) ?_)
      refine aops_cons rfl (w_pure rfl (p_load_v ag_3 rfl (by rfl) noX) ?_)
      refine aops_cons rfl (w_lit_vM eInt [_, _, _, _] rfl el_22 rfl rfl rfl rfl rfl ?_)
      refine aops_cons rfl (w_appendM eInt rfl el_22 rfl rfl (by repeat (first | exact Pick.here _ _ _ | apply Pick.next)) (by simp) (.sl _) (fun _ => rfl) (fun _ => rfl) (by simp; omega) (by simp; omega) trivial fun b6 => ?_)
      first | rw [words_fl c 0 (by simp [flagsV, *])] | rw [words_fl c (0 + 1) (by simp [flagsV, *])] | rw [words_fl c (0 + 2) (by simp [flagsV, *])] | rw [words_fl c (0 + 1 + 2) (by simp [flagsV, *])]
      refine aops_cons rfl (w_pure rfl (p_assign rfl) ?_)
      refine aops_nil ?_
      refine a_ret ?_
      refine ret_ok (hands1 rfl (.tmp rfl)) (.cons (by repeat (first | exact Pick.here _ _ _ | apply Pick.next)) (.nil _)) ?_
      refine ⟨_, ?_, rfl⟩; rw [List.length_map, words_len hA]; try simp [hw4]
  · (try simp only [Bool.not_eq_true', Bool.not_eq_false', Bool.not_eq_true, Bool.not_eq_false, decide_eq_true_eq, decide_eq_false_iff_not, List.length_map, List.length_range] at h2)
    refine a_skip ?_
    refine a_seq ?_
    refine a_seq ?_
    refine a_region ?_
    refine aops_cons rfl (w_pure rfl (p_field_v fo_32_1 rfl) ?_)
    refine aops_cons rfl (w_pure rfl (p_field_v fo_30_3 rfl) ?_)
    refine aops_cons rfl (w_pure rfl (p_load_v ag_4 rfl (by rfl) noX) ?_)
    refine aops_nil ?_
    first | refine a_cond_d rfl (fun h5 => ?_) (fun h6 => ?_) | refine a_cond_n rfl (fun h5 => ?_) (fun h6 => ?_) | refine a_cond_nb rfl (fun h5 => ?_) (fun h6 => ?_) | refine a_cond rfl (fun h5 => ?_) (fun h6 => ?_)
    · (try simp only [Bool.not_eq_true', Bool.not_eq_false', Bool.not_eq_true, Bool.not_eq_false, decide_eq_true_eq, decide_eq_false_iff_not, List.length_map, List.length_range] at h5)
      refine a_region ?_
      refine aops_cons rfl (w_pure rfl (p_move rfl) ?_)
      refine aops_cons rfl (w_pure rfl (p_add' rfl rfl ⟨by omega, by omega⟩) ?_)
      refine aops_cons rfl (w_pure rfl (p_assign rfl) ?_)
      refine aops_nil ?_
      refine a_seq ?_
      refine a_region ?_
      refine aops_cons rfl (w_pure rfl (p_field_v fo_32_0 rfl) ?_)
      refine aops_cons rfl (w_pure rfl (p_load_v ag_3 rfl (by rfl) noX) ?_)
      refine aops_cons rfl (w_litM eInt [_, _] rfl el_22 rfl rfl rfl rfl rfl fun b7 => ?_)
      refine aops_cons rfl (w_pure rfl (p_field_v fo_32_1 rfl) ?_)
      refine aops_cons rfl (w_pure rfl (p_field_v fo_30_0 rfl) ?_)
      refine aops_cons rfl (w_pure rfl (p_load_v ag_22 rfl (by rfl) noX) ?_)
      refine aops_cons rfl (w_appendM eInt rfl el_22 rfl rfl (by repeat (first | exact Pick.here _ _ _ | apply Pick.next)) rfl (.sl _) (fun _ => rfl) (fun _ => rfl) (by simp; omega) (by simp; omega) trivial fun b8 => ?_)
      refine aops_cons rfl (w_pure rfl (p_assign rfl) ?_)
      refine aops_nil ?_
      refine a_seq ?_
      refine a_region ?_
      refine aops_cons rfl (w_pure rfl (p_move rfl) ?_)
      refine aops_cons rfl (w_pure rfl (p_field_v fo_32_1 rfl) ?_)
      refine aops_cons rfl (w_pure rfl (p_field_v fo_30_1 rfl) ?_)
      refine aops_cons rfl (w_pure rfl (p_load_v ag_3 rfl (by rfl) noX) ?_)
      refine aops_cons rfl (w_pure rfl (p_move rfl) ?_)
      refine aops_cons rfl (w_pure rfl (p_field_v fo_32_2 rfl) ?_)
      refine aops_cons rfl (w_pure rfl (p_load_v ag_3 rfl (by rfl) noX) ?_)
      refine aops_cons rfl (w_pure rfl (p_field_v fo_32_3 rfl) ?_)
      refine aops_cons rfl (w_pure rfl (p_load_v ag_3 rfl (by rfl) noX) ?_)
      refine aops_cons rfl (w_lit_vM eInt [_, _, _, _] rfl el_22 rfl rfl rfl rfl rfl ?_)
      refine aops_cons rfl (w_appendM eInt rfl el_22 rfl rfl (by repeat (first | exact Pick.here _ _ _ | apply Pick.next)) (by simp) (.sl _) (fun _ => rfl) (fun _ => rfl) (by simp; omega) (by simp; omega) trivial fun b9 => ?_)
      first | rw [words_fl c 0 (by simp [flagsV, *])] | rw [words_fl c (0 + 1) (by simp [flagsV, *])] | rw [words_fl c (0 + 2) (by simp [flagsV, *])] | rw [words_fl c (0 + 1 + 2) (by simp [flagsV, *])]
      refine aops_cons rfl (w_pure rfl (p_assign rfl) ?_)
      refine aops_nil ?_
      refine a_ret ?_
      refine ret_ok (hands1 rfl (.tmp rfl)) (.cons (by repeat (first | exact Pick.here _ _ _ | apply Pick.next)) (.nil _)) ?_
      refine ⟨_, ?_, rfl⟩; rw [List.length_map, words_len hA]; try simp [hw4]
    · (try simp only [Bool.not_eq_true', Bool.not_eq_false', Bool.not_eq_true, Bool.not_eq_false, decide_eq_true_eq, decide_eq_false_iff_not, List.length_map, List.length_range] at h6)
      refine a_skip ?_
      refine a_seq ?_
      refine a_region ?_
      refine aops_cons rfl (w_pure rfl (p_field_v fo_32_0 rfl) ?_)
      refine aops_cons rfl (w_pure rfl (p_load_v ag_3 rfl (by rfl) noX) ?_)
      refine aops_cons rfl (w_litM eInt [_, _] rfl el_22 rfl rfl rfl rfl rfl fun b10 => ?_)
      refine aops_cons rfl (w_pure rfl (p_field_v fo_32_1 rfl) ?_)
      refine aops_cons rfl (w_pure rfl (p_field_v fo_30_0 rfl) ?_)
      refine aops_cons rfl (w_pure rfl (p_load_v ag_22 rfl (by rfl) noX) ?_)
      refine aops_cons rfl (w_appendM eInt rfl el_22 rfl rfl (by repeat (first | exact Pick.here _ _ _ | apply Pick.next)) rfl (.sl _) (fun _ => rfl) (fun _ => rfl) (by simp; omega) (by simp; omega) trivial fun b11 => ?_)
      refine aops_cons rfl (w_pure rfl (p_assign rfl) ?_)
      refine aops_nil ?_
      refine a_seq ?_
      refine a_region ?_
      refine aops_cons rfl (w_pure rfl (p_move rfl) ?_)
      refine aops_cons rfl (w_pure rfl (p_field_v fo_32_1 rfl) ?_)
      refine aops_cons rfl (w_pure rfl (p_field_v fo_30_1 rfl) ?_)
      refine aops_cons rfl (w_pure rfl (p_load_v ag_3 rfl (by rfl) noX) ?_)
      refine aops_cons rfl (w_pure rfl (p_move rfl) ?_)
      refine aops_cons rfl (w_pure rfl (p_field_v fo_32_2 rfl) ?_)
      refine aops_cons rfl (w_pure rfl (p_load_v ag_3 rfl (by rfl) noX) ?_)
      refine aops_cons rfl (w_pure rfl (p_field_v fo_32_3 rfl) ?_)
      refine aops_cons rfl (w_pure rfl (p_load_v ag_3 rfl (by rfl) noX) ?_)
      refine aops_cons rfl (w_lit_vM eInt [_, _, _, _] rfl el_22 rfl rfl rfl rfl rfl ?_)
      refine aops_cons rfl (w_appendM eInt rfl el_22 rfl rfl (by repeat (first | exact Pick.here _ _ _ | apply Pick.next)) (by simp) (.sl _) (fun _ => rfl) (fun _ => rfl) (by simp; omega) (by simp; omega) trivial fun b12 => ?_)
      first | rw [words_fl c 0 (by simp [flagsV, *])] | rw [words_fl c (0 + 1) (by simp [flagsV, *])] | rw [words_fl c (0 + 2) (by simp [flagsV, *])] | rw [words_fl c (0 + 1 + 2) (by simp [flagsV, *])]
      refine aops_cons rfl (w_pure rfl (p_assign rfl) ?_)
      refine aops_nil ?_
      refine a_ret ?_
      refine ret_ok (hands1 rfl (.tmp rfl)) (.cons (by repeat (first | exact Pick.here _ _ _ | apply Pick.next)) (.nil _)) ?_
      refine ⟨_, ?_, rfl⟩; rw [List.length_map, words_len hA]; try simp [hw4]

theorem c_impl_imageOf (c : Context) (hn : SmallC c) (hA : IsContext c) : ACalls Try.prog 64 [.agg (eContext c)] [] (Ret (.sl ((imageV c).map eInt))) := (co_impl_imageOf c hn hA).freeze fun _ _ h => h.vw

theorem c_spec_l14Words (c : Context) (hn : SmallC c) (hA : IsContext c) : ACalls Try.prog 67 [.agg (eContext c)] [] (Ret (.sl ((wordsV c).map eInt))) := (co_spec_l14Words c hn hA).freeze fun _ _ h => h.vw

theorem co_spec_l14Image (c : Context) (hn : SmallC c) (hA : IsContext c) : ACalls Try.prog 62 [.agg (eContext c)] [] (RetOwn 3 1 ((imageV c).map eInt)) := by
  refine a_enter Try.func62 rfl rfl (fun w0 M0 => ?_)
  refine a_seq ?_
  refine a_region ?_
  refine aops_cons rfl (w_box_v rfl rfl rfl ?_)
  refine aops_cons rfl (w_pure rfl (p_assign rfl) ?_)
  refine aops_nil ?_
  refine a_seq ?_
  refine a_region ?_
  refine aops_cons rfl (w_pure rfl (p_load_v_all ag_32 rfl (by rfl) noX) ?_)
  refine aops_cons rfl (w_call rfl rfl rfl cl_67 ((co_spec_l14Words c hn hA).mono fun _ _ h => h.len) ?_)
  rintro _ _ ⟨b1, rfl, rfl⟩
  have hwl := words_len hA
  refine aops_cons rfl (w_pure rfl (p_assign rfl) ?_)
  refine aops_nil ?_
  refine a_seq ?_
  refine a_region ?_
  refine aops_cons rfl (w_pure rfl (p_move rfl) ?_)
  refine aops_cons rfl (w_pure rfl (p_move rfl) ?_)
  refine aops_cons rfl (w_callLR rfl rfl rfl cl_92 (.cons (.own (by repeat (first | exact List.Mem.head _ | apply List.Mem.tail)) (by first | (simp; done) | (simp; assumption) | (simp; omega) | (simp [mkL]; done))) .nil) (c_spec_l14Check (wordsV c) (by rw [words_len hA]; omega) (words_ok hA)) (closed_int _ _) ?_)
  refine aops_cons rfl (w_lit_vM eInt [_] rfl el_22 rfl rfl rfl rfl rfl ?_)
  refine aops_cons rfl (w_appendM eInt rfl el_22 rfl rfl (by repeat (first | exact Pick.here _ _ _ | apply Pick.next)) rfl (.sl _) (fun _ => rfl) (fun _ => rfl) (by simp; omega) (by simp; omega) trivial fun b2 => ?_)
  refine aops_cons rfl (w_pure rfl (p_assign rfl) ?_)
  refine aops_nil ?_
  refine a_ret ?_
  refine ret_ok (hands1 rfl (.tmp rfl)) (.cons (by repeat (first | exact Pick.here _ _ _ | apply Pick.next)) (.nil _)) ?_
  refine ⟨_, ?_, rfl⟩; simp [imageV]

theorem c_spec_l14Image (c : Context) (hn : SmallC c) (hA : IsContext c) : ACalls Try.prog 62 [.agg (eContext c)] [] (Ret (.sl ((imageV c).map eInt))) := (co_spec_l14Image c hn hA).freeze fun _ _ h => h.vw

theorem cy_spec_SaveContext (c : Context) (hn : SmallC c) (hA : IsContext c) : ACalls Try.prog 13 [.agg (eContext c)] [] (Ret (.tup [.sl ((imageV c).map eInt), .bool true])) := by
  refine a_enter Try.func13 rfl rfl (fun w0 M0 => ?_)
  refine a_seq ?_
  refine a_region ?_
  refine aops_cons rfl (w_box_v rfl rfl rfl ?_)
  refine aops_cons rfl (w_pure rfl (p_assign rfl) ?_)
  refine aops_cons rfl (w_pure rfl (p_assign rfl) ?_)
  refine aops_nil ?_
  refine a_seq ?_
  refine a_seq ?_
  refine a_region ?_
  refine aops_cons rfl (w_pure rfl (p_load_v_all ag_32 rfl (by rfl) noX) ?_)
  refine aops_cons rfl (w_callR rfl rfl rfl cl_61 (c_spec_l14One _ (by first | assumption | exact hn.2 _ (by omega))) ?_)
  refine aops_cons rfl (w_pure rfl (p_not rfl) ?_)
  refine aops_nil ?_
  first | refine a_cond_d rfl (fun h1 => ?_) (fun h2 => ?_) | refine a_cond_n rfl (fun h1 => ?_) (fun h2 => ?_) | refine a_cond_nb rfl (fun h1 => ?_) (fun h2 => ?_) | refine a_cond rfl (fun h1 => ?_) (fun h2 => ?_)
  · (try simp only [Bool.not_eq_true', Bool.not_eq_false', Bool.not_eq_true, Bool.not_eq_false, decide_eq_true_eq, decide_eq_false_iff_not, List.length_map, List.length_range] at h1)
    refine a_seq ?_
    refine a_region ?_
    refine aops_cons rfl (w_lit_vM eInt [] rfl el_22 rfl rfl rfl rfl rfl ?_)
    refine aops_cons rfl (w_pure rfl (p_assign rfl) ?_)
    refine aops_cons rfl (w_pure rfl (p_assign rfl) ?_)
    refine aops_nil ?_
    refine a_ret ?_
    refine ret_ok (hands2 rfl (.tmp rfl) (.tmp rfl)) (.nil _) ?_
    first | exact ⟨rfl, rfl⟩ | (exfalso; first | contradiction | exact absurd hA (by assumption))
  · (try simp only [Bool.not_eq_true', Bool.not_eq_false', Bool.not_eq_true, Bool.not_eq_false, decide_eq_true_eq, decide_eq_false_iff_not, List.length_map, List.length_range] at h2)
    refine a_skip ?_
    refine a_seq ?_
    refine a_region ?_
    refine aops_cons rfl (w_pure rfl (p_load_v_all ag_32 rfl (by rfl) noX) ?_)
    refine aops_cons rfl (w_callR rfl rfl rfl cl_62 (c_spec_l14Image c hn hA) ?_)
    refine aops_cons rfl (w_pure rfl (p_assign rfl) ?_)
    refine aops_cons rfl (w_pure rfl (p_assign rfl) ?_)
    refine aops_nil ?_
    refine a_ret ?_
    refine ret_ok (hands2 rfl (.tmp rfl) (.tmp rfl)) (.nil _) ?_
    first | exact ⟨rfl, rfl⟩ | (exfalso; first | contradiction | exact absurd hA (by assumption))

theorem cn_spec_SaveContext (c : Context) (hn : SmallC c) (hA : ¬ IsContext c) : ACalls Try.prog 13 [.agg (eContext c)] [] (Ret (.tup [.sl ([] : List (List AV)), .bool false])) := by
  refine a_enter Try.func13 rfl rfl (fun w0 M0 => ?_)
  refine a_seq ?_
  refine a_region ?_
  refine aops_cons rfl (w_box_v rfl rfl rfl ?_)
  refine aops_cons rfl (w_pure rfl (p_assign rfl) ?_)
  refine aops_cons rfl (w_pure rfl (p_assign rfl) ?_)
  refine aops_nil ?_
  refine a_seq ?_
  refine a_seq ?_
  refine a_region ?_
  refine aops_cons rfl (w_pure rfl (p_load_v_all ag_32 rfl (by rfl) noX) ?_)
  refine aops_cons rfl (w_callR rfl rfl rfl cl_61 (c_spec_l14One _ (by first | assumption | exact hn.2 _ (by omega))) ?_)
  refine aops_cons rfl (w_pure rfl (p_not rfl) ?_)
  refine aops_nil ?_
  first | refine a_cond_d rfl (fun h1 => ?_) (fun h2 => ?_) | refine a_cond_n rfl (fun h1 => ?_) (fun h2 => ?_) | refine a_cond_nb rfl (fun h1 => ?_) (fun h2 => ?_) | refine a_cond rfl (fun h1 => ?_) (fun h2 => ?_)
  · (try simp only [Bool.not_eq_true', Bool.not_eq_false', Bool.not_eq_true, Bool.not_eq_false, decide_eq_true_eq, decide_eq_false_iff_not, List.length_map, List.length_range] at h1)
    refine a_seq ?_
    refine a_region ?_
    refine aops_cons rfl (w_lit_vM eInt [] rfl el_22 rfl rfl rfl rfl rfl ?_)
    refine aops_cons rfl (w_pure rfl (p_assign rfl) ?_)
    refine aops_cons rfl (w_pure rfl (p_assign rfl) ?_)
    refine aops_nil ?_
    refine a_ret ?_
    refine ret_ok (hands2 rfl (.tmp rfl) (.tmp rfl)) (.nil _) ?_
    exact ⟨rfl, rfl⟩
  · (try simp only [Bool.not_eq_true', Bool.not_eq_false', Bool.not_eq_true, Bool.not_eq_false, decide_eq_true_eq, decide_eq_false_iff_not, List.length_map, List.length_range] at h2)
    refine a_skip ?_
    refine a_seq ?_
    exact absurd (by assumption) hA

theorem cy_impl_SaveContext (c : Context) (hn : SmallC c) (hA : IsContext c) : ACalls Try.prog 15 [.agg (eContext c)] [] (fun r st => ∃ b1, r = .tup [.own 1 b1 0 (imageV c).length, .bool true] ∧ st = [(b1, .arr 3 1 ((imageV c).map eInt))]) := by
  refine a_enter Try.func15 rfl rfl (fun w0 M0 => ?_)
  refine a_seq ?_
  refine a_region ?_
  refine aops_cons rfl (w_box_v rfl rfl rfl ?_)
  refine aops_cons rfl (w_pure rfl (p_assign rfl) ?_)
  refine aops_cons rfl (w_pure rfl (p_assign rfl) ?_)
  refine aops_nil ?_
  refine a_seq ?_
  refine a_seq ?_
  refine a_region ?_
  refine aops_cons rfl (w_pure rfl (p_load_v_all ag_32 rfl (by rfl) noX) ?_)
  refine aops_cons rfl (w_callR rfl rfl rfl cl_42 (c_impl_IsContext _ (by first | assumption | exact hn.2 _ (by omega))) ?_)
  refine aops_cons rfl (w_pure rfl (p_not rfl) ?_)
  refine aops_nil ?_
  first | refine a_cond_d rfl (fun h1 => ?_) (fun h2 => ?_) | refine a_cond_n rfl (fun h1 => ?_) (fun h2 => ?_) | refine a_cond_nb rfl (fun h1 => ?_) (fun h2 => ?_) | refine a_cond rfl (fun h1 => ?_) (fun h2 => ?_)
  · (try simp only [Bool.not_eq_true', Bool.not_eq_false', Bool.not_eq_true, Bool.not_eq_false, decide_eq_true_eq, decide_eq_false_iff_not, List.length_map, List.length_range] at h1)
    refine a_seq ?_
    refine a_region ?_
    refine aops_cons rfl (w_pure rfl (p_assign rfl) ?_)
    refine aops_cons rfl (w_pure rfl (p_assign rfl) ?_)
    refine aops_nil ?_
    refine a_ret ?_
    refine ret_ok (hands2 rfl (.tmp rfl) (.tmp rfl)) (.nil _) ?_
    first | exact ⟨_, rfl, rfl⟩ | (exfalso; first | contradiction | exact absurd hA (by assumption))
  · (try simp only [Bool.not_eq_true', Bool.not_eq_false', Bool.not_eq_true, Bool.not_eq_false, decide_eq_true_eq, decide_eq_false_iff_not, List.length_map, List.length_range] at h2)
    refine a_skip ?_
    refine a_seq ?_
    refine a_region ?_
    refine aops_cons rfl (w_pure rfl (p_load_v_all ag_32 rfl (by rfl) noX) ?_)
    refine aops_cons rfl (w_call rfl rfl rfl cl_64 ((co_impl_imageOf c hn hA).mono fun _ _ h => h.len) ?_)
    rintro _ _ ⟨b1, rfl, rfl⟩
    refine aops_cons rfl (w_pure rfl (p_assign rfl) ?_)
    refine aops_cons rfl (w_pure rfl (p_assign rfl) ?_)
    refine aops_nil ?_
    refine a_ret ?_
    refine ret_ok (hands2 rfl (.tmp rfl) (.tmp rfl)) (st' := [(b1, _)]) (.cons (by repeat (first | exact Pick.here _ _ _ | apply Pick.next)) (.nil _)) ?_
    first | exact ⟨_, rfl, rfl⟩ | (exfalso; first | contradiction | exact absurd hA (by assumption))

theorem cf_impl_SaveContext (c : Context) (hn : SmallC c) (hA : IsContext c) : ACalls Try.prog 15 [.agg (eContext c)] [] (Ret (.tup [.sl ((imageV c).map eInt), .bool true])) :=
  (cy_impl_SaveContext c hn hA).freeze (by rintro _ _ ⟨_, rfl, rfl⟩; exact (.tup (.cons (.own (by repeat (first | exact List.Mem.head _ | apply List.Mem.tail)) (List.length_map _)) (.cons (.refl _) .nil))))

theorem cn_impl_SaveContext (c : Context) (hn : SmallC c) (hA : ¬ IsContext c) : ACalls Try.prog 15 [.agg (eContext c)] [] (Ret (.tup [.nil, .bool false])) := by
  refine a_enter Try.func15 rfl rfl (fun w0 M0 => ?_)
  refine a_seq ?_
  refine a_region ?_
  refine aops_cons rfl (w_box_v rfl rfl rfl ?_)
  refine aops_cons rfl (w_pure rfl (p_assign rfl) ?_)
  refine aops_cons rfl (w_pure rfl (p_assign rfl) ?_)
  refine aops_nil ?_
  refine a_seq ?_
  refine a_seq ?_
  refine a_region ?_
  refine aops_cons rfl (w_pure rfl (p_load_v_all ag_32 rfl (by rfl) noX) ?_)
  refine aops_cons rfl (w_callR rfl rfl rfl cl_42 (c_impl_IsContext _ (by first | assumption | exact hn.2 _ (by omega))) ?_)
  refine aops_cons rfl (w_pure rfl (p_not rfl) ?_)
  refine aops_nil ?_
  first | refine a_cond_d rfl (fun h1 => ?_) (fun h2 => ?_) | refine a_cond_n rfl (fun h1 => ?_) (fun h2 => ?_) | refine a_cond_nb rfl (fun h1 => ?_) (fun h2 => ?_) | refine a_cond rfl (fun h1 => ?_) (fun h2 => ?_)
  · (try simp only [Bool.not_eq_true', Bool.not_eq_false', Bool.not_eq_true, Bool.not_eq_false, decide_eq_true_eq, decide_eq_false_iff_not, List.length_map, List.length_range] at h1)
    refine a_seq ?_
    refine a_region ?_
    refine aops_cons rfl (w_pure rfl (p_assign rfl) ?_)
    refine aops_cons rfl (w_pure rfl (p_assign rfl) ?_)
    refine aops_nil ?_
    refine a_ret ?_
    refine ret_ok (hands2 rfl (.tmp rfl) (.tmp rfl)) (.nil _) ?_
    exact ⟨rfl, rfl⟩
  · (try simp only [Bool.not_eq_true', Bool.not_eq_false', Bool.not_eq_true, Bool.not_eq_false, decide_eq_true_eq, decide_eq_false_iff_not, List.length_map, List.length_range] at h2)
    refine a_skip ?_
    refine a_seq ?_
    exact absurd (by assumption) hA

theorem co_spec_ChangedWords (a : Context) (ha : SmallC a) (c : Context) (hn : SmallC c) (hA : GoodTwo a c) : ACalls Try.prog 21 [.agg (eContext a), .agg (eContext c)] [] (fun r st => ∃ b1, r = .tup [.own 1 b1 0 (chgL a c).length, .bool true] ∧ st = [(b1, .arr 3 1 ((chgL a c).map eInt))]) := by
  have hwa := words_len hA.1
  have hwc := words_len hA.2
  have hia := image_len hA.1
  have hic := image_len hA.2
  refine a_enter Try.func21 rfl rfl (fun w0 M0 => ?_)
  refine a_seq ?_
  refine a_region ?_
  refine aops_cons rfl (w_box_v rfl rfl rfl ?_)
  refine aops_cons rfl (w_box_v rfl rfl rfl ?_)
  refine aops_cons rfl (w_pure rfl (p_assign rfl) ?_)
  refine aops_cons rfl (w_pure rfl (p_assign rfl) ?_)
  refine aops_nil ?_
  refine a_seq ?_
  refine a_region ?_
  refine aops_cons rfl (w_litM eInt [] rfl el_22 rfl rfl rfl rfl rfl fun b1 => ?_)
  refine aops_cons rfl (w_pure rfl (p_assign rfl) ?_)
  refine aops_nil ?_
  refine a_seq ?_
  refine a_seq ?_
  refine a_region ?_
  refine aops_cons rfl (w_pure rfl (p_load_v_all ag_32 rfl (by rfl) noX) ?_)
  refine aops_cons rfl (w_callR rfl rfl rfl cl_61 (c_spec_l14One _ (by first | assumption | exact hn.2 _ (by omega))) ?_)
  refine aops_cons rfl (w_pure rfl (p_not rfl) ?_)
  refine aops_cons rfl (w_pure rfl (p_move rfl) ?_)
  first | refine aops_split_d 14 rfl (fun h1 => ?_) (fun h2 => ?_) | refine aops_split 14 rfl (fun h1 => ?_) (fun h2 => ?_)
  · (try simp only [Bool.not_eq_true', Bool.not_eq_false', Bool.not_eq_true, Bool.not_eq_false, decide_eq_true_eq, decide_eq_false_iff_not, List.length_map, List.length_range] at h1)
    refine g_pass' rfl rfl rfl rfl rfl ?_
    refine g_pass' rfl rfl rfl rfl rfl ?_
    refine g_pass' rfl rfl rfl rfl rfl ?_
    refine aops_cons rfl (w_pure rfl (p_pick_t rfl rfl) ?_)
    refine aops_nil ?_
    refine a_cond_t rfl ?_
    refine a_seq ?_
    refine a_region ?_
    refine aops_cons rfl (w_pure rfl (p_move rfl) ?_)
    refine aops_cons rfl (w_pure rfl (p_assign rfl) ?_)
    refine aops_cons rfl (w_pure rfl (p_assign rfl) ?_)
    refine aops_nil ?_
    refine a_ret ?_
    refine ret_ok (hands2 rfl (.tmp rfl) (.tmp rfl)) (st' := [(b1, _)]) (.cons (by repeat (first | exact Pick.here _ _ _ | apply Pick.next)) (.nil _)) ?_
    first | (exfalso; first | contradiction | exact absurd hA.1 (by assumption) | exact absurd hA.2 (by assumption)) | (have hx : i = 10 := (by omega); subst hx; subst hI; exact ⟨b, rfl, rfl⟩)
  · (try simp only [Bool.not_eq_true', Bool.not_eq_false', Bool.not_eq_true, Bool.not_eq_false, decide_eq_true_eq, decide_eq_false_iff_not, List.length_map, List.length_range] at h2)
    refine aops_guard_t rfl rfl rfl (w_pure rfl (p_load_v_all ag_32 rfl (by rfl) noX) ?_)
    refine aops_guard_t rfl rfl rfl (w_callR rfl rfl rfl cl_61 (c_spec_l14One _ (by first | assumption | exact hn.2 _ (by omega))) ?_)
    refine aops_guard_t rfl rfl rfl (w_pure rfl (p_not rfl) ?_)
    refine aops_cons rfl (w_pure rfl (p_pick_f rfl rfl) ?_)
    refine aops_nil ?_
    first | refine a_cond_d rfl (fun h3 => ?_) (fun h4 => ?_) | refine a_cond_n rfl (fun h3 => ?_) (fun h4 => ?_) | refine a_cond_nb rfl (fun h3 => ?_) (fun h4 => ?_) | refine a_cond rfl (fun h3 => ?_) (fun h4 => ?_)
    · (try simp only [Bool.not_eq_true', Bool.not_eq_false', Bool.not_eq_true, Bool.not_eq_false, decide_eq_true_eq, decide_eq_false_iff_not, List.length_map, List.length_range] at h3)
      refine a_seq ?_
      refine a_region ?_
      refine aops_cons rfl (w_pure rfl (p_move rfl) ?_)
      refine aops_cons rfl (w_pure rfl (p_assign rfl) ?_)
      refine aops_cons rfl (w_pure rfl (p_assign rfl) ?_)
      refine aops_nil ?_
      refine a_ret ?_
      refine ret_ok (hands2 rfl (.tmp rfl) (.tmp rfl)) (st' := [(b1, _)]) (.cons (by repeat (first | exact Pick.here _ _ _ | apply Pick.next)) (.nil _)) ?_
      first | (exfalso; first | contradiction | exact absurd hA.1 (by assumption) | exact absurd hA.2 (by assumption)) | (have hx : i = 10 := (by omega); subst hx; subst hI; exact ⟨b, rfl, rfl⟩)
    · (try simp only [Bool.not_eq_true', Bool.not_eq_false', Bool.not_eq_true, Bool.not_eq_false, decide_eq_true_eq, decide_eq_false_iff_not, List.length_map, List.length_range] at h4)
      refine a_skip ?_
      refine a_seq ?_
      refine a_draw [] (by kernel_rfl) ?_
      show ADraw _ _ _ _ _ _ 6 _ _ _ _
      refine d_load 0 rfl (by kernel_rfl) (by kernel_rfl) (by kernel_rfl) rfl (p_load_v_all ag_32 rfl (by rfl) noX) ?_
      refine d_load 2 rfl (by kernel_rfl) (by kernel_rfl) (by kernel_rfl) rfl (p_load_v_all ag_32 rfl (by rfl) noX) ?_
      refine draw_all [1] (by kernel_rfl) (by simp) ?_
      refine all_cons rfl rfl ?_ ?_
      · skip
        refine w_callR rfl rfl rfl cl_67 (c_spec_l14Words a ha hA.1) ?_
        refine draw_all [3] (by kernel_rfl) (by simp) ?_
        refine all_cons rfl rfl ?_ ?_
        · skip
          refine w_callR rfl rfl rfl cl_67 (c_spec_l14Words c hn hA.2) ?_
          refine d_take 4 rfl (by kernel_rfl) (by kernel_rfl) (by kernel_rfl) rfl (p_assign rfl) ?_
          refine d_take 5 rfl (by kernel_rfl) (by kernel_rfl) (by kernel_rfl) rfl (p_assign rfl) ?_
          refine draw_done (by kernel_rfl) ?_
          refine a_seq ?_
          refine a_seq ?_
          refine a_region ?_
          refine aops_cons rfl (w_pure rfl (p_assign rfl) ?_)
          refine aops_nil ?_
          refine a_block ?_
          refine a_loop (ι := Nat × Nat × List Int) (fun ⟨i, b, l⟩ => i ≤ (wordsV a).length ∧ l = chgTo a c i) (fun ⟨i, b, l⟩ => [(9, .int .i64 (i : Int)), (6, .own 1 b 0 l.length)]) (fun ⟨i, b, l⟩ => [(b, .arr 3 1 (l.map eInt))]) (fun ⟨i, b, l⟩ => (wordsV a).length - i) (0, b1, []) ⟨Nat.zero_le _, rfl⟩ (by repeat (first | exact Knows.nil | refine Knows.cons (by rfl) ?_)) (by repeat (first | exact Picks.nil _ | exact Pick.here _ _ _ | apply Pick.next | apply Picks.cons)) ?_
          rintro ⟨i, b, l⟩ ⟨hi, hI⟩
          have hln := chgTo_len a c i; rw [← hI] at hln
          refine a_seq ?_
          refine a_seq ?_
          refine a_region ?_
          refine aops_cons rfl (w_pure rfl (p_move rfl) ?_)
          refine aops_cons rfl (w_pure rfl (p_move rfl) ?_)
          refine aops_cons rfl (w_pure rfl (p_len sl_22 rfl rfl) ?_)
          refine aops_cons rfl (w_pure rfl (p_lss rfl rfl) ?_)
          refine aops_nil ?_
          first | refine a_cond_d rfl (fun h5 => ?_) (fun h6 => ?_) | refine a_cond_n rfl (fun h5 => ?_) (fun h6 => ?_) | refine a_cond_nb rfl (fun h5 => ?_) (fun h6 => ?_) | refine a_cond rfl (fun h5 => ?_) (fun h6 => ?_)
          · (try simp only [Bool.not_eq_true', Bool.not_eq_false', Bool.not_eq_true, Bool.not_eq_false, decide_eq_true_eq, decide_eq_false_iff_not, List.length_map, List.length_range] at h5)
            refine a_skip ?_
            refine a_seq ?_
            refine a_block ?_
            refine a_seq ?_
            refine a_draw [] (by kernel_rfl) ?_
            show ADraw _ _ _ _ _ _ 9 _ _ _ _
            refine d_take 0 rfl (by kernel_rfl) (by kernel_rfl) (by kernel_rfl) rfl (p_move rfl) ?_
            refine d_take 1 rfl (by kernel_rfl) (by kernel_rfl) (by kernel_rfl) rfl (p_move rfl) ?_
            refine d_take 2 rfl (by kernel_rfl) (by kernel_rfl) (by kernel_rfl) rfl (p_index_sl i rfl rfl rfl (rowD _ _ (0 : Int) (by omega)) es_22) ?_
            refine d_load 3 rfl (by kernel_rfl) (by kernel_rfl) (by kernel_rfl) rfl (p_load_v ag_3 rfl (by rfl) noX) ?_
            refine d_take 4 rfl (by kernel_rfl) (by kernel_rfl) (by kernel_rfl) rfl (p_move rfl) ?_
            refine d_take 5 rfl (by kernel_rfl) (by kernel_rfl) (by kernel_rfl) rfl (p_move rfl) ?_
            refine d_take 6 rfl (by kernel_rfl) (by kernel_rfl) (by kernel_rfl) rfl (p_index_sl i rfl rfl rfl (rowD _ _ (0 : Int) (by omega)) es_22) ?_
            refine d_load 7 rfl (by kernel_rfl) (by kernel_rfl) (by kernel_rfl) rfl (p_load_v ag_3 rfl (by rfl) noX) ?_
            refine d_take 8 rfl (by kernel_rfl) (by kernel_rfl) (by kernel_rfl) rfl (p_neq rfl rfl) ?_
            refine draw_done (by kernel_rfl) ?_
            first | refine a_cond_d rfl (fun h7 => ?_) (fun h8 => ?_) | refine a_cond_n rfl (fun h7 => ?_) (fun h8 => ?_) | refine a_cond_nb rfl (fun h7 => ?_) (fun h8 => ?_) | refine a_cond rfl (fun h7 => ?_) (fun h8 => ?_)
            · (try simp only [Bool.not_eq_true', Bool.not_eq_false', Bool.not_eq_true, Bool.not_eq_false, decide_eq_true_eq, decide_eq_false_iff_not, List.length_map, List.length_range] at h7)
              refine a_region ?_
              refine aops_cons rfl (w_pure rfl (p_move rfl) ?_)
              refine aops_cons rfl (w_pure rfl (p_move rfl) ?_)
              refine aops_cons rfl (w_lit_vM eInt [(i : Int)] rfl el_22 rfl rfl rfl rfl rfl ?_)
              refine aops_cons rfl (w_appendM eInt rfl el_22 rfl rfl (by repeat (first | exact Pick.here _ _ _ | apply Pick.next)) rfl (.sl _) (fun _ => rfl) (fun _ => rfl) (by simp; omega) (by simp; omega) trivial fun b2 => ?_)
              refine aops_cons rfl (w_pure rfl (p_assign rfl) ?_)
              refine aops_nil ?_
              refine a_region ?_
              refine aops_cons rfl (w_pure rfl (p_move rfl) ?_)
              refine aops_cons rfl (w_pure rfl (p_add' rfl rfl ⟨by omega, by omega⟩) ?_)
              refine aops_cons rfl (w_pure rfl (p_assign rfl) ?_)
              refine aops_nil ?_
              refine ⟨(i + 1, _, _), _, ?_, ?_, (by repeat (first | exact Knows.nil | refine Knows.cons (by rfl) ?_)), (by repeat (first | exact Back.refl _ _ | refine Back.cons (by rfl) ?_)), (by repeat (first | exact Picks.nil _ | exact Pick.here _ _ _ | apply Pick.next | apply Picks.cons))⟩
              · refine ⟨by omega, ?_⟩; rw [chgTo, ← hI]; first | exact (if_pos (by assumption)).symm | exact (if_neg (by assumption)).symm
              · (try dsimp only); omega
            · (try simp only [Bool.not_eq_true', Bool.not_eq_false', Bool.not_eq_true, Bool.not_eq_false, decide_eq_true_eq, decide_eq_false_iff_not, List.length_map, List.length_range] at h8)
              refine a_skip ?_
              refine a_region ?_
              refine aops_cons rfl (w_pure rfl (p_move rfl) ?_)
              refine aops_cons rfl (w_pure rfl (p_add' rfl rfl ⟨by omega, by omega⟩) ?_)
              refine aops_cons rfl (w_pure rfl (p_assign rfl) ?_)
              refine aops_nil ?_
              refine ⟨(i + 1, _, _), _, ?_, ?_, (by repeat (first | exact Knows.nil | refine Knows.cons (by rfl) ?_)), (by repeat (first | exact Back.refl _ _ | refine Back.cons (by rfl) ?_)), (by repeat (first | exact Picks.nil _ | exact Pick.here _ _ _ | apply Pick.next | apply Picks.cons))⟩
              · refine ⟨by omega, ?_⟩; rw [chgTo, ← hI]; first | exact (if_pos (by assumption)).symm | exact (if_neg (by assumption)).symm
              · (try dsimp only); omega
          · (try simp only [Bool.not_eq_true', Bool.not_eq_false', Bool.not_eq_true, Bool.not_eq_false, decide_eq_true_eq, decide_eq_false_iff_not, List.length_map, List.length_range] at h6)
            refine a_exit ?_
            refine a_seq ?_
            refine a_region ?_
            refine aops_cons rfl (w_pure rfl (p_move rfl) ?_)
            refine aops_cons rfl (w_pure rfl (p_assign rfl) ?_)
            refine aops_cons rfl (w_pure rfl (p_assign rfl) ?_)
            refine aops_nil ?_
            refine a_ret ?_
            refine ret_ok (hands2 rfl (.tmp rfl) (.tmp rfl)) (st' := [(b, _)]) (.cons (by repeat (first | exact Pick.here _ _ _ | apply Pick.next)) (.nil _)) ?_
            first | (exfalso; first | contradiction | exact absurd hA.1 (by assumption) | exact absurd hA.2 (by assumption)) | (have hx : i = 10 := (by omega); subst hx; subst hI; exact ⟨b, rfl, rfl⟩)
        exact all_nil
      exact all_nil

theorem cy_spec_ChangedWords (a : Context) (ha : SmallC a) (c : Context) (hn : SmallC c) (hA : GoodTwo a c) : ACalls Try.prog 21 [.agg (eContext a), .agg (eContext c)] [] (Ret (.tup [.sl ((chgL a c).map eInt), .bool true])) :=
  (co_spec_ChangedWords a ha c hn hA).freeze (by rintro _ _ ⟨_, rfl, rfl⟩; exact (.tup (.cons (.own (by repeat (first | exact List.Mem.head _ | apply List.Mem.tail)) (List.length_map _)) (.cons (.refl _) .nil))))

theorem cn_spec_ChangedWords (a : Context) (ha : SmallC a) (c : Context) (hn : SmallC c) (hA : ¬ GoodTwo a c) : ACalls Try.prog 21 [.agg (eContext a), .agg (eContext c)] [] (Ret (.tup [.sl ([] : List (List AV)), .bool false])) := by
  refine a_enter Try.func21 rfl rfl (fun w0 M0 => ?_)
  refine a_seq ?_
  refine a_region ?_
  refine aops_cons rfl (w_box_v rfl rfl rfl ?_)
  refine aops_cons rfl (w_box_v rfl rfl rfl ?_)
  refine aops_cons rfl (w_pure rfl (p_assign rfl) ?_)
  refine aops_cons rfl (w_pure rfl (p_assign rfl) ?_)
  refine aops_nil ?_
  refine a_seq ?_
  refine a_region ?_
  refine aops_cons rfl (w_lit_vM eInt [] rfl el_22 rfl rfl rfl rfl rfl ?_)
  refine aops_cons rfl (w_pure rfl (p_assign rfl) ?_)
  refine aops_nil ?_
  refine a_seq ?_
  refine a_seq ?_
  refine a_region ?_
  refine aops_cons rfl (w_pure rfl (p_load_v_all ag_32 rfl (by rfl) noX) ?_)
  refine aops_cons rfl (w_callR rfl rfl rfl cl_61 (c_spec_l14One _ (by first | assumption | exact hn.2 _ (by omega))) ?_)
  refine aops_cons rfl (w_pure rfl (p_not rfl) ?_)
  refine aops_cons rfl (w_pure rfl (p_move rfl) ?_)
  first | refine aops_split_d 14 rfl (fun h1 => ?_) (fun h2 => ?_) | refine aops_split 14 rfl (fun h1 => ?_) (fun h2 => ?_)
  · (try simp only [Bool.not_eq_true', Bool.not_eq_false', Bool.not_eq_true, Bool.not_eq_false, decide_eq_true_eq, decide_eq_false_iff_not, List.length_map, List.length_range] at h1)
    refine g_pass' rfl rfl rfl rfl rfl ?_
    refine g_pass' rfl rfl rfl rfl rfl ?_
    refine g_pass' rfl rfl rfl rfl rfl ?_
    refine aops_cons rfl (w_pure rfl (p_pick_t rfl rfl) ?_)
    refine aops_nil ?_
    refine a_cond_t rfl ?_
    refine a_seq ?_
    refine a_region ?_
    refine aops_cons rfl (w_pure rfl (p_move rfl) ?_)
    refine aops_cons rfl (w_pure rfl (p_assign rfl) ?_)
    refine aops_cons rfl (w_pure rfl (p_assign rfl) ?_)
    refine aops_nil ?_
    refine a_ret ?_
    refine ret_ok (hands2 rfl (.tmp rfl) (.tmp rfl)) (.nil _) ?_
    exact ⟨rfl, rfl⟩
  · (try simp only [Bool.not_eq_true', Bool.not_eq_false', Bool.not_eq_true, Bool.not_eq_false, decide_eq_true_eq, decide_eq_false_iff_not, List.length_map, List.length_range] at h2)
    refine aops_guard_t rfl rfl rfl (w_pure rfl (p_load_v_all ag_32 rfl (by rfl) noX) ?_)
    refine aops_guard_t rfl rfl rfl (w_callR rfl rfl rfl cl_61 (c_spec_l14One _ (by first | assumption | exact hn.2 _ (by omega))) ?_)
    refine aops_guard_t rfl rfl rfl (w_pure rfl (p_not rfl) ?_)
    refine aops_cons rfl (w_pure rfl (p_pick_f rfl rfl) ?_)
    refine aops_nil ?_
    first | refine a_cond_d rfl (fun h3 => ?_) (fun h4 => ?_) | refine a_cond_n rfl (fun h3 => ?_) (fun h4 => ?_) | refine a_cond_nb rfl (fun h3 => ?_) (fun h4 => ?_) | refine a_cond rfl (fun h3 => ?_) (fun h4 => ?_)
    · (try simp only [Bool.not_eq_true', Bool.not_eq_false', Bool.not_eq_true, Bool.not_eq_false, decide_eq_true_eq, decide_eq_false_iff_not, List.length_map, List.length_range] at h3)
      refine a_seq ?_
      refine a_region ?_
      refine aops_cons rfl (w_pure rfl (p_move rfl) ?_)
      refine aops_cons rfl (w_pure rfl (p_assign rfl) ?_)
      refine aops_cons rfl (w_pure rfl (p_assign rfl) ?_)
      refine aops_nil ?_
      refine a_ret ?_
      refine ret_ok (hands2 rfl (.tmp rfl) (.tmp rfl)) (.nil _) ?_
      exact ⟨rfl, rfl⟩
    · (try simp only [Bool.not_eq_true', Bool.not_eq_false', Bool.not_eq_true, Bool.not_eq_false, decide_eq_true_eq, decide_eq_false_iff_not, List.length_map, List.length_range] at h4)
      refine a_skip ?_
      refine a_seq ?_
      exact absurd (show GoodTwo a c from ⟨by assumption, by assumption⟩) hA

theorem cy_impl_ChangedWords (a : Context) (ha : SmallC a) (c : Context) (hn : SmallC c) (hA : GoodTwo a c) : ACalls Try.prog 22 [.agg (eContext a), .agg (eContext c)] [] (fun r st => ∃ b1, r = .tup [.own 1 b1 0 (chgL a c).length, .bool true] ∧ st = [(b1, .arr 3 1 ((chgL a c).map eInt))]) := by
  have hwa := words_len hA.1
  have hwc := words_len hA.2
  have hia := image_len hA.1
  have hic := image_len hA.2
  refine a_enter Try.func22 rfl rfl (fun w0 M0 => ?_)
  refine a_seq ?_
  refine a_region ?_
  refine aops_cons rfl (w_box_v rfl rfl rfl ?_)
  refine aops_cons rfl (w_box_v rfl rfl rfl ?_)
  refine aops_cons rfl (w_pure rfl (p_assign rfl) ?_)
  refine aops_cons rfl (w_pure rfl (p_assign rfl) ?_)
  refine aops_nil ?_
  refine a_seq ?_
  refine a_seq ?_
  refine a_region ?_
  refine aops_cons rfl (w_pure rfl (p_load_v_all ag_32 rfl (by rfl) noX) ?_)
  refine aops_cons rfl (w_callR rfl rfl rfl cl_42 (c_impl_IsContext _ (by first | assumption | exact hn.2 _ (by omega))) ?_)
  refine aops_cons rfl (w_pure rfl (p_not rfl) ?_)
  refine aops_cons rfl (w_pure rfl (p_move rfl) ?_)
  first | refine aops_split_d 13 rfl (fun h1 => ?_) (fun h2 => ?_) | refine aops_split 13 rfl (fun h1 => ?_) (fun h2 => ?_)
  · (try simp only [Bool.not_eq_true', Bool.not_eq_false', Bool.not_eq_true, Bool.not_eq_false, decide_eq_true_eq, decide_eq_false_iff_not, List.length_map, List.length_range] at h1)
    refine g_pass' rfl rfl rfl rfl rfl ?_
    refine g_pass' rfl rfl rfl rfl rfl ?_
    refine g_pass' rfl rfl rfl rfl rfl ?_
    refine aops_cons rfl (w_pure rfl (p_pick_t rfl rfl) ?_)
    refine aops_nil ?_
    refine a_cond_t rfl ?_
    refine a_seq ?_
    refine a_region ?_
    refine aops_cons rfl (w_pure rfl (p_assign rfl) ?_)
    refine aops_cons rfl (w_pure rfl (p_assign rfl) ?_)
    refine aops_nil ?_
    refine a_ret ?_
    refine ret_ok (hands2 rfl (.tmp rfl) (.tmp rfl)) (.nil _) ?_
    first | (exfalso; first | contradiction | exact absurd hA.1 (by assumption) | exact absurd hA.2 (by assumption)) | (have hx : i = 10 := (by omega); subst hx; subst hI; exact ⟨b, rfl, rfl⟩)
  · (try simp only [Bool.not_eq_true', Bool.not_eq_false', Bool.not_eq_true, Bool.not_eq_false, decide_eq_true_eq, decide_eq_false_iff_not, List.length_map, List.length_range] at h2)
    refine aops_guard_t rfl rfl rfl (w_pure rfl (p_load_v_all ag_32 rfl (by rfl) noX) ?_)
    refine aops_guard_t rfl rfl rfl (w_callR rfl rfl rfl cl_42 (c_impl_IsContext _ (by first | assumption | exact hn.2 _ (by omega))) ?_)
    refine aops_guard_t rfl rfl rfl (w_pure rfl (p_not rfl) ?_)
    refine aops_cons rfl (w_pure rfl (p_pick_f rfl rfl) ?_)
    refine aops_nil ?_
    first | refine a_cond_d rfl (fun h3 => ?_) (fun h4 => ?_) | refine a_cond_n rfl (fun h3 => ?_) (fun h4 => ?_) | refine a_cond_nb rfl (fun h3 => ?_) (fun h4 => ?_) | refine a_cond rfl (fun h3 => ?_) (fun h4 => ?_)
    · (try simp only [Bool.not_eq_true', Bool.not_eq_false', Bool.not_eq_true, Bool.not_eq_false, decide_eq_true_eq, decide_eq_false_iff_not, List.length_map, List.length_range] at h3)
      refine a_seq ?_
      refine a_region ?_
      refine aops_cons rfl (w_pure rfl (p_assign rfl) ?_)
      refine aops_cons rfl (w_pure rfl (p_assign rfl) ?_)
      refine aops_nil ?_
      refine a_ret ?_
      refine ret_ok (hands2 rfl (.tmp rfl) (.tmp rfl)) (.nil _) ?_
      first | (exfalso; first | contradiction | exact absurd hA.1 (by assumption) | exact absurd hA.2 (by assumption)) | (have hx : i = 10 := (by omega); subst hx; subst hI; exact ⟨b, rfl, rfl⟩)
    · (try simp only [Bool.not_eq_true', Bool.not_eq_false', Bool.not_eq_true, Bool.not_eq_false, decide_eq_true_eq, decide_eq_false_iff_not, List.length_map, List.length_range] at h4)
      refine a_skip ?_
      refine a_seq ?_
      refine a_draw [] (by kernel_rfl) ?_
      show ADraw _ _ _ _ _ _ 8 _ _ _ _
      refine d_load 0 rfl (by kernel_rfl) (by kernel_rfl) (by kernel_rfl) rfl (p_load_v_all ag_32 rfl (by rfl) noX) ?_
      refine d_load 2 rfl (by kernel_rfl) (by kernel_rfl) (by kernel_rfl) rfl (p_load_v_all ag_32 rfl (by rfl) noX) ?_
      refine draw_all [1, 4] (by kernel_rfl) (by simp) ?_
      refine all_cons rfl rfl ?_ ?_
      · skip
        refine w_callR rfl rfl rfl cl_64 (c_impl_imageOf a ha hA.1) ?_
        refine draw_all [3, 4] (by kernel_rfl) (by simp) ?_
        refine all_cons rfl rfl ?_ ?_
        · skip
          refine w_callR rfl rfl rfl cl_64 (c_impl_imageOf c hn hA.2) ?_
          refine d_take 5 rfl (by kernel_rfl) (by kernel_rfl) (by kernel_rfl) rfl (p_assign rfl) ?_
          refine d_take 6 rfl (by kernel_rfl) (by kernel_rfl) (by kernel_rfl) rfl (p_assign rfl) ?_
          refine draw_all [4] (by kernel_rfl) (by simp) ?_
          refine all_cons rfl rfl ?_ ?_
          · skip
            refine w_litM eInt [] rfl el_22 rfl rfl rfl rfl rfl fun b1 => ?_
            refine d_take 7 rfl (by kernel_rfl) (by kernel_rfl) (by kernel_rfl) rfl (p_assign rfl) ?_
            refine draw_done (by kernel_rfl) ?_
            refine a_seq ?_
            refine a_seq ?_
            refine a_region ?_
            refine aops_cons rfl (w_pure rfl (p_move rfl) ?_)
            refine aops_nil ?_
            refine a_block ?_
            refine a_loop (ι := Nat × Nat × List Int) (fun ⟨i, b, l⟩ => i ≤ 10 ∧ l = chgTo a c i) (fun ⟨i, b, l⟩ => [(23, .int .i64 (i : Int)), (8, .own 1 b 0 l.length)]) (fun ⟨i, b, l⟩ => [(b, .arr 3 1 (l.map eInt))]) (fun ⟨i, b, l⟩ => 10 - i) (0, b1, []) ⟨Nat.zero_le _, rfl⟩ (by repeat (first | exact Knows.nil | refine Knows.cons (by rfl) ?_)) (by repeat (first | exact Picks.nil _ | exact Pick.here _ _ _ | apply Pick.next | apply Picks.cons)) ?_
            rintro ⟨i, b, l⟩ ⟨hi, hI⟩
            have hln := chgTo_len a c i; rw [← hI] at hln
            refine a_seq ?_
            refine a_region ?_
            refine aops_cons rfl (w_pure rfl (p_lss rfl rfl) ?_)
            refine aops_nil ?_
            refine a_seq ?_
            first | refine a_cond_d rfl (fun h5 => ?_) (fun h6 => ?_) | refine a_cond_n rfl (fun h5 => ?_) (fun h6 => ?_) | refine a_cond_nb rfl (fun h5 => ?_) (fun h6 => ?_) | refine a_cond rfl (fun h5 => ?_) (fun h6 => ?_)
            · (try simp only [Bool.not_eq_true', Bool.not_eq_false', Bool.not_eq_true, Bool.not_eq_false, decide_eq_true_eq, decide_eq_false_iff_not, List.length_map, List.length_range] at h5)
              refine a_skip ?_
              refine a_seq ?_
              refine a_block ?_
              refine a_seq ?_
              refine a_region ?_
              refine aops_cons rfl (w_pure rfl (p_move rfl) ?_)
              refine aops_cons rfl (w_pure rfl (p_assign rfl) ?_)
              refine aops_nil ?_
              refine a_seq ?_
              refine a_draw [] (by kernel_rfl) ?_
              show ADraw _ _ _ _ _ _ 9 _ _ _ _
              refine d_take 0 rfl (by kernel_rfl) (by kernel_rfl) (by kernel_rfl) rfl (p_move rfl) ?_
              refine d_take 1 rfl (by kernel_rfl) (by kernel_rfl) (by kernel_rfl) rfl (p_move rfl) ?_
              refine d_take 2 rfl (by kernel_rfl) (by kernel_rfl) (by kernel_rfl) rfl (p_index_sl i rfl rfl rfl (rowD _ _ (0 : Int) (by omega)) es_22) ?_
              refine d_load 3 rfl (by kernel_rfl) (by kernel_rfl) (by kernel_rfl) rfl (p_load_v ag_3 rfl (by rfl) noX) ?_
              refine d_take 4 rfl (by kernel_rfl) (by kernel_rfl) (by kernel_rfl) rfl (p_move rfl) ?_
              refine d_take 5 rfl (by kernel_rfl) (by kernel_rfl) (by kernel_rfl) rfl (p_move rfl) ?_
              refine d_take 6 rfl (by kernel_rfl) (by kernel_rfl) (by kernel_rfl) rfl (p_index_sl i rfl rfl rfl (rowD _ _ (0 : Int) (by omega)) es_22) ?_
              refine d_load 7 rfl (by kernel_rfl) (by kernel_rfl) (by kernel_rfl) rfl (p_load_v ag_3 rfl (by rfl) noX) ?_
              refine d_take 8 rfl (by kernel_rfl) (by kernel_rfl) (by kernel_rfl) rfl (p_neq rfl rfl) ?_
              refine draw_done (by kernel_rfl) ?_
              first | refine a_cond_d rfl (fun h7 => ?_) (fun h8 => ?_) | refine a_cond_n rfl (fun h7 => ?_) (fun h8 => ?_) | refine a_cond_nb rfl (fun h7 => ?_) (fun h8 => ?_) | refine a_cond rfl (fun h7 => ?_) (fun h8 => ?_)
              · (try simp only [Bool.not_eq_true', Bool.not_eq_false', Bool.not_eq_true, Bool.not_eq_false, decide_eq_true_eq, decide_eq_false_iff_not, List.length_map, List.length_range] at h7)
                refine a_region ?_
                refine aops_cons rfl (w_pure rfl (p_move rfl) ?_)
                refine aops_cons rfl (w_pure rfl (p_move rfl) ?_)
                refine aops_cons rfl (w_lit_vM eInt [(i : Int)] rfl el_22 rfl rfl rfl rfl rfl ?_)
                refine aops_cons rfl (w_appendM eInt rfl el_22 rfl rfl (by repeat (first | exact Pick.here _ _ _ | apply Pick.next)) rfl (.sl _) (fun _ => rfl) (fun _ => rfl) (by simp; omega) (by simp; omega) trivial fun b2 => ?_)
                refine aops_cons rfl (w_pure rfl (p_assign rfl) ?_)
                refine aops_nil ?_
                refine a_region ?_
                refine aops_cons rfl (w_pure rfl (p_add' rfl rfl ⟨by omega, by omega⟩) ?_)
                refine aops_cons rfl (w_pure rfl (p_move rfl) ?_)
                refine aops_nil ?_
                refine ⟨(i + 1, _, _), _, ?_, ?_, (by repeat (first | exact Knows.nil | refine Knows.cons (by rfl) ?_)), (by repeat (first | exact Back.refl _ _ | refine Back.cons (by rfl) ?_)), (by repeat (first | exact Picks.nil _ | exact Pick.here _ _ _ | apply Pick.next | apply Picks.cons))⟩
                · refine ⟨by omega, ?_⟩; rw [chgTo, ← hI]; first | exact (if_pos (by rw [← image_at hA.1 (by omega), ← image_at hA.2 (by omega)]; assumption)).symm | exact (if_neg (by rw [← image_at hA.1 (by omega), ← image_at hA.2 (by omega)]; assumption)).symm
                · (try dsimp only); omega
              · (try simp only [Bool.not_eq_true', Bool.not_eq_false', Bool.not_eq_true, Bool.not_eq_false, decide_eq_true_eq, decide_eq_false_iff_not, List.length_map, List.length_range] at h8)
                refine a_skip ?_
                refine a_region ?_
                refine aops_cons rfl (w_pure rfl (p_add' rfl rfl ⟨by omega, by omega⟩) ?_)
                refine aops_cons rfl (w_pure rfl (p_move rfl) ?_)
                refine aops_nil ?_
                refine ⟨(i + 1, _, _), _, ?_, ?_, (by repeat (first | exact Knows.nil | refine Knows.cons (by rfl) ?_)), (by repeat (first | exact Back.refl _ _ | refine Back.cons (by rfl) ?_)), (by repeat (first | exact Picks.nil _ | exact Pick.here _ _ _ | apply Pick.next | apply Picks.cons))⟩
                · refine ⟨by omega, ?_⟩; rw [chgTo, ← hI]; first | exact (if_pos (by rw [← image_at hA.1 (by omega), ← image_at hA.2 (by omega)]; assumption)).symm | exact (if_neg (by rw [← image_at hA.1 (by omega), ← image_at hA.2 (by omega)]; assumption)).symm
                · (try dsimp only); omega
            · (try simp only [Bool.not_eq_true', Bool.not_eq_false', Bool.not_eq_true, Bool.not_eq_false, decide_eq_true_eq, decide_eq_false_iff_not, List.length_map, List.length_range] at h6)
              refine a_exit ?_
              refine a_seq ?_
              refine a_region ?_
              refine aops_cons rfl (w_pure rfl (p_move rfl) ?_)
              refine aops_cons rfl (w_pure rfl (p_assign rfl) ?_)
              refine aops_cons rfl (w_pure rfl (p_assign rfl) ?_)
              refine aops_nil ?_
              refine a_ret ?_
              refine ret_ok (hands2 rfl (.tmp rfl) (.tmp rfl)) (st' := [(b, _)]) (.cons (by repeat (first | exact Pick.here _ _ _ | apply Pick.next)) (.nil _)) ?_
              first | (exfalso; first | contradiction | exact absurd hA.1 (by assumption) | exact absurd hA.2 (by assumption)) | (have hx : i = 10 := (by omega); subst hx; subst hI; exact ⟨b, rfl, rfl⟩)
          exact all_nil
        refine all_cons rfl rfl ?_ ?_
        · skip
          refine w_litM eInt [] rfl el_22 rfl rfl rfl rfl rfl fun b3 => ?_
          refine draw_all [3] (by kernel_rfl) (by simp) ?_
          refine all_cons rfl rfl ?_ ?_
          · skip
            refine w_callR rfl rfl rfl cl_64 (c_impl_imageOf c hn hA.2) ?_
            refine d_take 5 rfl (by kernel_rfl) (by kernel_rfl) (by kernel_rfl) rfl (p_assign rfl) ?_
            refine d_take 6 rfl (by kernel_rfl) (by kernel_rfl) (by kernel_rfl) rfl (p_assign rfl) ?_
            refine d_take 7 rfl (by kernel_rfl) (by kernel_rfl) (by kernel_rfl) rfl (p_assign rfl) ?_
            refine draw_done (by kernel_rfl) ?_
            refine a_seq ?_
            refine a_seq ?_
            refine a_region ?_
            refine aops_cons rfl (w_pure rfl (p_move rfl) ?_)
            refine aops_nil ?_
            refine a_block ?_
            refine a_loop (ι := Nat × Nat × List Int) (fun ⟨i, b, l⟩ => i ≤ 10 ∧ l = chgTo a c i) (fun ⟨i, b, l⟩ => [(23, .int .i64 (i : Int)), (8, .own 1 b 0 l.length)]) (fun ⟨i, b, l⟩ => [(b, .arr 3 1 (l.map eInt))]) (fun ⟨i, b, l⟩ => 10 - i) (0, b3, []) ⟨Nat.zero_le _, rfl⟩ (by repeat (first | exact Knows.nil | refine Knows.cons (by rfl) ?_)) (by repeat (first | exact Picks.nil _ | exact Pick.here _ _ _ | apply Pick.next | apply Picks.cons)) ?_
            rintro ⟨i, b, l⟩ ⟨hi, hI⟩
            have hln := chgTo_len a c i; rw [← hI] at hln
            refine a_seq ?_
            refine a_region ?_
            refine aops_cons rfl (w_pure rfl (p_lss rfl rfl) ?_)
            refine aops_nil ?_
            refine a_seq ?_
            first | refine a_cond_d rfl (fun h9 => ?_) (fun h10 => ?_) | refine a_cond_n rfl (fun h9 => ?_) (fun h10 => ?_) | refine a_cond_nb rfl (fun h9 => ?_) (fun h10 => ?_) | refine a_cond rfl (fun h9 => ?_) (fun h10 => ?_)
            · (try simp only [Bool.not_eq_true', Bool.not_eq_false', Bool.not_eq_true, Bool.not_eq_false, decide_eq_true_eq, decide_eq_false_iff_not, List.length_map, List.length_range] at h9)
              refine a_skip ?_
              refine a_seq ?_
              refine a_block ?_
              refine a_seq ?_
              refine a_region ?_
              refine aops_cons rfl (w_pure rfl (p_move rfl) ?_)
              refine aops_cons rfl (w_pure rfl (p_assign rfl) ?_)
              refine aops_nil ?_
              refine a_seq ?_
              refine a_draw [] (by kernel_rfl) ?_
              show ADraw _ _ _ _ _ _ 9 _ _ _ _
              refine d_take 0 rfl (by kernel_rfl) (by kernel_rfl) (by kernel_rfl) rfl (p_move rfl) ?_
              refine d_take 1 rfl (by kernel_rfl) (by kernel_rfl) (by kernel_rfl) rfl (p_move rfl) ?_
              refine d_take 2 rfl (by kernel_rfl) (by kernel_rfl) (by kernel_rfl) rfl (p_index_sl i rfl rfl rfl (rowD _ _ (0 : Int) (by omega)) es_22) ?_
              refine d_load 3 rfl (by kernel_rfl) (by kernel_rfl) (by kernel_rfl) rfl (p_load_v ag_3 rfl (by rfl) noX) ?_
              refine d_take 4 rfl (by kernel_rfl) (by kernel_rfl) (by kernel_rfl) rfl (p_move rfl) ?_
              refine d_take 5 rfl (by kernel_rfl) (by kernel_rfl) (by kernel_rfl) rfl (p_move rfl) ?_
              refine d_take 6 rfl (by kernel_rfl) (by kernel_rfl) (by kernel_rfl) rfl (p_index_sl i rfl rfl rfl (rowD _ _ (0 : Int) (by omega)) es_22) ?_
              refine d_load 7 rfl (by kernel_rfl) (by kernel_rfl) (by kernel_rfl) rfl (p_load_v ag_3 rfl (by rfl) noX) ?_
              refine d_take 8 rfl (by kernel_rfl) (by kernel_rfl) (by kernel_rfl) rfl (p_neq rfl rfl) ?_
              refine draw_done (by kernel_rfl) ?_
              first | refine a_cond_d rfl (fun h11 => ?_) (fun h12 => ?_) | refine a_cond_n rfl (fun h11 => ?_) (fun h12 => ?_) | refine a_cond_nb rfl (fun h11 => ?_) (fun h12 => ?_) | refine a_cond rfl (fun h11 => ?_) (fun h12 => ?_)
              · (try simp only [Bool.not_eq_true', Bool.not_eq_false', Bool.not_eq_true, Bool.not_eq_false, decide_eq_true_eq, decide_eq_false_iff_not, List.length_map, List.length_range] at h11)
                refine a_region ?_
                refine aops_cons rfl (w_pure rfl (p_move rfl) ?_)
                refine aops_cons rfl (w_pure rfl (p_move rfl) ?_)
                refine aops_cons rfl (w_lit_vM eInt [(i : Int)] rfl el_22 rfl rfl rfl rfl rfl ?_)
                refine aops_cons rfl (w_appendM eInt rfl el_22 rfl rfl (by repeat (first | exact Pick.here _ _ _ | apply Pick.next)) rfl (.sl _) (fun _ => rfl) (fun _ => rfl) (by simp; omega) (by simp; omega) trivial fun b4 => ?_)
                refine aops_cons rfl (w_pure rfl (p_assign rfl) ?_)
                refine aops_nil ?_
                refine a_region ?_
                refine aops_cons rfl (w_pure rfl (p_add' rfl rfl ⟨by omega, by omega⟩) ?_)
                refine aops_cons rfl (w_pure rfl (p_move rfl) ?_)
                refine aops_nil ?_
                refine ⟨(i + 1, _, _), _, ?_, ?_, (by repeat (first | exact Knows.nil | refine Knows.cons (by rfl) ?_)), (by repeat (first | exact Back.refl _ _ | refine Back.cons (by rfl) ?_)), (by repeat (first | exact Picks.nil _ | exact Pick.here _ _ _ | apply Pick.next | apply Picks.cons))⟩
                · refine ⟨by omega, ?_⟩; rw [chgTo, ← hI]; first | exact (if_pos (by rw [← image_at hA.1 (by omega), ← image_at hA.2 (by omega)]; assumption)).symm | exact (if_neg (by rw [← image_at hA.1 (by omega), ← image_at hA.2 (by omega)]; assumption)).symm
                · (try dsimp only); omega
              · (try simp only [Bool.not_eq_true', Bool.not_eq_false', Bool.not_eq_true, Bool.not_eq_false, decide_eq_true_eq, decide_eq_false_iff_not, List.length_map, List.length_range] at h12)
                refine a_skip ?_
                refine a_region ?_
                refine aops_cons rfl (w_pure rfl (p_add' rfl rfl ⟨by omega, by omega⟩) ?_)
                refine aops_cons rfl (w_pure rfl (p_move rfl) ?_)
                refine aops_nil ?_
                refine ⟨(i + 1, _, _), _, ?_, ?_, (by repeat (first | exact Knows.nil | refine Knows.cons (by rfl) ?_)), (by repeat (first | exact Back.refl _ _ | refine Back.cons (by rfl) ?_)), (by repeat (first | exact Picks.nil _ | exact Pick.here _ _ _ | apply Pick.next | apply Picks.cons))⟩
                · refine ⟨by omega, ?_⟩; rw [chgTo, ← hI]; first | exact (if_pos (by rw [← image_at hA.1 (by omega), ← image_at hA.2 (by omega)]; assumption)).symm | exact (if_neg (by rw [← image_at hA.1 (by omega), ← image_at hA.2 (by omega)]; assumption)).symm
                · (try dsimp only); omega
            · (try simp only [Bool.not_eq_true', Bool.not_eq_false', Bool.not_eq_true, Bool.not_eq_false, decide_eq_true_eq, decide_eq_false_iff_not, List.length_map, List.length_range] at h10)
              refine a_exit ?_
              refine a_seq ?_
              refine a_region ?_
              refine aops_cons rfl (w_pure rfl (p_move rfl) ?_)
              refine aops_cons rfl (w_pure rfl (p_assign rfl) ?_)
              refine aops_cons rfl (w_pure rfl (p_assign rfl) ?_)
              refine aops_nil ?_
              refine a_ret ?_
              refine ret_ok (hands2 rfl (.tmp rfl) (.tmp rfl)) (st' := [(b, _)]) (.cons (by repeat (first | exact Pick.here _ _ _ | apply Pick.next)) (.nil _)) ?_
              first | (exfalso; first | contradiction | exact absurd hA.1 (by assumption) | exact absurd hA.2 (by assumption)) | (have hx : i = 10 := (by omega); subst hx; subst hI; exact ⟨b, rfl, rfl⟩)
          exact all_nil
        exact all_nil
      refine all_cons rfl rfl ?_ ?_
      · skip
        refine w_litM eInt [] rfl el_22 rfl rfl rfl rfl rfl fun b5 => ?_
        refine draw_all [1] (by kernel_rfl) (by simp) ?_
        refine all_cons rfl rfl ?_ ?_
        · skip
          refine w_callR rfl rfl rfl cl_64 (c_impl_imageOf a ha hA.1) ?_
          refine draw_all [3] (by kernel_rfl) (by simp) ?_
          refine all_cons rfl rfl ?_ ?_
          · skip
            refine w_callR rfl rfl rfl cl_64 (c_impl_imageOf c hn hA.2) ?_
            refine d_take 5 rfl (by kernel_rfl) (by kernel_rfl) (by kernel_rfl) rfl (p_assign rfl) ?_
            refine d_take 6 rfl (by kernel_rfl) (by kernel_rfl) (by kernel_rfl) rfl (p_assign rfl) ?_
            refine d_take 7 rfl (by kernel_rfl) (by kernel_rfl) (by kernel_rfl) rfl (p_assign rfl) ?_
            refine draw_done (by kernel_rfl) ?_
            refine a_seq ?_
            refine a_seq ?_
            refine a_region ?_
            refine aops_cons rfl (w_pure rfl (p_move rfl) ?_)
            refine aops_nil ?_
            refine a_block ?_
            refine a_loop (ι := Nat × Nat × List Int) (fun ⟨i, b, l⟩ => i ≤ 10 ∧ l = chgTo a c i) (fun ⟨i, b, l⟩ => [(23, .int .i64 (i : Int)), (8, .own 1 b 0 l.length)]) (fun ⟨i, b, l⟩ => [(b, .arr 3 1 (l.map eInt))]) (fun ⟨i, b, l⟩ => 10 - i) (0, b5, []) ⟨Nat.zero_le _, rfl⟩ (by repeat (first | exact Knows.nil | refine Knows.cons (by rfl) ?_)) (by repeat (first | exact Picks.nil _ | exact Pick.here _ _ _ | apply Pick.next | apply Picks.cons)) ?_
            rintro ⟨i, b, l⟩ ⟨hi, hI⟩
            have hln := chgTo_len a c i; rw [← hI] at hln
            refine a_seq ?_
            refine a_region ?_
            refine aops_cons rfl (w_pure rfl (p_lss rfl rfl) ?_)
            refine aops_nil ?_
            refine a_seq ?_
            first | refine a_cond_d rfl (fun h13 => ?_) (fun h14 => ?_) | refine a_cond_n rfl (fun h13 => ?_) (fun h14 => ?_) | refine a_cond_nb rfl (fun h13 => ?_) (fun h14 => ?_) | refine a_cond rfl (fun h13 => ?_) (fun h14 => ?_)
            · (try simp only [Bool.not_eq_true', Bool.not_eq_false', Bool.not_eq_true, Bool.not_eq_false, decide_eq_true_eq, decide_eq_false_iff_not, List.length_map, List.length_range] at h13)
              refine a_skip ?_
              refine a_seq ?_
              refine a_block ?_
              refine a_seq ?_
              refine a_region ?_
              refine aops_cons rfl (w_pure rfl (p_move rfl) ?_)
              refine aops_cons rfl (w_pure rfl (p_assign rfl) ?_)
              refine aops_nil ?_
              refine a_seq ?_
              refine a_draw [] (by kernel_rfl) ?_
              show ADraw _ _ _ _ _ _ 9 _ _ _ _
              refine d_take 0 rfl (by kernel_rfl) (by kernel_rfl) (by kernel_rfl) rfl (p_move rfl) ?_
              refine d_take 1 rfl (by kernel_rfl) (by kernel_rfl) (by kernel_rfl) rfl (p_move rfl) ?_
              refine d_take 2 rfl (by kernel_rfl) (by kernel_rfl) (by kernel_rfl) rfl (p_index_sl i rfl rfl rfl (rowD _ _ (0 : Int) (by omega)) es_22) ?_
              refine d_load 3 rfl (by kernel_rfl) (by kernel_rfl) (by kernel_rfl) rfl (p_load_v ag_3 rfl (by rfl) noX) ?_
              refine d_take 4 rfl (by kernel_rfl) (by kernel_rfl) (by kernel_rfl) rfl (p_move rfl) ?_
              refine d_take 5 rfl (by kernel_rfl) (by kernel_rfl) (by kernel_rfl) rfl (p_move rfl) ?_
              refine d_take 6 rfl (by kernel_rfl) (by kernel_rfl) (by kernel_rfl) rfl (p_index_sl i rfl rfl rfl (rowD _ _ (0 : Int) (by omega)) es_22) ?_
              refine d_load 7 rfl (by kernel_rfl) (by kernel_rfl) (by kernel_rfl) rfl (p_load_v ag_3 rfl (by rfl) noX) ?_
              refine d_take 8 rfl (by kernel_rfl) (by kernel_rfl) (by kernel_rfl) rfl (p_neq rfl rfl) ?_
              refine draw_done (by kernel_rfl) ?_
              first | refine a_cond_d rfl (fun h15 => ?_) (fun h16 => ?_) | refine a_cond_n rfl (fun h15 => ?_) (fun h16 => ?_) | refine a_cond_nb rfl (fun h15 => ?_) (fun h16 => ?_) | refine a_cond rfl (fun h15 => ?_) (fun h16 => ?_)
              · (try simp only [Bool.not_eq_true', Bool.not_eq_false', Bool.not_eq_true, Bool.not_eq_false, decide_eq_true_eq, decide_eq_false_iff_not, List.length_map, List.length_range] at h15)
                refine a_region ?_
                refine aops_cons rfl (w_pure rfl (p_move rfl) ?_)
                refine aops_cons rfl (w_pure rfl (p_move rfl) ?_)
                refine aops_cons rfl (w_lit_vM eInt [(i : Int)] rfl el_22 rfl rfl rfl rfl rfl ?_)
                refine aops_cons rfl (w_appendM eInt rfl el_22 rfl rfl (by repeat (first | exact Pick.here _ _ _ | apply Pick.next)) rfl (.sl _) (fun _ => rfl) (fun _ => rfl) (by simp; omega) (by simp; omega) trivial fun b6 => ?_)
                refine aops_cons rfl (w_pure rfl (p_assign rfl) ?_)
                refine aops_nil ?_
                refine a_region ?_
                refine aops_cons rfl (w_pure rfl (p_add' rfl rfl ⟨by omega, by omega⟩) ?_)
                refine aops_cons rfl (w_pure rfl (p_move rfl) ?_)
                refine aops_nil ?_
                refine ⟨(i + 1, _, _), _, ?_, ?_, (by repeat (first | exact Knows.nil | refine Knows.cons (by rfl) ?_)), (by repeat (first | exact Back.refl _ _ | refine Back.cons (by rfl) ?_)), (by repeat (first | exact Picks.nil _ | exact Pick.here _ _ _ | apply Pick.next | apply Picks.cons))⟩
                · refine ⟨by omega, ?_⟩; rw [chgTo, ← hI]; first | exact (if_pos (by rw [← image_at hA.1 (by omega), ← image_at hA.2 (by omega)]; assumption)).symm | exact (if_neg (by rw [← image_at hA.1 (by omega), ← image_at hA.2 (by omega)]; assumption)).symm
                · (try dsimp only); omega
              · (try simp only [Bool.not_eq_true', Bool.not_eq_false', Bool.not_eq_true, Bool.not_eq_false, decide_eq_true_eq, decide_eq_false_iff_not, List.length_map, List.length_range] at h16)
                refine a_skip ?_
                refine a_region ?_
                refine aops_cons rfl (w_pure rfl (p_add' rfl rfl ⟨by omega, by omega⟩) ?_)
                refine aops_cons rfl (w_pure rfl (p_move rfl) ?_)
                refine aops_nil ?_
                refine ⟨(i + 1, _, _), _, ?_, ?_, (by repeat (first | exact Knows.nil | refine Knows.cons (by rfl) ?_)), (by repeat (first | exact Back.refl _ _ | refine Back.cons (by rfl) ?_)), (by repeat (first | exact Picks.nil _ | exact Pick.here _ _ _ | apply Pick.next | apply Picks.cons))⟩
                · refine ⟨by omega, ?_⟩; rw [chgTo, ← hI]; first | exact (if_pos (by rw [← image_at hA.1 (by omega), ← image_at hA.2 (by omega)]; assumption)).symm | exact (if_neg (by rw [← image_at hA.1 (by omega), ← image_at hA.2 (by omega)]; assumption)).symm
                · (try dsimp only); omega
            · (try simp only [Bool.not_eq_true', Bool.not_eq_false', Bool.not_eq_true, Bool.not_eq_false, decide_eq_true_eq, decide_eq_false_iff_not, List.length_map, List.length_range] at h14)
              refine a_exit ?_
              refine a_seq ?_
              refine a_region ?_
              refine aops_cons rfl (w_pure rfl (p_move rfl) ?_)
              refine aops_cons rfl (w_pure rfl (p_assign rfl) ?_)
              refine aops_cons rfl (w_pure rfl (p_assign rfl) ?_)
              refine aops_nil ?_
              refine a_ret ?_
              refine ret_ok (hands2 rfl (.tmp rfl) (.tmp rfl)) (st' := [(b, _)]) (.cons (by repeat (first | exact Pick.here _ _ _ | apply Pick.next)) (.nil _)) ?_
              first | (exfalso; first | contradiction | exact absurd hA.1 (by assumption) | exact absurd hA.2 (by assumption)) | (have hx : i = 10 := (by omega); subst hx; subst hI; exact ⟨b, rfl, rfl⟩)
          exact all_nil
        exact all_nil
      exact all_nil

theorem cf_impl_ChangedWords (a : Context) (ha : SmallC a) (c : Context) (hn : SmallC c) (hA : GoodTwo a c) : ACalls Try.prog 22 [.agg (eContext a), .agg (eContext c)] [] (Ret (.tup [.sl ((chgL a c).map eInt), .bool true])) :=
  (cy_impl_ChangedWords a ha c hn hA).freeze (by rintro _ _ ⟨_, rfl, rfl⟩; exact (.tup (.cons (.own (by repeat (first | exact List.Mem.head _ | apply List.Mem.tail)) (List.length_map _)) (.cons (.refl _) .nil))))

theorem cn_impl_ChangedWords (a : Context) (ha : SmallC a) (c : Context) (hn : SmallC c) (hA : ¬ GoodTwo a c) : ACalls Try.prog 22 [.agg (eContext a), .agg (eContext c)] [] (Ret (.tup [.nil, .bool false])) := by
  refine a_enter Try.func22 rfl rfl (fun w0 M0 => ?_)
  refine a_seq ?_
  refine a_region ?_
  refine aops_cons rfl (w_box_v rfl rfl rfl ?_)
  refine aops_cons rfl (w_box_v rfl rfl rfl ?_)
  refine aops_cons rfl (w_pure rfl (p_assign rfl) ?_)
  refine aops_cons rfl (w_pure rfl (p_assign rfl) ?_)
  refine aops_nil ?_
  refine a_seq ?_
  refine a_seq ?_
  refine a_region ?_
  refine aops_cons rfl (w_pure rfl (p_load_v_all ag_32 rfl (by rfl) noX) ?_)
  refine aops_cons rfl (w_callR rfl rfl rfl cl_42 (c_impl_IsContext _ (by first | assumption | exact hn.2 _ (by omega))) ?_)
  refine aops_cons rfl (w_pure rfl (p_not rfl) ?_)
  refine aops_cons rfl (w_pure rfl (p_move rfl) ?_)
  first | refine aops_split_d 13 rfl (fun h1 => ?_) (fun h2 => ?_) | refine aops_split 13 rfl (fun h1 => ?_) (fun h2 => ?_)
  · (try simp only [Bool.not_eq_true', Bool.not_eq_false', Bool.not_eq_true, Bool.not_eq_false, decide_eq_true_eq, decide_eq_false_iff_not, List.length_map, List.length_range] at h1)
    refine g_pass' rfl rfl rfl rfl rfl ?_
    refine g_pass' rfl rfl rfl rfl rfl ?_
    refine g_pass' rfl rfl rfl rfl rfl ?_
    refine aops_cons rfl (w_pure rfl (p_pick_t rfl rfl) ?_)
    refine aops_nil ?_
    refine a_cond_t rfl ?_
    refine a_seq ?_
    refine a_region ?_
    refine aops_cons rfl (w_pure rfl (p_assign rfl) ?_)
    refine aops_cons rfl (w_pure rfl (p_assign rfl) ?_)
    refine aops_nil ?_
    refine a_ret ?_
    refine ret_ok (hands2 rfl (.tmp rfl) (.tmp rfl)) (.nil _) ?_
    exact ⟨rfl, rfl⟩
  · (try simp only [Bool.not_eq_true', Bool.not_eq_false', Bool.not_eq_true, Bool.not_eq_false, decide_eq_true_eq, decide_eq_false_iff_not, List.length_map, List.length_range] at h2)
    refine aops_guard_t rfl rfl rfl (w_pure rfl (p_load_v_all ag_32 rfl (by rfl) noX) ?_)
    refine aops_guard_t rfl rfl rfl (w_callR rfl rfl rfl cl_42 (c_impl_IsContext _ (by first | assumption | exact hn.2 _ (by omega))) ?_)
    refine aops_guard_t rfl rfl rfl (w_pure rfl (p_not rfl) ?_)
    refine aops_cons rfl (w_pure rfl (p_pick_f rfl rfl) ?_)
    refine aops_nil ?_
    first | refine a_cond_d rfl (fun h3 => ?_) (fun h4 => ?_) | refine a_cond_n rfl (fun h3 => ?_) (fun h4 => ?_) | refine a_cond_nb rfl (fun h3 => ?_) (fun h4 => ?_) | refine a_cond rfl (fun h3 => ?_) (fun h4 => ?_)
    · (try simp only [Bool.not_eq_true', Bool.not_eq_false', Bool.not_eq_true, Bool.not_eq_false, decide_eq_true_eq, decide_eq_false_iff_not, List.length_map, List.length_range] at h3)
      refine a_seq ?_
      refine a_region ?_
      refine aops_cons rfl (w_pure rfl (p_assign rfl) ?_)
      refine aops_cons rfl (w_pure rfl (p_assign rfl) ?_)
      refine aops_nil ?_
      refine a_ret ?_
      refine ret_ok (hands2 rfl (.tmp rfl) (.tmp rfl)) (.nil _) ?_
      exact ⟨rfl, rfl⟩
    · (try simp only [Bool.not_eq_true', Bool.not_eq_false', Bool.not_eq_true, Bool.not_eq_false, decide_eq_true_eq, decide_eq_false_iff_not, List.length_map, List.length_range] at h4)
      refine a_skip ?_
      refine a_seq ?_
      exact absurd (show GoodTwo a c from ⟨by assumption, by assumption⟩) hA

end Go.Proofs.Ytejlhpmmgjfllaa
