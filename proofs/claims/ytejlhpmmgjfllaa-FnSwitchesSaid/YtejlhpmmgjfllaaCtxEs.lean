/-
  The walks of this part: each theorem is the contract of one function. Condition: none but those that it names.
-/
import Derived.Test.YtejlhpmmgjfllaaCtxEF
import Derived.Test.YtejlhpmmgjfllaaCtxA
import Derived.Test.YtejlhpmmgjfllaaCtxB
import Derived.Test.YtejlhpmmgjfllaaCtxCs
import Derived.Test.YtejlhpmmgjfllaaCtxDs
namespace Go.Proofs.Ytejlhpmmgjfllaa
open Go Go.Fw Go.Hv
attribute [local irreducible] awp Aops Aop ADraw ADrawAll ACalls
set_option maxRecDepth 4000
set_option linter.unusedSimpArgs false
set_option linter.unusedVariables false

theorem co_impl_newRegisters (g : Registers) (hn : SmallR g) : ACalls Try.prog 115 [.agg (eRegisters g)] [] (fun r st => ∃ b1, r = .agg [.own 1 b1 0 g.words.length, .int .i64 g.pc, .bool g.f, .bool g.g] ∧ st = [(b1, .arr 3 1 (g.words.map eInt))]) := by
  have hn' : g.words.length ≤ 1048576 := hn
  refine a_enter Try.func115 rfl rfl (fun w0 M0 => ?_)
  refine a_seq ?_
  refine a_region ?_
  refine aops_cons rfl (w_box rfl rfl rfl fun b1 => ?_)
  refine aops_cons rfl (w_alloc rfl z_30 fun b2 => ?_)
  refine aops_nil ?_
  refine a_seq ?_
  refine a_region ?_
  refine aops_cons rfl (w_pure rfl (p_field_box fo_30_0 rfl) ?_)
  refine aops_cons rfl (w_pure rfl (p_load_box ag_22 rfl (by repeat (first | exact Pick.here _ _ _ | apply Pick.next)) (by rfl) noX) ?_)
  refine aops_cons rfl (w_call rfl rfl rfl cl_86 ((co_impl_copyInts _ (by assumption)).mono fun _ _ h => h.len) ?_)
  rintro _ _ ⟨b3, rfl, rfl⟩
  refine aops_cons rfl (w_pure rfl (p_field_box fo_30_0 rfl) ?_)
  refine aops_cons rfl (w_store (cells' := [_, _, _, _]) rfl rfl rfl (by repeat (first | exact Pick.here _ _ _ | apply Pick.next)) cn_22 (by rfl) (by rfl) (by rfl) trivial ?_)
  refine aops_nil ?_
  refine a_seq ?_
  refine a_region ?_
  refine aops_cons rfl (w_pure rfl (p_load_box_all ag_30 rfl (by repeat (first | exact Pick.here _ _ _ | apply Pick.next)) (by rfl) noX) ?_)
  refine aops_cons rfl (w_store (cells' := [_, _, _, _]) rfl rfl rfl (by repeat (first | exact Pick.here _ _ _ | apply Pick.next)) cn_30 (by rfl) (by rfl) (by rfl) trivial ?_)
  refine aops_nil ?_
  refine a_ret ?_
  refine ret_ok (hands1 rfl (.cell ag_30 rfl (by repeat (first | exact Pick.here _ _ _ | apply Pick.next)) (by rfl))) (st' := [(b3, _)]) (.cons (by repeat (first | exact Pick.here _ _ _ | apply Pick.next)) (.nil _)) ?_
  exact ⟨_, rfl, rfl⟩

theorem co_impl_newContext (c : Context) (hn : SmallC c) : ACalls Try.prog 101 [.agg (eContext c)] [] (fun r st => ∃ b1, r = .agg [.int .i64 c.id, .own 1 b1 0 c.regs.words.length, .int .i64 c.regs.pc, .bool c.regs.f, .bool c.regs.g, .int .i64 c.wait, .int .i64 c.pend] ∧ st = [(b1, .arr 3 1 (c.regs.words.map eInt))]) := by
  have hn' : c.regs.words.length ≤ 1048576 := hn
  refine a_enter Try.func101 rfl rfl (fun w0 M0 => ?_)
  refine a_seq ?_
  refine a_region ?_
  refine aops_cons rfl (w_box rfl rfl rfl fun b1 => ?_)
  refine aops_cons rfl (w_alloc rfl z_32 fun b2 => ?_)
  refine aops_nil ?_
  refine a_seq ?_
  refine a_region ?_
  refine aops_cons rfl (w_pure rfl (p_field_box fo_32_1 rfl) ?_)
  refine aops_cons rfl (w_pure rfl (p_load_box_agg (cs' := [_, _, _, _]) ag_30 rfl (by repeat (first | exact Pick.here _ _ _ | apply Pick.next)) (by rfl) (by rfl) noX) ?_)
  refine aops_cons rfl (w_call rfl rfl rfl cl_115 (co_impl_newRegisters c.regs hn) ?_)
  rintro _ _ ⟨b3, rfl, rfl⟩
  refine aops_cons rfl (w_pure rfl (p_field_box fo_32_1 rfl) ?_)
  refine aops_cons rfl (w_store (cells' := [_, _, _, _, _, _, _]) rfl rfl rfl (by repeat (first | exact Pick.here _ _ _ | apply Pick.next)) cn_30 (by rfl) (by rfl) (by rfl) trivial ?_)
  refine aops_nil ?_
  refine a_seq ?_
  refine a_region ?_
  refine aops_cons rfl (w_pure rfl (p_load_box_all ag_32 rfl (by repeat (first | exact Pick.here _ _ _ | apply Pick.next)) (by rfl) noX) ?_)
  refine aops_cons rfl (w_store (cells' := [_, _, _, _, _, _, _]) rfl rfl rfl (by repeat (first | exact Pick.here _ _ _ | apply Pick.next)) cn_32 (by rfl) (by rfl) (by rfl) trivial ?_)
  refine aops_nil ?_
  refine a_ret ?_
  refine ret_ok (hands1 rfl (.cell ag_32 rfl (by repeat (first | exact Pick.here _ _ _ | apply Pick.next)) (by rfl))) (st' := [(b3, _)]) (.cons (by repeat (first | exact Pick.here _ _ _ | apply Pick.next)) (.nil _)) ?_
  exact ⟨_, rfl, rfl⟩

theorem co_spec_l14Copy (c : Context) (hn : SmallC c) : ACalls Try.prog 95 [.agg (eContext c)] [] (fun r st => ∃ b1, r = .agg [.int .i64 c.id, .own 1 b1 0 c.regs.words.length, .int .i64 c.regs.pc, .bool c.regs.f, .bool c.regs.g, .int .i64 c.wait, .int .i64 c.pend] ∧ st = [(b1, .arr 3 1 (c.regs.words.map eInt))]) := by
  have hn' : c.regs.words.length ≤ 1048576 := hn
  refine a_enter Try.func95 rfl rfl (fun w0 M0 => ?_)
  refine a_seq ?_
  refine a_region ?_
  refine aops_cons rfl (w_box rfl rfl rfl fun b1 => ?_)
  refine aops_cons rfl (w_alloc rfl z_32 fun b2 => ?_)
  refine aops_nil ?_
  refine a_seq ?_
  refine a_region ?_
  refine aops_cons rfl (w_pure rfl (p_field_box fo_32_1 rfl) ?_)
  refine aops_cons rfl (w_pure rfl (p_field_box fo_30_0 rfl) ?_)
  refine aops_cons rfl (w_pure rfl (p_load_box ag_22 rfl (by repeat (first | exact Pick.here _ _ _ | apply Pick.next)) (by rfl) noX) ?_)
  refine aops_cons rfl (w_call rfl rfl rfl cl_94 ((co_spec_l1Own _ (by assumption)).mono fun _ _ h => h.len) ?_)
  rintro _ _ ⟨b3, rfl, rfl⟩
  refine aops_cons rfl (w_pure rfl (p_field_box fo_32_1 rfl) ?_)
  refine aops_cons rfl (w_pure rfl (p_field_box fo_30_0 rfl) ?_)
  refine aops_cons rfl (w_store (cells' := [_, _, _, _, _, _, _]) rfl rfl rfl (by repeat (first | exact Pick.here _ _ _ | apply Pick.next)) cn_22 (by rfl) (by rfl) (by rfl) trivial ?_)
  refine aops_nil ?_
  refine a_seq ?_
  refine a_region ?_
  refine aops_cons rfl (w_pure rfl (p_load_box_all ag_32 rfl (by repeat (first | exact Pick.here _ _ _ | apply Pick.next)) (by rfl) noX) ?_)
  refine aops_cons rfl (w_store (cells' := [_, _, _, _, _, _, _]) rfl rfl rfl (by repeat (first | exact Pick.here _ _ _ | apply Pick.next)) cn_32 (by rfl) (by rfl) (by rfl) trivial ?_)
  refine aops_nil ?_
  refine a_ret ?_
  refine ret_ok (hands1 rfl (.cell ag_32 rfl (by repeat (first | exact Pick.here _ _ _ | apply Pick.next)) (by rfl))) (st' := [(b3, _)]) (.cons (by repeat (first | exact Pick.here _ _ _ | apply Pick.next)) (.nil _)) ?_
  exact ⟨_, rfl, rfl⟩

theorem co_impl_newContexts (xs : List Context) (hn : SmallL xs) : ACalls Try.prog 77 [.sl (xs.map eContext)] [] (fun r st => ∃ (b1 : Nat) (ps1 : List BC), r = .own 7 b1 0 ps1.length ∧ ps1.map (·.2) = xs ∧ st = (b1, .arr 32 7 (ps1.map rowC)) :: fam (famC 3) ps1) := by
  have hn1 := hn.1
  refine a_enter Try.func77 rfl rfl (fun w0 M0 => ?_)
  refine a_seq ?_
  refine a_region ?_
  refine aops_cons rfl (w_pure rfl (p_assign rfl) ?_)
  refine aops_nil ?_
  refine a_seq ?_
  refine a_region ?_
  refine aops_cons rfl (w_litM rowC [] rfl el_44 rfl rfl rfl rfl rfl fun b1 => ?_)
  refine aops_cons rfl (w_pure rfl (p_assign rfl) ?_)
  refine aops_nil ?_
  refine a_seq ?_
  refine a_seq ?_
  refine a_region ?_
  refine aops_cons rfl (w_pure rfl (p_move rfl) ?_)
  refine aops_cons rfl (w_pure rfl (p_len sl_44 rfl rfl) ?_)
  refine aops_cons rfl (w_pure rfl (p_move rfl) ?_)
  refine aops_nil ?_
  refine a_block ?_
  refine a_loop (ι := Nat × Nat × List BC) (fun ⟨i, b, ps⟩ => i ≤ xs.length ∧ ps.length = i ∧ ps.map (·.2) = xs.take i) (fun ⟨i, b, ps⟩ => [(9, .int .i64 (i : Int)), (3, .own 7 b 0 ps.length)]) (fun ⟨i, b, ps⟩ => (b, .arr 32 7 (ps.map rowC)) :: fam (famC 3) ps) (fun ⟨i, b, ps⟩ => xs.length - i) (0, b1, []) ⟨Nat.zero_le _, rfl, rfl⟩ (by repeat (first | exact Knows.nil | refine Knows.cons (by rfl) ?_)) (by (try dsimp only); (try simp only [fam_app, fam_one, fam_nil, List.append_assoc, List.cons_append, List.nil_append, List.append_nil, List.append_eq]); repeat (first | exact Picks.nil _ | exact Pick.here _ _ _ | exact Picks.whole _ _ | exact Picks.whole0 _ | apply Pick.next | apply Pick.under | apply Picks.cons | apply Picks.both | apply Picks.skip1 | apply Picks.skipA)) ?_
  rintro ⟨i, b, ps⟩ ⟨hi, hL, hP⟩
  replace hi : i ≤ xs.length := hi
  replace hL : ps.length = i := hL
  replace hP : ps.map (·.2) = xs.take i := hP
  refine a_seq ?_
  refine a_region ?_
  refine aops_cons rfl (w_pure rfl (p_lss rfl rfl) ?_)
  refine aops_nil ?_
  refine a_seq ?_
  first | refine a_cond_d rfl (fun h1 => ?_) (fun h2 => ?_) | refine a_cond_n rfl (fun h1 => ?_) (fun h2 => ?_) | refine a_cond_nb rfl (fun h1 => ?_) (fun h2 => ?_) | refine a_cond rfl (fun h1 => ?_) (fun h2 => ?_)
  · (try simp only [Bool.not_eq_true', Bool.not_eq_false', Bool.not_eq_true, Bool.not_eq_false, decide_eq_true_eq, decide_eq_false_iff_not, List.length_map, List.length_range] at h1)
    refine a_skip ?_
    refine a_seq ?_
    refine a_block ?_
    refine a_seq ?_
    refine a_region ?_
    refine aops_cons rfl (w_pure rfl (p_index_sl _ rfl rfl rfl (rowD eContext xs zContext (by omega)) es_44) ?_)
    refine aops_cons rfl (w_pure rfl (p_load_v_all ag_32 rfl (by rfl) noX) ?_)
    refine aops_cons rfl (w_alloc rfl z_32 fun b2 => ?_)
    refine aops_cons rfl (w_store (cells' := [_, _, _, _, _, _, _]) rfl rfl rfl (by (try simp only [fam_app, fam_one, fam_nil, List.append_assoc, List.cons_append, List.nil_append, List.append_nil, List.append_eq]); repeat (first | exact Pick.here _ _ _ | apply Pick.next | apply Pick.under)) cn_32 (by rfl) (by rfl) (by rfl) trivial ?_)
    refine aops_nil ?_
    refine a_region ?_
    refine aops_cons rfl (w_pure rfl (p_move rfl) ?_)
    refine aops_cons rfl (w_pure rfl (p_load_box_all ag_32 rfl (by (try simp only [fam_app, fam_one, fam_nil, List.append_assoc, List.cons_append, List.nil_append, List.append_nil, List.append_eq]); repeat (first | exact Pick.here _ _ _ | apply Pick.next | apply Pick.under)) (by rfl) noX) ?_)
    refine aops_cons rfl (w_call rfl rfl rfl cl_101 (co_impl_newContext (xs.getD i zContext) (hn.2 i (by omega))) ?_)
    rintro _ _ ⟨b3, rfl, rfl⟩
    refine aops_cons rfl (w_lit_vM rowC [(b3, (xs.getD i zContext))] rfl el_44 rfl rfl rfl rfl rfl ?_)
    refine aops_cons rfl (w_appendM rowC rfl el_44 rfl rfl (by (try simp only [fam_app, fam_one, fam_nil, List.append_assoc, List.cons_append, List.nil_append, List.append_nil, List.append_eq]); repeat (first | exact Pick.here _ _ _ | apply Pick.next | apply Pick.under)) rfl (.sl _) (fun _ => rfl) (fun _ => rfl) (by simp; omega) (by simp; omega) trivial fun b4 => ?_)
    refine aops_cons rfl (w_pure rfl (p_assign rfl) ?_)
    refine aops_nil ?_
    refine a_region ?_
    refine aops_cons rfl (w_pure rfl (p_add' rfl rfl ⟨by (try simp only [List.length_map, List.length_append, List.length_cons, List.length_nil]); omega, by (try simp only [List.length_map, List.length_append, List.length_cons, List.length_nil]); omega⟩) ?_)
    refine aops_cons rfl (w_pure rfl (p_move rfl) ?_)
    refine aops_nil ?_
    refine ⟨(i + 1, _, ps ++ [(b3, (xs.getD i zContext))]), _, ?_, ?_, (by repeat (first | exact Knows.nil | refine Knows.cons (by rfl) ?_)), (by repeat (first | exact Back.refl _ _ | refine Back.cons (by rfl) ?_)), (by (try dsimp only); (try simp only [fam_app, fam_one, fam_nil, List.append_assoc, List.cons_append, List.nil_append, List.append_nil, List.append_eq]); repeat (first | exact Picks.nil _ | exact Pick.here _ _ _ | exact Picks.whole _ _ | exact Picks.whole0 _ | apply Pick.next | apply Pick.under | apply Picks.cons | apply Picks.both | apply Picks.skip1 | apply Picks.skipA))⟩
    · exact ⟨by omega, by simp; omega, take_step hP (by omega) rfl⟩
    · (try dsimp only); omega
  · (try simp only [Bool.not_eq_true', Bool.not_eq_false', Bool.not_eq_true, Bool.not_eq_false, decide_eq_true_eq, decide_eq_false_iff_not, List.length_map, List.length_range] at h2)
    refine a_exit ?_
    refine a_seq ?_
    refine a_region ?_
    refine aops_cons rfl (w_pure rfl (p_move rfl) ?_)
    refine aops_cons rfl (w_pure rfl (p_assign rfl) ?_)
    refine aops_nil ?_
    refine a_ret ?_
    refine ret_ok (hands1 rfl (.tmp rfl)) (st' := (b, .arr 32 7 (ps.map rowC)) :: fam (famC 3) ps) (by (try dsimp only); (try simp only [fam_app, fam_one, fam_nil, List.append_assoc, List.cons_append, List.nil_append, List.append_nil, List.append_eq]); repeat (first | exact Picks.nil _ | exact Pick.here _ _ _ | exact Picks.whole _ _ | exact Picks.whole0 _ | apply Pick.next | apply Pick.under | apply Picks.cons | apply Picks.both | apply Picks.skip1 | apply Picks.skipA)) ?_
    have hx : i = xs.length := (by omega); subst hx; exact ⟨b, ps, rfl, by rw [hP, List.take_length], rfl⟩

theorem co_spec_l14List (xs : List Context) (hn : SmallL xs) : ACalls Try.prog 75 [.sl (xs.map eContext)] [] (fun r st => ∃ (b1 : Nat) (ps1 : List BC), r = .own 7 b1 0 ps1.length ∧ ps1.map (·.2) = xs ∧ st = (b1, .arr 32 7 (ps1.map rowC)) :: fam (famC 3) ps1) := by
  have hn1 := hn.1
  refine a_enter Try.func75 rfl rfl (fun w0 M0 => ?_)
  refine a_seq ?_
  refine a_region ?_
  refine aops_cons rfl (w_pure rfl (p_assign rfl) ?_)
  refine aops_nil ?_
  refine a_seq ?_
  refine a_region ?_
  refine aops_cons rfl (w_litM rowC [] rfl el_44 rfl rfl rfl rfl rfl fun b1 => ?_)
  refine aops_cons rfl (w_pure rfl (p_assign rfl) ?_)
  refine aops_nil ?_
  refine a_seq ?_
  refine a_seq ?_
  refine a_region ?_
  refine aops_cons rfl (w_pure rfl (p_assign rfl) ?_)
  refine aops_nil ?_
  refine a_block ?_
  refine a_loop (ι := Nat × Nat × List BC) (fun ⟨i, b, ps⟩ => i ≤ xs.length ∧ ps.length = i ∧ ps.map (·.2) = xs.take i) (fun ⟨i, b, ps⟩ => [(4, .int .i64 (i : Int)), (3, .own 7 b 0 ps.length)]) (fun ⟨i, b, ps⟩ => (b, .arr 32 7 (ps.map rowC)) :: fam (famC 3) ps) (fun ⟨i, b, ps⟩ => xs.length - i) (0, b1, []) ⟨Nat.zero_le _, rfl, rfl⟩ (by repeat (first | exact Knows.nil | refine Knows.cons (by rfl) ?_)) (by (try dsimp only); (try simp only [fam_app, fam_one, fam_nil, List.append_assoc, List.cons_append, List.nil_append, List.append_nil, List.append_eq]); repeat (first | exact Picks.nil _ | exact Pick.here _ _ _ | exact Picks.whole _ _ | exact Picks.whole0 _ | apply Pick.next | apply Pick.under | apply Picks.cons | apply Picks.both | apply Picks.skip1 | apply Picks.skipA)) ?_
  rintro ⟨i, b, ps⟩ ⟨hi, hL, hP⟩
  replace hi : i ≤ xs.length := hi
  replace hL : ps.length = i := hL
  replace hP : ps.map (·.2) = xs.take i := hP
  refine a_seq ?_
  refine a_seq ?_
  refine a_region ?_
  refine aops_cons rfl (w_pure rfl (p_move rfl) ?_)
  refine aops_cons rfl (w_pure rfl (p_move rfl) ?_)
  refine aops_cons rfl (w_pure rfl (p_len sl_44 rfl rfl) ?_)
  refine aops_cons rfl (w_pure rfl (p_lss rfl rfl) ?_)
  refine aops_nil ?_
  first | refine a_cond_d rfl (fun h1 => ?_) (fun h2 => ?_) | refine a_cond_n rfl (fun h1 => ?_) (fun h2 => ?_) | refine a_cond_nb rfl (fun h1 => ?_) (fun h2 => ?_) | refine a_cond rfl (fun h1 => ?_) (fun h2 => ?_)
  · (try simp only [Bool.not_eq_true', Bool.not_eq_false', Bool.not_eq_true, Bool.not_eq_false, decide_eq_true_eq, decide_eq_false_iff_not, List.length_map, List.length_range] at h1)
    refine a_skip ?_
    refine a_seq ?_
    refine a_block ?_
    refine a_region ?_
    refine aops_cons rfl (w_pure rfl (p_move rfl) ?_)
    refine aops_cons rfl (w_pure rfl (p_move rfl) ?_)
    refine aops_cons rfl (w_pure rfl (p_move rfl) ?_)
    refine aops_cons rfl (w_pure rfl (p_index_sl _ rfl rfl rfl (rowD eContext xs zContext (by omega)) es_44) ?_)
    refine aops_cons rfl (w_pure rfl (p_load_v_all ag_32 rfl (by rfl) noX) ?_)
    refine aops_cons rfl (w_call rfl rfl rfl cl_95 (co_spec_l14Copy (xs.getD i zContext) (hn.2 i (by omega))) ?_)
    rintro _ _ ⟨b2, rfl, rfl⟩
    refine aops_cons rfl (w_lit_vM rowC [(b2, (xs.getD i zContext))] rfl el_44 rfl rfl rfl rfl rfl ?_)
    refine aops_cons rfl (w_appendM rowC rfl el_44 rfl rfl (by (try simp only [fam_app, fam_one, fam_nil, List.append_assoc, List.cons_append, List.nil_append, List.append_nil, List.append_eq]); repeat (first | exact Pick.here _ _ _ | apply Pick.next | apply Pick.under)) rfl (.sl _) (fun _ => rfl) (fun _ => rfl) (by simp; omega) (by simp; omega) trivial fun b3 => ?_)
    refine aops_cons rfl (w_pure rfl (p_assign rfl) ?_)
    refine aops_nil ?_
    refine a_region ?_
    refine aops_cons rfl (w_pure rfl (p_move rfl) ?_)
    refine aops_cons rfl (w_pure rfl (p_add' rfl rfl ⟨by (try simp only [List.length_map, List.length_append, List.length_cons, List.length_nil]); omega, by (try simp only [List.length_map, List.length_append, List.length_cons, List.length_nil]); omega⟩) ?_)
    refine aops_cons rfl (w_pure rfl (p_assign rfl) ?_)
    refine aops_nil ?_
    refine ⟨(i + 1, _, ps ++ [(b2, (xs.getD i zContext))]), _, ?_, ?_, (by repeat (first | exact Knows.nil | refine Knows.cons (by rfl) ?_)), (by repeat (first | exact Back.refl _ _ | refine Back.cons (by rfl) ?_)), (by (try dsimp only); (try simp only [fam_app, fam_one, fam_nil, List.append_assoc, List.cons_append, List.nil_append, List.append_nil, List.append_eq]); repeat (first | exact Picks.nil _ | exact Pick.here _ _ _ | exact Picks.whole _ _ | exact Picks.whole0 _ | apply Pick.next | apply Pick.under | apply Picks.cons | apply Picks.both | apply Picks.skip1 | apply Picks.skipA))⟩
    · exact ⟨by omega, by simp; omega, take_step hP (by omega) rfl⟩
    · (try dsimp only); omega
  · (try simp only [Bool.not_eq_true', Bool.not_eq_false', Bool.not_eq_true, Bool.not_eq_false, decide_eq_true_eq, decide_eq_false_iff_not, List.length_map, List.length_range] at h2)
    refine a_exit ?_
    refine a_seq ?_
    refine a_region ?_
    refine aops_cons rfl (w_pure rfl (p_move rfl) ?_)
    refine aops_cons rfl (w_pure rfl (p_assign rfl) ?_)
    refine aops_nil ?_
    refine a_ret ?_
    refine ret_ok (hands1 rfl (.tmp rfl)) (st' := (b, .arr 32 7 (ps.map rowC)) :: fam (famC 3) ps) (by (try dsimp only); (try simp only [fam_app, fam_one, fam_nil, List.append_assoc, List.cons_append, List.nil_append, List.append_nil, List.append_eq]); repeat (first | exact Picks.nil _ | exact Pick.here _ _ _ | exact Picks.whole _ _ | exact Picks.whole0 _ | apply Pick.next | apply Pick.under | apply Picks.cons | apply Picks.both | apply Picks.skip1 | apply Picks.skipA)) ?_
    have hx : i = xs.length := (by omega); subst hx; exact ⟨b, ps, rfl, by rw [hP, List.take_length], rfl⟩

theorem c_impl_contextIndex_1 (c : Context) (g : Int) : ACalls Try.prog 108 [.agg (eContext c), .vptr [.int .i64 g]] [] (Ret (.bool (decide (c.id = g)))) := by
  refine a_enter Try.func108 rfl rfl (fun w0 M0 => ?_)
  refine a_seq ?_
  refine a_region ?_
  refine aops_cons rfl (w_box_v rfl rfl rfl ?_)
  refine aops_cons rfl (w_pure rfl (p_assign rfl) ?_)
  refine aops_nil ?_
  refine a_seq ?_
  refine a_region ?_
  refine aops_cons rfl (w_pure rfl (p_field_v fo_32_0 rfl) ?_)
  refine aops_cons rfl (w_pure rfl (p_load_v ag_3 rfl (by rfl) noX) ?_)
  refine aops_cons rfl (w_pure rfl (p_load_v ag_3 rfl (by rfl) noX) ?_)
  refine aops_cons rfl (w_pure rfl (p_eql rfl rfl) ?_)
  refine aops_cons rfl (w_pure rfl (p_assign rfl) ?_)
  refine aops_nil ?_
  refine a_ret ?_
  refine ret_ok (hands1 rfl (.tmp rfl)) (.nil _) ?_
  exact ⟨rfl, rfl⟩

theorem c_slices_IndexFunc_impl_Context_impl_Context (xs : List Context) (hn : SmallL xs) (g : Int) : ACalls Try.prog 107 [.sl (xs.map eContext), .fn 108 [.vptr [.int .i64 g]]] [] (Ret (.int .i64 (findC xs g))) := by
  have hn1 := hn.1
  refine a_enter Try.func107 rfl rfl (fun w0 M0 => ?_)
  refine a_seq ?_
  refine a_region ?_
  refine aops_cons rfl (w_pure rfl (p_assign rfl) ?_)
  refine aops_nil ?_
  refine a_seq ?_
  refine a_seq ?_
  refine a_region ?_
  refine aops_cons rfl (w_pure rfl (p_move rfl) ?_)
  refine aops_cons rfl (w_pure rfl (p_len sl_44 rfl rfl) ?_)
  refine aops_cons rfl (w_pure rfl (p_move rfl) ?_)
  refine aops_nil ?_
  refine a_block ?_
  refine a_loop (ι := Nat) (fun i => i ≤ xs.length ∧ ∀ j, j < i → isG xs g j = false) (fun i => [(8, .int .i64 (i : Int))]) (fun i => []) (fun i => xs.length - i) 0 ⟨Nat.zero_le _, below_zero⟩ (by repeat (first | exact Knows.nil | refine Knows.cons (by rfl) ?_)) (by repeat (first | exact Picks.nil _ | exact Pick.here _ _ _ | apply Pick.next | apply Picks.cons)) ?_
  rintro i ⟨hi, hI⟩
  skip
  refine a_seq ?_
  refine a_region ?_
  refine aops_cons rfl (w_pure rfl (p_lss rfl rfl) ?_)
  refine aops_nil ?_
  refine a_seq ?_
  first | refine a_cond_d rfl (fun h1 => ?_) (fun h2 => ?_) | refine a_cond_n rfl (fun h1 => ?_) (fun h2 => ?_) | refine a_cond_nb rfl (fun h1 => ?_) (fun h2 => ?_) | refine a_cond rfl (fun h1 => ?_) (fun h2 => ?_)
  · (try simp only [Bool.not_eq_true', Bool.not_eq_false', Bool.not_eq_true, Bool.not_eq_false, decide_eq_true_eq, decide_eq_false_iff_not, List.length_map, List.length_range] at h1)
    refine a_skip ?_
    refine a_seq ?_
    refine a_block ?_
    refine a_seq ?_
    refine a_region ?_
    refine aops_cons rfl (w_pure rfl (p_move rfl) ?_)
    refine aops_cons rfl (w_pure rfl (p_assign rfl) ?_)
    refine aops_nil ?_
    refine a_seq ?_
    refine a_region ?_
    refine aops_cons rfl (w_pure rfl (p_move rfl) ?_)
    refine aops_cons rfl (w_pure rfl (p_move rfl) ?_)
    refine aops_cons rfl (w_pure rfl (p_move rfl) ?_)
    refine aops_cons rfl (w_pure rfl (p_index_sl _ rfl rfl rfl (rowD eContext xs zContext (by omega)) es_44) ?_)
    refine aops_cons rfl (w_pure rfl (p_load_v_all ag_32 rfl (by rfl) noX) ?_)
    refine aops_cons rfl (w_callR rfl rfl rfl cl_108 (c_impl_contextIndex_1 (xs.getD i zContext) g) ?_)
    refine aops_nil ?_
    first | refine a_cond_d rfl (fun h3 => ?_) (fun h4 => ?_) | refine a_cond_n rfl (fun h3 => ?_) (fun h4 => ?_) | refine a_cond_nb rfl (fun h3 => ?_) (fun h4 => ?_) | refine a_cond rfl (fun h3 => ?_) (fun h4 => ?_)
    · (try simp only [Bool.not_eq_true', Bool.not_eq_false', Bool.not_eq_true, Bool.not_eq_false, decide_eq_true_eq, decide_eq_false_iff_not, List.length_map, List.length_range] at h3)
      refine a_seq ?_
      refine a_region ?_
      refine aops_cons rfl (w_pure rfl (p_move rfl) ?_)
      refine aops_cons rfl (w_pure rfl (p_assign rfl) ?_)
      refine aops_nil ?_
      refine a_ret ?_
      refine ret_ok (hands1 rfl (.tmp rfl)) (.nil _) ?_
      first | (refine And.intro (congrArg (AV.int .i64) (first_none fun j hj => ?_).symm) rfl; exact hI j (by omega)) | (refine And.intro (congrArg (AV.int .i64) (first_at (i := i) (by omega) hI (show isG xs g i = true by unfold isG; exact decide_eq_true (by assumption))).symm) rfl)
    · (try simp only [Bool.not_eq_true', Bool.not_eq_false', Bool.not_eq_true, Bool.not_eq_false, decide_eq_true_eq, decide_eq_false_iff_not, List.length_map, List.length_range] at h4)
      refine a_skip ?_
      refine a_region ?_
      refine aops_cons rfl (w_pure rfl (p_add' rfl rfl ⟨by omega, by omega⟩) ?_)
      refine aops_cons rfl (w_pure rfl (p_move rfl) ?_)
      refine aops_nil ?_
      refine ⟨(i + 1), _, ?_, ?_, (by repeat (first | exact Knows.nil | refine Knows.cons (by rfl) ?_)), (by repeat (first | exact Back.refl _ _ | refine Back.cons (by rfl) ?_)), (by repeat (first | exact Picks.nil _ | exact Pick.here _ _ _ | apply Pick.next | apply Picks.cons))⟩
      · exact ⟨by omega, below_succ hI (show isG xs g i = false by unfold isG; exact decide_eq_false (by assumption))⟩
      · (try dsimp only); omega
  · (try simp only [Bool.not_eq_true', Bool.not_eq_false', Bool.not_eq_true, Bool.not_eq_false, decide_eq_true_eq, decide_eq_false_iff_not, List.length_map, List.length_range] at h2)
    refine a_exit ?_
    refine a_seq ?_
    refine a_region ?_
    refine aops_cons rfl (w_pure rfl (p_assign rfl) ?_)
    refine aops_nil ?_
    refine a_ret ?_
    refine ret_ok (hands1 rfl (.tmp rfl)) (.nil _) ?_
    first | (refine And.intro (congrArg (AV.int .i64) (first_none fun j hj => ?_).symm) rfl; exact hI j (by omega)) | (refine And.intro (congrArg (AV.int .i64) (first_at (i := i) (by omega) hI (show isG xs g i = true by unfold isG; exact decide_eq_true (by assumption))).symm) rfl)

theorem c_impl_contextIndex (xs : List Context) (hn : SmallL xs) (g : Int) : ACalls Try.prog 76 [.sl (xs.map eContext), .int .i64 g] [] (Ret (.int .i64 (findC xs g))) := by
  refine a_enter Try.func76 rfl rfl (fun w0 M0 => ?_)
  refine a_seq ?_
  refine a_region ?_
  refine aops_cons rfl (w_box_v rfl rfl rfl ?_)
  refine aops_cons rfl (w_pure rfl (p_assign rfl) ?_)
  refine aops_nil ?_
  refine a_seq ?_
  refine a_region ?_
  refine aops_cons rfl (w_pure rfl (p_move rfl) ?_)
  refine aops_cons rfl (w_pure rfl (p_func rfl) ?_)
  refine aops_cons rfl (w_callR rfl rfl rfl cl_107 (c_slices_IndexFunc_impl_Context_impl_Context xs hn g) ?_)
  refine aops_cons rfl (w_pure rfl (p_assign rfl) ?_)
  refine aops_nil ?_
  refine a_ret ?_
  refine ret_ok (hands1 rfl (.tmp rfl)) (.nil _) ?_
  exact ⟨rfl, rfl⟩

theorem c_spec_l14Find (xs : List Context) (hn : SmallL xs) (g : Int) : ACalls Try.prog 74 [.sl (xs.map eContext), .int .i64 g] [] (Ret (.int .i64 (findC xs g))) := by
  have hn1 := hn.1
  refine a_enter Try.func74 rfl rfl (fun w0 M0 => ?_)
  refine a_seq ?_
  refine a_region ?_
  refine aops_cons rfl (w_pure rfl (p_assign rfl) ?_)
  refine aops_nil ?_
  refine a_seq ?_
  refine a_seq ?_
  refine a_region ?_
  refine aops_cons rfl (w_pure rfl (p_assign rfl) ?_)
  refine aops_nil ?_
  refine a_block ?_
  refine a_loop (ι := Nat) (fun i => i ≤ xs.length ∧ ∀ j, j < i → isG xs g j = false) (fun i => [(5, .int .i64 (i : Int))]) (fun i => []) (fun i => xs.length - i) 0 ⟨Nat.zero_le _, below_zero⟩ (by repeat (first | exact Knows.nil | refine Knows.cons (by rfl) ?_)) (by repeat (first | exact Picks.nil _ | exact Pick.here _ _ _ | apply Pick.next | apply Picks.cons)) ?_
  rintro i ⟨hi, hI⟩
  skip
  refine a_seq ?_
  refine a_seq ?_
  refine a_region ?_
  refine aops_cons rfl (w_pure rfl (p_move rfl) ?_)
  refine aops_cons rfl (w_pure rfl (p_move rfl) ?_)
  refine aops_cons rfl (w_pure rfl (p_len sl_44 rfl rfl) ?_)
  refine aops_cons rfl (w_pure rfl (p_lss rfl rfl) ?_)
  refine aops_nil ?_
  first | refine a_cond_d rfl (fun h1 => ?_) (fun h2 => ?_) | refine a_cond_n rfl (fun h1 => ?_) (fun h2 => ?_) | refine a_cond_nb rfl (fun h1 => ?_) (fun h2 => ?_) | refine a_cond rfl (fun h1 => ?_) (fun h2 => ?_)
  · (try simp only [Bool.not_eq_true', Bool.not_eq_false', Bool.not_eq_true, Bool.not_eq_false, decide_eq_true_eq, decide_eq_false_iff_not, List.length_map, List.length_range] at h1)
    refine a_skip ?_
    refine a_seq ?_
    refine a_block ?_
    refine a_seq ?_
    refine a_region ?_
    refine aops_cons rfl (w_pure rfl (p_move rfl) ?_)
    refine aops_cons rfl (w_pure rfl (p_move rfl) ?_)
    refine aops_cons rfl (w_pure rfl (p_index_sl _ rfl rfl rfl (rowD eContext xs zContext (by omega)) es_44) ?_)
    refine aops_cons rfl (w_pure rfl (p_field_v fo_32_0 rfl) ?_)
    refine aops_cons rfl (w_pure rfl (p_load_v ag_3 rfl (by rfl) noX) ?_)
    refine aops_cons rfl (w_pure rfl (p_move rfl) ?_)
    refine aops_cons rfl (w_pure rfl (p_eql rfl rfl) ?_)
    refine aops_nil ?_
    first | refine a_cond_d rfl (fun h3 => ?_) (fun h4 => ?_) | refine a_cond_n rfl (fun h3 => ?_) (fun h4 => ?_) | refine a_cond_nb rfl (fun h3 => ?_) (fun h4 => ?_) | refine a_cond rfl (fun h3 => ?_) (fun h4 => ?_)
    · (try simp only [Bool.not_eq_true', Bool.not_eq_false', Bool.not_eq_true, Bool.not_eq_false, decide_eq_true_eq, decide_eq_false_iff_not, List.length_map, List.length_range] at h3)
      refine a_seq ?_
      refine a_region ?_
      refine aops_cons rfl (w_pure rfl (p_move rfl) ?_)
      refine aops_cons rfl (w_pure rfl (p_assign rfl) ?_)
      refine aops_nil ?_
      refine a_ret ?_
      refine ret_ok (hands1 rfl (.tmp rfl)) (.nil _) ?_
      first | (refine And.intro (congrArg (AV.int .i64) (first_none fun j hj => ?_).symm) rfl; exact hI j (by omega)) | (refine And.intro (congrArg (AV.int .i64) (first_at (i := i) (by omega) hI (show isG xs g i = true by unfold isG; exact decide_eq_true (by assumption))).symm) rfl)
    · (try simp only [Bool.not_eq_true', Bool.not_eq_false', Bool.not_eq_true, Bool.not_eq_false, decide_eq_true_eq, decide_eq_false_iff_not, List.length_map, List.length_range] at h4)
      refine a_skip ?_
      refine a_region ?_
      refine aops_cons rfl (w_pure rfl (p_move rfl) ?_)
      refine aops_cons rfl (w_pure rfl (p_add' rfl rfl ⟨by omega, by omega⟩) ?_)
      refine aops_cons rfl (w_pure rfl (p_assign rfl) ?_)
      refine aops_nil ?_
      refine ⟨(i + 1), _, ?_, ?_, (by repeat (first | exact Knows.nil | refine Knows.cons (by rfl) ?_)), (by repeat (first | exact Back.refl _ _ | refine Back.cons (by rfl) ?_)), (by repeat (first | exact Picks.nil _ | exact Pick.here _ _ _ | apply Pick.next | apply Picks.cons))⟩
      · exact ⟨by omega, below_succ hI (show isG xs g i = false by unfold isG; exact decide_eq_false (by assumption))⟩
      · (try dsimp only); omega
  · (try simp only [Bool.not_eq_true', Bool.not_eq_false', Bool.not_eq_true, Bool.not_eq_false, decide_eq_true_eq, decide_eq_false_iff_not, List.length_map, List.length_range] at h2)
    refine a_exit ?_
    refine a_seq ?_
    refine a_region ?_
    refine aops_cons rfl (w_pure rfl (p_assign rfl) ?_)
    refine aops_nil ?_
    refine a_ret ?_
    refine ret_ok (hands1 rfl (.tmp rfl)) (.nil _) ?_
    first | (refine And.intro (congrArg (AV.int .i64) (first_none fun j hj => ?_).symm) rfl; exact hI j (by omega)) | (refine And.intro (congrArg (AV.int .i64) (first_at (i := i) (by omega) hI (show isG xs g i = true by unfold isG; exact decide_eq_true (by assumption))).symm) rfl)

theorem cy_impl_RaisePending (xs : List Context) (hn : SmallL xs) (g q : Int) (hA : GoodRaise xs g q) : ACalls Try.prog 32 [.sl (xs.map eContext), .int .i64 g, .int .i64 q] [] (fun r st => ∃ (b1 : Nat) (ps1 : List BC), r = .tup [.own 7 b1 0 ps1.length, .bool true] ∧ ps1.map (·.2) = (raiseL xs g q) ∧ st = (b1, .arr 32 7 (ps1.map rowC)) :: fam (famC 3) ps1) := by
  have hn1 := hn.1
  have hfl := findC_lt xs g
  obtain ⟨g1, g2, g3⟩ := id hA
  refine a_enter Try.func32 rfl rfl (fun w0 M0 => ?_)
  refine a_seq ?_
  refine a_region ?_
  refine aops_cons rfl (w_pure rfl (p_assign rfl) ?_)
  refine aops_cons rfl (w_pure rfl (p_assign rfl) ?_)
  refine aops_nil ?_
  refine a_seq ?_
  refine a_region ?_
  refine aops_cons rfl (w_pure rfl (p_move rfl) ?_)
  refine aops_cons rfl (w_pure rfl (p_move rfl) ?_)
  refine aops_cons rfl (w_callR rfl rfl rfl cl_76 (c_impl_contextIndex _ (by assumption) _) ?_)
  refine aops_cons rfl (w_pure rfl (p_assign rfl) ?_)
  refine aops_nil ?_
  refine a_seq ?_
  refine a_seq ?_
  refine a_region ?_
  refine aops_cons rfl (w_pure rfl (p_move rfl) ?_)
  refine aops_cons rfl (w_callR rfl rfl rfl cl_50 (c_impl_AreContexts _ ‹_›) ?_)
  refine aops_cons rfl (w_pure rfl (p_not rfl) ?_)
  refine aops_cons rfl (w_pure rfl (p_move rfl) ?_)
  first | refine aops_split_d 16 rfl (fun h1 => ?_) (fun h2 => ?_) | refine aops_split 16 rfl (fun h1 => ?_) (fun h2 => ?_)
  · (try simp only [Bool.not_eq_true', Bool.not_eq_false', Bool.not_eq_true, Bool.not_eq_false, decide_eq_true_eq, decide_eq_false_iff_not, List.length_map, List.length_range] at h1)
    refine g_pass' rfl rfl rfl rfl rfl ?_
    refine g_pass' rfl rfl rfl rfl rfl ?_
    refine aops_cons rfl (w_pure rfl (p_pick_t rfl rfl) ?_)
    refine aops_cons rfl (w_pure rfl (p_move rfl) ?_)
    refine g_pass' rfl rfl rfl rfl rfl ?_
    refine g_pass' rfl rfl rfl rfl rfl ?_
    refine g_pass' rfl rfl rfl rfl rfl ?_
    refine aops_cons rfl (w_pure rfl (p_pick_t rfl rfl) ?_)
    refine aops_nil ?_
    refine a_cond_t rfl ?_
    refine a_seq ?_
    first | contradiction | (exfalso; first | omega | exact absurd g1 (by assumption))
  · (try simp only [Bool.not_eq_true', Bool.not_eq_false', Bool.not_eq_true, Bool.not_eq_false, decide_eq_true_eq, decide_eq_false_iff_not, List.length_map, List.length_range] at h2)
    refine aops_guard_t rfl rfl rfl (w_pure rfl (p_move rfl) ?_)
    refine aops_guard_t rfl rfl rfl (w_pure rfl (p_lss rfl rfl) ?_)
    refine aops_cons rfl (w_pure rfl (p_pick_f rfl rfl) ?_)
    refine aops_cons rfl (w_pure rfl (p_move rfl) ?_)
    first | refine aops_split_d 20 rfl (fun h3 => ?_) (fun h4 => ?_) | refine aops_split 20 rfl (fun h3 => ?_) (fun h4 => ?_)
    · (try simp only [Bool.not_eq_true', Bool.not_eq_false', Bool.not_eq_true, Bool.not_eq_false, decide_eq_true_eq, decide_eq_false_iff_not, List.length_map, List.length_range] at h3)
      refine g_pass' rfl rfl rfl rfl rfl ?_
      refine g_pass' rfl rfl rfl rfl rfl ?_
      refine g_pass' rfl rfl rfl rfl rfl ?_
      refine aops_cons rfl (w_pure rfl (p_pick_t rfl rfl) ?_)
      refine aops_nil ?_
      refine a_cond_t rfl ?_
      refine a_seq ?_
      first | contradiction | (exfalso; first | omega | exact absurd g1 (by assumption))
    · (try simp only [Bool.not_eq_true', Bool.not_eq_false', Bool.not_eq_true, Bool.not_eq_false, decide_eq_true_eq, decide_eq_false_iff_not, List.length_map, List.length_range] at h4)
      refine aops_guard_t rfl rfl rfl (w_pure rfl (p_move rfl) ?_)
      refine aops_guard_t rfl rfl rfl (w_callR rfl rfl rfl cl_72 (c_impl_isIrq ..) ?_)
      refine aops_guard_t rfl rfl rfl (w_pure rfl (p_not rfl) ?_)
      refine aops_cons rfl (w_pure rfl (p_pick_f rfl rfl) ?_)
      refine aops_nil ?_
      first | refine a_cond_d rfl (fun h5 => ?_) (fun h6 => ?_) | refine a_cond_n rfl (fun h5 => ?_) (fun h6 => ?_) | refine a_cond_nb rfl (fun h5 => ?_) (fun h6 => ?_) | refine a_cond rfl (fun h5 => ?_) (fun h6 => ?_)
      · (try simp only [Bool.not_eq_true', Bool.not_eq_false', Bool.not_eq_true, Bool.not_eq_false, decide_eq_true_eq, decide_eq_false_iff_not, List.length_map, List.length_range] at h5)
        refine a_seq ?_
        first | contradiction | (exfalso; first | omega | exact absurd g1 (by assumption))
      · (try simp only [Bool.not_eq_true', Bool.not_eq_false', Bool.not_eq_true, Bool.not_eq_false, decide_eq_true_eq, decide_eq_false_iff_not, List.length_map, List.length_range] at h6)
        refine a_skip ?_
        refine a_seq ?_
        refine a_region ?_
        refine aops_cons rfl (w_pure rfl (p_move rfl) ?_)
        refine aops_cons rfl (w_call rfl rfl rfl cl_77 (co_impl_newContexts xs hn) ?_)
        rintro _ _ ⟨b1, ps1, rfl, hp1, rfl⟩
        have hl1 : ps1.length = xs.length := (by rw [← hp1, List.length_map])
        refine aops_cons rfl (w_pure rfl (p_assign rfl) ?_)
        refine aops_nil ?_
        refine a_seq ?_
        refine a_draw [b1] (by kernel_rfl) ?_
        show ADraw _ _ _ _ _ _ 11 _ _ _ _
        refine d_take 0 rfl (by kernel_rfl) (by kernel_rfl) (by kernel_rfl) rfl (p_move rfl) ?_
        refine d_take 1 rfl (by kernel_rfl) (by kernel_rfl) (by kernel_rfl) rfl (p_move rfl) ?_
        refine d_take 2 rfl (by kernel_rfl) (by kernel_rfl) (by kernel_rfl) rfl (p_index_own0 (findC xs g).toNat rfl rfl (by omega) (by omega) es_44) ?_
        refine d_take 3 rfl (by kernel_rfl) (by kernel_rfl) (by kernel_rfl) rfl (p_field_e fo_32_3 rfl) ?_
        refine d_take 5 rfl (by kernel_rfl) (by kernel_rfl) (by kernel_rfl) rfl (p_move rfl) ?_
        refine d_take 6 rfl (by kernel_rfl) (by kernel_rfl) (by kernel_rfl) rfl (p_shl rfl rfl (by omega)) ?_
        refine draw_all [4] (by kernel_rfl) (by simp) ?_
        refine all_cons rfl rfl ?_ ?_
        · skip
          refine w_pure rfl (p_load_e ag_3 rfl (by (try simp only [fam_app, fam_one, fam_nil, List.append_assoc, List.cons_append, List.nil_append, List.append_nil, List.append_eq]); repeat (first | exact Pick.here _ _ _ | apply Pick.next | apply Pick.under)) (rowD _ _ zBC (by omega)) (by rfl) noX) ?_
          refine d_take 7 rfl (by kernel_rfl) (by kernel_rfl) (by kernel_rfl) rfl (p_bits .or (by decide) rfl rfl) ?_
          refine d_take 8 rfl (by kernel_rfl) (by kernel_rfl) (by kernel_rfl) rfl (p_index_own0 (findC xs g).toNat rfl rfl (by omega) (by omega) es_44) ?_
          refine d_take 9 rfl (by kernel_rfl) (by kernel_rfl) (by kernel_rfl) rfl (p_field_e fo_32_3 rfl) ?_
          refine draw_all [10] (by kernel_rfl) (by simp) ?_
          refine all_cons rfl rfl ?_ ?_
          · skip
            refine w_store_eM rowC ((ps1.getD (findC xs g).toNat zBC).1, raise1 (ps1.getD (findC xs g).toNat zBC).2 q) rfl rfl rfl (by (try simp only [fam_app, fam_one, fam_nil, List.append_assoc, List.cons_append, List.nil_append, List.append_nil, List.append_eq]); repeat (first | exact Pick.here _ _ _ | apply Pick.next | apply Pick.under)) (by omega) cn_3 (by rfl) (by rfl) (by exact seg_getD (z := zBC) _ rfl) (by first | (refine .inl ?_; simp; done) | (refine .inr ?_; simp [keys]; done)) ?_
            refine draw_done (by kernel_rfl) ?_
            refine a_seq ?_
            refine a_region ?_
            refine aops_cons rfl (w_pure rfl (p_move rfl) ?_)
            refine aops_cons rfl (w_pure rfl (p_assign rfl) ?_)
            refine aops_cons rfl (w_pure rfl (p_assign rfl) ?_)
            refine aops_nil ?_
            refine a_ret ?_
            refine ret_ok (hands2 rfl (.tmp rfl) (.tmp rfl)) (st' := (b1, .arr 32 7 ((ps1.set (findC xs g).toNat ((ps1.getD (findC xs g).toNat zBC).1, raise1 (ps1.getD (findC xs g).toNat zBC).2 q)).map rowC)) :: fam (famC 3) ps1) (by (try dsimp only); (try simp only [fam_app, fam_one, fam_nil, List.append_assoc, List.cons_append, List.nil_append, List.append_nil, List.append_eq]); repeat (first | exact Picks.nil _ | exact Pick.here _ _ _ | exact Picks.whole _ _ | exact Picks.whole0 _ | apply Pick.next | apply Pick.under | apply Picks.cons | apply Picks.both | apply Picks.skip1 | apply Picks.skipA)) ?_
            first | exact ⟨_, ps1.set (findC xs g).toNat ((ps1.getD (findC xs g).toNat zBC).1, raise1 (ps1.getD (findC xs g).toNat zBC).2 q), by rw [List.length_set], raise_map hp1 g q g2, by rw [fam_raise 3 (by omega)]⟩ | (exfalso; first | contradiction | omega | exact absurd hA.1 (by assumption) | (have := hA.2; omega))
          exact all_nil
        exact all_nil

theorem cf_impl_RaisePending (xs : List Context) (hn : SmallL xs) (g q : Int) (hA : GoodRaise xs g q) : ACalls Try.prog 32 [.sl (xs.map eContext), .int .i64 g, .int .i64 q] [] (Ret (.tup [.sl ((raiseL xs g q).map eContext), .bool true])) :=
  (cy_impl_RaisePending xs hn g q hA).freeze (by rintro _ _ ⟨_, _, rfl, e0, rfl⟩; rw [← e0]; exact (.tup (.cons (.own2 (by (try simp only [fam_app, fam_one, fam_nil, List.append_assoc, List.cons_append, List.nil_append, List.append_nil, List.append_eq]); repeat (first | exact List.Mem.head _ | apply List.Mem.tail | apply List.mem_append_right)) (List.length_map _) (vwR_ctx (t := 3) (by intro x hx; (try simp only [fam_app, fam_one, fam_nil, List.append_assoc, List.cons_append, List.nil_append, List.append_nil, List.append_eq]); repeat (first | exact hx | exact List.mem_append_left _ hx | apply List.mem_append_right | apply List.mem_cons_of_mem)))) (.cons (.refl _) .nil))))

theorem cn_impl_RaisePending (xs : List Context) (hn : SmallL xs) (g q : Int) (hA : ¬ GoodRaise xs g q) : ACalls Try.prog 32 [.sl (xs.map eContext), .int .i64 g, .int .i64 q] [] (Ret (.tup [.nil, .bool false])) := by
  have hn1 := hn.1
  have hfl := findC_lt xs g
  refine a_enter Try.func32 rfl rfl (fun w0 M0 => ?_)
  refine a_seq ?_
  refine a_region ?_
  refine aops_cons rfl (w_pure rfl (p_assign rfl) ?_)
  refine aops_cons rfl (w_pure rfl (p_assign rfl) ?_)
  refine aops_nil ?_
  refine a_seq ?_
  refine a_region ?_
  refine aops_cons rfl (w_pure rfl (p_move rfl) ?_)
  refine aops_cons rfl (w_pure rfl (p_move rfl) ?_)
  refine aops_cons rfl (w_callR rfl rfl rfl cl_76 (c_impl_contextIndex _ (by assumption) _) ?_)
  refine aops_cons rfl (w_pure rfl (p_assign rfl) ?_)
  refine aops_nil ?_
  refine a_seq ?_
  refine a_seq ?_
  refine a_region ?_
  refine aops_cons rfl (w_pure rfl (p_move rfl) ?_)
  refine aops_cons rfl (w_callR rfl rfl rfl cl_50 (c_impl_AreContexts _ ‹_›) ?_)
  refine aops_cons rfl (w_pure rfl (p_not rfl) ?_)
  refine aops_cons rfl (w_pure rfl (p_move rfl) ?_)
  first | refine aops_split_d 16 rfl (fun h1 => ?_) (fun h2 => ?_) | refine aops_split 16 rfl (fun h1 => ?_) (fun h2 => ?_)
  · (try simp only [Bool.not_eq_true', Bool.not_eq_false', Bool.not_eq_true, Bool.not_eq_false, decide_eq_true_eq, decide_eq_false_iff_not, List.length_map, List.length_range] at h1)
    refine g_pass' rfl rfl rfl rfl rfl ?_
    refine g_pass' rfl rfl rfl rfl rfl ?_
    refine aops_cons rfl (w_pure rfl (p_pick_t rfl rfl) ?_)
    refine aops_cons rfl (w_pure rfl (p_move rfl) ?_)
    refine g_pass' rfl rfl rfl rfl rfl ?_
    refine g_pass' rfl rfl rfl rfl rfl ?_
    refine g_pass' rfl rfl rfl rfl rfl ?_
    refine aops_cons rfl (w_pure rfl (p_pick_t rfl rfl) ?_)
    refine aops_nil ?_
    refine a_cond_t rfl ?_
    refine a_seq ?_
    refine a_region ?_
    refine aops_cons rfl (w_pure rfl (p_assign rfl) ?_)
    refine aops_cons rfl (w_pure rfl (p_assign rfl) ?_)
    refine aops_nil ?_
    refine a_ret ?_
    refine ret_ok (hands2 rfl (.tmp rfl) (.tmp rfl)) (.nil _) ?_
    exact ⟨rfl, rfl⟩
  · (try simp only [Bool.not_eq_true', Bool.not_eq_false', Bool.not_eq_true, Bool.not_eq_false, decide_eq_true_eq, decide_eq_false_iff_not, List.length_map, List.length_range] at h2)
    refine aops_guard_t rfl rfl rfl (w_pure rfl (p_move rfl) ?_)
    refine aops_guard_t rfl rfl rfl (w_pure rfl (p_lss rfl rfl) ?_)
    refine aops_cons rfl (w_pure rfl (p_pick_f rfl rfl) ?_)
    refine aops_cons rfl (w_pure rfl (p_move rfl) ?_)
    first | refine aops_split_d 20 rfl (fun h3 => ?_) (fun h4 => ?_) | refine aops_split 20 rfl (fun h3 => ?_) (fun h4 => ?_)
    · (try simp only [Bool.not_eq_true', Bool.not_eq_false', Bool.not_eq_true, Bool.not_eq_false, decide_eq_true_eq, decide_eq_false_iff_not, List.length_map, List.length_range] at h3)
      refine g_pass' rfl rfl rfl rfl rfl ?_
      refine g_pass' rfl rfl rfl rfl rfl ?_
      refine g_pass' rfl rfl rfl rfl rfl ?_
      refine aops_cons rfl (w_pure rfl (p_pick_t rfl rfl) ?_)
      refine aops_nil ?_
      refine a_cond_t rfl ?_
      refine a_seq ?_
      refine a_region ?_
      refine aops_cons rfl (w_pure rfl (p_assign rfl) ?_)
      refine aops_cons rfl (w_pure rfl (p_assign rfl) ?_)
      refine aops_nil ?_
      refine a_ret ?_
      refine ret_ok (hands2 rfl (.tmp rfl) (.tmp rfl)) (.nil _) ?_
      exact ⟨rfl, rfl⟩
    · (try simp only [Bool.not_eq_true', Bool.not_eq_false', Bool.not_eq_true, Bool.not_eq_false, decide_eq_true_eq, decide_eq_false_iff_not, List.length_map, List.length_range] at h4)
      refine aops_guard_t rfl rfl rfl (w_pure rfl (p_move rfl) ?_)
      refine aops_guard_t rfl rfl rfl (w_callR rfl rfl rfl cl_72 (c_impl_isIrq ..) ?_)
      refine aops_guard_t rfl rfl rfl (w_pure rfl (p_not rfl) ?_)
      refine aops_cons rfl (w_pure rfl (p_pick_f rfl rfl) ?_)
      refine aops_nil ?_
      first | refine a_cond_d rfl (fun h5 => ?_) (fun h6 => ?_) | refine a_cond_n rfl (fun h5 => ?_) (fun h6 => ?_) | refine a_cond_nb rfl (fun h5 => ?_) (fun h6 => ?_) | refine a_cond rfl (fun h5 => ?_) (fun h6 => ?_)
      · (try simp only [Bool.not_eq_true', Bool.not_eq_false', Bool.not_eq_true, Bool.not_eq_false, decide_eq_true_eq, decide_eq_false_iff_not, List.length_map, List.length_range] at h5)
        refine a_seq ?_
        refine a_region ?_
        refine aops_cons rfl (w_pure rfl (p_assign rfl) ?_)
        refine aops_cons rfl (w_pure rfl (p_assign rfl) ?_)
        refine aops_nil ?_
        refine a_ret ?_
        refine ret_ok (hands2 rfl (.tmp rfl) (.tmp rfl)) (.nil _) ?_
        exact ⟨rfl, rfl⟩
      · (try simp only [Bool.not_eq_true', Bool.not_eq_false', Bool.not_eq_true, Bool.not_eq_false, decide_eq_true_eq, decide_eq_false_iff_not, List.length_map, List.length_range] at h6)
        refine a_skip ?_
        refine a_seq ?_
        exact absurd (show GoodRaise xs g q from ⟨by assumption, by omega, by omega⟩) hA

theorem co_spec_RaisePending (xs : List Context) (hn : SmallL xs) (g q : Int) (hA : GoodRaise xs g q) : ACalls Try.prog 31 [.sl (xs.map eContext), .int .i64 g, .int .i64 q] [] (fun r st => ∃ (b1 : Nat) (ps1 : List BC), r = .tup [.own 7 b1 0 ps1.length, .bool true] ∧ ps1.map (·.2) = (raiseL xs g q) ∧ st = (b1, .arr 32 7 (ps1.map rowC)) :: fam (famC 3) ps1) := by
  have hn1 := hn.1
  have hfl := findC_lt xs g
  obtain ⟨g1, g2, g3⟩ := id hA
  have hu := u64_irq (n := q) (by omega) (by omega)
  refine a_enter Try.func31 rfl rfl (fun w0 M0 => ?_)
  refine a_seq ?_
  refine a_region ?_
  refine aops_cons rfl (w_pure rfl (p_assign rfl) ?_)
  refine aops_cons rfl (w_pure rfl (p_assign rfl) ?_)
  refine aops_nil ?_
  refine a_seq ?_
  refine a_region ?_
  refine aops_cons rfl (w_pure rfl (p_move rfl) ?_)
  refine aops_cons rfl (w_pure rfl (p_move rfl) ?_)
  refine aops_cons rfl (w_callR rfl rfl rfl cl_74 (c_spec_l14Find _ (by assumption) _) ?_)
  refine aops_cons rfl (w_pure rfl (p_assign rfl) ?_)
  refine aops_nil ?_
  refine a_seq ?_
  refine a_seq ?_
  refine a_region ?_
  refine aops_cons rfl (w_pure rfl (p_move rfl) ?_)
  refine aops_cons rfl (w_callR rfl rfl rfl cl_68 (c_spec_l14Good _ ‹_›) ?_)
  refine aops_cons rfl (w_pure rfl (p_not rfl) ?_)
  refine aops_cons rfl (w_pure rfl (p_move rfl) ?_)
  first | refine aops_split_d 17 rfl (fun h1 => ?_) (fun h2 => ?_) | refine aops_split 17 rfl (fun h1 => ?_) (fun h2 => ?_)
  · (try simp only [Bool.not_eq_true', Bool.not_eq_false', Bool.not_eq_true, Bool.not_eq_false, decide_eq_true_eq, decide_eq_false_iff_not, List.length_map, List.length_range] at h1)
    refine g_pass' rfl rfl rfl rfl rfl ?_
    refine g_pass' rfl rfl rfl rfl rfl ?_
    refine aops_cons rfl (w_pure rfl (p_pick_t rfl rfl) ?_)
    refine aops_cons rfl (w_pure rfl (p_move rfl) ?_)
    refine g_pass' rfl rfl rfl rfl rfl ?_
    refine g_pass' rfl rfl rfl rfl rfl ?_
    refine g_pass' rfl rfl rfl rfl rfl ?_
    refine aops_cons rfl (w_pure rfl (p_pick_t rfl rfl) ?_)
    refine aops_nil ?_
    refine a_cond_t rfl ?_
    refine a_seq ?_
    first | contradiction | (exfalso; first | omega | exact absurd g1 (by assumption))
  · (try simp only [Bool.not_eq_true', Bool.not_eq_false', Bool.not_eq_true, Bool.not_eq_false, decide_eq_true_eq, decide_eq_false_iff_not, List.length_map, List.length_range] at h2)
    refine aops_guard_t rfl rfl rfl (w_pure rfl (p_move rfl) ?_)
    refine aops_guard_t rfl rfl rfl (w_pure rfl (p_lss rfl rfl) ?_)
    refine aops_cons rfl (w_pure rfl (p_pick_f rfl rfl) ?_)
    refine aops_cons rfl (w_pure rfl (p_move rfl) ?_)
    first | refine aops_split_d 21 rfl (fun h3 => ?_) (fun h4 => ?_) | refine aops_split 21 rfl (fun h3 => ?_) (fun h4 => ?_)
    · (try simp only [Bool.not_eq_true', Bool.not_eq_false', Bool.not_eq_true, Bool.not_eq_false, decide_eq_true_eq, decide_eq_false_iff_not, List.length_map, List.length_range] at h3)
      refine g_pass' rfl rfl rfl rfl rfl ?_
      refine g_pass' rfl rfl rfl rfl rfl ?_
      refine g_pass' rfl rfl rfl rfl rfl ?_
      refine aops_cons rfl (w_pure rfl (p_pick_t rfl rfl) ?_)
      refine aops_nil ?_
      refine a_cond_t rfl ?_
      refine a_seq ?_
      first | contradiction | (exfalso; first | omega | exact absurd g1 (by assumption))
    · (try simp only [Bool.not_eq_true', Bool.not_eq_false', Bool.not_eq_true, Bool.not_eq_false, decide_eq_true_eq, decide_eq_false_iff_not, List.length_map, List.length_range] at h4)
      refine aops_guard_t rfl rfl rfl (w_pure rfl (p_move rfl) ?_)
      refine aops_guard_t rfl rfl rfl (w_callR rfl rfl rfl cl_71 (c_spec_l6Irq ..) ?_)
      refine aops_guard_t rfl rfl rfl (w_pure rfl (p_not rfl) ?_)
      refine aops_cons rfl (w_pure rfl (p_pick_f rfl rfl) ?_)
      refine aops_nil ?_
      first | refine a_cond_d rfl (fun h5 => ?_) (fun h6 => ?_) | refine a_cond_n rfl (fun h5 => ?_) (fun h6 => ?_) | refine a_cond_nb rfl (fun h5 => ?_) (fun h6 => ?_) | refine a_cond rfl (fun h5 => ?_) (fun h6 => ?_)
      · (try simp only [Bool.not_eq_true', Bool.not_eq_false', Bool.not_eq_true, Bool.not_eq_false, decide_eq_true_eq, decide_eq_false_iff_not, List.length_map, List.length_range] at h5)
        refine a_seq ?_
        first | contradiction | (exfalso; first | omega | exact absurd g1 (by assumption))
      · (try simp only [Bool.not_eq_true', Bool.not_eq_false', Bool.not_eq_true, Bool.not_eq_false, decide_eq_true_eq, decide_eq_false_iff_not, List.length_map, List.length_range] at h6)
        refine a_skip ?_
        refine a_seq ?_
        refine a_region ?_
        refine aops_cons rfl (w_pure rfl (p_move rfl) ?_)
        refine aops_cons rfl (w_call rfl rfl rfl cl_75 (co_spec_l14List xs hn) ?_)
        rintro _ _ ⟨b1, ps1, rfl, hp1, rfl⟩
        have hl1 : ps1.length = xs.length := (by rw [← hp1, List.length_map])
        refine aops_cons rfl (w_pure rfl (p_assign rfl) ?_)
        refine aops_nil ?_
        refine a_seq ?_
        refine a_region ?_
        refine aops_cons rfl (w_pure rfl (p_move rfl) ?_)
        refine aops_cons rfl (w_pure rfl (p_move rfl) ?_)
        refine aops_cons rfl (w_pure rfl (p_index_own0 (findC xs g).toNat rfl rfl (by omega) (by omega) es_44) ?_)
        refine aops_cons rfl (w_pure rfl (p_load_e_all ag_32 rfl (by (try simp only [fam_app, fam_one, fam_nil, List.append_assoc, List.cons_append, List.nil_append, List.append_nil, List.append_eq]); repeat (first | exact Pick.here _ _ _ | apply Pick.next | apply Pick.under)) (rowD _ _ zBC (by omega)) noX) ?_)
        refine aops_cons rfl (w_alloc rfl z_32 fun b2 => ?_)
        refine aops_cons rfl (w_store (cells' := [_, _, _, _, _, _, _]) rfl rfl rfl (by (try simp only [fam_app, fam_one, fam_nil, List.append_assoc, List.cons_append, List.nil_append, List.append_nil, List.append_eq]); repeat (first | exact Pick.here _ _ _ | apply Pick.next | apply Pick.under)) cn_32 (by rfl) (by rfl) (by rfl) trivial ?_)
        refine aops_nil ?_
        refine a_seq ?_
        refine a_region ?_
        refine aops_cons rfl (w_pure rfl (p_field_box fo_32_3 rfl) ?_)
        refine aops_cons rfl (w_pure rfl (p_load_box ag_3 rfl (by (try simp only [fam_app, fam_one, fam_nil, List.append_assoc, List.cons_append, List.nil_append, List.append_nil, List.append_eq]); repeat (first | exact Pick.here _ _ _ | apply Pick.next | apply Pick.under)) (by rfl) noX) ?_)
        refine aops_cons rfl (w_pure rfl (p_move rfl) ?_)
        refine aops_cons rfl (w_pure rfl (p_convert ui_3 um_87 rfl) ?_)
        refine aops_cons rfl (w_pure rfl (p_shl rfl rfl (by rw [hu]; omega)) ?_)
        refine aops_cons rfl (w_pure rfl (p_bits .or (by decide) rfl rfl) ?_)
        refine aops_cons rfl (w_pure rfl (p_field_box fo_32_3 rfl) ?_)
        refine aops_cons rfl (w_store (cells' := [_, _, _, _, _, _, _]) rfl rfl rfl (by (try simp only [fam_app, fam_one, fam_nil, List.append_assoc, List.cons_append, List.nil_append, List.append_nil, List.append_eq]); repeat (first | exact Pick.here _ _ _ | apply Pick.next | apply Pick.under)) cn_3 (by rfl) (by rfl) (by rfl) trivial ?_)
        refine aops_nil ?_
        refine a_seq ?_
        rw [hu]
        refine a_region ?_
        refine aops_cons rfl (w_pure rfl (p_move rfl) ?_)
        refine aops_cons rfl (w_pure rfl (p_move rfl) ?_)
        refine aops_cons rfl (w_pure rfl (p_load_box_all ag_32 rfl (by (try simp only [fam_app, fam_one, fam_nil, List.append_assoc, List.cons_append, List.nil_append, List.append_nil, List.append_eq]); repeat (first | exact Pick.here _ _ _ | apply Pick.next | apply Pick.under)) (by rfl) noX) ?_)
        refine aops_cons rfl (w_pure rfl (p_index_own0 (findC xs g).toNat rfl rfl (by omega) (by omega) es_44) ?_)
        refine aops_cons rfl (w_store_eM rowC ((ps1.getD (findC xs g).toNat zBC).1, raise1 (ps1.getD (findC xs g).toNat zBC).2 q) rfl rfl rfl (by (try simp only [fam_app, fam_one, fam_nil, List.append_assoc, List.cons_append, List.nil_append, List.append_nil, List.append_eq]); repeat (first | exact Pick.here _ _ _ | apply Pick.next | apply Pick.under)) (by omega) cn_32 (by rfl) (by rfl) (segSet_all rfl) trivial ?_)
        refine aops_nil ?_
        refine a_seq ?_
        refine a_region ?_
        refine aops_cons rfl (w_pure rfl (p_move rfl) ?_)
        refine aops_cons rfl (w_pure rfl (p_assign rfl) ?_)
        refine aops_cons rfl (w_pure rfl (p_assign rfl) ?_)
        refine aops_nil ?_
        refine a_ret ?_
        refine ret_ok (hands2 rfl (.tmp rfl) (.tmp rfl)) (st' := (b1, .arr 32 7 ((ps1.set (findC xs g).toNat ((ps1.getD (findC xs g).toNat zBC).1, raise1 (ps1.getD (findC xs g).toNat zBC).2 q)).map rowC)) :: fam (famC 3) ps1) (by (try dsimp only); (try simp only [fam_app, fam_one, fam_nil, List.append_assoc, List.cons_append, List.nil_append, List.append_nil, List.append_eq]); repeat (first | exact Picks.nil _ | exact Pick.here _ _ _ | exact Picks.whole _ _ | exact Picks.whole0 _ | apply Pick.next | apply Pick.under | apply Picks.cons | apply Picks.both | apply Picks.skip1 | apply Picks.skipA)) ?_
        first | exact ⟨_, ps1.set (findC xs g).toNat ((ps1.getD (findC xs g).toNat zBC).1, raise1 (ps1.getD (findC xs g).toNat zBC).2 q), by rw [List.length_set], raise_map hp1 g q g2, by rw [fam_raise 3 (by omega)]⟩ | (exfalso; first | contradiction | omega | exact absurd hA.1 (by assumption) | (have := hA.2; omega))

theorem cy_spec_RaisePending (xs : List Context) (hn : SmallL xs) (g q : Int) (hA : GoodRaise xs g q) : ACalls Try.prog 31 [.sl (xs.map eContext), .int .i64 g, .int .i64 q] [] (Ret (.tup [.sl ((raiseL xs g q).map eContext), .bool true])) :=
  (co_spec_RaisePending xs hn g q hA).freeze (by rintro _ _ ⟨_, _, rfl, e0, rfl⟩; rw [← e0]; exact (.tup (.cons (.own2 (by (try simp only [fam_app, fam_one, fam_nil, List.append_assoc, List.cons_append, List.nil_append, List.append_nil, List.append_eq]); repeat (first | exact List.Mem.head _ | apply List.Mem.tail | apply List.mem_append_right)) (List.length_map _) (vwR_ctx (t := 3) (by intro x hx; (try simp only [fam_app, fam_one, fam_nil, List.append_assoc, List.cons_append, List.nil_append, List.append_nil, List.append_eq]); repeat (first | exact hx | exact List.mem_append_left _ hx | apply List.mem_append_right | apply List.mem_cons_of_mem)))) (.cons (.refl _) .nil))))

theorem cn_spec_RaisePending (xs : List Context) (hn : SmallL xs) (g q : Int) (hA : ¬ GoodRaise xs g q) : ACalls Try.prog 31 [.sl (xs.map eContext), .int .i64 g, .int .i64 q] [] (Ret (.tup [.sl ([] : List (List AV)), .bool false])) := by
  have hn1 := hn.1
  have hfl := findC_lt xs g
  refine a_enter Try.func31 rfl rfl (fun w0 M0 => ?_)
  refine a_seq ?_
  refine a_region ?_
  refine aops_cons rfl (w_pure rfl (p_assign rfl) ?_)
  refine aops_cons rfl (w_pure rfl (p_assign rfl) ?_)
  refine aops_nil ?_
  refine a_seq ?_
  refine a_region ?_
  refine aops_cons rfl (w_pure rfl (p_move rfl) ?_)
  refine aops_cons rfl (w_pure rfl (p_move rfl) ?_)
  refine aops_cons rfl (w_callR rfl rfl rfl cl_74 (c_spec_l14Find _ (by assumption) _) ?_)
  refine aops_cons rfl (w_pure rfl (p_assign rfl) ?_)
  refine aops_nil ?_
  refine a_seq ?_
  refine a_seq ?_
  refine a_region ?_
  refine aops_cons rfl (w_pure rfl (p_move rfl) ?_)
  refine aops_cons rfl (w_callR rfl rfl rfl cl_68 (c_spec_l14Good _ ‹_›) ?_)
  refine aops_cons rfl (w_pure rfl (p_not rfl) ?_)
  refine aops_cons rfl (w_pure rfl (p_move rfl) ?_)
  first | refine aops_split_d 17 rfl (fun h1 => ?_) (fun h2 => ?_) | refine aops_split 17 rfl (fun h1 => ?_) (fun h2 => ?_)
  · (try simp only [Bool.not_eq_true', Bool.not_eq_false', Bool.not_eq_true, Bool.not_eq_false, decide_eq_true_eq, decide_eq_false_iff_not, List.length_map, List.length_range] at h1)
    refine g_pass' rfl rfl rfl rfl rfl ?_
    refine g_pass' rfl rfl rfl rfl rfl ?_
    refine aops_cons rfl (w_pure rfl (p_pick_t rfl rfl) ?_)
    refine aops_cons rfl (w_pure rfl (p_move rfl) ?_)
    refine g_pass' rfl rfl rfl rfl rfl ?_
    refine g_pass' rfl rfl rfl rfl rfl ?_
    refine g_pass' rfl rfl rfl rfl rfl ?_
    refine aops_cons rfl (w_pure rfl (p_pick_t rfl rfl) ?_)
    refine aops_nil ?_
    refine a_cond_t rfl ?_
    refine a_seq ?_
    refine a_region ?_
    refine aops_cons rfl (w_lit_vM rowC [] rfl el_44 rfl rfl rfl rfl rfl ?_)
    refine aops_cons rfl (w_pure rfl (p_assign rfl) ?_)
    refine aops_cons rfl (w_pure rfl (p_assign rfl) ?_)
    refine aops_nil ?_
    refine a_ret ?_
    refine ret_ok (hands2 rfl (.tmp rfl) (.tmp rfl)) (.nil _) ?_
    exact ⟨rfl, rfl⟩
  · (try simp only [Bool.not_eq_true', Bool.not_eq_false', Bool.not_eq_true, Bool.not_eq_false, decide_eq_true_eq, decide_eq_false_iff_not, List.length_map, List.length_range] at h2)
    refine aops_guard_t rfl rfl rfl (w_pure rfl (p_move rfl) ?_)
    refine aops_guard_t rfl rfl rfl (w_pure rfl (p_lss rfl rfl) ?_)
    refine aops_cons rfl (w_pure rfl (p_pick_f rfl rfl) ?_)
    refine aops_cons rfl (w_pure rfl (p_move rfl) ?_)
    first | refine aops_split_d 21 rfl (fun h3 => ?_) (fun h4 => ?_) | refine aops_split 21 rfl (fun h3 => ?_) (fun h4 => ?_)
    · (try simp only [Bool.not_eq_true', Bool.not_eq_false', Bool.not_eq_true, Bool.not_eq_false, decide_eq_true_eq, decide_eq_false_iff_not, List.length_map, List.length_range] at h3)
      refine g_pass' rfl rfl rfl rfl rfl ?_
      refine g_pass' rfl rfl rfl rfl rfl ?_
      refine g_pass' rfl rfl rfl rfl rfl ?_
      refine aops_cons rfl (w_pure rfl (p_pick_t rfl rfl) ?_)
      refine aops_nil ?_
      refine a_cond_t rfl ?_
      refine a_seq ?_
      refine a_region ?_
      refine aops_cons rfl (w_lit_vM rowC [] rfl el_44 rfl rfl rfl rfl rfl ?_)
      refine aops_cons rfl (w_pure rfl (p_assign rfl) ?_)
      refine aops_cons rfl (w_pure rfl (p_assign rfl) ?_)
      refine aops_nil ?_
      refine a_ret ?_
      refine ret_ok (hands2 rfl (.tmp rfl) (.tmp rfl)) (.nil _) ?_
      exact ⟨rfl, rfl⟩
    · (try simp only [Bool.not_eq_true', Bool.not_eq_false', Bool.not_eq_true, Bool.not_eq_false, decide_eq_true_eq, decide_eq_false_iff_not, List.length_map, List.length_range] at h4)
      refine aops_guard_t rfl rfl rfl (w_pure rfl (p_move rfl) ?_)
      refine aops_guard_t rfl rfl rfl (w_callR rfl rfl rfl cl_71 (c_spec_l6Irq ..) ?_)
      refine aops_guard_t rfl rfl rfl (w_pure rfl (p_not rfl) ?_)
      refine aops_cons rfl (w_pure rfl (p_pick_f rfl rfl) ?_)
      refine aops_nil ?_
      first | refine a_cond_d rfl (fun h5 => ?_) (fun h6 => ?_) | refine a_cond_n rfl (fun h5 => ?_) (fun h6 => ?_) | refine a_cond_nb rfl (fun h5 => ?_) (fun h6 => ?_) | refine a_cond rfl (fun h5 => ?_) (fun h6 => ?_)
      · (try simp only [Bool.not_eq_true', Bool.not_eq_false', Bool.not_eq_true, Bool.not_eq_false, decide_eq_true_eq, decide_eq_false_iff_not, List.length_map, List.length_range] at h5)
        refine a_seq ?_
        refine a_region ?_
        refine aops_cons rfl (w_lit_vM rowC [] rfl el_44 rfl rfl rfl rfl rfl ?_)
        refine aops_cons rfl (w_pure rfl (p_assign rfl) ?_)
        refine aops_cons rfl (w_pure rfl (p_assign rfl) ?_)
        refine aops_nil ?_
        refine a_ret ?_
        refine ret_ok (hands2 rfl (.tmp rfl) (.tmp rfl)) (.nil _) ?_
        exact ⟨rfl, rfl⟩
      · (try simp only [Bool.not_eq_true', Bool.not_eq_false', Bool.not_eq_true, Bool.not_eq_false, decide_eq_true_eq, decide_eq_false_iff_not, List.length_map, List.length_range] at h6)
        refine a_skip ?_
        refine a_seq ?_
        exact absurd (show GoodRaise xs g q from ⟨by assumption, by omega, by omega⟩) hA

theorem cy_impl_SwapImages (xs : List Context) (hn : SmallL xs) (hA : AreContexts xs) : ACalls Try.prog 35 [.sl (xs.map eContext)] [] (fun r st => ∃ (b1 : Nat) (ps1 : List BI), r = .tup [.own 1 b1 0 ps1.length, .bool true] ∧ ps1.map (·.2) = (swapL xs) ∧ st = (b1, .arr 22 1 (ps1.map rowI)) :: fam (famI 3) ps1) := by
  have hn1 := hn.1
  have hx6 := hA.2
  refine a_enter Try.func35 rfl rfl (fun w0 M0 => ?_)
  refine a_seq ?_
  refine a_region ?_
  refine aops_cons rfl (w_pure rfl (p_assign rfl) ?_)
  refine aops_cons rfl (w_pure rfl (p_assign rfl) ?_)
  refine aops_nil ?_
  refine a_seq ?_
  refine a_seq ?_
  refine a_region ?_
  refine aops_cons rfl (w_pure rfl (p_move rfl) ?_)
  refine aops_cons rfl (w_callR rfl rfl rfl cl_50 (c_impl_AreContexts _ ‹_›) ?_)
  refine aops_cons rfl (w_pure rfl (p_not rfl) ?_)
  refine aops_nil ?_
  first | refine a_cond_d rfl (fun h1 => ?_) (fun h2 => ?_) | refine a_cond_n rfl (fun h1 => ?_) (fun h2 => ?_) | refine a_cond_nb rfl (fun h1 => ?_) (fun h2 => ?_) | refine a_cond rfl (fun h1 => ?_) (fun h2 => ?_)
  · (try simp only [Bool.not_eq_true', Bool.not_eq_false', Bool.not_eq_true, Bool.not_eq_false, decide_eq_true_eq, decide_eq_false_iff_not, List.length_map, List.length_range] at h1)
    refine a_seq ?_
    exact absurd hA (by assumption)
  · (try simp only [Bool.not_eq_true', Bool.not_eq_false', Bool.not_eq_true, Bool.not_eq_false, decide_eq_true_eq, decide_eq_false_iff_not, List.length_map, List.length_range] at h2)
    refine a_skip ?_
    refine a_seq ?_
    refine a_region ?_
    refine aops_cons rfl (w_litM rowI [] rfl el_54 rfl rfl rfl rfl rfl fun b1 => ?_)
    refine aops_cons rfl (w_pure rfl (p_assign rfl) ?_)
    refine aops_nil ?_
    refine a_seq ?_
    refine a_seq ?_
    refine a_region ?_
    refine aops_cons rfl (w_pure rfl (p_move rfl) ?_)
    refine aops_cons rfl (w_pure rfl (p_len sl_44 rfl rfl) ?_)
    refine aops_cons rfl (w_pure rfl (p_move rfl) ?_)
    refine aops_nil ?_
    refine a_block ?_
    refine a_loop (ι := Nat × Nat × List BI) (fun ⟨i, b, ps⟩ => i ≤ xs.length ∧ ps.map (·.2) = swapTo xs i) (fun ⟨i, b, ps⟩ => [(13, .int .i64 (i : Int)), (4, .own 1 b 0 ps.length)]) (fun ⟨i, b, ps⟩ => (b, .arr 22 1 (ps.map rowI)) :: fam (famI 3) ps) (fun ⟨i, b, ps⟩ => xs.length - i) (0, b1, []) ⟨Nat.zero_le _, rfl⟩ (by repeat (first | exact Knows.nil | refine Knows.cons (by rfl) ?_)) (by (try dsimp only); (try simp only [fam_app, fam_one, fam_nil, List.append_assoc, List.cons_append, List.nil_append, List.append_nil, List.append_eq]); repeat (first | exact Picks.nil _ | exact Pick.here _ _ _ | exact Picks.whole _ _ | exact Picks.whole0 _ | apply Pick.next | apply Pick.under | apply Picks.cons | apply Picks.both | apply Picks.skip1 | apply Picks.skipA)) ?_
    rintro ⟨i, b, ps⟩ ⟨hi, hP⟩
    replace hi : i ≤ xs.length := hi
    replace hP : ps.map (·.2) = swapTo xs i := hP
    have hpl : ps.length = i := (by have := congrArg List.length hP; rwa [List.length_map, swapTo_len] at this)
    have hcx := fun h : i < xs.length => are_at hA h
    refine a_seq ?_
    refine a_region ?_
    refine aops_cons rfl (w_pure rfl (p_lss rfl rfl) ?_)
    refine aops_nil ?_
    refine a_seq ?_
    first | refine a_cond_d rfl (fun h3 => ?_) (fun h4 => ?_) | refine a_cond_n rfl (fun h3 => ?_) (fun h4 => ?_) | refine a_cond_nb rfl (fun h3 => ?_) (fun h4 => ?_) | refine a_cond rfl (fun h3 => ?_) (fun h4 => ?_)
    · (try simp only [Bool.not_eq_true', Bool.not_eq_false', Bool.not_eq_true, Bool.not_eq_false, decide_eq_true_eq, decide_eq_false_iff_not, List.length_map, List.length_range] at h3)
      refine a_skip ?_
      refine a_seq ?_
      refine a_block ?_
      refine a_seq ?_
      refine a_region ?_
      refine aops_cons rfl (w_pure rfl (p_index_sl _ rfl rfl rfl (rowD eContext xs zContext (by omega)) es_44) ?_)
      refine aops_cons rfl (w_pure rfl (p_load_v_all ag_32 rfl (by rfl) noX) ?_)
      refine aops_cons rfl (w_alloc rfl z_32 fun b2 => ?_)
      refine aops_cons rfl (w_store (cells' := [_, _, _, _, _, _, _]) rfl rfl rfl (by (try simp only [fam_app, fam_one, fam_nil, List.append_assoc, List.cons_append, List.nil_append, List.append_nil, List.append_eq]); repeat (first | exact Pick.here _ _ _ | apply Pick.next | apply Pick.under)) cn_32 (by rfl) (by rfl) (by rfl) trivial ?_)
      refine aops_nil ?_
      refine a_region ?_
      refine aops_cons rfl (w_pure rfl (p_move rfl) ?_)
      refine aops_cons rfl (w_pure rfl (p_load_box_all ag_32 rfl (by (try simp only [fam_app, fam_one, fam_nil, List.append_assoc, List.cons_append, List.nil_append, List.append_nil, List.append_eq]); repeat (first | exact Pick.here _ _ _ | apply Pick.next | apply Pick.under)) (by rfl) noX) ?_)
      refine aops_cons rfl (w_call rfl rfl rfl cl_64 ((co_impl_imageOf (xs.getD i zContext) (hn.2 i (by omega)) (hcx (by omega))).mono fun _ _ h => h.len) ?_)
      rintro _ _ ⟨b3, rfl, rfl⟩
      refine aops_cons rfl (w_lit_vM rowI [(b3, imageV (xs.getD i zContext))] rfl el_54 rfl rfl rfl rfl rfl ?_)
      refine aops_cons rfl (w_appendM rowI rfl el_54 rfl rfl (by (try simp only [fam_app, fam_one, fam_nil, List.append_assoc, List.cons_append, List.nil_append, List.append_nil, List.append_eq]); repeat (first | exact Pick.here _ _ _ | apply Pick.next | apply Pick.under)) rfl (.sl _) (fun _ => rfl) (fun _ => rfl) (by simp; omega) (by simp; omega) trivial fun b4 => ?_)
      refine aops_cons rfl (w_pure rfl (p_assign rfl) ?_)
      refine aops_nil ?_
      refine a_region ?_
      refine aops_cons rfl (w_pure rfl (p_add' rfl rfl ⟨by (try simp only [List.length_map, List.length_append, List.length_cons, List.length_nil]); omega, by (try simp only [List.length_map, List.length_append, List.length_cons, List.length_nil]); omega⟩) ?_)
      refine aops_cons rfl (w_pure rfl (p_move rfl) ?_)
      refine aops_nil ?_
      refine ⟨(i + 1, _, ps ++ [(b3, imageV (xs.getD i zContext))]), _, ?_, ?_, (by repeat (first | exact Knows.nil | refine Knows.cons (by rfl) ?_)), (by repeat (first | exact Back.refl _ _ | refine Back.cons (by rfl) ?_)), (by (try dsimp only); (try simp only [fam_app, fam_one, fam_nil, List.append_assoc, List.cons_append, List.nil_append, List.append_nil, List.append_eq]); repeat (first | exact Picks.nil _ | exact Pick.here _ _ _ | exact Picks.whole _ _ | exact Picks.whole0 _ | apply Pick.next | apply Pick.under | apply Picks.cons | apply Picks.both | apply Picks.skip1 | apply Picks.skipA))⟩
      · exact ⟨by omega, swap_step hP rfl⟩
      · (try dsimp only); omega
    · (try simp only [Bool.not_eq_true', Bool.not_eq_false', Bool.not_eq_true, Bool.not_eq_false, decide_eq_true_eq, decide_eq_false_iff_not, List.length_map, List.length_range] at h4)
      refine a_exit ?_
      refine a_seq ?_
      refine a_region ?_
      refine aops_cons rfl (w_pure rfl (p_move rfl) ?_)
      refine aops_cons rfl (w_pure rfl (p_assign rfl) ?_)
      refine aops_cons rfl (w_pure rfl (p_assign rfl) ?_)
      refine aops_nil ?_
      refine a_ret ?_
      refine ret_ok (hands2 rfl (.tmp rfl) (.tmp rfl)) (st' := (b, .arr 22 1 (ps.map rowI)) :: fam (famI 3) ps) (by (try dsimp only); (try simp only [fam_app, fam_one, fam_nil, List.append_assoc, List.cons_append, List.nil_append, List.append_nil, List.append_eq]); repeat (first | exact Picks.nil _ | exact Pick.here _ _ _ | exact Picks.whole _ _ | exact Picks.whole0 _ | apply Pick.next | apply Pick.under | apply Picks.cons | apply Picks.both | apply Picks.skip1 | apply Picks.skipA)) ?_
      first | (have hx : i = xs.length := (by omega); subst hx; exact ⟨b, ps, rfl, hP, rfl⟩) | exact absurd hA (by assumption)

theorem cf_impl_SwapImages (xs : List Context) (hn : SmallL xs) (hA : AreContexts xs) : ACalls Try.prog 35 [.sl (xs.map eContext)] [] (Ret (.tup [.sl ((swapL xs).map eInts), .bool true])) :=
  (cy_impl_SwapImages xs hn hA).freeze (by rintro _ _ ⟨_, _, rfl, e0, rfl⟩; rw [← e0]; exact (.tup (.cons (.own2 (by (try simp only [fam_app, fam_one, fam_nil, List.append_assoc, List.cons_append, List.nil_append, List.append_nil, List.append_eq]); repeat (first | exact List.Mem.head _ | apply List.Mem.tail | apply List.mem_append_right)) (List.length_map _) (vwR_ints (t := 3) (by intro x hx; (try simp only [fam_app, fam_one, fam_nil, List.append_assoc, List.cons_append, List.nil_append, List.append_nil, List.append_eq]); repeat (first | exact hx | exact List.mem_append_left _ hx | apply List.mem_append_right | apply List.mem_cons_of_mem)))) (.cons (.refl _) .nil))))

theorem cn_impl_SwapImages (xs : List Context) (hn : SmallL xs) (hA : ¬ AreContexts xs) : ACalls Try.prog 35 [.sl (xs.map eContext)] [] (Ret (.tup [.nil, .bool false])) := by
  refine a_enter Try.func35 rfl rfl (fun w0 M0 => ?_)
  refine a_seq ?_
  refine a_region ?_
  refine aops_cons rfl (w_pure rfl (p_assign rfl) ?_)
  refine aops_cons rfl (w_pure rfl (p_assign rfl) ?_)
  refine aops_nil ?_
  refine a_seq ?_
  refine a_seq ?_
  refine a_region ?_
  refine aops_cons rfl (w_pure rfl (p_move rfl) ?_)
  refine aops_cons rfl (w_callR rfl rfl rfl cl_50 (c_impl_AreContexts _ ‹_›) ?_)
  refine aops_cons rfl (w_pure rfl (p_not rfl) ?_)
  refine aops_nil ?_
  first | refine a_cond_d rfl (fun h1 => ?_) (fun h2 => ?_) | refine a_cond_n rfl (fun h1 => ?_) (fun h2 => ?_) | refine a_cond_nb rfl (fun h1 => ?_) (fun h2 => ?_) | refine a_cond rfl (fun h1 => ?_) (fun h2 => ?_)
  · (try simp only [Bool.not_eq_true', Bool.not_eq_false', Bool.not_eq_true, Bool.not_eq_false, decide_eq_true_eq, decide_eq_false_iff_not, List.length_map, List.length_range] at h1)
    refine a_seq ?_
    refine a_region ?_
    refine aops_cons rfl (w_pure rfl (p_assign rfl) ?_)
    refine aops_cons rfl (w_pure rfl (p_assign rfl) ?_)
    refine aops_nil ?_
    refine a_ret ?_
    refine ret_ok (hands2 rfl (.tmp rfl) (.tmp rfl)) (.nil _) ?_
    exact ⟨rfl, rfl⟩
  · (try simp only [Bool.not_eq_true', Bool.not_eq_false', Bool.not_eq_true, Bool.not_eq_false, decide_eq_true_eq, decide_eq_false_iff_not, List.length_map, List.length_range] at h2)
    refine a_skip ?_
    refine a_seq ?_
    exact absurd (by assumption) hA

theorem co_spec_SwapImages (xs : List Context) (hn : SmallL xs) (hA : AreContexts xs) : ACalls Try.prog 34 [.sl (xs.map eContext)] [] (fun r st => ∃ (b1 : Nat) (ps1 : List BI), r = .tup [.own 1 b1 0 ps1.length, .bool true] ∧ ps1.map (·.2) = (swapL xs) ∧ st = (b1, .arr 22 1 (ps1.map rowI)) :: fam (famI 3) ps1) := by
  have hn1 := hn.1
  have hx6 := hA.2
  refine a_enter Try.func34 rfl rfl (fun w0 M0 => ?_)
  refine a_seq ?_
  refine a_region ?_
  refine aops_cons rfl (w_pure rfl (p_assign rfl) ?_)
  refine aops_cons rfl (w_pure rfl (p_assign rfl) ?_)
  refine aops_nil ?_
  refine a_seq ?_
  refine a_region ?_
  refine aops_cons rfl (w_litM rowI [] rfl el_54 rfl rfl rfl rfl rfl fun b1 => ?_)
  refine aops_cons rfl (w_pure rfl (p_assign rfl) ?_)
  refine aops_nil ?_
  refine a_seq ?_
  refine a_seq ?_
  refine a_region ?_
  refine aops_cons rfl (w_pure rfl (p_move rfl) ?_)
  refine aops_cons rfl (w_callR rfl rfl rfl cl_68 (c_spec_l14Good _ ‹_›) ?_)
  refine aops_cons rfl (w_pure rfl (p_not rfl) ?_)
  refine aops_nil ?_
  first | refine a_cond_d rfl (fun h1 => ?_) (fun h2 => ?_) | refine a_cond_n rfl (fun h1 => ?_) (fun h2 => ?_) | refine a_cond_nb rfl (fun h1 => ?_) (fun h2 => ?_) | refine a_cond rfl (fun h1 => ?_) (fun h2 => ?_)
  · (try simp only [Bool.not_eq_true', Bool.not_eq_false', Bool.not_eq_true, Bool.not_eq_false, decide_eq_true_eq, decide_eq_false_iff_not, List.length_map, List.length_range] at h1)
    refine a_seq ?_
    exact absurd hA (by assumption)
  · (try simp only [Bool.not_eq_true', Bool.not_eq_false', Bool.not_eq_true, Bool.not_eq_false, decide_eq_true_eq, decide_eq_false_iff_not, List.length_map, List.length_range] at h2)
    refine a_skip ?_
    refine a_seq ?_
    refine a_seq ?_
    refine a_region ?_
    refine aops_cons rfl (w_pure rfl (p_assign rfl) ?_)
    refine aops_nil ?_
    refine a_block ?_
    refine a_loop (ι := Nat × Nat × List BI) (fun ⟨i, b, ps⟩ => i ≤ xs.length ∧ ps.map (·.2) = swapTo xs i) (fun ⟨i, b, ps⟩ => [(5, .int .i64 (i : Int)), (4, .own 1 b 0 ps.length)]) (fun ⟨i, b, ps⟩ => (b, .arr 22 1 (ps.map rowI)) :: fam (famI 3) ps) (fun ⟨i, b, ps⟩ => xs.length - i) (0, b1, []) ⟨Nat.zero_le _, rfl⟩ (by repeat (first | exact Knows.nil | refine Knows.cons (by rfl) ?_)) (by (try dsimp only); (try simp only [fam_app, fam_one, fam_nil, List.append_assoc, List.cons_append, List.nil_append, List.append_nil, List.append_eq]); repeat (first | exact Picks.nil _ | exact Pick.here _ _ _ | exact Picks.whole _ _ | exact Picks.whole0 _ | apply Pick.next | apply Pick.under | apply Picks.cons | apply Picks.both | apply Picks.skip1 | apply Picks.skipA)) ?_
    rintro ⟨i, b, ps⟩ ⟨hi, hP⟩
    replace hi : i ≤ xs.length := hi
    replace hP : ps.map (·.2) = swapTo xs i := hP
    have hpl : ps.length = i := (by have := congrArg List.length hP; rwa [List.length_map, swapTo_len] at this)
    have hcx := fun h : i < xs.length => are_at hA h
    refine a_seq ?_
    refine a_seq ?_
    refine a_region ?_
    refine aops_cons rfl (w_pure rfl (p_move rfl) ?_)
    refine aops_cons rfl (w_pure rfl (p_move rfl) ?_)
    refine aops_cons rfl (w_pure rfl (p_len sl_44 rfl rfl) ?_)
    refine aops_cons rfl (w_pure rfl (p_lss rfl rfl) ?_)
    refine aops_nil ?_
    first | refine a_cond_d rfl (fun h3 => ?_) (fun h4 => ?_) | refine a_cond_n rfl (fun h3 => ?_) (fun h4 => ?_) | refine a_cond_nb rfl (fun h3 => ?_) (fun h4 => ?_) | refine a_cond rfl (fun h3 => ?_) (fun h4 => ?_)
    · (try simp only [Bool.not_eq_true', Bool.not_eq_false', Bool.not_eq_true, Bool.not_eq_false, decide_eq_true_eq, decide_eq_false_iff_not, List.length_map, List.length_range] at h3)
      refine a_skip ?_
      refine a_seq ?_
      refine a_block ?_
      refine a_region ?_
      refine aops_cons rfl (w_pure rfl (p_move rfl) ?_)
      refine aops_cons rfl (w_pure rfl (p_move rfl) ?_)
      refine aops_cons rfl (w_pure rfl (p_move rfl) ?_)
      refine aops_cons rfl (w_pure rfl (p_index_sl _ rfl rfl rfl (rowD eContext xs zContext (by omega)) es_44) ?_)
      refine aops_cons rfl (w_pure rfl (p_load_v_all ag_32 rfl (by rfl) noX) ?_)
      refine aops_cons rfl (w_call rfl rfl rfl cl_62 ((co_spec_l14Image (xs.getD i zContext) (hn.2 i (by omega)) (hcx (by omega))).mono fun _ _ h => h.len) ?_)
      rintro _ _ ⟨b2, rfl, rfl⟩
      refine aops_cons rfl (w_lit_vM rowI [(b2, imageV (xs.getD i zContext))] rfl el_54 rfl rfl rfl rfl rfl ?_)
      refine aops_cons rfl (w_appendM rowI rfl el_54 rfl rfl (by (try simp only [fam_app, fam_one, fam_nil, List.append_assoc, List.cons_append, List.nil_append, List.append_nil, List.append_eq]); repeat (first | exact Pick.here _ _ _ | apply Pick.next | apply Pick.under)) rfl (.sl _) (fun _ => rfl) (fun _ => rfl) (by simp; omega) (by simp; omega) trivial fun b3 => ?_)
      refine aops_cons rfl (w_pure rfl (p_assign rfl) ?_)
      refine aops_nil ?_
      refine a_region ?_
      refine aops_cons rfl (w_pure rfl (p_move rfl) ?_)
      refine aops_cons rfl (w_pure rfl (p_add' rfl rfl ⟨by (try simp only [List.length_map, List.length_append, List.length_cons, List.length_nil]); omega, by (try simp only [List.length_map, List.length_append, List.length_cons, List.length_nil]); omega⟩) ?_)
      refine aops_cons rfl (w_pure rfl (p_assign rfl) ?_)
      refine aops_nil ?_
      refine ⟨(i + 1, _, ps ++ [(b2, imageV (xs.getD i zContext))]), _, ?_, ?_, (by repeat (first | exact Knows.nil | refine Knows.cons (by rfl) ?_)), (by repeat (first | exact Back.refl _ _ | refine Back.cons (by rfl) ?_)), (by (try dsimp only); (try simp only [fam_app, fam_one, fam_nil, List.append_assoc, List.cons_append, List.nil_append, List.append_nil, List.append_eq]); repeat (first | exact Picks.nil _ | exact Pick.here _ _ _ | exact Picks.whole _ _ | exact Picks.whole0 _ | apply Pick.next | apply Pick.under | apply Picks.cons | apply Picks.both | apply Picks.skip1 | apply Picks.skipA))⟩
      · exact ⟨by omega, swap_step hP rfl⟩
      · (try dsimp only); omega
    · (try simp only [Bool.not_eq_true', Bool.not_eq_false', Bool.not_eq_true, Bool.not_eq_false, decide_eq_true_eq, decide_eq_false_iff_not, List.length_map, List.length_range] at h4)
      refine a_exit ?_
      refine a_seq ?_
      refine a_region ?_
      refine aops_cons rfl (w_pure rfl (p_move rfl) ?_)
      refine aops_cons rfl (w_pure rfl (p_assign rfl) ?_)
      refine aops_cons rfl (w_pure rfl (p_assign rfl) ?_)
      refine aops_nil ?_
      refine a_ret ?_
      refine ret_ok (hands2 rfl (.tmp rfl) (.tmp rfl)) (st' := (b, .arr 22 1 (ps.map rowI)) :: fam (famI 3) ps) (by (try dsimp only); (try simp only [fam_app, fam_one, fam_nil, List.append_assoc, List.cons_append, List.nil_append, List.append_nil, List.append_eq]); repeat (first | exact Picks.nil _ | exact Pick.here _ _ _ | exact Picks.whole _ _ | exact Picks.whole0 _ | apply Pick.next | apply Pick.under | apply Picks.cons | apply Picks.both | apply Picks.skip1 | apply Picks.skipA)) ?_
      first | (have hx : i = xs.length := (by omega); subst hx; exact ⟨b, ps, rfl, hP, rfl⟩) | exact absurd hA (by assumption)

theorem cy_spec_SwapImages (xs : List Context) (hn : SmallL xs) (hA : AreContexts xs) : ACalls Try.prog 34 [.sl (xs.map eContext)] [] (Ret (.tup [.sl ((swapL xs).map eInts), .bool true])) :=
  (co_spec_SwapImages xs hn hA).freeze (by rintro _ _ ⟨_, _, rfl, e0, rfl⟩; rw [← e0]; exact (.tup (.cons (.own2 (by (try simp only [fam_app, fam_one, fam_nil, List.append_assoc, List.cons_append, List.nil_append, List.append_nil, List.append_eq]); repeat (first | exact List.Mem.head _ | apply List.Mem.tail | apply List.mem_append_right)) (List.length_map _) (vwR_ints (t := 3) (by intro x hx; (try simp only [fam_app, fam_one, fam_nil, List.append_assoc, List.cons_append, List.nil_append, List.append_nil, List.append_eq]); repeat (first | exact hx | exact List.mem_append_left _ hx | apply List.mem_append_right | apply List.mem_cons_of_mem)))) (.cons (.refl _) .nil))))

theorem cn_spec_SwapImages (xs : List Context) (hn : SmallL xs) (hA : ¬ AreContexts xs) : ACalls Try.prog 34 [.sl (xs.map eContext)] [] (Ret (.tup [.sl ([] : List (List AV)), .bool false])) := by
  refine a_enter Try.func34 rfl rfl (fun w0 M0 => ?_)
  refine a_seq ?_
  refine a_region ?_
  refine aops_cons rfl (w_pure rfl (p_assign rfl) ?_)
  refine aops_cons rfl (w_pure rfl (p_assign rfl) ?_)
  refine aops_nil ?_
  refine a_seq ?_
  refine a_region ?_
  refine aops_cons rfl (w_lit_vM rowI [] rfl el_54 rfl rfl rfl rfl rfl ?_)
  refine aops_cons rfl (w_pure rfl (p_assign rfl) ?_)
  refine aops_nil ?_
  refine a_seq ?_
  refine a_seq ?_
  refine a_region ?_
  refine aops_cons rfl (w_pure rfl (p_move rfl) ?_)
  refine aops_cons rfl (w_callR rfl rfl rfl cl_68 (c_spec_l14Good _ ‹_›) ?_)
  refine aops_cons rfl (w_pure rfl (p_not rfl) ?_)
  refine aops_nil ?_
  first | refine a_cond_d rfl (fun h1 => ?_) (fun h2 => ?_) | refine a_cond_n rfl (fun h1 => ?_) (fun h2 => ?_) | refine a_cond_nb rfl (fun h1 => ?_) (fun h2 => ?_) | refine a_cond rfl (fun h1 => ?_) (fun h2 => ?_)
  · (try simp only [Bool.not_eq_true', Bool.not_eq_false', Bool.not_eq_true, Bool.not_eq_false, decide_eq_true_eq, decide_eq_false_iff_not, List.length_map, List.length_range] at h1)
    refine a_seq ?_
    refine a_region ?_
    refine aops_cons rfl (w_pure rfl (p_move rfl) ?_)
    refine aops_cons rfl (w_pure rfl (p_assign rfl) ?_)
    refine aops_cons rfl (w_pure rfl (p_assign rfl) ?_)
    refine aops_nil ?_
    refine a_ret ?_
    refine ret_ok (hands2 rfl (.tmp rfl) (.tmp rfl)) (.nil _) ?_
    exact ⟨rfl, rfl⟩
  · (try simp only [Bool.not_eq_true', Bool.not_eq_false', Bool.not_eq_true, Bool.not_eq_false, decide_eq_true_eq, decide_eq_false_iff_not, List.length_map, List.length_range] at h2)
    refine a_skip ?_
    refine a_seq ?_
    refine a_seq ?_
    exact absurd (by assumption) hA

end Go.Proofs.Ytejlhpmmgjfllaa
