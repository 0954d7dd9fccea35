/-
  The walks of this part: each theorem is the contract of one function. Condition: none but those that it names.
-/
import Derived.Test.YtdlhpomgmlcfoaaVcpuEd
import Derived.Test.YtdlhpomgmlcfoaaVcpuEF
import Derived.Test.YtdlhpomgmlcfoaaVcpuA
import Derived.Test.YtdlhpomgmlcfoaaVcpuB
import Derived.Test.YtdlhpomgmlcfoaaVcpuC
import Derived.Test.YtdlhpomgmlcfoaaVcpuD
namespace Go.Proofs.Ytdlhpomgmlcfoaa
open Go Go.Fw Go.Hv
attribute [local irreducible] awp Aops Aop ADraw ADrawAll ACalls
set_option maxRecDepth 4000
set_option linter.unusedSimpArgs false
set_option linter.unusedVariables false

theorem co_spec_TickShares (xs : List Vcpu) (hn : xs.length ≤ 1048576) (n : Int) (hA : GoodRun xs n) : ACalls Try.prog 21 [.sl (xs.map eVcpu), .int .i64 n] [] (fun r st => ∃ b1, r = .tup [.own 1 b1 0 (sharesL xs n).length, .bool true] ∧ st = [(b1, .arr 3 1 ((sharesL xs n).map eInt))]) := by
  refine a_enter Try.func21 rfl rfl (fun w0 M0 => ?_)
  refine a_seq ?_
  refine a_region ?_
  refine aops_cons rfl (w_pure rfl (p_assign rfl) ?_)
  refine aops_cons rfl (w_pure rfl (p_assign rfl) ?_)
  refine aops_nil ?_
  refine a_seq ?_
  refine a_seq ?_
  refine a_region ?_
  refine aops_cons rfl (w_pure rfl (p_move rfl) ?_)
  refine aops_cons rfl (w_pure rfl (p_move rfl) ?_)
  refine aops_cons rfl (w_callR rfl rfl rfl cl_49 (c_spec_l13Asked _ (by omega) _) ?_)
  refine aops_cons rfl (w_pure rfl (p_not rfl) ?_)
  refine aops_nil ?_
  first | refine a_cond_d rfl (fun h1 => ?_) (fun h2 => ?_) | refine a_cond_n rfl (fun h1 => ?_) (fun h2 => ?_) | refine a_cond_nb rfl (fun h1 => ?_) (fun h2 => ?_) | refine a_cond rfl (fun h1 => ?_) (fun h2 => ?_)
  · (try simp only [Bool.not_eq_true', Bool.not_eq_false', Bool.not_eq_true, Bool.not_eq_false, decide_eq_true_eq, decide_eq_false_iff_not, List.length_map, List.length_range] at h1)
    refine a_seq ?_
    refine a_region ?_
    refine aops_cons rfl (w_lit_vM eInt [] rfl el_31 rfl rfl rfl rfl rfl ?_)
    refine aops_cons rfl (w_pure rfl (p_assign rfl) ?_)
    refine aops_cons rfl (w_pure rfl (p_assign rfl) ?_)
    refine aops_nil ?_
    refine a_ret ?_
    refine ret_ok (hands2 rfl (.tmp rfl) (.tmp rfl)) (.nil _) ?_
    first | exact absurd hA (by assumption) | (have hx : i = tkN n := (by omega); subst hx; exact ⟨_, by rw [show (sharesL xs n).length = xs.length by simp [sharesL]], rfl⟩)
  · (try simp only [Bool.not_eq_true', Bool.not_eq_false', Bool.not_eq_true, Bool.not_eq_false, decide_eq_true_eq, decide_eq_false_iff_not, List.length_map, List.length_range] at h2)
    refine a_skip ?_
    refine a_seq ?_
    have hA2 := hA.2.1; have hrn : tkN n ≤ 200 := (by unfold tkN; omega); have hpl := picksTo_len xs (tkN n); have hil := idsTo_len xs (tkN n); have hpk : ∀ k, k < tkN n → 0 ≤ (picksTo xs (tkN n)).getD k 0 ∧ (picksTo xs (tkN n)).getD k 0 < xs.length ∧ (idsTo xs (tkN n)).getD k 0 = (xs.getD ((picksTo xs (tkN n)).getD k 0).toNat zVcpu).id := fun k hk => ids_picks hA.1 (hA.runs (by unfold tkN at hk; omega)) (tkN n) k hk
    refine a_region ?_
    refine aops_cons rfl (w_pure rfl (p_move rfl) ?_)
    refine aops_cons rfl (w_pure rfl (p_move rfl) ?_)
    refine aops_cons rfl (w_callR rfl rfl rfl cl_50 (c_spec_l13Run xs (by omega) n (by assumption)) ?_)
    refine aops_cons rfl (w_pure rfl (p_move rfl) ?_)
    refine aops_cons rfl (w_pure rfl (p_extract rfl rfl) ?_)
    refine aops_cons rfl (w_pure rfl (p_extract rfl rfl) ?_)
    refine aops_cons rfl (w_pure rfl (p_assign rfl) ?_)
    refine aops_cons rfl (w_pure rfl (p_assign rfl) ?_)
    refine aops_nil ?_
    refine a_seq ?_
    refine a_region ?_
    refine aops_cons rfl (w_pure rfl (p_move rfl) ?_)
    refine aops_cons rfl (w_pure rfl (p_len sl_24 rfl rfl) ?_)
    refine aops_cons rfl (w_makeN eInt (0 : Int) xs.length rfl el_31 z_3 rfl rfl (by simp) (by omega) (by omega) fun b1 => ?_)
    rw [← shP_zero xs n]
    refine aops_cons rfl (w_pure rfl (p_assign rfl) ?_)
    refine aops_nil ?_
    refine a_seq ?_
    refine a_seq ?_
    refine a_region ?_
    refine aops_cons rfl (w_pure rfl (p_assign rfl) ?_)
    refine aops_nil ?_
    refine a_block ?_
    refine a_loop (ι := Nat) (fun i => i ≤ (picksTo xs (tkN n)).length) (fun i => [(9, .int .i64 (i : Int))]) (fun i => [(b1, .arr 3 1 ((shP xs n i).map eInt))]) (fun i => (picksTo xs (tkN n)).length - i) 0 (Nat.zero_le _) (by repeat (first | exact Knows.nil | refine Knows.cons (by rfl) ?_)) (by repeat (first | exact Picks.nil _ | exact Pick.here _ _ _ | apply Pick.next | apply Picks.cons)) ?_
    rintro i hi
    have hi2 : i ≤ tkN n := (by rw [← hpl]; exact hi); have hsl := shP_len xs n i
    refine a_seq ?_
    refine a_seq ?_
    refine a_region ?_
    refine aops_cons rfl (w_pure rfl (p_move rfl) ?_)
    refine aops_cons rfl (w_pure rfl (p_move rfl) ?_)
    refine aops_cons rfl (w_pure rfl (p_len sl_31 rfl rfl) ?_)
    refine aops_cons rfl (w_pure rfl (p_lss rfl rfl) ?_)
    refine aops_nil ?_
    first | refine a_cond_d rfl (fun h3 => ?_) (fun h4 => ?_) | refine a_cond_n rfl (fun h3 => ?_) (fun h4 => ?_) | refine a_cond_nb rfl (fun h3 => ?_) (fun h4 => ?_) | refine a_cond rfl (fun h3 => ?_) (fun h4 => ?_)
    · (try simp only [Bool.not_eq_true', Bool.not_eq_false', Bool.not_eq_true, Bool.not_eq_false, decide_eq_true_eq, decide_eq_false_iff_not, List.length_map, List.length_range] at h3)
      refine a_skip ?_
      refine a_seq ?_
      refine a_block ?_
      refine a_seq ?_
      refine a_region ?_
      refine aops_cons rfl (w_pure rfl (p_move rfl) ?_)
      refine aops_cons rfl (w_pure rfl (p_move rfl) ?_)
      refine aops_cons rfl (w_pure rfl (p_index_sl _ rfl rfl rfl (rowD _ _ (0 : Int) (by omega)) es_31) ?_)
      refine aops_cons rfl (w_pure rfl (p_load_v ag_3 rfl (by rfl) noX) ?_)
      refine aops_cons rfl (w_pure rfl (p_assign rfl) ?_)
      refine aops_nil ?_
      refine a_region ?_
      refine aops_cons rfl (w_pure rfl (p_move rfl) ?_)
      refine aops_cons rfl (w_pure rfl (p_move rfl) ?_)
      refine aops_cons rfl (w_pure rfl (p_move rfl) ?_)
      refine aops_cons rfl (w_pure rfl (p_move rfl) ?_)
      refine aops_cons rfl (w_pure rfl (p_index_own0 ((picksTo xs (tkN n)).getD i 0).toNat rfl rfl (by have := hpk i (by omega); omega) (by have := hpk i (by omega); omega) es_31) ?_)
      refine aops_cons rfl (w_pure rfl (p_load_e ag_3 rfl (by repeat (first | exact Pick.here _ _ _ | apply Pick.next)) (rowD _ _ (0 : Int) (by rw [hsl]; have := hpk i (by omega); omega)) (by rfl) noX) ?_)
      refine aops_cons rfl (w_pure rfl (p_add' rfl rfl ⟨by rw [shP_get (by have := hpk i (by omega); omega)]; have := hitTo_b (atP (picksTo xs (tkN n)) ((picksTo xs (tkN n)).getD i 0).toNat) i; omega, by rw [shP_get (by have := hpk i (by omega); omega)]; have := hitTo_b (atP (picksTo xs (tkN n)) ((picksTo xs (tkN n)).getD i 0).toNat) i; have := hA.2.1; unfold tkN at *; omega⟩) ?_)
      refine aops_cons rfl (w_pure rfl (p_index_own0 ((picksTo xs (tkN n)).getD i 0).toNat rfl rfl (by have := hpk i (by omega); omega) (by have := hpk i (by omega); omega) es_31) ?_)
      refine aops_cons rfl (w_store_eM eInt ((shP xs n i).getD ((picksTo xs (tkN n)).getD i 0).toNat 0 + 1) rfl rfl rfl (by repeat (first | exact Pick.here _ _ _ | apply Pick.next)) (by rw [hsl]; have := hpk i (by omega); omega) cn_3 (by rfl) (by rfl) (by rfl) trivial ?_)
      rw [shP_step (by have := hpk i (by omega); exact ⟨this.1, this.2.1⟩)]
      refine aops_nil ?_
      refine a_region ?_
      refine aops_cons rfl (w_pure rfl (p_move rfl) ?_)
      refine aops_cons rfl (w_pure rfl (p_add' rfl rfl ⟨by omega, by omega⟩) ?_)
      refine aops_cons rfl (w_pure rfl (p_assign rfl) ?_)
      refine aops_nil ?_
      refine ⟨(i + 1), _, ?_, ?_, (by repeat (first | exact Knows.nil | refine Knows.cons (by rfl) ?_)), (by repeat (first | exact Back.refl _ _ | refine Back.cons (by rfl) ?_)), (by repeat (first | exact Picks.nil _ | exact Pick.here _ _ _ | apply Pick.next | apply Picks.cons))⟩
      · omega
      · (try dsimp only); omega
    · (try simp only [Bool.not_eq_true', Bool.not_eq_false', Bool.not_eq_true, Bool.not_eq_false, decide_eq_true_eq, decide_eq_false_iff_not, List.length_map, List.length_range] at h4)
      refine a_exit ?_
      refine a_seq ?_
      refine a_region ?_
      refine aops_cons rfl (w_pure rfl (p_move rfl) ?_)
      refine aops_cons rfl (w_pure rfl (p_assign rfl) ?_)
      refine aops_cons rfl (w_pure rfl (p_assign rfl) ?_)
      refine aops_nil ?_
      refine a_ret ?_
      refine ret_ok (hands2 rfl (.tmp rfl) (.tmp rfl)) (st' := [(b1, _)]) (.cons (by repeat (first | exact Pick.here _ _ _ | apply Pick.next)) (.nil _)) ?_
      first | exact absurd hA (by assumption) | (have hx : i = tkN n := (by omega); subst hx; exact ⟨_, by rw [show (sharesL xs n).length = xs.length by simp [sharesL]], rfl⟩)

theorem cy_spec_TickShares (xs : List Vcpu) (hn : xs.length ≤ 1048576) (n : Int) (hA : GoodRun xs n) : ACalls Try.prog 21 [.sl (xs.map eVcpu), .int .i64 n] [] (Ret (.tup [.sl ((sharesL xs n).map eInt), .bool true])) :=
  (co_spec_TickShares xs hn n hA).freeze (by rintro _ _ ⟨_, rfl, rfl⟩; exact (.tup (.cons (.own (by repeat (first | exact List.Mem.head _ | apply List.Mem.tail)) (List.length_map _)) (.cons (.refl _) .nil))))

theorem cn_spec_TickShares (xs : List Vcpu) (hn : xs.length ≤ 1048576) (n : Int) (hA : ¬ GoodRun xs n) : ACalls Try.prog 21 [.sl (xs.map eVcpu), .int .i64 n] [] (Ret (.tup [.sl ([] : List (List AV)), .bool false])) := by
  refine a_enter Try.func21 rfl rfl (fun w0 M0 => ?_)
  refine a_seq ?_
  refine a_region ?_
  refine aops_cons rfl (w_pure rfl (p_assign rfl) ?_)
  refine aops_cons rfl (w_pure rfl (p_assign rfl) ?_)
  refine aops_nil ?_
  refine a_seq ?_
  refine a_seq ?_
  refine a_region ?_
  refine aops_cons rfl (w_pure rfl (p_move rfl) ?_)
  refine aops_cons rfl (w_pure rfl (p_move rfl) ?_)
  refine aops_cons rfl (w_callR rfl rfl rfl cl_49 (c_spec_l13Asked _ (by omega) _) ?_)
  refine aops_cons rfl (w_pure rfl (p_not rfl) ?_)
  refine aops_nil ?_
  first | refine a_cond_d rfl (fun h1 => ?_) (fun h2 => ?_) | refine a_cond_n rfl (fun h1 => ?_) (fun h2 => ?_) | refine a_cond_nb rfl (fun h1 => ?_) (fun h2 => ?_) | refine a_cond rfl (fun h1 => ?_) (fun h2 => ?_)
  · (try simp only [Bool.not_eq_true', Bool.not_eq_false', Bool.not_eq_true, Bool.not_eq_false, decide_eq_true_eq, decide_eq_false_iff_not, List.length_map, List.length_range] at h1)
    refine a_seq ?_
    refine a_region ?_
    refine aops_cons rfl (w_lit_vM eInt [] rfl el_31 rfl rfl rfl rfl rfl ?_)
    refine aops_cons rfl (w_pure rfl (p_assign rfl) ?_)
    refine aops_cons rfl (w_pure rfl (p_assign rfl) ?_)
    refine aops_nil ?_
    refine a_ret ?_
    refine ret_ok (hands2 rfl (.tmp rfl) (.tmp rfl)) (.nil _) ?_
    exact ⟨rfl, rfl⟩
  · (try simp only [Bool.not_eq_true', Bool.not_eq_false', Bool.not_eq_true, Bool.not_eq_false, decide_eq_true_eq, decide_eq_false_iff_not, List.length_map, List.length_range] at h2)
    refine a_skip ?_
    refine a_seq ?_
    exact absurd (by assumption) hA

theorem cy_impl_TickShares (xs : List Vcpu) (hn : xs.length ≤ 1048576) (n : Int) (hA : GoodRun xs n) : ACalls Try.prog 20 [.sl (xs.map eVcpu), .int .i64 n] [] (fun r st => ∃ b1, r = .tup [.own 1 b1 0 (sharesL xs n).length, .bool true] ∧ st = [(b1, .arr 3 1 ((sharesL xs n).map eInt))]) := by
  have hil := idsTo_len xs (tkN n)
  have hrn : tkN n ≤ 200 := by have := hA.2.1; unfold tkN; omega
  refine a_enter Try.func20 rfl rfl (fun w0 M0 => ?_)
  refine a_seq ?_
  refine a_region ?_
  refine aops_cons rfl (w_pure rfl (p_assign rfl) ?_)
  refine aops_cons rfl (w_pure rfl (p_assign rfl) ?_)
  refine aops_nil ?_
  refine a_seq ?_
  refine a_region ?_
  refine aops_cons rfl (w_pure rfl (p_move rfl) ?_)
  refine aops_cons rfl (w_pure rfl (p_move rfl) ?_)
  refine aops_cons rfl (w_callR rfl rfl rfl cl_22 (cf_impl_RunTicks xs (by omega) n hA) ?_)
  refine aops_cons rfl (w_pure rfl (p_move rfl) ?_)
  refine aops_cons rfl (w_pure rfl (p_extract rfl rfl) ?_)
  refine aops_cons rfl (w_pure rfl (p_extract rfl rfl) ?_)
  refine aops_cons rfl (w_pure rfl (p_extract rfl rfl) ?_)
  refine aops_cons rfl (w_pure rfl (p_assign rfl) ?_)
  refine aops_cons rfl (w_pure rfl (p_assign rfl) ?_)
  refine aops_cons rfl (w_pure rfl (p_assign rfl) ?_)
  refine aops_nil ?_
  refine a_seq ?_
  refine a_seq ?_
  refine a_region ?_
  refine aops_cons rfl (w_pure rfl (p_move rfl) ?_)
  refine aops_cons rfl (w_pure rfl (p_not rfl) ?_)
  refine aops_nil ?_
  refine a_cond_f rfl ?_
  refine a_skip ?_
  refine a_seq ?_
  refine a_region ?_
  refine aops_cons rfl (w_litM eInt [] rfl el_31 rfl rfl rfl rfl rfl fun b1 => ?_)
  refine aops_cons rfl (w_pure rfl (p_assign rfl) ?_)
  refine aops_nil ?_
  refine a_seq ?_
  refine a_seq ?_
  refine a_region ?_
  refine aops_cons rfl (w_pure rfl (p_move rfl) ?_)
  refine aops_cons rfl (w_pure rfl (p_len sl_24 rfl rfl) ?_)
  refine aops_cons rfl (w_pure rfl (p_move rfl) ?_)
  refine aops_nil ?_
  refine a_block ?_
  refine a_loop (ι := Nat × Nat × List Int) (fun ⟨i, b, l⟩ => i ≤ xs.length ∧ l = shI xs n i) (fun ⟨i, b, l⟩ => [(27, .int .i64 (i : Int)), (9, .own 1 b 0 l.length)]) (fun ⟨i, b, l⟩ => [(b, .arr 3 1 (l.map eInt))]) (fun ⟨i, b, l⟩ => xs.length - i) (0, b1, []) ⟨Nat.zero_le _, rfl⟩ (by repeat (first | exact Knows.nil | refine Knows.cons (by rfl) ?_)) (by repeat (first | exact Picks.nil _ | exact Pick.here _ _ _ | apply Pick.next | apply Picks.cons)) ?_
  rintro ⟨i, b, l⟩ ⟨hi, hI⟩
  have hll : l.length = i := (by rw [hI, shI_len])
  refine a_seq ?_
  refine a_region ?_
  refine aops_cons rfl (w_pure rfl (p_lss rfl rfl) ?_)
  refine aops_nil ?_
  refine a_seq ?_
  first | refine a_cond_d rfl (fun h1 => ?_) (fun h2 => ?_) | refine a_cond_n rfl (fun h1 => ?_) (fun h2 => ?_) | refine a_cond_nb rfl (fun h1 => ?_) (fun h2 => ?_) | refine a_cond rfl (fun h1 => ?_) (fun h2 => ?_)
  · (try simp only [Bool.not_eq_true', Bool.not_eq_false', Bool.not_eq_true, Bool.not_eq_false, decide_eq_true_eq, decide_eq_false_iff_not, List.length_map, List.length_range] at h1)
    refine a_skip ?_
    refine a_seq ?_
    refine a_block ?_
    refine a_seq ?_
    refine a_region ?_
    refine aops_cons rfl (w_pure rfl (p_index_sl _ rfl rfl rfl (rowD _ _ zVcpu (by omega)) es_24) ?_)
    refine aops_cons rfl (w_pure rfl (p_load_v_all ag_56 rfl (by rfl) noX) ?_)
    refine aops_cons rfl (w_alloc rfl z_56 fun b2 => ?_)
    refine aops_cons rfl (w_store (cells' := [_, _, _, _, _]) rfl rfl rfl (by repeat (first | exact Pick.here _ _ _ | apply Pick.next)) cn_56 (by rfl) (by rfl) (by rfl) trivial ?_)
    refine aops_nil ?_
    refine a_seq ?_
    refine a_region ?_
    refine aops_cons rfl (w_pure rfl (p_assign rfl) ?_)
    refine aops_nil ?_
    refine a_seq ?_
    refine a_seq ?_
    refine a_region ?_
    refine aops_cons rfl (w_pure rfl (p_move rfl) ?_)
    refine aops_cons rfl (w_pure rfl (p_len sl_31 rfl rfl) ?_)
    refine aops_cons rfl (w_pure rfl (p_move rfl) ?_)
    refine aops_nil ?_
    refine a_block ?_
    refine a_loop (ι := Nat × Int) (fun ⟨k, m⟩ => k ≤ (idsTo xs (tkN n)).length ∧ m = hitTo (atI (idsTo xs (tkN n)) (xs.getD i zVcpu).id) k) (fun ⟨k, m⟩ => [(33, .int .i64 (k : Int)), (12, .int .i64 m)]) (fun ⟨k, m⟩ => []) (fun ⟨k, m⟩ => (idsTo xs (tkN n)).length - k) (0, 0) ⟨Nat.zero_le _, rfl⟩ (by repeat (first | exact Knows.nil | refine Knows.cons (by rfl) ?_)) (by repeat (first | exact Picks.nil _ | exact Pick.here _ _ _ | apply Pick.next | apply Picks.cons)) ?_
    rintro ⟨k, m⟩ ⟨hk, hK⟩
    have hmb := hitTo_b (atI (idsTo xs (tkN n)) (xs.getD i zVcpu).id) k; rw [← hK] at hmb
    refine a_seq ?_
    refine a_region ?_
    refine aops_cons rfl (w_pure rfl (p_lss rfl rfl) ?_)
    refine aops_nil ?_
    refine a_seq ?_
    first | refine a_cond_d rfl (fun h3 => ?_) (fun h4 => ?_) | refine a_cond_n rfl (fun h3 => ?_) (fun h4 => ?_) | refine a_cond_nb rfl (fun h3 => ?_) (fun h4 => ?_) | refine a_cond rfl (fun h3 => ?_) (fun h4 => ?_)
    · (try simp only [Bool.not_eq_true', Bool.not_eq_false', Bool.not_eq_true, Bool.not_eq_false, decide_eq_true_eq, decide_eq_false_iff_not, List.length_map, List.length_range] at h3)
      refine a_skip ?_
      refine a_seq ?_
      refine a_block ?_
      refine a_seq ?_
      refine a_region ?_
      refine aops_cons rfl (w_pure rfl (p_index_sl _ rfl rfl rfl (rowD _ _ (0 : Int) (by omega)) es_31) ?_)
      refine aops_cons rfl (w_pure rfl (p_load_v ag_3 rfl (by rfl) noX) ?_)
      refine aops_cons rfl (w_pure rfl (p_assign rfl) ?_)
      refine aops_nil ?_
      refine a_seq ?_
      refine a_region ?_
      refine aops_cons rfl (w_pure rfl (p_move rfl) ?_)
      refine aops_cons rfl (w_pure rfl (p_field_box fo_56_0 rfl) ?_)
      refine aops_cons rfl (w_pure rfl (p_load_box ag_3 rfl (by repeat (first | exact Pick.here _ _ _ | apply Pick.next)) (by rfl) noX) ?_)
      refine aops_cons rfl (w_pure rfl (p_eql rfl rfl) ?_)
      refine aops_nil ?_
      first | refine a_cond_d rfl (fun h5 => ?_) (fun h6 => ?_) | refine a_cond_n rfl (fun h5 => ?_) (fun h6 => ?_) | refine a_cond_nb rfl (fun h5 => ?_) (fun h6 => ?_) | refine a_cond rfl (fun h5 => ?_) (fun h6 => ?_)
      · (try simp only [Bool.not_eq_true', Bool.not_eq_false', Bool.not_eq_true, Bool.not_eq_false, decide_eq_true_eq, decide_eq_false_iff_not, List.length_map, List.length_range] at h5)
        refine a_region ?_
        refine aops_cons rfl (w_pure rfl (p_move rfl) ?_)
        refine aops_cons rfl (w_pure rfl (p_add' rfl rfl ⟨by omega, by omega⟩) ?_)
        refine aops_cons rfl (w_pure rfl (p_assign rfl) ?_)
        refine aops_nil ?_
        refine a_region ?_
        refine aops_cons rfl (w_pure rfl (p_add' rfl rfl ⟨by omega, by omega⟩) ?_)
        refine aops_cons rfl (w_pure rfl (p_move rfl) ?_)
        refine aops_nil ?_
        refine ⟨(k + 1, _), _, ?_, ?_, (by repeat (first | exact Knows.nil | refine Knows.cons (by rfl) ?_)), (by repeat (first | exact Back.refl _ _ | refine Back.cons (by rfl) ?_)), (by repeat (first | exact Picks.nil _ | exact Pick.here _ _ _ | apply Pick.next | apply Picks.cons))⟩
        · refine ⟨by omega, ?_⟩; rw [hitTo, ← hK]; first | exact (if_pos (decide_eq_true (by assumption))).symm | exact (if_neg (by unfold atI; rw [decide_eq_true_eq]; assumption)).symm
        · (try dsimp only); omega
      · (try simp only [Bool.not_eq_true', Bool.not_eq_false', Bool.not_eq_true, Bool.not_eq_false, decide_eq_true_eq, decide_eq_false_iff_not, List.length_map, List.length_range] at h6)
        refine a_skip ?_
        refine a_region ?_
        refine aops_cons rfl (w_pure rfl (p_add' rfl rfl ⟨by omega, by omega⟩) ?_)
        refine aops_cons rfl (w_pure rfl (p_move rfl) ?_)
        refine aops_nil ?_
        refine ⟨(k + 1, _), _, ?_, ?_, (by repeat (first | exact Knows.nil | refine Knows.cons (by rfl) ?_)), (by repeat (first | exact Back.refl _ _ | refine Back.cons (by rfl) ?_)), (by repeat (first | exact Picks.nil _ | exact Pick.here _ _ _ | apply Pick.next | apply Picks.cons))⟩
        · refine ⟨by omega, ?_⟩; rw [hitTo, ← hK]; first | exact (if_pos (decide_eq_true (by assumption))).symm | exact (if_neg (by unfold atI; rw [decide_eq_true_eq]; assumption)).symm
        · (try dsimp only); omega
    · (try simp only [Bool.not_eq_true', Bool.not_eq_false', Bool.not_eq_true, Bool.not_eq_false, decide_eq_true_eq, decide_eq_false_iff_not, List.length_map, List.length_range] at h4)
      refine a_exit ?_
      refine a_region ?_
      refine aops_cons rfl (w_pure rfl (p_move rfl) ?_)
      refine aops_cons rfl (w_pure rfl (p_move rfl) ?_)
      refine aops_cons rfl (w_lit_vM eInt [m] rfl el_31 rfl rfl rfl rfl rfl ?_)
      refine aops_cons rfl (w_appendM eInt rfl el_31 rfl rfl (by repeat (first | exact Pick.here _ _ _ | apply Pick.next)) rfl (.sl _) (fun _ => rfl) (fun _ => rfl) (by simp; omega) (by simp; omega) trivial fun b3 => ?_)
      refine aops_cons rfl (w_pure rfl (p_assign rfl) ?_)
      refine aops_nil ?_
      refine a_region ?_
      refine aops_cons rfl (w_pure rfl (p_add' rfl rfl ⟨by omega, by omega⟩) ?_)
      refine aops_cons rfl (w_pure rfl (p_move rfl) ?_)
      refine aops_nil ?_
      refine ⟨(i + 1, _, _), _, ?_, ?_, (by repeat (first | exact Knows.nil | refine Knows.cons (by rfl) ?_)), (by repeat (first | exact Back.refl _ _ | refine Back.cons (by rfl) ?_)), (by repeat (first | exact Picks.nil _ | exact Pick.here _ _ _ | apply Pick.next | apply Picks.cons))⟩
      · have hk2 : k = tkN n := (by omega); refine ⟨by omega, ?_⟩; rw [hI, hK, hk2]; exact shI_step xs n i
      · (try dsimp only); omega
  · (try simp only [Bool.not_eq_true', Bool.not_eq_false', Bool.not_eq_true, Bool.not_eq_false, decide_eq_true_eq, decide_eq_false_iff_not, List.length_map, List.length_range] at h2)
    refine a_exit ?_
    refine a_seq ?_
    refine a_region ?_
    refine aops_cons rfl (w_pure rfl (p_move rfl) ?_)
    refine aops_cons rfl (w_pure rfl (p_assign rfl) ?_)
    refine aops_cons rfl (w_pure rfl (p_assign rfl) ?_)
    refine aops_nil ?_
    refine a_ret ?_
    refine ret_ok (hands2 rfl (.tmp rfl) (.tmp rfl)) (st' := [(b, _)]) (.cons (by repeat (first | exact Pick.here _ _ _ | apply Pick.next)) (.nil _)) ?_
    have hx : i = xs.length := (by omega); subst hx; rw [shares_same hA] at hI; subst hI; exact ⟨b, rfl, rfl⟩

theorem cf_impl_TickShares (xs : List Vcpu) (hn : xs.length ≤ 1048576) (n : Int) (hA : GoodRun xs n) : ACalls Try.prog 20 [.sl (xs.map eVcpu), .int .i64 n] [] (Ret (.tup [.sl ((sharesL xs n).map eInt), .bool true])) :=
  (cy_impl_TickShares xs hn n hA).freeze (by rintro _ _ ⟨_, rfl, rfl⟩; exact (.tup (.cons (.own (by repeat (first | exact List.Mem.head _ | apply List.Mem.tail)) (List.length_map _)) (.cons (.refl _) .nil))))

theorem cn_impl_TickShares (xs : List Vcpu) (hn : xs.length ≤ 1048576) (n : Int) (hA : ¬ GoodRun xs n) : ACalls Try.prog 20 [.sl (xs.map eVcpu), .int .i64 n] [] (Ret (.tup [.nil, .bool false])) := by
  refine a_enter Try.func20 rfl rfl (fun w0 M0 => ?_)
  refine a_seq ?_
  refine a_region ?_
  refine aops_cons rfl (w_pure rfl (p_assign rfl) ?_)
  refine aops_cons rfl (w_pure rfl (p_assign rfl) ?_)
  refine aops_nil ?_
  refine a_seq ?_
  refine a_region ?_
  refine aops_cons rfl (w_pure rfl (p_move rfl) ?_)
  refine aops_cons rfl (w_pure rfl (p_move rfl) ?_)
  refine aops_cons rfl (w_callR rfl rfl rfl cl_22 (cn_impl_RunTicks xs (by omega) n hA) ?_)
  refine aops_cons rfl (w_pure rfl (p_move rfl) ?_)
  refine aops_cons rfl (w_pure rfl (p_extract rfl rfl) ?_)
  refine aops_cons rfl (w_pure rfl (p_extract rfl rfl) ?_)
  refine aops_cons rfl (w_pure rfl (p_extract rfl rfl) ?_)
  refine aops_cons rfl (w_pure rfl (p_assign rfl) ?_)
  refine aops_cons rfl (w_pure rfl (p_assign rfl) ?_)
  refine aops_cons rfl (w_pure rfl (p_assign rfl) ?_)
  refine aops_nil ?_
  refine a_seq ?_
  refine a_seq ?_
  refine a_region ?_
  refine aops_cons rfl (w_pure rfl (p_move rfl) ?_)
  refine aops_cons rfl (w_pure rfl (p_not rfl) ?_)
  refine aops_nil ?_
  refine a_cond_t rfl ?_
  refine a_seq ?_
  refine a_region ?_
  refine aops_cons rfl (w_pure rfl (p_assign rfl) ?_)
  refine aops_cons rfl (w_pure rfl (p_assign rfl) ?_)
  refine aops_nil ?_
  refine a_ret ?_
  refine ret_ok (hands2 rfl (.tmp rfl) (.tmp rfl)) (.nil _) ?_
  exact ⟨rfl, rfl⟩





theorem cy_spec_LongestWait (xs : List Vcpu) (hn : xs.length ≤ 1048576) (n : Int) (hA : GoodWait xs n) : ACalls Try.prog 30 [.sl (xs.map eVcpu), .int .i64 n] [] (Ret (.tup [.int .i64 (longest xs n).1, .int .i64 (longest xs n).2, .bool true])) := by
  have hpl := picksTo_len xs (tkN n)
  have hrn : tkN n ≤ 200 := by have := hA.1.2.1; unfold tkN; omega
  refine a_enter Try.func30 rfl rfl (fun w0 M0 => ?_)
  refine a_seq ?_
  refine a_region ?_
  refine aops_cons rfl (w_pure rfl (p_assign rfl) ?_)
  refine aops_cons rfl (w_pure rfl (p_assign rfl) ?_)
  refine aops_cons rfl (w_pure rfl (p_assign rfl) ?_)
  refine aops_nil ?_
  refine a_seq ?_
  refine a_seq ?_
  refine a_region ?_
  refine aops_cons rfl (w_pure rfl (p_move rfl) ?_)
  refine aops_cons rfl (w_pure rfl (p_move rfl) ?_)
  refine aops_cons rfl (w_callR rfl rfl rfl cl_49 (c_spec_l13Asked _ (by omega) _) ?_)
  refine aops_cons rfl (w_pure rfl (p_not rfl) ?_)
  refine aops_cons rfl (w_pure rfl (p_move rfl) ?_)
  first | refine aops_split_d 19 rfl (fun h1 => ?_) (fun h2 => ?_) | refine aops_split 19 rfl (fun h1 => ?_) (fun h2 => ?_)
  · (try simp only [Bool.not_eq_true', Bool.not_eq_false', Bool.not_eq_true, Bool.not_eq_false, decide_eq_true_eq, decide_eq_false_iff_not, List.length_map, List.length_range] at h1)
    refine g_pass' rfl rfl rfl rfl rfl ?_
    refine g_pass' rfl rfl rfl rfl rfl ?_
    refine aops_cons rfl (w_pure rfl (p_pick_t rfl rfl) ?_)
    refine aops_nil ?_
    refine a_cond_t rfl ?_
    refine a_seq ?_
    refine a_region ?_
    refine aops_cons rfl (w_pure rfl (p_assign rfl) ?_)
    refine aops_cons rfl (w_pure rfl (p_assign rfl) ?_)
    refine aops_cons rfl (w_pure rfl (p_assign rfl) ?_)
    refine aops_nil ?_
    refine a_ret ?_
    refine ret_ok (hands3 rfl (.tmp rfl) (.tmp rfl) (.tmp rfl)) (.nil _) ?_
    first | (exfalso; first | exact absurd hA.1 (by assumption) | exact hA.2 (by assumption) | omega) | (have hx : i = xs.length := (by omega); subst hx; exact ⟨by rw [hbe, hmo]; rfl, rfl⟩)
  · (try simp only [Bool.not_eq_true', Bool.not_eq_false', Bool.not_eq_true, Bool.not_eq_false, decide_eq_true_eq, decide_eq_false_iff_not, List.length_map, List.length_range] at h2)
    refine aops_guard_t rfl rfl rfl (w_pure rfl (p_move rfl) ?_)
    refine aops_guard_t rfl rfl rfl (w_pure rfl (p_eql rfl rfl) ?_)
    refine aops_cons rfl (w_pure rfl (p_pick_f rfl rfl) ?_)
    refine aops_nil ?_
    first | refine a_cond_d rfl (fun h3 => ?_) (fun h4 => ?_) | refine a_cond_n rfl (fun h3 => ?_) (fun h4 => ?_) | refine a_cond_nb rfl (fun h3 => ?_) (fun h4 => ?_) | refine a_cond rfl (fun h3 => ?_) (fun h4 => ?_)
    · (try simp only [Bool.not_eq_true', Bool.not_eq_false', Bool.not_eq_true, Bool.not_eq_false, decide_eq_true_eq, decide_eq_false_iff_not, List.length_map, List.length_range] at h3)
      refine a_seq ?_
      refine a_region ?_
      refine aops_cons rfl (w_pure rfl (p_assign rfl) ?_)
      refine aops_cons rfl (w_pure rfl (p_assign rfl) ?_)
      refine aops_cons rfl (w_pure rfl (p_assign rfl) ?_)
      refine aops_nil ?_
      refine a_ret ?_
      refine ret_ok (hands3 rfl (.tmp rfl) (.tmp rfl) (.tmp rfl)) (.nil _) ?_
      first | (exfalso; first | exact absurd hA.1 (by assumption) | exact hA.2 (by assumption) | omega) | (have hx : i = xs.length := (by omega); subst hx; exact ⟨by rw [hbe, hmo]; rfl, rfl⟩)
    · (try simp only [Bool.not_eq_true', Bool.not_eq_false', Bool.not_eq_true, Bool.not_eq_false, decide_eq_true_eq, decide_eq_false_iff_not, List.length_map, List.length_range] at h4)
      refine a_skip ?_
      refine a_seq ?_
      refine a_region ?_
      refine aops_cons rfl (w_pure rfl (p_move rfl) ?_)
      refine aops_cons rfl (w_pure rfl (p_move rfl) ?_)
      refine aops_cons rfl (w_callR rfl rfl rfl cl_50 (c_spec_l13Run xs (by omega) n hA.1) ?_)
      refine aops_cons rfl (w_pure rfl (p_move rfl) ?_)
      refine aops_cons rfl (w_pure rfl (p_extract rfl rfl) ?_)
      refine aops_cons rfl (w_pure rfl (p_extract rfl rfl) ?_)
      refine aops_cons rfl (w_pure rfl (p_assign rfl) ?_)
      refine aops_cons rfl (w_pure rfl (p_assign rfl) ?_)
      refine aops_nil ?_
      refine a_seq ?_
      refine a_region ?_
      refine aops_cons rfl (w_pure rfl (p_assign rfl) ?_)
      refine aops_cons rfl (w_pure rfl (p_assign rfl) ?_)
      refine aops_nil ?_
      refine a_seq ?_
      refine a_seq ?_
      refine a_region ?_
      refine aops_cons rfl (w_pure rfl (p_assign rfl) ?_)
      refine aops_nil ?_
      refine a_block ?_
      refine a_loop (ι := Nat × Int × Int) (fun ⟨i, be, mo⟩ => i ≤ xs.length ∧ be = (bestTo xs (wP xs n) i).1 ∧ mo = (bestTo xs (wP xs n) i).2) (fun ⟨i, be, mo⟩ => [(11, .int .i64 (i : Int)), (9, .int .i64 be), (10, .int .i64 mo)]) (fun ⟨i, be, mo⟩ => []) (fun ⟨i, be, mo⟩ => xs.length - i) (0, 0, -1) ⟨Nat.zero_le _, rfl, rfl⟩ (by repeat (first | exact Knows.nil | refine Knows.cons (by rfl) ?_)) (by repeat (first | exact Picks.nil _ | exact Pick.here _ _ _ | apply Pick.next | apply Picks.cons)) ?_
      rintro ⟨i, be, mo⟩ ⟨hi, hbe, hmo⟩
      skip
      refine a_seq ?_
      refine a_seq ?_
      refine a_region ?_
      refine aops_cons rfl (w_pure rfl (p_move rfl) ?_)
      refine aops_cons rfl (w_pure rfl (p_move rfl) ?_)
      refine aops_cons rfl (w_pure rfl (p_len sl_24 rfl rfl) ?_)
      refine aops_cons rfl (w_pure rfl (p_lss rfl rfl) ?_)
      refine aops_nil ?_
      first | refine a_cond_d rfl (fun h5 => ?_) (fun h6 => ?_) | refine a_cond_n rfl (fun h5 => ?_) (fun h6 => ?_) | refine a_cond_nb rfl (fun h5 => ?_) (fun h6 => ?_) | refine a_cond rfl (fun h5 => ?_) (fun h6 => ?_)
      · (try simp only [Bool.not_eq_true', Bool.not_eq_false', Bool.not_eq_true, Bool.not_eq_false, decide_eq_true_eq, decide_eq_false_iff_not, List.length_map, List.length_range] at h5)
        refine a_skip ?_
        refine a_seq ?_
        refine a_block ?_
        refine a_seq ?_
        refine a_region ?_
        refine aops_cons rfl (w_pure rfl (p_assign rfl) ?_)
        refine aops_cons rfl (w_pure rfl (p_assign rfl) ?_)
        refine aops_nil ?_
        refine a_seq ?_
        refine a_seq ?_
        refine a_region ?_
        refine aops_cons rfl (w_pure rfl (p_assign rfl) ?_)
        refine aops_nil ?_
        refine a_block ?_
        refine a_loop (ι := Nat × Int × Int) (fun ⟨k, lo, ru⟩ => k ≤ (picksTo xs (tkN n)).length ∧ lo = (waitTo (atP (picksTo xs (tkN n)) i) k).1 ∧ ru = (waitTo (atP (picksTo xs (tkN n)) i) k).2) (fun ⟨k, lo, ru⟩ => [(14, .int .i64 (k : Int)), (12, .int .i64 lo), (13, .int .i64 ru)]) (fun ⟨k, lo, ru⟩ => []) (fun ⟨k, lo, ru⟩ => (picksTo xs (tkN n)).length - k) (0, 0, 0) ⟨Nat.zero_le _, rfl, rfl⟩ (by repeat (first | exact Knows.nil | refine Knows.cons (by rfl) ?_)) (by repeat (first | exact Picks.nil _ | exact Pick.here _ _ _ | apply Pick.next | apply Picks.cons)) ?_
        rintro ⟨k, lo, ru⟩ ⟨hk, hlo, hru⟩
        have hwb := waitTo_b (atP (picksTo xs (tkN n)) i) k; rw [← hlo, ← hru] at hwb
        refine a_seq ?_
        refine a_seq ?_
        refine a_region ?_
        refine aops_cons rfl (w_pure rfl (p_move rfl) ?_)
        refine aops_cons rfl (w_pure rfl (p_move rfl) ?_)
        refine aops_cons rfl (w_pure rfl (p_len sl_31 rfl rfl) ?_)
        refine aops_cons rfl (w_pure rfl (p_lss rfl rfl) ?_)
        refine aops_nil ?_
        first | refine a_cond_d rfl (fun h7 => ?_) (fun h8 => ?_) | refine a_cond_n rfl (fun h7 => ?_) (fun h8 => ?_) | refine a_cond_nb rfl (fun h7 => ?_) (fun h8 => ?_) | refine a_cond rfl (fun h7 => ?_) (fun h8 => ?_)
        · (try simp only [Bool.not_eq_true', Bool.not_eq_false', Bool.not_eq_true, Bool.not_eq_false, decide_eq_true_eq, decide_eq_false_iff_not, List.length_map, List.length_range] at h7)
          refine a_skip ?_
          refine a_seq ?_
          refine a_block ?_
          refine a_seq ?_
          refine a_region ?_
          refine aops_cons rfl (w_pure rfl (p_move rfl) ?_)
          refine aops_cons rfl (w_pure rfl (p_add' rfl rfl ⟨by omega, by omega⟩) ?_)
          refine aops_cons rfl (w_pure rfl (p_assign rfl) ?_)
          refine aops_nil ?_
          refine a_seq ?_
          refine a_seq ?_
          refine a_region ?_
          refine aops_cons rfl (w_pure rfl (p_move rfl) ?_)
          refine aops_cons rfl (w_pure rfl (p_move rfl) ?_)
          refine aops_cons rfl (w_pure rfl (p_index_sl _ rfl rfl rfl (rowD _ _ (0 : Int) (by omega)) es_31) ?_)
          refine aops_cons rfl (w_pure rfl (p_load_v ag_3 rfl (by rfl) noX) ?_)
          refine aops_cons rfl (w_pure rfl (p_move rfl) ?_)
          refine aops_cons rfl (w_pure rfl (p_eql rfl rfl) ?_)
          refine aops_nil ?_
          first | refine a_cond_d rfl (fun h9 => ?_) (fun h10 => ?_) | refine a_cond_n rfl (fun h9 => ?_) (fun h10 => ?_) | refine a_cond_nb rfl (fun h9 => ?_) (fun h10 => ?_) | refine a_cond rfl (fun h9 => ?_) (fun h10 => ?_)
          · (try simp only [Bool.not_eq_true', Bool.not_eq_false', Bool.not_eq_true, Bool.not_eq_false, decide_eq_true_eq, decide_eq_false_iff_not, List.length_map, List.length_range] at h9)
            refine a_region ?_
            refine aops_cons rfl (w_pure rfl (p_assign rfl) ?_)
            refine aops_nil ?_
            refine a_region ?_
            refine aops_cons rfl (w_pure rfl (p_move rfl) ?_)
            refine aops_cons rfl (w_pure rfl (p_move rfl) ?_)
            refine aops_cons rfl (w_callR rfl rfl rfl cl_57 (c_spec_l1Most ..) ?_)
            refine aops_cons rfl (w_pure rfl (p_assign rfl) ?_)
            refine aops_nil ?_
            refine a_region ?_
            refine aops_cons rfl (w_pure rfl (p_move rfl) ?_)
            refine aops_cons rfl (w_pure rfl (p_add' rfl rfl ⟨by omega, by omega⟩) ?_)
            refine aops_cons rfl (w_pure rfl (p_assign rfl) ?_)
            refine aops_nil ?_
            refine ⟨(k + 1, _, _), _, ?_, ?_, (by repeat (first | exact Knows.nil | refine Knows.cons (by rfl) ?_)), (by repeat (first | exact Back.refl _ _ | refine Back.cons (by rfl) ?_)), (by repeat (first | exact Picks.nil _ | exact Pick.here _ _ _ | apply Pick.next | apply Picks.cons))⟩
            · refine ⟨by omega, ?_⟩; first | exact ⟨(wait_hit hlo hru (decide_eq_true (by assumption))).1, (wait_hit hlo hru (decide_eq_true (by assumption))).2.2⟩ | exact ⟨(wait_hit hlo hru (decide_eq_true (by assumption))).2.1, (wait_hit hlo hru (decide_eq_true (by assumption))).2.2⟩ | exact ⟨(wait_miss hlo hru (decide_eq_false (by assumption))).1, (wait_miss hlo hru (decide_eq_false (by assumption))).2.2⟩ | exact ⟨(wait_miss hlo hru (decide_eq_false (by assumption))).2.1, (wait_miss hlo hru (decide_eq_false (by assumption))).2.2⟩
            · (try dsimp only); omega
          · (try simp only [Bool.not_eq_true', Bool.not_eq_false', Bool.not_eq_true, Bool.not_eq_false, decide_eq_true_eq, decide_eq_false_iff_not, List.length_map, List.length_range] at h10)
            refine a_skip ?_
            refine a_region ?_
            refine aops_cons rfl (w_pure rfl (p_move rfl) ?_)
            refine aops_cons rfl (w_pure rfl (p_move rfl) ?_)
            refine aops_cons rfl (w_callR rfl rfl rfl cl_57 (c_spec_l1Most ..) ?_)
            refine aops_cons rfl (w_pure rfl (p_assign rfl) ?_)
            refine aops_nil ?_
            refine a_region ?_
            refine aops_cons rfl (w_pure rfl (p_move rfl) ?_)
            refine aops_cons rfl (w_pure rfl (p_add' rfl rfl ⟨by omega, by omega⟩) ?_)
            refine aops_cons rfl (w_pure rfl (p_assign rfl) ?_)
            refine aops_nil ?_
            refine ⟨(k + 1, _, _), _, ?_, ?_, (by repeat (first | exact Knows.nil | refine Knows.cons (by rfl) ?_)), (by repeat (first | exact Back.refl _ _ | refine Back.cons (by rfl) ?_)), (by repeat (first | exact Picks.nil _ | exact Pick.here _ _ _ | apply Pick.next | apply Picks.cons))⟩
            · refine ⟨by omega, ?_⟩; first | exact ⟨(wait_hit hlo hru (decide_eq_true (by assumption))).1, (wait_hit hlo hru (decide_eq_true (by assumption))).2.2⟩ | exact ⟨(wait_hit hlo hru (decide_eq_true (by assumption))).2.1, (wait_hit hlo hru (decide_eq_true (by assumption))).2.2⟩ | exact ⟨(wait_miss hlo hru (decide_eq_false (by assumption))).1, (wait_miss hlo hru (decide_eq_false (by assumption))).2.2⟩ | exact ⟨(wait_miss hlo hru (decide_eq_false (by assumption))).2.1, (wait_miss hlo hru (decide_eq_false (by assumption))).2.2⟩
            · (try dsimp only); omega
        · (try simp only [Bool.not_eq_true', Bool.not_eq_false', Bool.not_eq_true, Bool.not_eq_false, decide_eq_true_eq, decide_eq_false_iff_not, List.length_map, List.length_range] at h8)
          refine a_exit ?_
          refine a_seq ?_
          refine a_region ?_
          refine aops_cons rfl (w_pure rfl (p_move rfl) ?_)
          refine aops_cons rfl (w_pure rfl (p_move rfl) ?_)
          refine aops_cons rfl (w_pure rfl (p_index_sl _ rfl rfl rfl (rowD _ _ zVcpu (by omega)) es_24) ?_)
          refine aops_cons rfl (w_pure rfl (p_field_v fo_56_3 rfl) ?_)
          refine aops_cons rfl (w_pure rfl (p_load_v ag_4 rfl (by rfl) noX) ?_)
          refine aops_cons rfl (w_pure rfl (p_not rfl) ?_)
          refine aops_cons rfl (w_pure rfl (p_move rfl) ?_)
          first | refine aops_split_d 58 rfl (fun h11 => ?_) (fun h12 => ?_) | refine aops_split 58 rfl (fun h11 => ?_) (fun h12 => ?_)
          · (try simp only [Bool.not_eq_true', Bool.not_eq_false', Bool.not_eq_true, Bool.not_eq_false, decide_eq_true_eq, decide_eq_false_iff_not, List.length_map, List.length_range] at h11)
            refine aops_guard_t rfl rfl rfl (w_pure rfl (p_move rfl) ?_)
            refine aops_guard_t rfl rfl rfl (w_pure rfl (p_move rfl) ?_)
            refine aops_guard_t rfl rfl rfl (w_pure rfl (p_gtr rfl rfl) ?_)
            refine aops_cons rfl (w_pure rfl (p_pick_t rfl rfl) ?_)
            refine aops_nil ?_
            first | refine a_cond_d rfl (fun h13 => ?_) (fun h14 => ?_) | refine a_cond_n rfl (fun h13 => ?_) (fun h14 => ?_) | refine a_cond_nb rfl (fun h13 => ?_) (fun h14 => ?_) | refine a_cond rfl (fun h13 => ?_) (fun h14 => ?_)
            · (try simp only [Bool.not_eq_true', Bool.not_eq_false', Bool.not_eq_true, Bool.not_eq_false, decide_eq_true_eq, decide_eq_false_iff_not, List.length_map, List.length_range] at h13)
              refine a_seq ?_
              refine a_region ?_
              refine aops_cons rfl (w_pure rfl (p_move rfl) ?_)
              refine aops_cons rfl (w_pure rfl (p_move rfl) ?_)
              refine aops_cons rfl (w_pure rfl (p_index_sl _ rfl rfl rfl (rowD _ _ zVcpu (by omega)) es_24) ?_)
              refine aops_cons rfl (w_pure rfl (p_field_v fo_56_0 rfl) ?_)
              refine aops_cons rfl (w_pure rfl (p_load_v ag_3 rfl (by rfl) noX) ?_)
              refine aops_cons rfl (w_pure rfl (p_assign rfl) ?_)
              refine aops_nil ?_
              refine a_region ?_
              refine aops_cons rfl (w_pure rfl (p_move rfl) ?_)
              refine aops_cons rfl (w_pure rfl (p_assign rfl) ?_)
              refine aops_nil ?_
              refine a_region ?_
              refine aops_cons rfl (w_pure rfl (p_move rfl) ?_)
              refine aops_cons rfl (w_pure rfl (p_add' rfl rfl ⟨by omega, by omega⟩) ?_)
              refine aops_cons rfl (w_pure rfl (p_assign rfl) ?_)
              refine aops_nil ?_
              refine ⟨(i + 1, _, _), _, ?_, ?_, (by repeat (first | exact Knows.nil | refine Knows.cons (by rfl) ?_)), (by repeat (first | exact Back.refl _ _ | refine Back.cons (by rfl) ?_)), (by repeat (first | exact Picks.nil _ | exact Pick.here _ _ _ | apply Pick.next | apply Picks.cons))⟩
              · have hk2 : k = tkN n := (by omega); have hlw : lo = wP xs n i := (by rw [hlo, hk2]; rfl); refine ⟨by omega, ?_⟩; first | exact best_yes hbe hmo hlw (by assumption) (by assumption) | exact best_no hbe hmo hlw (.inl (by assumption)) | exact best_no hbe hmo hlw (.inr (by assumption))
              · (try dsimp only); omega
            · (try simp only [Bool.not_eq_true', Bool.not_eq_false', Bool.not_eq_true, Bool.not_eq_false, decide_eq_true_eq, decide_eq_false_iff_not, List.length_map, List.length_range] at h14)
              refine a_skip ?_
              refine a_region ?_
              refine aops_cons rfl (w_pure rfl (p_move rfl) ?_)
              refine aops_cons rfl (w_pure rfl (p_add' rfl rfl ⟨by omega, by omega⟩) ?_)
              refine aops_cons rfl (w_pure rfl (p_assign rfl) ?_)
              refine aops_nil ?_
              refine ⟨(i + 1, _, _), _, ?_, ?_, (by repeat (first | exact Knows.nil | refine Knows.cons (by rfl) ?_)), (by repeat (first | exact Back.refl _ _ | refine Back.cons (by rfl) ?_)), (by repeat (first | exact Picks.nil _ | exact Pick.here _ _ _ | apply Pick.next | apply Picks.cons))⟩
              · have hk2 : k = tkN n := (by omega); have hlw : lo = wP xs n i := (by rw [hlo, hk2]; rfl); refine ⟨by omega, ?_⟩; first | exact best_yes hbe hmo hlw (by assumption) (by assumption) | exact best_no hbe hmo hlw (.inl (by assumption)) | exact best_no hbe hmo hlw (.inr (by assumption))
              · (try dsimp only); omega
          · (try simp only [Bool.not_eq_true', Bool.not_eq_false', Bool.not_eq_true, Bool.not_eq_false, decide_eq_true_eq, decide_eq_false_iff_not, List.length_map, List.length_range] at h12)
            refine g_pass' rfl rfl rfl rfl rfl ?_
            refine g_pass' rfl rfl rfl rfl rfl ?_
            refine g_pass' rfl rfl rfl rfl rfl ?_
            refine aops_cons rfl (w_pure rfl (p_pick_f rfl rfl) ?_)
            refine aops_nil ?_
            refine a_cond_f rfl ?_
            refine a_skip ?_
            refine a_region ?_
            refine aops_cons rfl (w_pure rfl (p_move rfl) ?_)
            refine aops_cons rfl (w_pure rfl (p_add' rfl rfl ⟨by omega, by omega⟩) ?_)
            refine aops_cons rfl (w_pure rfl (p_assign rfl) ?_)
            refine aops_nil ?_
            refine ⟨(i + 1, _, _), _, ?_, ?_, (by repeat (first | exact Knows.nil | refine Knows.cons (by rfl) ?_)), (by repeat (first | exact Back.refl _ _ | refine Back.cons (by rfl) ?_)), (by repeat (first | exact Picks.nil _ | exact Pick.here _ _ _ | apply Pick.next | apply Picks.cons))⟩
            · have hk2 : k = tkN n := (by omega); have hlw : lo = wP xs n i := (by rw [hlo, hk2]; rfl); refine ⟨by omega, ?_⟩; first | exact best_yes hbe hmo hlw (by assumption) (by assumption) | exact best_no hbe hmo hlw (.inl (by assumption)) | exact best_no hbe hmo hlw (.inr (by assumption))
            · (try dsimp only); omega
      · (try simp only [Bool.not_eq_true', Bool.not_eq_false', Bool.not_eq_true, Bool.not_eq_false, decide_eq_true_eq, decide_eq_false_iff_not, List.length_map, List.length_range] at h6)
        refine a_exit ?_
        refine a_seq ?_
        refine a_region ?_
        refine aops_cons rfl (w_pure rfl (p_move rfl) ?_)
        refine aops_cons rfl (w_pure rfl (p_move rfl) ?_)
        refine aops_cons rfl (w_pure rfl (p_assign rfl) ?_)
        refine aops_cons rfl (w_pure rfl (p_assign rfl) ?_)
        refine aops_cons rfl (w_pure rfl (p_assign rfl) ?_)
        refine aops_nil ?_
        refine a_ret ?_
        refine ret_ok (hands3 rfl (.tmp rfl) (.tmp rfl) (.tmp rfl)) (.nil _) ?_
        first | (exfalso; first | exact absurd hA.1 (by assumption) | exact hA.2 (by assumption) | omega) | (have hx : i = xs.length := (by omega); subst hx; exact ⟨by rw [hbe, hmo]; rfl, rfl⟩)

theorem cn_spec_LongestWait (xs : List Vcpu) (hn : xs.length ≤ 1048576) (n : Int) (hA : ¬ GoodWait xs n) : ACalls Try.prog 30 [.sl (xs.map eVcpu), .int .i64 n] [] (Ret (.tup [.int .i64 0, .int .i64 0, .bool false])) := by
  refine a_enter Try.func30 rfl rfl (fun w0 M0 => ?_)
  refine a_seq ?_
  refine a_region ?_
  refine aops_cons rfl (w_pure rfl (p_assign rfl) ?_)
  refine aops_cons rfl (w_pure rfl (p_assign rfl) ?_)
  refine aops_cons rfl (w_pure rfl (p_assign rfl) ?_)
  refine aops_nil ?_
  refine a_seq ?_
  refine a_seq ?_
  refine a_region ?_
  refine aops_cons rfl (w_pure rfl (p_move rfl) ?_)
  refine aops_cons rfl (w_pure rfl (p_move rfl) ?_)
  refine aops_cons rfl (w_callR rfl rfl rfl cl_49 (c_spec_l13Asked _ (by omega) _) ?_)
  refine aops_cons rfl (w_pure rfl (p_not rfl) ?_)
  refine aops_cons rfl (w_pure rfl (p_move rfl) ?_)
  first | refine aops_split_d 19 rfl (fun h1 => ?_) (fun h2 => ?_) | refine aops_split 19 rfl (fun h1 => ?_) (fun h2 => ?_)
  · (try simp only [Bool.not_eq_true', Bool.not_eq_false', Bool.not_eq_true, Bool.not_eq_false, decide_eq_true_eq, decide_eq_false_iff_not, List.length_map, List.length_range] at h1)
    refine g_pass' rfl rfl rfl rfl rfl ?_
    refine g_pass' rfl rfl rfl rfl rfl ?_
    refine aops_cons rfl (w_pure rfl (p_pick_t rfl rfl) ?_)
    refine aops_nil ?_
    refine a_cond_t rfl ?_
    refine a_seq ?_
    refine a_region ?_
    refine aops_cons rfl (w_pure rfl (p_assign rfl) ?_)
    refine aops_cons rfl (w_pure rfl (p_assign rfl) ?_)
    refine aops_cons rfl (w_pure rfl (p_assign rfl) ?_)
    refine aops_nil ?_
    refine a_ret ?_
    refine ret_ok (hands3 rfl (.tmp rfl) (.tmp rfl) (.tmp rfl)) (.nil _) ?_
    exact ⟨rfl, rfl⟩
  · (try simp only [Bool.not_eq_true', Bool.not_eq_false', Bool.not_eq_true, Bool.not_eq_false, decide_eq_true_eq, decide_eq_false_iff_not, List.length_map, List.length_range] at h2)
    refine aops_guard_t rfl rfl rfl (w_pure rfl (p_move rfl) ?_)
    refine aops_guard_t rfl rfl rfl (w_pure rfl (p_eql rfl rfl) ?_)
    refine aops_cons rfl (w_pure rfl (p_pick_f rfl rfl) ?_)
    refine aops_nil ?_
    first | refine a_cond_d rfl (fun h3 => ?_) (fun h4 => ?_) | refine a_cond_n rfl (fun h3 => ?_) (fun h4 => ?_) | refine a_cond_nb rfl (fun h3 => ?_) (fun h4 => ?_) | refine a_cond rfl (fun h3 => ?_) (fun h4 => ?_)
    · (try simp only [Bool.not_eq_true', Bool.not_eq_false', Bool.not_eq_true, Bool.not_eq_false, decide_eq_true_eq, decide_eq_false_iff_not, List.length_map, List.length_range] at h3)
      refine a_seq ?_
      refine a_region ?_
      refine aops_cons rfl (w_pure rfl (p_assign rfl) ?_)
      refine aops_cons rfl (w_pure rfl (p_assign rfl) ?_)
      refine aops_cons rfl (w_pure rfl (p_assign rfl) ?_)
      refine aops_nil ?_
      refine a_ret ?_
      refine ret_ok (hands3 rfl (.tmp rfl) (.tmp rfl) (.tmp rfl)) (.nil _) ?_
      exact ⟨rfl, rfl⟩
    · (try simp only [Bool.not_eq_true', Bool.not_eq_false', Bool.not_eq_true, Bool.not_eq_false, decide_eq_true_eq, decide_eq_false_iff_not, List.length_map, List.length_range] at h4)
      refine a_skip ?_
      refine a_seq ?_
      exact absurd (show GoodWait xs n from ⟨by assumption, by assumption⟩) hA

theorem cy_impl_LongestWait (xs : List Vcpu) (hn : xs.length ≤ 1048576) (n : Int) (hA : GoodWait xs n) : ACalls Try.prog 29 [.sl (xs.map eVcpu), .int .i64 n] [] (Ret (.tup [.int .i64 (longest xs n).1, .int .i64 (longest xs n).2, .bool true])) := by
  have hil := idsTo_len xs (tkN n)
  have hrn : tkN n ≤ 200 := by have := hA.1.2.1; unfold tkN; omega
  refine a_enter Try.func29 rfl rfl (fun w0 M0 => ?_)
  refine a_seq ?_
  refine a_region ?_
  refine aops_cons rfl (w_pure rfl (p_assign rfl) ?_)
  refine aops_cons rfl (w_pure rfl (p_assign rfl) ?_)
  refine aops_cons rfl (w_pure rfl (p_assign rfl) ?_)
  refine aops_nil ?_
  refine a_seq ?_
  refine a_region ?_
  refine aops_cons rfl (w_pure rfl (p_move rfl) ?_)
  refine aops_cons rfl (w_pure rfl (p_move rfl) ?_)
  refine aops_cons rfl (w_callR rfl rfl rfl cl_22 (cf_impl_RunTicks xs (by omega) n hA.1) ?_)
  refine aops_cons rfl (w_pure rfl (p_move rfl) ?_)
  refine aops_cons rfl (w_pure rfl (p_extract rfl rfl) ?_)
  refine aops_cons rfl (w_pure rfl (p_extract rfl rfl) ?_)
  refine aops_cons rfl (w_pure rfl (p_extract rfl rfl) ?_)
  refine aops_cons rfl (w_pure rfl (p_assign rfl) ?_)
  refine aops_cons rfl (w_pure rfl (p_assign rfl) ?_)
  refine aops_cons rfl (w_pure rfl (p_assign rfl) ?_)
  refine aops_nil ?_
  refine a_seq ?_
  refine a_seq ?_
  refine a_region ?_
  refine aops_cons rfl (w_pure rfl (p_move rfl) ?_)
  refine aops_cons rfl (w_pure rfl (p_not rfl) ?_)
  refine aops_cons rfl (w_pure rfl (p_move rfl) ?_)
  refine aops_guard_t rfl rfl rfl (w_pure rfl (p_move rfl) ?_)
  refine aops_guard_t rfl rfl rfl (w_pure rfl (p_eql rfl rfl) ?_)
  refine aops_cons rfl (w_pure rfl (p_pick_f rfl rfl) ?_)
  refine aops_nil ?_
  first | refine a_cond_d rfl (fun h1 => ?_) (fun h2 => ?_) | refine a_cond_n rfl (fun h1 => ?_) (fun h2 => ?_) | refine a_cond_nb rfl (fun h1 => ?_) (fun h2 => ?_) | refine a_cond rfl (fun h1 => ?_) (fun h2 => ?_)
  · (try simp only [Bool.not_eq_true', Bool.not_eq_false', Bool.not_eq_true, Bool.not_eq_false, decide_eq_true_eq, decide_eq_false_iff_not, List.length_map, List.length_range] at h1)
    refine a_seq ?_
    refine a_region ?_
    refine aops_cons rfl (w_pure rfl (p_assign rfl) ?_)
    refine aops_cons rfl (w_pure rfl (p_assign rfl) ?_)
    refine aops_cons rfl (w_pure rfl (p_assign rfl) ?_)
    refine aops_nil ?_
    refine a_ret ?_
    refine ret_ok (hands3 rfl (.tmp rfl) (.tmp rfl) (.tmp rfl)) (.nil _) ?_
    first | (exfalso; exact hA.2 (by assumption)) | (have hx : i = xs.length := (by omega); subst hx; exact ⟨by rw [hbe, hmo, longest_same hA.1], rfl⟩)
  · (try simp only [Bool.not_eq_true', Bool.not_eq_false', Bool.not_eq_true, Bool.not_eq_false, decide_eq_true_eq, decide_eq_false_iff_not, List.length_map, List.length_range] at h2)
    refine a_skip ?_
    refine a_seq ?_
    refine a_region ?_
    refine aops_cons rfl (w_pure rfl (p_assign rfl) ?_)
    refine aops_cons rfl (w_pure rfl (p_assign rfl) ?_)
    refine aops_nil ?_
    refine a_seq ?_
    refine a_seq ?_
    refine a_region ?_
    refine aops_cons rfl (w_pure rfl (p_move rfl) ?_)
    refine aops_cons rfl (w_pure rfl (p_len sl_24 rfl rfl) ?_)
    refine aops_cons rfl (w_pure rfl (p_move rfl) ?_)
    refine aops_nil ?_
    refine a_block ?_
    refine a_loop (ι := Nat × Int × Int) (fun ⟨i, be, mo⟩ => i ≤ xs.length ∧ be = (bestTo xs (wI xs n) i).1 ∧ mo = (bestTo xs (wI xs n) i).2) (fun ⟨i, be, mo⟩ => [(33, .int .i64 (i : Int)), (10, .int .i64 be), (11, .int .i64 mo)]) (fun ⟨i, be, mo⟩ => []) (fun ⟨i, be, mo⟩ => xs.length - i) (0, 0, -1) ⟨Nat.zero_le _, rfl, rfl⟩ (by repeat (first | exact Knows.nil | refine Knows.cons (by rfl) ?_)) (by repeat (first | exact Picks.nil _ | exact Pick.here _ _ _ | apply Pick.next | apply Picks.cons)) ?_
    rintro ⟨i, be, mo⟩ ⟨hi, hbe, hmo⟩
    skip
    refine a_seq ?_
    refine a_region ?_
    refine aops_cons rfl (w_pure rfl (p_lss rfl rfl) ?_)
    refine aops_nil ?_
    refine a_seq ?_
    first | refine a_cond_d rfl (fun h3 => ?_) (fun h4 => ?_) | refine a_cond_n rfl (fun h3 => ?_) (fun h4 => ?_) | refine a_cond_nb rfl (fun h3 => ?_) (fun h4 => ?_) | refine a_cond rfl (fun h3 => ?_) (fun h4 => ?_)
    · (try simp only [Bool.not_eq_true', Bool.not_eq_false', Bool.not_eq_true, Bool.not_eq_false, decide_eq_true_eq, decide_eq_false_iff_not, List.length_map, List.length_range] at h3)
      refine a_skip ?_
      refine a_seq ?_
      refine a_block ?_
      refine a_seq ?_
      refine a_region ?_
      refine aops_cons rfl (w_pure rfl (p_index_sl _ rfl rfl rfl (rowD _ _ zVcpu (by omega)) es_24) ?_)
      refine aops_cons rfl (w_pure rfl (p_load_v_all ag_56 rfl (by rfl) noX) ?_)
      refine aops_cons rfl (w_alloc rfl z_56 fun b1 => ?_)
      refine aops_cons rfl (w_store (cells' := [_, _, _, _, _]) rfl rfl rfl (by repeat (first | exact Pick.here _ _ _ | apply Pick.next)) cn_56 (by rfl) (by rfl) (by rfl) trivial ?_)
      refine aops_nil ?_
      refine a_seq ?_
      refine a_region ?_
      refine aops_cons rfl (w_pure rfl (p_assign rfl) ?_)
      refine aops_cons rfl (w_pure rfl (p_assign rfl) ?_)
      refine aops_nil ?_
      refine a_seq ?_
      refine a_seq ?_
      refine a_region ?_
      refine aops_cons rfl (w_pure rfl (p_move rfl) ?_)
      refine aops_cons rfl (w_pure rfl (p_len sl_31 rfl rfl) ?_)
      refine aops_cons rfl (w_pure rfl (p_move rfl) ?_)
      refine aops_nil ?_
      refine a_block ?_
      refine a_loop (ι := Nat × Int × Int) (fun ⟨k, lo, ru⟩ => k ≤ (idsTo xs (tkN n)).length ∧ lo = (waitTo (atI (idsTo xs (tkN n)) (xs.getD i zVcpu).id) k).1 ∧ ru = (waitTo (atI (idsTo xs (tkN n)) (xs.getD i zVcpu).id) k).2) (fun ⟨k, lo, ru⟩ => [(39, .int .i64 (k : Int)), (15, .int .i64 lo), (14, .int .i64 ru)]) (fun ⟨k, lo, ru⟩ => []) (fun ⟨k, lo, ru⟩ => (idsTo xs (tkN n)).length - k) (0, 0, 0) ⟨Nat.zero_le _, rfl, rfl⟩ (by repeat (first | exact Knows.nil | refine Knows.cons (by rfl) ?_)) (by repeat (first | exact Picks.nil _ | exact Pick.here _ _ _ | apply Pick.next | apply Picks.cons)) ?_
      rintro ⟨k, lo, ru⟩ ⟨hk, hlo, hru⟩
      have hwb := waitTo_b (atI (idsTo xs (tkN n)) (xs.getD i zVcpu).id) k; rw [← hlo, ← hru] at hwb
      refine a_seq ?_
      refine a_region ?_
      refine aops_cons rfl (w_pure rfl (p_lss rfl rfl) ?_)
      refine aops_nil ?_
      refine a_seq ?_
      first | refine a_cond_d rfl (fun h5 => ?_) (fun h6 => ?_) | refine a_cond_n rfl (fun h5 => ?_) (fun h6 => ?_) | refine a_cond_nb rfl (fun h5 => ?_) (fun h6 => ?_) | refine a_cond rfl (fun h5 => ?_) (fun h6 => ?_)
      · (try simp only [Bool.not_eq_true', Bool.not_eq_false', Bool.not_eq_true, Bool.not_eq_false, decide_eq_true_eq, decide_eq_false_iff_not, List.length_map, List.length_range] at h5)
        refine a_skip ?_
        refine a_seq ?_
        refine a_block ?_
        refine a_seq ?_
        refine a_region ?_
        refine aops_cons rfl (w_pure rfl (p_index_sl _ rfl rfl rfl (rowD _ _ (0 : Int) (by omega)) es_31) ?_)
        refine aops_cons rfl (w_pure rfl (p_load_v ag_3 rfl (by rfl) noX) ?_)
        refine aops_cons rfl (w_pure rfl (p_assign rfl) ?_)
        refine aops_nil ?_
        refine a_seq ?_
        refine a_region ?_
        refine aops_cons rfl (w_pure rfl (p_move rfl) ?_)
        refine aops_cons rfl (w_pure rfl (p_add' rfl rfl ⟨by omega, by omega⟩) ?_)
        refine aops_cons rfl (w_pure rfl (p_assign rfl) ?_)
        refine aops_nil ?_
        refine a_seq ?_
        refine a_seq ?_
        refine a_region ?_
        refine aops_cons rfl (w_pure rfl (p_move rfl) ?_)
        refine aops_cons rfl (w_pure rfl (p_field_box fo_56_0 rfl) ?_)
        refine aops_cons rfl (w_pure rfl (p_load_box ag_3 rfl (by repeat (first | exact Pick.here _ _ _ | apply Pick.next)) (by rfl) noX) ?_)
        refine aops_cons rfl (w_pure rfl (p_eql rfl rfl) ?_)
        refine aops_nil ?_
        first | refine a_cond_d rfl (fun h7 => ?_) (fun h8 => ?_) | refine a_cond_n rfl (fun h7 => ?_) (fun h8 => ?_) | refine a_cond_nb rfl (fun h7 => ?_) (fun h8 => ?_) | refine a_cond rfl (fun h7 => ?_) (fun h8 => ?_)
        · (try simp only [Bool.not_eq_true', Bool.not_eq_false', Bool.not_eq_true, Bool.not_eq_false, decide_eq_true_eq, decide_eq_false_iff_not, List.length_map, List.length_range] at h7)
          refine a_region ?_
          refine aops_cons rfl (w_pure rfl (p_assign rfl) ?_)
          refine aops_nil ?_
          refine a_region ?_
          refine aops_cons rfl (w_pure rfl (p_move rfl) ?_)
          refine aops_cons rfl (w_pure rfl (p_move rfl) ?_)
          refine aops_cons rfl (w_pure rfl (p_max2 rfl rfl) ?_)
          refine aops_cons rfl (w_pure rfl (p_assign rfl) ?_)
          refine aops_nil ?_
          refine a_region ?_
          refine aops_cons rfl (w_pure rfl (p_add' rfl rfl ⟨by omega, by omega⟩) ?_)
          refine aops_cons rfl (w_pure rfl (p_move rfl) ?_)
          refine aops_nil ?_
          refine ⟨(k + 1, _, _), _, ?_, ?_, (by repeat (first | exact Knows.nil | refine Knows.cons (by rfl) ?_)), (by repeat (first | exact Back.refl _ _ | refine Back.cons (by rfl) ?_)), (by repeat (first | exact Picks.nil _ | exact Pick.here _ _ _ | apply Pick.next | apply Picks.cons))⟩
          · refine ⟨by omega, ?_⟩; first | exact ⟨(wait_hit hlo hru (decide_eq_true (by assumption))).1, (wait_hit hlo hru (decide_eq_true (by assumption))).2.2⟩ | exact ⟨(wait_hit hlo hru (decide_eq_true (by assumption))).2.1, (wait_hit hlo hru (decide_eq_true (by assumption))).2.2⟩ | exact ⟨(wait_miss hlo hru (decide_eq_false (by assumption))).1, (wait_miss hlo hru (decide_eq_false (by assumption))).2.2⟩ | exact ⟨(wait_miss hlo hru (decide_eq_false (by assumption))).2.1, (wait_miss hlo hru (decide_eq_false (by assumption))).2.2⟩
          · (try dsimp only); omega
        · (try simp only [Bool.not_eq_true', Bool.not_eq_false', Bool.not_eq_true, Bool.not_eq_false, decide_eq_true_eq, decide_eq_false_iff_not, List.length_map, List.length_range] at h8)
          refine a_skip ?_
          refine a_region ?_
          refine aops_cons rfl (w_pure rfl (p_move rfl) ?_)
          refine aops_cons rfl (w_pure rfl (p_move rfl) ?_)
          refine aops_cons rfl (w_pure rfl (p_max2 rfl rfl) ?_)
          refine aops_cons rfl (w_pure rfl (p_assign rfl) ?_)
          refine aops_nil ?_
          refine a_region ?_
          refine aops_cons rfl (w_pure rfl (p_add' rfl rfl ⟨by omega, by omega⟩) ?_)
          refine aops_cons rfl (w_pure rfl (p_move rfl) ?_)
          refine aops_nil ?_
          refine ⟨(k + 1, _, _), _, ?_, ?_, (by repeat (first | exact Knows.nil | refine Knows.cons (by rfl) ?_)), (by repeat (first | exact Back.refl _ _ | refine Back.cons (by rfl) ?_)), (by repeat (first | exact Picks.nil _ | exact Pick.here _ _ _ | apply Pick.next | apply Picks.cons))⟩
          · refine ⟨by omega, ?_⟩; first | exact ⟨(wait_hit hlo hru (decide_eq_true (by assumption))).1, (wait_hit hlo hru (decide_eq_true (by assumption))).2.2⟩ | exact ⟨(wait_hit hlo hru (decide_eq_true (by assumption))).2.1, (wait_hit hlo hru (decide_eq_true (by assumption))).2.2⟩ | exact ⟨(wait_miss hlo hru (decide_eq_false (by assumption))).1, (wait_miss hlo hru (decide_eq_false (by assumption))).2.2⟩ | exact ⟨(wait_miss hlo hru (decide_eq_false (by assumption))).2.1, (wait_miss hlo hru (decide_eq_false (by assumption))).2.2⟩
          · (try dsimp only); omega
      · (try simp only [Bool.not_eq_true', Bool.not_eq_false', Bool.not_eq_true, Bool.not_eq_false, decide_eq_true_eq, decide_eq_false_iff_not, List.length_map, List.length_range] at h6)
        refine a_exit ?_
        refine a_seq ?_
        refine a_region ?_
        refine aops_cons rfl (w_pure rfl (p_field_box fo_56_3 rfl) ?_)
        refine aops_cons rfl (w_pure rfl (p_load_box ag_4 rfl (by repeat (first | exact Pick.here _ _ _ | apply Pick.next)) (by rfl) noX) ?_)
        refine aops_cons rfl (w_pure rfl (p_not rfl) ?_)
        refine aops_cons rfl (w_pure rfl (p_move rfl) ?_)
        first | refine aops_split_d 56 rfl (fun h9 => ?_) (fun h10 => ?_) | refine aops_split 56 rfl (fun h9 => ?_) (fun h10 => ?_)
        · (try simp only [Bool.not_eq_true', Bool.not_eq_false', Bool.not_eq_true, Bool.not_eq_false, decide_eq_true_eq, decide_eq_false_iff_not, List.length_map, List.length_range] at h9)
          refine aops_guard_t rfl rfl rfl (w_pure rfl (p_move rfl) ?_)
          refine aops_guard_t rfl rfl rfl (w_pure rfl (p_move rfl) ?_)
          refine aops_guard_t rfl rfl rfl (w_pure rfl (p_gtr rfl rfl) ?_)
          refine aops_cons rfl (w_pure rfl (p_pick_t rfl rfl) ?_)
          refine aops_nil ?_
          first | refine a_cond_d rfl (fun h11 => ?_) (fun h12 => ?_) | refine a_cond_n rfl (fun h11 => ?_) (fun h12 => ?_) | refine a_cond_nb rfl (fun h11 => ?_) (fun h12 => ?_) | refine a_cond rfl (fun h11 => ?_) (fun h12 => ?_)
          · (try simp only [Bool.not_eq_true', Bool.not_eq_false', Bool.not_eq_true, Bool.not_eq_false, decide_eq_true_eq, decide_eq_false_iff_not, List.length_map, List.length_range] at h11)
            refine a_region ?_
            refine aops_cons rfl (w_pure rfl (p_field_box fo_56_0 rfl) ?_)
            refine aops_cons rfl (w_pure rfl (p_load_box ag_3 rfl (by repeat (first | exact Pick.here _ _ _ | apply Pick.next)) (by rfl) noX) ?_)
            refine aops_cons rfl (w_pure rfl (p_move rfl) ?_)
            refine aops_cons rfl (w_pure rfl (p_assign rfl) ?_)
            refine aops_cons rfl (w_pure rfl (p_assign rfl) ?_)
            refine aops_nil ?_
            refine a_region ?_
            refine aops_cons rfl (w_pure rfl (p_add' rfl rfl ⟨by omega, by omega⟩) ?_)
            refine aops_cons rfl (w_pure rfl (p_move rfl) ?_)
            refine aops_nil ?_
            refine ⟨(i + 1, _, _), _, ?_, ?_, (by repeat (first | exact Knows.nil | refine Knows.cons (by rfl) ?_)), (by repeat (first | exact Back.refl _ _ | refine Back.cons (by rfl) ?_)), (by repeat (first | exact Picks.nil _ | exact Pick.here _ _ _ | apply Pick.next | apply Picks.cons))⟩
            · have hk2 : k = tkN n := (by omega); have hlw : lo = wI xs n i := (by rw [hlo, hk2]; rfl); refine ⟨by omega, ?_⟩; first | exact best_yes hbe hmo hlw (by assumption) (by assumption) | exact best_no hbe hmo hlw (.inl (by assumption)) | exact best_no hbe hmo hlw (.inr (by assumption))
            · (try dsimp only); omega
          · (try simp only [Bool.not_eq_true', Bool.not_eq_false', Bool.not_eq_true, Bool.not_eq_false, decide_eq_true_eq, decide_eq_false_iff_not, List.length_map, List.length_range] at h12)
            refine a_skip ?_
            refine a_region ?_
            refine aops_cons rfl (w_pure rfl (p_add' rfl rfl ⟨by omega, by omega⟩) ?_)
            refine aops_cons rfl (w_pure rfl (p_move rfl) ?_)
            refine aops_nil ?_
            refine ⟨(i + 1, _, _), _, ?_, ?_, (by repeat (first | exact Knows.nil | refine Knows.cons (by rfl) ?_)), (by repeat (first | exact Back.refl _ _ | refine Back.cons (by rfl) ?_)), (by repeat (first | exact Picks.nil _ | exact Pick.here _ _ _ | apply Pick.next | apply Picks.cons))⟩
            · have hk2 : k = tkN n := (by omega); have hlw : lo = wI xs n i := (by rw [hlo, hk2]; rfl); refine ⟨by omega, ?_⟩; first | exact best_yes hbe hmo hlw (by assumption) (by assumption) | exact best_no hbe hmo hlw (.inl (by assumption)) | exact best_no hbe hmo hlw (.inr (by assumption))
            · (try dsimp only); omega
        · (try simp only [Bool.not_eq_true', Bool.not_eq_false', Bool.not_eq_true, Bool.not_eq_false, decide_eq_true_eq, decide_eq_false_iff_not, List.length_map, List.length_range] at h10)
          refine g_pass' rfl rfl rfl rfl rfl ?_
          refine g_pass' rfl rfl rfl rfl rfl ?_
          refine g_pass' rfl rfl rfl rfl rfl ?_
          refine aops_cons rfl (w_pure rfl (p_pick_f rfl rfl) ?_)
          refine aops_nil ?_
          refine a_cond_f rfl ?_
          refine a_skip ?_
          refine a_region ?_
          refine aops_cons rfl (w_pure rfl (p_add' rfl rfl ⟨by omega, by omega⟩) ?_)
          refine aops_cons rfl (w_pure rfl (p_move rfl) ?_)
          refine aops_nil ?_
          refine ⟨(i + 1, _, _), _, ?_, ?_, (by repeat (first | exact Knows.nil | refine Knows.cons (by rfl) ?_)), (by repeat (first | exact Back.refl _ _ | refine Back.cons (by rfl) ?_)), (by repeat (first | exact Picks.nil _ | exact Pick.here _ _ _ | apply Pick.next | apply Picks.cons))⟩
          · have hk2 : k = tkN n := (by omega); have hlw : lo = wI xs n i := (by rw [hlo, hk2]; rfl); refine ⟨by omega, ?_⟩; first | exact best_yes hbe hmo hlw (by assumption) (by assumption) | exact best_no hbe hmo hlw (.inl (by assumption)) | exact best_no hbe hmo hlw (.inr (by assumption))
          · (try dsimp only); omega
    · (try simp only [Bool.not_eq_true', Bool.not_eq_false', Bool.not_eq_true, Bool.not_eq_false, decide_eq_true_eq, decide_eq_false_iff_not, List.length_map, List.length_range] at h4)
      refine a_exit ?_
      refine a_seq ?_
      refine a_region ?_
      refine aops_cons rfl (w_pure rfl (p_move rfl) ?_)
      refine aops_cons rfl (w_pure rfl (p_move rfl) ?_)
      refine aops_cons rfl (w_pure rfl (p_assign rfl) ?_)
      refine aops_cons rfl (w_pure rfl (p_assign rfl) ?_)
      refine aops_cons rfl (w_pure rfl (p_assign rfl) ?_)
      refine aops_nil ?_
      refine a_ret ?_
      refine ret_ok (hands3 rfl (.tmp rfl) (.tmp rfl) (.tmp rfl)) (.nil _) ?_
      first | (exfalso; exact hA.2 (by assumption)) | (have hx : i = xs.length := (by omega); subst hx; exact ⟨by rw [hbe, hmo, longest_same hA.1], rfl⟩)

/- the two ways of a refusal -/

theorem cn_impl_LongestWait (xs : List Vcpu) (hn : xs.length ≤ 1048576) (n : Int) (hA : ¬ GoodWait xs n) : ACalls Try.prog 29 [.sl (xs.map eVcpu), .int .i64 n] [] (Ret (.tup [.int .i64 0, .int .i64 0, .bool false])) := by
  by_cases hG : GoodRun xs n
  all_goals refine a_enter Try.func29 rfl rfl (fun w0 M0 => ?_)
  · skip
    refine a_seq ?_
    refine a_region ?_
    refine aops_cons rfl (w_pure rfl (p_assign rfl) ?_)
    refine aops_cons rfl (w_pure rfl (p_assign rfl) ?_)
    refine aops_cons rfl (w_pure rfl (p_assign rfl) ?_)
    refine aops_nil ?_
    refine a_seq ?_
    refine a_region ?_
    refine aops_cons rfl (w_pure rfl (p_move rfl) ?_)
    refine aops_cons rfl (w_pure rfl (p_move rfl) ?_)
    refine aops_cons rfl (w_callR rfl rfl rfl cl_22 (cf_impl_RunTicks xs (by omega) n hG) ?_)
    refine aops_cons rfl (w_pure rfl (p_move rfl) ?_)
    refine aops_cons rfl (w_pure rfl (p_extract rfl rfl) ?_)
    refine aops_cons rfl (w_pure rfl (p_extract rfl rfl) ?_)
    refine aops_cons rfl (w_pure rfl (p_extract rfl rfl) ?_)
    refine aops_cons rfl (w_pure rfl (p_assign rfl) ?_)
    refine aops_cons rfl (w_pure rfl (p_assign rfl) ?_)
    refine aops_cons rfl (w_pure rfl (p_assign rfl) ?_)
    refine aops_nil ?_
    refine a_seq ?_
    refine a_seq ?_
    refine a_region ?_
    refine aops_cons rfl (w_pure rfl (p_move rfl) ?_)
    refine aops_cons rfl (w_pure rfl (p_not rfl) ?_)
    refine aops_cons rfl (w_pure rfl (p_move rfl) ?_)
    refine aops_guard_t rfl rfl rfl (w_pure rfl (p_move rfl) ?_)
    refine aops_guard_t rfl rfl rfl (w_pure rfl (p_eql rfl rfl) ?_)
    refine aops_cons rfl (w_pure rfl (p_pick_f rfl rfl) ?_)
    refine aops_nil ?_
    first | refine a_cond_d rfl (fun h1 => ?_) (fun h2 => ?_) | refine a_cond_n rfl (fun h1 => ?_) (fun h2 => ?_) | refine a_cond_nb rfl (fun h1 => ?_) (fun h2 => ?_) | refine a_cond rfl (fun h1 => ?_) (fun h2 => ?_)
    · (try simp only [Bool.not_eq_true', Bool.not_eq_false', Bool.not_eq_true, Bool.not_eq_false, decide_eq_true_eq, decide_eq_false_iff_not, List.length_map, List.length_range] at h1)
      refine a_seq ?_
      refine a_region ?_
      refine aops_cons rfl (w_pure rfl (p_assign rfl) ?_)
      refine aops_cons rfl (w_pure rfl (p_assign rfl) ?_)
      refine aops_cons rfl (w_pure rfl (p_assign rfl) ?_)
      refine aops_nil ?_
      refine a_ret ?_
      refine ret_ok (hands3 rfl (.tmp rfl) (.tmp rfl) (.tmp rfl)) (.nil _) ?_
      exact ⟨rfl, rfl⟩
    · (try simp only [Bool.not_eq_true', Bool.not_eq_false', Bool.not_eq_true, Bool.not_eq_false, decide_eq_true_eq, decide_eq_false_iff_not, List.length_map, List.length_range] at h2)
      refine a_skip ?_
      refine a_seq ?_
      exact absurd (show GoodWait xs n from ⟨hG, by assumption⟩) hA
  · skip
    refine a_seq ?_
    refine a_region ?_
    refine aops_cons rfl (w_pure rfl (p_assign rfl) ?_)
    refine aops_cons rfl (w_pure rfl (p_assign rfl) ?_)
    refine aops_cons rfl (w_pure rfl (p_assign rfl) ?_)
    refine aops_nil ?_
    refine a_seq ?_
    refine a_region ?_
    refine aops_cons rfl (w_pure rfl (p_move rfl) ?_)
    refine aops_cons rfl (w_pure rfl (p_move rfl) ?_)
    refine aops_cons rfl (w_callR rfl rfl rfl cl_22 (cn_impl_RunTicks xs (by omega) n hG) ?_)
    refine aops_cons rfl (w_pure rfl (p_move rfl) ?_)
    refine aops_cons rfl (w_pure rfl (p_extract rfl rfl) ?_)
    refine aops_cons rfl (w_pure rfl (p_extract rfl rfl) ?_)
    refine aops_cons rfl (w_pure rfl (p_extract rfl rfl) ?_)
    refine aops_cons rfl (w_pure rfl (p_assign rfl) ?_)
    refine aops_cons rfl (w_pure rfl (p_assign rfl) ?_)
    refine aops_cons rfl (w_pure rfl (p_assign rfl) ?_)
    refine aops_nil ?_
    refine a_seq ?_
    refine a_seq ?_
    refine a_region ?_
    refine aops_cons rfl (w_pure rfl (p_move rfl) ?_)
    refine aops_cons rfl (w_pure rfl (p_not rfl) ?_)
    refine aops_cons rfl (w_pure rfl (p_move rfl) ?_)
    refine g_pass' rfl rfl rfl rfl rfl ?_
    refine g_pass' rfl rfl rfl rfl rfl ?_
    refine aops_cons rfl (w_pure rfl (p_pick_t rfl rfl) ?_)
    refine aops_nil ?_
    refine a_cond_t rfl ?_
    refine a_seq ?_
    refine a_region ?_
    refine aops_cons rfl (w_pure rfl (p_assign rfl) ?_)
    refine aops_cons rfl (w_pure rfl (p_assign rfl) ?_)
    refine aops_cons rfl (w_pure rfl (p_assign rfl) ?_)
    refine aops_nil ?_
    refine a_ret ?_
    refine ret_ok (hands3 rfl (.tmp rfl) (.tmp rfl) (.tmp rfl)) (.nil _) ?_
    exact ⟨rfl, rfl⟩





end Go.Proofs.Ytdlhpomgmlcfoaa
