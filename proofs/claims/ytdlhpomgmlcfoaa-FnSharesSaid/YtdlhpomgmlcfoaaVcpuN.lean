/-
  The walks of this part: each theorem is the contract of one function. Condition: none but those that it names.
-/
import Derived.Test.YtdlhpomgmlcfoaaVcpuNd
import Derived.Test.YtdlhpomgmlcfoaaVcpuNF
import Derived.Test.YtdlhpomgmlcfoaaVcpuA
import Derived.Test.YtdlhpomgmlcfoaaVcpuB
import Derived.Test.YtdlhpomgmlcfoaaVcpuC
import Derived.Test.YtdlhpomgmlcfoaaVcpuD
import Derived.Test.YtdlhpomgmlcfoaaVcpuE
import Derived.Test.YtdlhpomgmlcfoaaVcpuJ
namespace Go.Proofs.Ytdlhpomgmlcfoaa
open Go Go.Fw Go.Hv
attribute [local irreducible] awp Aops Aop ADraw ADrawAll ACalls
set_option maxRecDepth 4000
set_option linter.unusedSimpArgs false
set_option linter.unusedVariables false

theorem cv_spec_TickShares (xs : List Vcpu) (hn : xs.length ≤ 1048576) (n : Int) : ACalls Try.prog 21 [.sl (xs.map eVcpu), .int .i64 n] [] (Ret (.tup [.sl ((pickL (GoodRun xs n) (sharesL xs n)).map eInt), .bool (decide (GoodRun xs n))])) := by
  by_cases hA : GoodRun xs n
  · rw [pickL_y hA, decide_eq_true hA]
    exact cy_spec_TickShares xs hn n hA
  · rw [pickL_n hA, decide_eq_false hA]
    exact (cn_spec_TickShares xs hn n hA).freeze (by rintro _ _ ⟨rfl, rfl⟩; first | exact (.tup (.cons .nil (.cons (.refl _) .nil))) | exact (.tup (.cons (.refl _) (.cons (.refl _) .nil))))

theorem cv_impl_TickShares (xs : List Vcpu) (hn : xs.length ≤ 1048576) (n : Int) : ACalls Try.prog 20 [.sl (xs.map eVcpu), .int .i64 n] [] (Ret (.tup [.sl ((pickL (GoodRun xs n) (sharesL xs n)).map eInt), .bool (decide (GoodRun xs n))])) := by
  by_cases hA : GoodRun xs n
  · rw [pickL_y hA, decide_eq_true hA]
    exact cf_impl_TickShares xs hn n hA
  · rw [pickL_n hA, decide_eq_false hA]
    exact (cn_impl_TickShares xs hn n hA).freeze (by rintro _ _ ⟨rfl, rfl⟩; first | exact (.tup (.cons .nil (.cons (.refl _) .nil))) | exact (.tup (.cons (.refl _) (.cons (.refl _) .nil))))

theorem cv_spec_LongestWait (xs : List Vcpu) (hn : xs.length ≤ 1048576) (n : Int) : ACalls Try.prog 30 [.sl (xs.map eVcpu), .int .i64 n] [] (Ret (.tup [.int .i64 (pickI (GoodWait xs n) (longest xs n).1), .int .i64 (pickI (GoodWait xs n) (longest xs n).2), .bool (decide (GoodWait xs n))])) := by
  by_cases hA : GoodWait xs n
  · rw [pickI_y hA, pickI_y hA, decide_eq_true hA]
    exact cy_spec_LongestWait xs hn n hA
  · rw [pickI_n hA, pickI_n hA, decide_eq_false hA]
    exact cn_spec_LongestWait xs hn n hA

theorem cv_impl_LongestWait (xs : List Vcpu) (hn : xs.length ≤ 1048576) (n : Int) : ACalls Try.prog 29 [.sl (xs.map eVcpu), .int .i64 n] [] (Ret (.tup [.int .i64 (pickI (GoodWait xs n) (longest xs n).1), .int .i64 (pickI (GoodWait xs n) (longest xs n).2), .bool (decide (GoodWait xs n))])) := by
  by_cases hA : GoodWait xs n
  · rw [pickI_y hA, pickI_y hA, decide_eq_true hA]
    exact cy_impl_LongestWait xs hn n hA
  · rw [pickI_n hA, pickI_n hA, decide_eq_false hA]
    exact cn_impl_LongestWait xs hn n hA

theorem c_laws_vSum (xs : List Int) (hn : xs.length ≤ 1048576) (hr : ∀ i, i ≤ xs.length → 0 ≤ sumTo xs i ∧ sumTo xs i ≤ 1000) : ACalls Try.prog 23 [.sl (xs.map eInt)] [] (Ret (.int .i64 (sumTo xs xs.length))) := by
  refine a_enter Try.func23 rfl rfl (fun w0 M0 => ?_)
  refine a_seq ?_
  refine a_region ?_
  refine aops_cons rfl (w_pure rfl (p_assign rfl) ?_)
  refine aops_nil ?_
  refine a_seq ?_
  refine a_region ?_
  refine aops_cons rfl (w_pure rfl (p_assign rfl) ?_)
  refine aops_nil ?_
  refine a_seq ?_
  refine a_seq ?_
  refine a_region ?_
  refine aops_cons rfl (w_pure rfl (p_assign rfl) ?_)
  refine aops_nil ?_
  refine a_block ?_
  refine a_loop (ι := Nat) (fun i => i ≤ xs.length) (fun i => [(4, .int .i64 (i : Int)), (3, .int .i64 (sumTo xs i))]) (fun i => []) (fun i => xs.length - i) 0 (Nat.zero_le _) (by repeat (first | exact Knows.nil | refine Knows.cons (by rfl) ?_)) (by repeat (first | exact Picks.nil _ | exact Pick.here _ _ _ | apply Pick.next | apply Picks.cons)) ?_
  rintro i hi
  have hra := hr i hi
  refine a_seq ?_
  refine a_seq ?_
  refine a_region ?_
  refine aops_cons rfl (w_pure rfl (p_move rfl) ?_)
  refine aops_cons rfl (w_pure rfl (p_move rfl) ?_)
  refine aops_cons rfl (w_pure rfl (p_len sl_31 rfl rfl) ?_)
  refine aops_cons rfl (w_pure rfl (p_lss rfl rfl) ?_)
  refine aops_nil ?_
  first | refine a_cond_d rfl (fun h1 => ?_) (fun h2 => ?_) | refine a_cond_n rfl (fun h1 => ?_) (fun h2 => ?_) | refine a_cond_nb rfl (fun h1 => ?_) (fun h2 => ?_) | refine a_cond rfl (fun h1 => ?_) (fun h2 => ?_)
  · (try simp only [Bool.not_eq_true', Bool.not_eq_false', Bool.not_eq_true, Bool.not_eq_false, decide_eq_true_eq, decide_eq_false_iff_not, List.length_map, List.length_range] at h1)
    refine a_skip ?_
    refine a_seq ?_
    refine a_block ?_
    refine a_region ?_
    refine aops_cons rfl (w_pure rfl (p_move rfl) ?_)
    refine aops_cons rfl (w_pure rfl (p_move rfl) ?_)
    refine aops_cons rfl (w_pure rfl (p_move rfl) ?_)
    refine aops_cons rfl (w_pure rfl (p_index_sl _ rfl rfl rfl (rowD _ _ (0 : Int) (by omega)) es_31) ?_)
    refine aops_cons rfl (w_pure rfl (p_load_v ag_3 rfl (by rfl) noX) ?_)
    refine aops_cons rfl (w_pure rfl (p_add' rfl rfl ⟨by first | omega | (have := hr (i + 1) (by omega); rw [sumTo, sumF] at this; unfold sumTo at *; omega), by first | omega | (have := hr (i + 1) (by omega); rw [sumTo, sumF] at this; unfold sumTo at *; omega)⟩) ?_)
    refine aops_cons rfl (w_pure rfl (p_assign rfl) ?_)
    refine aops_nil ?_
    refine a_region ?_
    refine aops_cons rfl (w_pure rfl (p_move rfl) ?_)
    refine aops_cons rfl (w_pure rfl (p_add' rfl rfl ⟨by first | omega | (have := hr (i + 1) (by omega); rw [sumTo, sumF] at this; unfold sumTo at *; omega), by first | omega | (have := hr (i + 1) (by omega); rw [sumTo, sumF] at this; unfold sumTo at *; omega)⟩) ?_)
    refine aops_cons rfl (w_pure rfl (p_assign rfl) ?_)
    refine aops_nil ?_
    refine ⟨(i + 1), _, ?_, ?_, (by repeat (first | exact Knows.nil | refine Knows.cons (by rfl) ?_)), (by repeat (first | exact Back.refl _ _ | refine Back.cons (by rfl) ?_)), (by repeat (first | exact Picks.nil _ | exact Pick.here _ _ _ | apply Pick.next | apply Picks.cons))⟩
    · omega
    · (try dsimp only); omega
  · (try simp only [Bool.not_eq_true', Bool.not_eq_false', Bool.not_eq_true, Bool.not_eq_false, decide_eq_true_eq, decide_eq_false_iff_not, List.length_map, List.length_range] at h2)
    refine a_exit ?_
    refine a_seq ?_
    refine a_region ?_
    refine aops_cons rfl (w_pure rfl (p_move rfl) ?_)
    refine aops_cons rfl (w_pure rfl (p_assign rfl) ?_)
    refine aops_nil ?_
    refine a_ret ?_
    refine ret_ok (hands1 rfl (.tmp rfl)) (.nil _) ?_
    have hx : i = xs.length := (by omega); subst hx; exact ⟨rfl, rfl⟩

set_option maxHeartbeats 4000000 in
theorem c_laws_FnShares (bs : List Int) (_hc : (∀ x ∈ bs, 0 ≤ x ∧ x ≤ 255) ∧ bs.length ≤ maxLen) : ACalls Try.prog 4 [.sl (bs.map eByte)] [] (Ret (.bool true)) := by
  have hm : bs.length ≤ 9223372036854775807 := _hc.2
  refine a_enter Try.func4 rfl rfl (fun w0 M0 => ?_)
  refine a_seq ?_
  refine a_region ?_
  refine aops_cons rfl (w_pure rfl (p_assign rfl) ?_)
  refine aops_nil ?_
  refine a_seq ?_
  refine a_seq ?_
  refine a_region ?_
  refine aops_cons rfl (w_pure rfl (p_move rfl) ?_)
  refine aops_cons rfl (w_callR rfl rfl rfl cl_5 (c_laws_vBig _ (by omega)) ?_)
  refine aops_nil ?_
  first | refine a_cond_d rfl (fun h1 => ?_) (fun h2 => ?_) | refine a_cond_n rfl (fun h1 => ?_) (fun h2 => ?_) | refine a_cond_nb rfl (fun h1 => ?_) (fun h2 => ?_) | refine a_cond rfl (fun h1 => ?_) (fun h2 => ?_)
  · (try simp only [Bool.not_eq_true', Bool.not_eq_false', Bool.not_eq_true, Bool.not_eq_false, decide_eq_true_eq, decide_eq_false_iff_not, List.length_map, List.length_range] at h1)
    refine a_seq ?_
    refine a_region ?_
    refine aops_cons rfl (w_pure rfl (p_assign rfl) ?_)
    refine aops_nil ?_
    refine a_ret ?_
    refine ret_ok (hands1 rfl (.tmp rfl)) (.nil _) ?_
    first | exact ⟨rfl, rfl⟩ | (exfalso; omega)
  · (try simp only [Bool.not_eq_true', Bool.not_eq_false', Bool.not_eq_true, Bool.not_eq_false, decide_eq_true_eq, decide_eq_false_iff_not, List.length_map, List.length_range] at h2)
    refine a_skip ?_
    refine a_seq ?_
    have hb : Bytes bs := ⟨by omega, _hc.1⟩
    refine a_region ?_
    refine aops_cons rfl (w_pure rfl (p_move rfl) ?_)
    refine aops_cons rfl (w_call rfl rfl rfl cl_19 (c_spec_DrawTickShares bs hb) ?_)
    rintro _ _ ⟨⟨xs1, m1, rfl, hx1, hm1⟩, rfl⟩
    skip
    refine aops_cons rfl (w_pure rfl (p_move rfl) ?_)
    refine aops_cons rfl (w_pure rfl (p_extract rfl rfl) ?_)
    refine aops_cons rfl (w_pure rfl (p_extract rfl rfl) ?_)
    refine aops_cons rfl (w_pure rfl (p_assign rfl) ?_)
    refine aops_cons rfl (w_pure rfl (p_assign rfl) ?_)
    refine aops_nil ?_
    refine a_seq ?_
    refine a_region ?_
    refine aops_cons rfl (w_pure rfl (p_move rfl) ?_)
    refine aops_cons rfl (w_pure rfl (p_move rfl) ?_)
    refine aops_cons rfl (w_callR rfl rfl rfl cl_20 (cv_impl_TickShares xs1 (by omega) m1) ?_)
    refine aops_cons rfl (w_pure rfl (p_move rfl) ?_)
    refine aops_cons rfl (w_pure rfl (p_extract rfl rfl) ?_)
    refine aops_cons rfl (w_pure rfl (p_extract rfl rfl) ?_)
    refine aops_cons rfl (w_pure rfl (p_assign rfl) ?_)
    refine aops_cons rfl (w_pure rfl (p_assign rfl) ?_)
    refine aops_nil ?_
    refine a_seq ?_
    refine a_seq ?_
    refine a_region ?_
    refine aops_cons rfl (w_pure rfl (p_move rfl) ?_)
    refine aops_cons rfl (w_pure rfl (p_move rfl) ?_)
    refine aops_cons rfl (w_callR rfl rfl rfl cl_21 (cv_spec_TickShares xs1 (by omega) m1) ?_)
    refine aops_cons rfl (w_pure rfl (p_move rfl) ?_)
    refine aops_cons rfl (w_pure rfl (p_extract rfl rfl) ?_)
    refine aops_cons rfl (w_pure rfl (p_extract rfl rfl) ?_)
    refine aops_cons rfl (w_pure rfl (p_assign rfl) ?_)
    refine aops_cons rfl (w_pure rfl (p_assign rfl) ?_)
    refine aops_nil ?_
    refine a_seq ?_
    refine a_region ?_
    refine aops_cons rfl (w_pure rfl (p_move rfl) ?_)
    refine aops_cons rfl (w_pure rfl (p_move rfl) ?_)
    refine aops_cons rfl (w_pure rfl (p_neq_bsame um_4 rfl rfl) ?_)
    refine aops_cons rfl (w_pure rfl (p_move rfl) ?_)
    refine aops_guard_t rfl rfl rfl (w_pure rfl (p_move rfl) ?_)
    refine aops_guard_t rfl rfl rfl (w_pure rfl (p_move rfl) ?_)
    refine aops_guard_t rfl rfl rfl (w_callR rfl rfl rfl cl_9 (c_laws_vInts (pickL (GoodRun xs1 m1) (sharesL xs1 m1)) (pickL_small (fun h => by rw [sharesL_len]; omega))) ?_)
    refine aops_guard_t rfl rfl rfl (w_pure rfl (p_not rfl) ?_)
    refine aops_cons rfl (w_pure rfl (p_pick_f rfl rfl) ?_)
    refine aops_nil ?_
    refine a_cond_f rfl ?_
    refine a_skip ?_
    refine a_seq_join (ι := Unit) (fun _ => True) (fun _ => []) (fun _ => []) (old := []) (by repeat (first | exact Picks.nil _ | exact Pick.here _ _ _ | apply Pick.next | apply Picks.cons)) ?_ ?_
    · skip
      refine a_seq ?_
      refine a_region ?_
      refine aops_cons rfl (w_pure rfl (p_move rfl) ?_)
      refine aops_nil ?_
      first | refine a_cond_d rfl (fun h3 => ?_) (fun h4 => ?_) | refine a_cond_n rfl (fun h3 => ?_) (fun h4 => ?_) | refine a_cond_nb rfl (fun h3 => ?_) (fun h4 => ?_) | refine a_cond rfl (fun h3 => ?_) (fun h4 => ?_)
      · (try simp only [Bool.not_eq_true', Bool.not_eq_false', Bool.not_eq_true, Bool.not_eq_false, decide_eq_true_eq, decide_eq_false_iff_not, List.length_map, List.length_range] at h3)
        refine a_seq ?_
        have hk : GoodRun xs1 m1 := (by assumption)
        rw [pickL_y hk]
        have hil := idsTo_len xs1 (tkN m1)
        have hrn : tkN m1 ≤ 200 := by have := hk.2.1; unfold tkN; omega
        have hsl := sharesL_len xs1 m1
        have hx0 : 1 ≤ xs1.length := hk.1.2.1
        refine a_region ?_
        refine aops_cons rfl (w_pure rfl (p_move rfl) ?_)
        refine aops_cons rfl (w_pure rfl (p_move rfl) ?_)
        refine aops_cons rfl (w_callR rfl rfl rfl cl_22 (cf_impl_RunTicks xs1 (by omega) m1 hk) ?_)
        refine aops_cons rfl (w_pure rfl (p_move rfl) ?_)
        refine aops_cons rfl (w_pure rfl (p_extract rfl rfl) ?_)
        refine aops_cons rfl (w_pure rfl (p_extract rfl rfl) ?_)
        refine aops_cons rfl (w_pure rfl (p_extract rfl rfl) ?_)
        refine aops_cons rfl (w_pure rfl (p_assign rfl) ?_)
        refine aops_cons rfl (w_pure rfl (p_assign rfl) ?_)
        refine aops_cons rfl (w_pure rfl (p_assign rfl) ?_)
        refine aops_nil ?_
        refine a_seq ?_
        refine a_seq ?_
        refine a_region ?_
        refine aops_cons rfl (w_pure rfl (p_move rfl) ?_)
        refine aops_cons rfl (w_pure rfl (p_not rfl) ?_)
        refine aops_cons rfl (w_pure rfl (p_move rfl) ?_)
        refine aops_guard_t rfl rfl rfl (w_pure rfl (p_move rfl) ?_)
        refine aops_guard_t rfl rfl rfl (w_callR rfl rfl rfl cl_23 (c_laws_vSum (sharesL xs1 m1) (by omega) (fun i hi => shares_part hk hi)) ?_)
        refine aops_guard_t rfl rfl rfl (w_pure rfl (p_move rfl) ?_)
        refine aops_guard_t rfl rfl rfl (w_pure rfl (p_neqF rfl rfl (shares_sum hk)) ?_)
        refine aops_cons rfl (w_pure rfl (p_pick_f rfl rfl) ?_)
        refine aops_nil ?_
        refine a_cond_f rfl ?_
        refine a_skip ?_
        refine a_seq ?_
        refine a_region ?_
        refine aops_cons rfl (w_pure rfl (p_assign rfl) ?_)
        refine aops_nil ?_
        refine a_seq ?_
        refine a_seq ?_
        refine a_region ?_
        refine aops_cons rfl (w_pure rfl (p_assign rfl) ?_)
        refine aops_nil ?_
        refine a_block ?_
        refine a_loop (ι := Nat × Bool) (fun ⟨i, e⟩ => i ≤ xs1.length ∧ e = sameTo xs1 i) (fun ⟨i, e⟩ => [(13, .int .i64 (i : Int)), (12, .bool e)]) (fun ⟨i, e⟩ => []) (fun ⟨i, e⟩ => xs1.length - i) (0, true) ⟨Nat.zero_le _, rfl⟩ (by repeat (first | exact Knows.nil | refine Knows.cons (by rfl) ?_)) (by repeat (first | exact Picks.nil _ | exact Pick.here _ _ _ | apply Pick.next | apply Picks.cons)) ?_
        rintro ⟨i, e⟩ ⟨hi, hE⟩
        replace hi : i ≤ xs1.length := hi; replace hE : e = sameTo xs1 i := hE
        refine a_seq ?_
        refine a_seq ?_
        refine a_region ?_
        refine aops_cons rfl (w_pure rfl (p_move rfl) ?_)
        refine aops_cons rfl (w_pure rfl (p_move rfl) ?_)
        refine aops_cons rfl (w_pure rfl (p_len sl_24 rfl rfl) ?_)
        refine aops_cons rfl (w_pure rfl (p_lss rfl rfl) ?_)
        refine aops_nil ?_
        first | refine a_cond_d rfl (fun h5 => ?_) (fun h6 => ?_) | refine a_cond_n rfl (fun h5 => ?_) (fun h6 => ?_) | refine a_cond_nb rfl (fun h5 => ?_) (fun h6 => ?_) | refine a_cond rfl (fun h5 => ?_) (fun h6 => ?_)
        · (try simp only [Bool.not_eq_true', Bool.not_eq_false', Bool.not_eq_true, Bool.not_eq_false, decide_eq_true_eq, decide_eq_false_iff_not, List.length_map, List.length_range] at h5)
          refine a_skip ?_
          refine a_seq ?_
          refine a_block ?_
          refine a_seq ?_
          refine a_region ?_
          refine aops_cons rfl (w_pure rfl (p_assign rfl) ?_)
          refine aops_nil ?_
          refine a_seq ?_
          refine a_seq ?_
          refine a_region ?_
          refine aops_cons rfl (w_pure rfl (p_assign rfl) ?_)
          refine aops_nil ?_
          refine a_block ?_
          refine a_loop (ι := Nat × Int) (fun ⟨k, m⟩ => k ≤ (idsTo xs1 (tkN m1)).length ∧ m = hitTo (atI (idsTo xs1 (tkN m1)) (xs1.getD i zVcpu).id) k) (fun ⟨k, m⟩ => [(15, .int .i64 (k : Int)), (14, .int .i64 m)]) (fun ⟨k, m⟩ => []) (fun ⟨k, m⟩ => (idsTo xs1 (tkN m1)).length - k) (0, 0) ⟨Nat.zero_le _, rfl⟩ (by repeat (first | exact Knows.nil | refine Knows.cons (by rfl) ?_)) (by repeat (first | exact Picks.nil _ | exact Pick.here _ _ _ | apply Pick.next | apply Picks.cons)) ?_
          rintro ⟨k, m⟩ ⟨hkk, hK⟩
          replace hkk : k ≤ (idsTo xs1 (tkN m1)).length := hkk; replace hK : m = hitTo (atI (idsTo xs1 (tkN m1)) (xs1.getD i zVcpu).id) k := hK; have hmb := hitTo_b (atI (idsTo xs1 (tkN m1)) (xs1.getD i zVcpu).id) k; rw [← hK] at hmb
          refine a_seq ?_
          refine a_seq ?_
          refine a_region ?_
          refine aops_cons rfl (w_pure rfl (p_move rfl) ?_)
          refine aops_cons rfl (w_pure rfl (p_move rfl) ?_)
          refine aops_cons rfl (w_pure rfl (p_len sl_31 rfl rfl) ?_)
          refine aops_cons rfl (w_pure rfl (p_lss rfl rfl) ?_)
          refine aops_nil ?_
          first | refine a_cond_d rfl (fun h7 => ?_) (fun h8 => ?_) | refine a_cond_n rfl (fun h7 => ?_) (fun h8 => ?_) | refine a_cond_nb rfl (fun h7 => ?_) (fun h8 => ?_) | refine a_cond rfl (fun h7 => ?_) (fun h8 => ?_)
          · (try simp only [Bool.not_eq_true', Bool.not_eq_false', Bool.not_eq_true, Bool.not_eq_false, decide_eq_true_eq, decide_eq_false_iff_not, List.length_map, List.length_range] at h7)
            refine a_skip ?_
            refine a_seq ?_
            refine a_block ?_
            refine a_seq ?_
            refine a_draw [] (by kernel_rfl) ?_
            show ADraw _ _ _ _ _ _ 10 _ _ _ _
            refine d_take 0 rfl (by kernel_rfl) (by kernel_rfl) (by kernel_rfl) rfl (p_move rfl) ?_
            refine d_take 1 rfl (by kernel_rfl) (by kernel_rfl) (by kernel_rfl) rfl (p_move rfl) ?_
            refine d_take 2 rfl (by kernel_rfl) (by kernel_rfl) (by kernel_rfl) rfl (p_index_sl k rfl rfl rfl (rowD _ _ (0 : Int) (by omega)) es_31) ?_
            refine d_load 3 rfl (by kernel_rfl) (by kernel_rfl) (by kernel_rfl) rfl (p_load_v ag_3 rfl (by rfl) noX) ?_
            refine d_take 4 rfl (by kernel_rfl) (by kernel_rfl) (by kernel_rfl) rfl (p_move rfl) ?_
            refine d_take 5 rfl (by kernel_rfl) (by kernel_rfl) (by kernel_rfl) rfl (p_move rfl) ?_
            refine d_take 6 rfl (by kernel_rfl) (by kernel_rfl) (by kernel_rfl) rfl (p_index_sl i rfl rfl rfl (rowD _ _ zVcpu (by omega)) es_24) ?_
            refine d_take 7 rfl (by kernel_rfl) (by kernel_rfl) (by kernel_rfl) rfl (p_field_v fo_56_0 rfl) ?_
            refine d_load 8 rfl (by kernel_rfl) (by kernel_rfl) (by kernel_rfl) rfl (p_load_v ag_3 rfl (by rfl) noX) ?_
            refine d_take 9 rfl (by kernel_rfl) (by kernel_rfl) (by kernel_rfl) rfl (p_eql rfl rfl) ?_
            refine draw_done (by kernel_rfl) ?_
            first | refine a_cond_d rfl (fun h9 => ?_) (fun h10 => ?_) | refine a_cond_n rfl (fun h9 => ?_) (fun h10 => ?_) | refine a_cond_nb rfl (fun h9 => ?_) (fun h10 => ?_) | refine a_cond rfl (fun h9 => ?_) (fun h10 => ?_)
            · (try simp only [Bool.not_eq_true', Bool.not_eq_false', Bool.not_eq_true, Bool.not_eq_false, decide_eq_true_eq, decide_eq_false_iff_not, List.length_map, List.length_range] at h9)
              refine a_region ?_
              refine aops_cons rfl (w_pure rfl (p_move rfl) ?_)
              refine aops_cons rfl (w_pure rfl (p_add' rfl rfl ⟨by omega, by omega⟩) ?_)
              refine aops_cons rfl (w_pure rfl (p_assign rfl) ?_)
              refine aops_nil ?_
              refine a_region ?_
              refine aops_cons rfl (w_pure rfl (p_move rfl) ?_)
              refine aops_cons rfl (w_pure rfl (p_add' rfl rfl ⟨by omega, by omega⟩) ?_)
              refine aops_cons rfl (w_pure rfl (p_assign rfl) ?_)
              refine aops_nil ?_
              refine ⟨(k + 1, _), _, ?_, ?_, (by repeat (first | exact Knows.nil | refine Knows.cons (by rfl) ?_)), (by repeat (first | exact Back.refl _ _ | refine Back.cons (by rfl) ?_)), (by repeat (first | exact Picks.nil _ | exact Pick.here _ _ _ | apply Pick.next | apply Picks.cons))⟩
              · refine ⟨by omega, ?_⟩; rw [hitTo, ← hK]; first | exact (if_pos (decide_eq_true (by assumption))).symm | exact (if_neg (by unfold atI; rw [decide_eq_true_eq]; assumption)).symm
              · (try dsimp only); omega
            · (try simp only [Bool.not_eq_true', Bool.not_eq_false', Bool.not_eq_true, Bool.not_eq_false, decide_eq_true_eq, decide_eq_false_iff_not, List.length_map, List.length_range] at h10)
              refine a_skip ?_
              refine a_region ?_
              refine aops_cons rfl (w_pure rfl (p_move rfl) ?_)
              refine aops_cons rfl (w_pure rfl (p_add' rfl rfl ⟨by omega, by omega⟩) ?_)
              refine aops_cons rfl (w_pure rfl (p_assign rfl) ?_)
              refine aops_nil ?_
              refine ⟨(k + 1, _), _, ?_, ?_, (by repeat (first | exact Knows.nil | refine Knows.cons (by rfl) ?_)), (by repeat (first | exact Back.refl _ _ | refine Back.cons (by rfl) ?_)), (by repeat (first | exact Picks.nil _ | exact Pick.here _ _ _ | apply Pick.next | apply Picks.cons))⟩
              · refine ⟨by omega, ?_⟩; rw [hitTo, ← hK]; first | exact (if_pos (decide_eq_true (by assumption))).symm | exact (if_neg (by unfold atI; rw [decide_eq_true_eq]; assumption)).symm
              · (try dsimp only); omega
          · (try simp only [Bool.not_eq_true', Bool.not_eq_false', Bool.not_eq_true, Bool.not_eq_false, decide_eq_true_eq, decide_eq_false_iff_not, List.length_map, List.length_range] at h8)
            refine a_exit ?_
            refine a_seq ?_
            refine a_seq ?_
            refine a_region ?_
            refine aops_cons rfl (w_pure rfl (p_move rfl) ?_)
            refine aops_cons rfl (w_pure rfl (p_move rfl) ?_)
            refine aops_cons rfl (w_pure rfl (p_move rfl) ?_)
            refine aops_cons rfl (w_pure rfl (p_index_sl i rfl rfl rfl (rowD _ _ (0 : Int) (by omega)) es_31) ?_)
            refine aops_cons rfl (w_pure rfl (p_load_v ag_3 rfl (by rfl) noX) ?_)
            refine aops_cons rfl (w_pure rfl (p_neqF rfl rfl (by rw [hK, show k = tkN m1 by omega]; exact shares_count hk (by omega))) ?_)
            refine aops_nil ?_
            refine a_cond_f rfl ?_
            refine a_skip ?_
            refine a_draw [] (by kernel_rfl) ?_
            show ADraw _ _ _ _ _ _ 38 _ _ _ _
            refine d_take 0 rfl (by kernel_rfl) (by kernel_rfl) (by kernel_rfl) rfl (p_move rfl) ?_
            refine d_take 1 rfl (by kernel_rfl) (by kernel_rfl) (by kernel_rfl) rfl (p_move rfl) ?_
            first | refine d_split_d 112 rfl (fun h11 => ?_) (fun h12 => ?_) | refine draw_split 112 rfl (fun h11 => ?_) (fun h12 => ?_)
            · (try simp only [Bool.not_eq_true', Bool.not_eq_false', Bool.not_eq_true, Bool.not_eq_false, decide_eq_true_eq, decide_eq_false_iff_not, List.length_map, List.length_range] at h11)
              refine d_take_t 2 rfl (by kernel_rfl) (by kernel_rfl) (by kernel_rfl) rfl rfl rfl (p_move rfl) ?_
              refine d_take_t 3 rfl (by kernel_rfl) (by kernel_rfl) (by kernel_rfl) rfl rfl rfl (p_move rfl) ?_
              refine d_take_t 4 rfl (by kernel_rfl) (by kernel_rfl) (by kernel_rfl) rfl rfl rfl (p_index_sl i rfl rfl rfl (rowD _ _ zVcpu (by omega)) es_24) ?_
              refine d_take_t 5 rfl (by kernel_rfl) (by kernel_rfl) (by kernel_rfl) rfl rfl rfl (p_field_v fo_56_3 rfl) ?_
              refine d_load_t 6 rfl (by kernel_rfl) (by kernel_rfl) (by kernel_rfl) rfl rfl rfl (p_load_v ag_4 rfl (by rfl) noX) ?_
              refine d_take_t 7 rfl (by kernel_rfl) (by kernel_rfl) (by kernel_rfl) rfl rfl rfl (p_not rfl) ?_
              refine d_take 8 rfl (by kernel_rfl) (by kernel_rfl) (by kernel_rfl) rfl (p_pick_t rfl rfl) ?_
              refine d_take 9 rfl (by kernel_rfl) (by kernel_rfl) (by kernel_rfl) rfl (p_move rfl) ?_
              first | refine d_split_d 120 rfl (fun h13 => ?_) (fun h14 => ?_) | refine draw_split 120 rfl (fun h13 => ?_) (fun h14 => ?_)
              · (try simp only [Bool.not_eq_true', Bool.not_eq_false', Bool.not_eq_true, Bool.not_eq_false, decide_eq_true_eq, decide_eq_false_iff_not, List.length_map, List.length_range] at h13)
                refine d_take_t 10 rfl (by kernel_rfl) (by kernel_rfl) (by kernel_rfl) rfl rfl rfl (p_move rfl) ?_
                refine d_take_t 11 rfl (by kernel_rfl) (by kernel_rfl) (by kernel_rfl) rfl rfl rfl (p_move rfl) ?_
                refine d_take_t 12 rfl (by kernel_rfl) (by kernel_rfl) (by kernel_rfl) rfl rfl rfl (p_index_sl i rfl rfl rfl (rowD _ _ zVcpu (by omega)) es_24) ?_
                refine d_take_t 13 rfl (by kernel_rfl) (by kernel_rfl) (by kernel_rfl) rfl rfl rfl (p_field_v fo_56_4 rfl) ?_
                refine d_load_t 14 rfl (by kernel_rfl) (by kernel_rfl) (by kernel_rfl) rfl rfl rfl (p_load_v ag_4 rfl (by rfl) noX) ?_
                refine d_take_t 15 rfl (by kernel_rfl) (by kernel_rfl) (by kernel_rfl) rfl rfl rfl (p_not rfl) ?_
                refine d_take 16 rfl (by kernel_rfl) (by kernel_rfl) (by kernel_rfl) rfl (p_pick_t rfl rfl) ?_
                refine d_take 17 rfl (by kernel_rfl) (by kernel_rfl) (by kernel_rfl) rfl (p_move rfl) ?_
                first | refine d_split_d 128 rfl (fun h15 => ?_) (fun h16 => ?_) | refine draw_split 128 rfl (fun h15 => ?_) (fun h16 => ?_)
                · (try simp only [Bool.not_eq_true', Bool.not_eq_false', Bool.not_eq_true, Bool.not_eq_false, decide_eq_true_eq, decide_eq_false_iff_not, List.length_map, List.length_range] at h15)
                  refine d_take_t 18 rfl (by kernel_rfl) (by kernel_rfl) (by kernel_rfl) rfl rfl rfl (p_move rfl) ?_
                  refine d_take_t 19 rfl (by kernel_rfl) (by kernel_rfl) (by kernel_rfl) rfl rfl rfl (p_move rfl) ?_
                  refine d_take_t 20 rfl (by kernel_rfl) (by kernel_rfl) (by kernel_rfl) rfl rfl rfl (p_index_sl i rfl rfl rfl (rowD _ _ zVcpu (by omega)) es_24) ?_
                  refine d_take_t 21 rfl (by kernel_rfl) (by kernel_rfl) (by kernel_rfl) rfl rfl rfl (p_field_v fo_56_1 rfl) ?_
                  refine d_load_t 22 rfl (by kernel_rfl) (by kernel_rfl) (by kernel_rfl) rfl rfl rfl (p_load_v ag_3 rfl (by rfl) noX) ?_
                  refine d_take_t 23 rfl (by kernel_rfl) (by kernel_rfl) (by kernel_rfl) rfl rfl rfl (p_move rfl) ?_
                  refine d_take_t 24 rfl (by kernel_rfl) (by kernel_rfl) (by kernel_rfl) rfl rfl rfl (p_index_sl 0 rfl rfl rfl (rowD _ _ zVcpu (by omega)) es_24) ?_
                  refine d_take_t 25 rfl (by kernel_rfl) (by kernel_rfl) (by kernel_rfl) rfl rfl rfl (p_field_v fo_56_1 rfl) ?_
                  refine d_load_t 26 rfl (by kernel_rfl) (by kernel_rfl) (by kernel_rfl) rfl rfl rfl (p_load_v ag_3 rfl (by rfl) noX) ?_
                  refine d_take_t 27 rfl (by kernel_rfl) (by kernel_rfl) (by kernel_rfl) rfl rfl rfl (p_eql rfl rfl) ?_
                  refine d_take 28 rfl (by kernel_rfl) (by kernel_rfl) (by kernel_rfl) rfl (p_pick_t rfl rfl) ?_
                  refine d_take 29 rfl (by kernel_rfl) (by kernel_rfl) (by kernel_rfl) rfl (p_move rfl) ?_
                  first | refine d_split_d 140 rfl (fun h17 => ?_) (fun h18 => ?_) | refine draw_split 140 rfl (fun h17 => ?_) (fun h18 => ?_)
                  · (try simp only [Bool.not_eq_true', Bool.not_eq_false', Bool.not_eq_true, Bool.not_eq_false, decide_eq_true_eq, decide_eq_false_iff_not, List.length_map, List.length_range] at h17)
                    refine d_take_t 30 rfl (by kernel_rfl) (by kernel_rfl) (by kernel_rfl) rfl rfl rfl (p_move rfl) ?_
                    refine d_take_t 31 rfl (by kernel_rfl) (by kernel_rfl) (by kernel_rfl) rfl rfl rfl (p_move rfl) ?_
                    refine d_take_t 32 rfl (by kernel_rfl) (by kernel_rfl) (by kernel_rfl) rfl rfl rfl (p_index_sl i rfl rfl rfl (rowD _ _ zVcpu (by omega)) es_24) ?_
                    refine d_take_t 33 rfl (by kernel_rfl) (by kernel_rfl) (by kernel_rfl) rfl rfl rfl (p_field_v fo_56_2 rfl) ?_
                    refine d_load_t 34 rfl (by kernel_rfl) (by kernel_rfl) (by kernel_rfl) rfl rfl rfl (p_load_v ag_3 rfl (by rfl) noX) ?_
                    refine d_take_t 35 rfl (by kernel_rfl) (by kernel_rfl) (by kernel_rfl) rfl rfl rfl (p_eql rfl rfl) ?_
                    refine d_take 36 rfl (by kernel_rfl) (by kernel_rfl) (by kernel_rfl) rfl (p_pick_t rfl rfl) ?_
                    refine d_take 37 rfl (by kernel_rfl) (by kernel_rfl) (by kernel_rfl) rfl (p_assign rfl) ?_
                    refine draw_done (by kernel_rfl) ?_
                    refine a_region ?_
                    refine aops_cons rfl (w_pure rfl (p_move rfl) ?_)
                    refine aops_cons rfl (w_pure rfl (p_add' rfl rfl ⟨by omega, by omega⟩) ?_)
                    refine aops_cons rfl (w_pure rfl (p_assign rfl) ?_)
                    refine aops_nil ?_
                    refine ⟨(i + 1, _), _, ?_, ?_, (by repeat (first | exact Knows.nil | refine Knows.cons (by rfl) ?_)), (by repeat (first | exact Back.refl _ _ | refine Back.cons (by rfl) ?_)), (by repeat (first | exact Picks.nil _ | exact Pick.here _ _ _ | apply Pick.next | apply Picks.cons))⟩
                    · refine ⟨by omega, ?_⟩; rw [sameTo, ← hE]; first | exact same_step.1 (by assumption) | exact same_step.2.1 (by assumption) | exact same_step.2.2.1 (by assumption) | exact same_step.2.2.2.1 (by assumption) | exact same_step.2.2.2.2 (by assumption) (by assumption) (by assumption) (by assumption)
                    · (try dsimp only); omega
                  · (try simp only [Bool.not_eq_true', Bool.not_eq_false', Bool.not_eq_true, Bool.not_eq_false, decide_eq_true_eq, decide_eq_false_iff_not, List.length_map, List.length_range] at h18)
                    refine d_pass' 30 rfl (by kernel_rfl) (by kernel_rfl) (by kernel_rfl) rfl rfl rfl ?_
                    refine d_pass' 31 rfl (by kernel_rfl) (by kernel_rfl) (by kernel_rfl) rfl rfl rfl ?_
                    refine d_pass' 32 rfl (by kernel_rfl) (by kernel_rfl) (by kernel_rfl) rfl rfl rfl ?_
                    refine d_pass' 33 rfl (by kernel_rfl) (by kernel_rfl) (by kernel_rfl) rfl rfl rfl ?_
                    refine d_pass' 34 rfl (by kernel_rfl) (by kernel_rfl) (by kernel_rfl) rfl rfl rfl ?_
                    refine d_pass' 35 rfl (by kernel_rfl) (by kernel_rfl) (by kernel_rfl) rfl rfl rfl ?_
                    refine d_take 36 rfl (by kernel_rfl) (by kernel_rfl) (by kernel_rfl) rfl (p_pick_f rfl rfl) ?_
                    refine d_take 37 rfl (by kernel_rfl) (by kernel_rfl) (by kernel_rfl) rfl (p_assign rfl) ?_
                    refine draw_done (by kernel_rfl) ?_
                    refine a_region ?_
                    refine aops_cons rfl (w_pure rfl (p_move rfl) ?_)
                    refine aops_cons rfl (w_pure rfl (p_add' rfl rfl ⟨by omega, by omega⟩) ?_)
                    refine aops_cons rfl (w_pure rfl (p_assign rfl) ?_)
                    refine aops_nil ?_
                    refine ⟨(i + 1, _), _, ?_, ?_, (by repeat (first | exact Knows.nil | refine Knows.cons (by rfl) ?_)), (by repeat (first | exact Back.refl _ _ | refine Back.cons (by rfl) ?_)), (by repeat (first | exact Picks.nil _ | exact Pick.here _ _ _ | apply Pick.next | apply Picks.cons))⟩
                    · refine ⟨by omega, ?_⟩; rw [sameTo, ← hE]; first | exact same_step.1 (by assumption) | exact same_step.2.1 (by assumption) | exact same_step.2.2.1 (by assumption) | exact same_step.2.2.2.1 (by assumption) | exact same_step.2.2.2.2 (by assumption) (by assumption) (by assumption) (by assumption)
                    · (try dsimp only); omega
                · (try simp only [Bool.not_eq_true', Bool.not_eq_false', Bool.not_eq_true, Bool.not_eq_false, decide_eq_true_eq, decide_eq_false_iff_not, List.length_map, List.length_range] at h16)
                  refine d_pass' 18 rfl (by kernel_rfl) (by kernel_rfl) (by kernel_rfl) rfl rfl rfl ?_
                  refine d_pass' 19 rfl (by kernel_rfl) (by kernel_rfl) (by kernel_rfl) rfl rfl rfl ?_
                  refine d_pass' 20 rfl (by kernel_rfl) (by kernel_rfl) (by kernel_rfl) rfl rfl rfl ?_
                  refine d_pass' 21 rfl (by kernel_rfl) (by kernel_rfl) (by kernel_rfl) rfl rfl rfl ?_
                  refine d_pass' 22 rfl (by kernel_rfl) (by kernel_rfl) (by kernel_rfl) rfl rfl rfl ?_
                  refine d_pass' 23 rfl (by kernel_rfl) (by kernel_rfl) (by kernel_rfl) rfl rfl rfl ?_
                  refine d_pass' 24 rfl (by kernel_rfl) (by kernel_rfl) (by kernel_rfl) rfl rfl rfl ?_
                  refine d_pass' 25 rfl (by kernel_rfl) (by kernel_rfl) (by kernel_rfl) rfl rfl rfl ?_
                  refine d_pass' 26 rfl (by kernel_rfl) (by kernel_rfl) (by kernel_rfl) rfl rfl rfl ?_
                  refine d_pass' 27 rfl (by kernel_rfl) (by kernel_rfl) (by kernel_rfl) rfl rfl rfl ?_
                  refine d_take 28 rfl (by kernel_rfl) (by kernel_rfl) (by kernel_rfl) rfl (p_pick_f rfl rfl) ?_
                  refine d_take 29 rfl (by kernel_rfl) (by kernel_rfl) (by kernel_rfl) rfl (p_move rfl) ?_
                  refine d_pass' 30 rfl (by kernel_rfl) (by kernel_rfl) (by kernel_rfl) rfl rfl rfl ?_
                  refine d_pass' 31 rfl (by kernel_rfl) (by kernel_rfl) (by kernel_rfl) rfl rfl rfl ?_
                  refine d_pass' 32 rfl (by kernel_rfl) (by kernel_rfl) (by kernel_rfl) rfl rfl rfl ?_
                  refine d_pass' 33 rfl (by kernel_rfl) (by kernel_rfl) (by kernel_rfl) rfl rfl rfl ?_
                  refine d_pass' 34 rfl (by kernel_rfl) (by kernel_rfl) (by kernel_rfl) rfl rfl rfl ?_
                  refine d_pass' 35 rfl (by kernel_rfl) (by kernel_rfl) (by kernel_rfl) rfl rfl rfl ?_
                  refine d_take 36 rfl (by kernel_rfl) (by kernel_rfl) (by kernel_rfl) rfl (p_pick_f rfl rfl) ?_
                  refine d_take 37 rfl (by kernel_rfl) (by kernel_rfl) (by kernel_rfl) rfl (p_assign rfl) ?_
                  refine draw_done (by kernel_rfl) ?_
                  refine a_region ?_
                  refine aops_cons rfl (w_pure rfl (p_move rfl) ?_)
                  refine aops_cons rfl (w_pure rfl (p_add' rfl rfl ⟨by omega, by omega⟩) ?_)
                  refine aops_cons rfl (w_pure rfl (p_assign rfl) ?_)
                  refine aops_nil ?_
                  refine ⟨(i + 1, _), _, ?_, ?_, (by repeat (first | exact Knows.nil | refine Knows.cons (by rfl) ?_)), (by repeat (first | exact Back.refl _ _ | refine Back.cons (by rfl) ?_)), (by repeat (first | exact Picks.nil _ | exact Pick.here _ _ _ | apply Pick.next | apply Picks.cons))⟩
                  · refine ⟨by omega, ?_⟩; rw [sameTo, ← hE]; first | exact same_step.1 (by assumption) | exact same_step.2.1 (by assumption) | exact same_step.2.2.1 (by assumption) | exact same_step.2.2.2.1 (by assumption) | exact same_step.2.2.2.2 (by assumption) (by assumption) (by assumption) (by assumption)
                  · (try dsimp only); omega
              · (try simp only [Bool.not_eq_true', Bool.not_eq_false', Bool.not_eq_true, Bool.not_eq_false, decide_eq_true_eq, decide_eq_false_iff_not, List.length_map, List.length_range] at h14)
                refine d_pass' 10 rfl (by kernel_rfl) (by kernel_rfl) (by kernel_rfl) rfl rfl rfl ?_
                refine d_pass' 11 rfl (by kernel_rfl) (by kernel_rfl) (by kernel_rfl) rfl rfl rfl ?_
                refine d_pass' 12 rfl (by kernel_rfl) (by kernel_rfl) (by kernel_rfl) rfl rfl rfl ?_
                refine d_pass' 13 rfl (by kernel_rfl) (by kernel_rfl) (by kernel_rfl) rfl rfl rfl ?_
                refine d_pass' 14 rfl (by kernel_rfl) (by kernel_rfl) (by kernel_rfl) rfl rfl rfl ?_
                refine d_pass' 15 rfl (by kernel_rfl) (by kernel_rfl) (by kernel_rfl) rfl rfl rfl ?_
                refine d_take 16 rfl (by kernel_rfl) (by kernel_rfl) (by kernel_rfl) rfl (p_pick_f rfl rfl) ?_
                refine d_take 17 rfl (by kernel_rfl) (by kernel_rfl) (by kernel_rfl) rfl (p_move rfl) ?_
                refine d_pass' 18 rfl (by kernel_rfl) (by kernel_rfl) (by kernel_rfl) rfl rfl rfl ?_
                refine d_pass' 19 rfl (by kernel_rfl) (by kernel_rfl) (by kernel_rfl) rfl rfl rfl ?_
                refine d_pass' 20 rfl (by kernel_rfl) (by kernel_rfl) (by kernel_rfl) rfl rfl rfl ?_
                refine d_pass' 21 rfl (by kernel_rfl) (by kernel_rfl) (by kernel_rfl) rfl rfl rfl ?_
                refine d_pass' 22 rfl (by kernel_rfl) (by kernel_rfl) (by kernel_rfl) rfl rfl rfl ?_
                refine d_pass' 23 rfl (by kernel_rfl) (by kernel_rfl) (by kernel_rfl) rfl rfl rfl ?_
                refine d_pass' 24 rfl (by kernel_rfl) (by kernel_rfl) (by kernel_rfl) rfl rfl rfl ?_
                refine d_pass' 25 rfl (by kernel_rfl) (by kernel_rfl) (by kernel_rfl) rfl rfl rfl ?_
                refine d_pass' 26 rfl (by kernel_rfl) (by kernel_rfl) (by kernel_rfl) rfl rfl rfl ?_
                refine d_pass' 27 rfl (by kernel_rfl) (by kernel_rfl) (by kernel_rfl) rfl rfl rfl ?_
                refine d_take 28 rfl (by kernel_rfl) (by kernel_rfl) (by kernel_rfl) rfl (p_pick_f rfl rfl) ?_
                refine d_take 29 rfl (by kernel_rfl) (by kernel_rfl) (by kernel_rfl) rfl (p_move rfl) ?_
                refine d_pass' 30 rfl (by kernel_rfl) (by kernel_rfl) (by kernel_rfl) rfl rfl rfl ?_
                refine d_pass' 31 rfl (by kernel_rfl) (by kernel_rfl) (by kernel_rfl) rfl rfl rfl ?_
                refine d_pass' 32 rfl (by kernel_rfl) (by kernel_rfl) (by kernel_rfl) rfl rfl rfl ?_
                refine d_pass' 33 rfl (by kernel_rfl) (by kernel_rfl) (by kernel_rfl) rfl rfl rfl ?_
                refine d_pass' 34 rfl (by kernel_rfl) (by kernel_rfl) (by kernel_rfl) rfl rfl rfl ?_
                refine d_pass' 35 rfl (by kernel_rfl) (by kernel_rfl) (by kernel_rfl) rfl rfl rfl ?_
                refine d_take 36 rfl (by kernel_rfl) (by kernel_rfl) (by kernel_rfl) rfl (p_pick_f rfl rfl) ?_
                refine d_take 37 rfl (by kernel_rfl) (by kernel_rfl) (by kernel_rfl) rfl (p_assign rfl) ?_
                refine draw_done (by kernel_rfl) ?_
                refine a_region ?_
                refine aops_cons rfl (w_pure rfl (p_move rfl) ?_)
                refine aops_cons rfl (w_pure rfl (p_add' rfl rfl ⟨by omega, by omega⟩) ?_)
                refine aops_cons rfl (w_pure rfl (p_assign rfl) ?_)
                refine aops_nil ?_
                refine ⟨(i + 1, _), _, ?_, ?_, (by repeat (first | exact Knows.nil | refine Knows.cons (by rfl) ?_)), (by repeat (first | exact Back.refl _ _ | refine Back.cons (by rfl) ?_)), (by repeat (first | exact Picks.nil _ | exact Pick.here _ _ _ | apply Pick.next | apply Picks.cons))⟩
                · refine ⟨by omega, ?_⟩; rw [sameTo, ← hE]; first | exact same_step.1 (by assumption) | exact same_step.2.1 (by assumption) | exact same_step.2.2.1 (by assumption) | exact same_step.2.2.2.1 (by assumption) | exact same_step.2.2.2.2 (by assumption) (by assumption) (by assumption) (by assumption)
                · (try dsimp only); omega
            · (try simp only [Bool.not_eq_true', Bool.not_eq_false', Bool.not_eq_true, Bool.not_eq_false, decide_eq_true_eq, decide_eq_false_iff_not, List.length_map, List.length_range] at h12)
              refine d_pass' 2 rfl (by kernel_rfl) (by kernel_rfl) (by kernel_rfl) rfl rfl rfl ?_
              refine d_pass' 3 rfl (by kernel_rfl) (by kernel_rfl) (by kernel_rfl) rfl rfl rfl ?_
              refine d_pass' 4 rfl (by kernel_rfl) (by kernel_rfl) (by kernel_rfl) rfl rfl rfl ?_
              refine d_pass' 5 rfl (by kernel_rfl) (by kernel_rfl) (by kernel_rfl) rfl rfl rfl ?_
              refine d_pass' 6 rfl (by kernel_rfl) (by kernel_rfl) (by kernel_rfl) rfl rfl rfl ?_
              refine d_pass' 7 rfl (by kernel_rfl) (by kernel_rfl) (by kernel_rfl) rfl rfl rfl ?_
              refine d_take 8 rfl (by kernel_rfl) (by kernel_rfl) (by kernel_rfl) rfl (p_pick_f rfl rfl) ?_
              refine d_take 9 rfl (by kernel_rfl) (by kernel_rfl) (by kernel_rfl) rfl (p_move rfl) ?_
              refine d_pass' 10 rfl (by kernel_rfl) (by kernel_rfl) (by kernel_rfl) rfl rfl rfl ?_
              refine d_pass' 11 rfl (by kernel_rfl) (by kernel_rfl) (by kernel_rfl) rfl rfl rfl ?_
              refine d_pass' 12 rfl (by kernel_rfl) (by kernel_rfl) (by kernel_rfl) rfl rfl rfl ?_
              refine d_pass' 13 rfl (by kernel_rfl) (by kernel_rfl) (by kernel_rfl) rfl rfl rfl ?_
              refine d_pass' 14 rfl (by kernel_rfl) (by kernel_rfl) (by kernel_rfl) rfl rfl rfl ?_
              refine d_pass' 15 rfl (by kernel_rfl) (by kernel_rfl) (by kernel_rfl) rfl rfl rfl ?_
              refine d_take 16 rfl (by kernel_rfl) (by kernel_rfl) (by kernel_rfl) rfl (p_pick_f rfl rfl) ?_
              refine d_take 17 rfl (by kernel_rfl) (by kernel_rfl) (by kernel_rfl) rfl (p_move rfl) ?_
              refine d_pass' 18 rfl (by kernel_rfl) (by kernel_rfl) (by kernel_rfl) rfl rfl rfl ?_
              refine d_pass' 19 rfl (by kernel_rfl) (by kernel_rfl) (by kernel_rfl) rfl rfl rfl ?_
              refine d_pass' 20 rfl (by kernel_rfl) (by kernel_rfl) (by kernel_rfl) rfl rfl rfl ?_
              refine d_pass' 21 rfl (by kernel_rfl) (by kernel_rfl) (by kernel_rfl) rfl rfl rfl ?_
              refine d_pass' 22 rfl (by kernel_rfl) (by kernel_rfl) (by kernel_rfl) rfl rfl rfl ?_
              refine d_pass' 23 rfl (by kernel_rfl) (by kernel_rfl) (by kernel_rfl) rfl rfl rfl ?_
              refine d_pass' 24 rfl (by kernel_rfl) (by kernel_rfl) (by kernel_rfl) rfl rfl rfl ?_
              refine d_pass' 25 rfl (by kernel_rfl) (by kernel_rfl) (by kernel_rfl) rfl rfl rfl ?_
              refine d_pass' 26 rfl (by kernel_rfl) (by kernel_rfl) (by kernel_rfl) rfl rfl rfl ?_
              refine d_pass' 27 rfl (by kernel_rfl) (by kernel_rfl) (by kernel_rfl) rfl rfl rfl ?_
              refine d_take 28 rfl (by kernel_rfl) (by kernel_rfl) (by kernel_rfl) rfl (p_pick_f rfl rfl) ?_
              refine d_take 29 rfl (by kernel_rfl) (by kernel_rfl) (by kernel_rfl) rfl (p_move rfl) ?_
              refine d_pass' 30 rfl (by kernel_rfl) (by kernel_rfl) (by kernel_rfl) rfl rfl rfl ?_
              refine d_pass' 31 rfl (by kernel_rfl) (by kernel_rfl) (by kernel_rfl) rfl rfl rfl ?_
              refine d_pass' 32 rfl (by kernel_rfl) (by kernel_rfl) (by kernel_rfl) rfl rfl rfl ?_
              refine d_pass' 33 rfl (by kernel_rfl) (by kernel_rfl) (by kernel_rfl) rfl rfl rfl ?_
              refine d_pass' 34 rfl (by kernel_rfl) (by kernel_rfl) (by kernel_rfl) rfl rfl rfl ?_
              refine d_pass' 35 rfl (by kernel_rfl) (by kernel_rfl) (by kernel_rfl) rfl rfl rfl ?_
              refine d_take 36 rfl (by kernel_rfl) (by kernel_rfl) (by kernel_rfl) rfl (p_pick_f rfl rfl) ?_
              refine d_take 37 rfl (by kernel_rfl) (by kernel_rfl) (by kernel_rfl) rfl (p_assign rfl) ?_
              refine draw_done (by kernel_rfl) ?_
              refine a_region ?_
              refine aops_cons rfl (w_pure rfl (p_move rfl) ?_)
              refine aops_cons rfl (w_pure rfl (p_add' rfl rfl ⟨by omega, by omega⟩) ?_)
              refine aops_cons rfl (w_pure rfl (p_assign rfl) ?_)
              refine aops_nil ?_
              refine ⟨(i + 1, _), _, ?_, ?_, (by repeat (first | exact Knows.nil | refine Knows.cons (by rfl) ?_)), (by repeat (first | exact Back.refl _ _ | refine Back.cons (by rfl) ?_)), (by repeat (first | exact Picks.nil _ | exact Pick.here _ _ _ | apply Pick.next | apply Picks.cons))⟩
              · refine ⟨by omega, ?_⟩; rw [sameTo, ← hE]; first | exact same_step.1 (by assumption) | exact same_step.2.1 (by assumption) | exact same_step.2.2.1 (by assumption) | exact same_step.2.2.2.1 (by assumption) | exact same_step.2.2.2.2 (by assumption) (by assumption) (by assumption) (by assumption)
              · (try dsimp only); omega
        · (try simp only [Bool.not_eq_true', Bool.not_eq_false', Bool.not_eq_true, Bool.not_eq_false, decide_eq_true_eq, decide_eq_false_iff_not, List.length_map, List.length_range] at h6)
          refine a_exit ?_
          refine a_seq ?_
          refine a_seq ?_
          have hx : i = xs1.length := (by omega)
          subst hx
          refine a_region ?_
          refine aops_cons rfl (w_pure rfl (p_assign rfl) ?_)
          refine aops_nil ?_
          refine a_block ?_
          refine a_loop (ι := Nat) (fun i => 1 ≤ i ∧ i ≤ xs1.length) (fun i => [(16, .int .i64 (i : Int))]) (fun i => []) (fun i => xs1.length - i) 1 ⟨Nat.le_refl _, hx0⟩ (by repeat (first | exact Knows.nil | refine Knows.cons (by rfl) ?_)) (by repeat (first | exact Picks.nil _ | exact Pick.here _ _ _ | apply Pick.next | apply Picks.cons)) ?_
          rintro i ⟨hi1, hi2⟩
          skip
          refine a_seq ?_
          refine a_seq ?_
          refine a_region ?_
          refine aops_cons rfl (w_pure rfl (p_move rfl) ?_)
          refine aops_cons rfl (w_pure rfl (p_move rfl) ?_)
          refine aops_cons rfl (w_pure rfl (p_len sl_24 rfl rfl) ?_)
          refine aops_cons rfl (w_pure rfl (p_lss rfl rfl) ?_)
          refine aops_cons rfl (w_pure rfl (p_move rfl) ?_)
          first | refine aops_split_d 152 rfl (fun h19 => ?_) (fun h20 => ?_) | refine aops_split 152 rfl (fun h19 => ?_) (fun h20 => ?_)
          · (try simp only [Bool.not_eq_true', Bool.not_eq_false', Bool.not_eq_true, Bool.not_eq_false, decide_eq_true_eq, decide_eq_false_iff_not, List.length_map, List.length_range] at h19)
            refine aops_guard_t rfl rfl rfl (w_pure rfl (p_move rfl) ?_)
            refine aops_cons rfl (w_pure rfl (p_pick_t rfl rfl) ?_)
            refine aops_nil ?_
            first | refine a_cond_d rfl (fun h21 => ?_) (fun h22 => ?_) | refine a_cond_n rfl (fun h21 => ?_) (fun h22 => ?_) | refine a_cond_nb rfl (fun h21 => ?_) (fun h22 => ?_) | refine a_cond rfl (fun h21 => ?_) (fun h22 => ?_)
            · (try simp only [Bool.not_eq_true', Bool.not_eq_false', Bool.not_eq_true, Bool.not_eq_false, decide_eq_true_eq, decide_eq_false_iff_not, List.length_map, List.length_range] at h21)
              refine a_skip ?_
              refine a_seq ?_
              refine a_block ?_
              refine a_seq ?_
              have hs : sameTo xs1 xs1.length = true := (by rw [← hE]; assumption)
              refine a_draw [] (by kernel_rfl) ?_
              show ADraw _ _ _ _ _ _ 9 _ _ _ _
              refine d_take 0 rfl (by kernel_rfl) (by kernel_rfl) (by kernel_rfl) rfl (p_move rfl) ?_
              refine d_take 1 rfl (by kernel_rfl) (by kernel_rfl) (by kernel_rfl) rfl (p_index_sl 0 rfl rfl rfl (rowD _ _ (0 : Int) (by omega)) es_31) ?_
              refine d_load 2 rfl (by kernel_rfl) (by kernel_rfl) (by kernel_rfl) rfl (p_load_v ag_3 rfl (by rfl) noX) ?_
              refine d_take 3 rfl (by kernel_rfl) (by kernel_rfl) (by kernel_rfl) rfl (p_move rfl) ?_
              refine d_take 4 rfl (by kernel_rfl) (by kernel_rfl) (by kernel_rfl) rfl (p_move rfl) ?_
              refine d_take 5 rfl (by kernel_rfl) (by kernel_rfl) (by kernel_rfl) rfl (p_index_sl i rfl rfl rfl (rowD _ _ (0 : Int) (by omega)) es_31) ?_
              refine d_load 6 rfl (by kernel_rfl) (by kernel_rfl) (by kernel_rfl) rfl (p_load_v ag_3 rfl (by rfl) noX) ?_
              refine d_take 7 rfl (by kernel_rfl) (by kernel_rfl) (by kernel_rfl) rfl (p_sub' rfl rfl ⟨by have := fair hk hs (j := i) (by omega); omega, by have := fair hk hs (j := i) (by omega); omega⟩) ?_
              refine d_take 8 rfl (by kernel_rfl) (by kernel_rfl) (by kernel_rfl) rfl (p_assign rfl) ?_
              refine draw_done (by kernel_rfl) ?_
              refine a_seq ?_
              refine a_region ?_
              refine aops_cons rfl (w_pure rfl (p_move rfl) ?_)
              refine aops_cons rfl (w_pure rfl (p_lssF rfl rfl (fair hk hs (by omega)).1) ?_)
              refine aops_cons rfl (w_pure rfl (p_move rfl) ?_)
              refine aops_guard_t rfl rfl rfl (w_pure rfl (p_move rfl) ?_)
              refine aops_guard_t rfl rfl rfl (w_pure rfl (p_gtrF rfl rfl (fair hk hs (by omega)).2) ?_)
              refine aops_cons rfl (w_pure rfl (p_pick_f rfl rfl) ?_)
              refine aops_nil ?_
              refine a_cond_f rfl ?_
              refine a_skip ?_
              refine a_region ?_
              refine aops_cons rfl (w_pure rfl (p_move rfl) ?_)
              refine aops_cons rfl (w_pure rfl (p_add' rfl rfl ⟨by omega, by omega⟩) ?_)
              refine aops_cons rfl (w_pure rfl (p_assign rfl) ?_)
              refine aops_nil ?_
              refine ⟨(i + 1), _, ?_, ?_, (by repeat (first | exact Knows.nil | refine Knows.cons (by rfl) ?_)), (by repeat (first | exact Back.refl _ _ | refine Back.cons (by rfl) ?_)), (by repeat (first | exact Picks.nil _ | exact Pick.here _ _ _ | apply Pick.next | apply Picks.cons))⟩
              · omega
              · (try dsimp only); omega
            · (try simp only [Bool.not_eq_true', Bool.not_eq_false', Bool.not_eq_true, Bool.not_eq_false, decide_eq_true_eq, decide_eq_false_iff_not, List.length_map, List.length_range] at h22)
              refine a_exit ?_
              refine a_seq ?_
              refine a_region ?_
              refine aops_cons rfl (w_pure rfl (p_move rfl) ?_)
              refine aops_cons rfl (w_callR rfl rfl rfl cl_24 (c_impl_TotalCredit xs1 (by omega)) ?_)
              refine aops_cons rfl (w_pure rfl (p_move rfl) ?_)
              refine aops_cons rfl (w_pure rfl (p_extract rfl rfl) ?_)
              refine aops_cons rfl (w_pure rfl (p_extract rfl rfl) ?_)
              refine aops_cons rfl (w_pure rfl (p_assign rfl) ?_)
              refine aops_cons rfl (w_pure rfl (p_assign rfl) ?_)
              refine aops_nil ?_
              refine a_seq ?_
              refine a_region ?_
              refine aops_cons rfl (w_pure rfl (p_move rfl) ?_)
              refine aops_cons rfl (w_callR rfl rfl rfl cl_25 (ct_impl_RefillVcpus xs1 (by omega) hk.1) ?_)
              refine aops_cons rfl (w_pure rfl (p_move rfl) ?_)
              refine aops_cons rfl (w_pure rfl (p_extract rfl rfl) ?_)
              refine aops_cons rfl (w_pure rfl (p_extract rfl rfl) ?_)
              refine aops_cons rfl (w_pure rfl (p_assign rfl) ?_)
              refine aops_cons rfl (w_pure rfl (p_assign rfl) ?_)
              refine aops_nil ?_
              refine a_seq ?_
              refine a_region ?_
              refine aops_cons rfl (w_pure rfl (p_move rfl) ?_)
              refine aops_cons rfl (w_callR rfl rfl rfl cl_24 (c_impl_TotalCredit (refillL xs1) (by rw [refillL_len]; omega)) ?_)
              refine aops_cons rfl (w_pure rfl (p_move rfl) ?_)
              refine aops_cons rfl (w_pure rfl (p_extract rfl rfl) ?_)
              refine aops_cons rfl (w_pure rfl (p_extract rfl rfl) ?_)
              refine aops_cons rfl (w_pure rfl (p_assign rfl) ?_)
              refine aops_cons rfl (w_pure rfl (p_assign rfl) ?_)
              refine aops_nil ?_
              refine a_seq ?_
              have htc := total_more hk.1
              rw [htc.1, htc.2.1]
              refine a_region ?_
              refine aops_cons rfl (w_pure rfl (p_move rfl) ?_)
              refine aops_cons rfl (w_pure rfl (p_not rfl) ?_)
              refine aops_cons rfl (w_pure rfl (p_move rfl) ?_)
              refine aops_guard_t rfl rfl rfl (w_pure rfl (p_move rfl) ?_)
              refine aops_guard_t rfl rfl rfl (w_pure rfl (p_not rfl) ?_)
              refine aops_cons rfl (w_pure rfl (p_pick_f rfl rfl) ?_)
              refine aops_cons rfl (w_pure rfl (p_move rfl) ?_)
              refine aops_guard_t rfl rfl rfl (w_pure rfl (p_move rfl) ?_)
              refine aops_guard_t rfl rfl rfl (w_pure rfl (p_not rfl) ?_)
              refine aops_cons rfl (w_pure rfl (p_pick_f rfl rfl) ?_)
              refine aops_cons rfl (w_pure rfl (p_move rfl) ?_)
              refine aops_guard_t rfl rfl rfl (w_pure rfl (p_move rfl) ?_)
              refine aops_guard_t rfl rfl rfl (w_pure rfl (p_move rfl) ?_)
              refine aops_guard_t rfl rfl rfl (w_pure rfl (p_lssF rfl rfl htc.2.2) ?_)
              refine aops_cons rfl (w_pure rfl (p_pick_f rfl rfl) ?_)
              refine aops_nil ?_
              refine a_cond_f rfl ?_
              refine a_skip ?_
              exact ⟨(), _, trivial, (by repeat (first | exact Knows.nil | refine Knows.cons (by rfl) ?_)), (by repeat (first | exact Back.refl _ _ | refine Back.cons (by rfl) ?_)), (by repeat (first | exact Picks.nil _ | exact Pick.here _ _ _ | apply Pick.next | apply Picks.cons))⟩
          · (try simp only [Bool.not_eq_true', Bool.not_eq_false', Bool.not_eq_true, Bool.not_eq_false, decide_eq_true_eq, decide_eq_false_iff_not, List.length_map, List.length_range] at h20)
            refine g_pass' rfl rfl rfl rfl rfl ?_
            refine aops_cons rfl (w_pure rfl (p_pick_f rfl rfl) ?_)
            refine aops_nil ?_
            refine a_cond_f rfl ?_
            refine a_exit ?_
            refine a_seq ?_
            refine a_region ?_
            refine aops_cons rfl (w_pure rfl (p_move rfl) ?_)
            refine aops_cons rfl (w_callR rfl rfl rfl cl_24 (c_impl_TotalCredit xs1 (by omega)) ?_)
            refine aops_cons rfl (w_pure rfl (p_move rfl) ?_)
            refine aops_cons rfl (w_pure rfl (p_extract rfl rfl) ?_)
            refine aops_cons rfl (w_pure rfl (p_extract rfl rfl) ?_)
            refine aops_cons rfl (w_pure rfl (p_assign rfl) ?_)
            refine aops_cons rfl (w_pure rfl (p_assign rfl) ?_)
            refine aops_nil ?_
            refine a_seq ?_
            refine a_region ?_
            refine aops_cons rfl (w_pure rfl (p_move rfl) ?_)
            refine aops_cons rfl (w_callR rfl rfl rfl cl_25 (ct_impl_RefillVcpus xs1 (by omega) hk.1) ?_)
            refine aops_cons rfl (w_pure rfl (p_move rfl) ?_)
            refine aops_cons rfl (w_pure rfl (p_extract rfl rfl) ?_)
            refine aops_cons rfl (w_pure rfl (p_extract rfl rfl) ?_)
            refine aops_cons rfl (w_pure rfl (p_assign rfl) ?_)
            refine aops_cons rfl (w_pure rfl (p_assign rfl) ?_)
            refine aops_nil ?_
            refine a_seq ?_
            refine a_region ?_
            refine aops_cons rfl (w_pure rfl (p_move rfl) ?_)
            refine aops_cons rfl (w_callR rfl rfl rfl cl_24 (c_impl_TotalCredit (refillL xs1) (by rw [refillL_len]; omega)) ?_)
            refine aops_cons rfl (w_pure rfl (p_move rfl) ?_)
            refine aops_cons rfl (w_pure rfl (p_extract rfl rfl) ?_)
            refine aops_cons rfl (w_pure rfl (p_extract rfl rfl) ?_)
            refine aops_cons rfl (w_pure rfl (p_assign rfl) ?_)
            refine aops_cons rfl (w_pure rfl (p_assign rfl) ?_)
            refine aops_nil ?_
            refine a_seq ?_
            have htc := total_more hk.1
            rw [htc.1, htc.2.1]
            refine a_region ?_
            refine aops_cons rfl (w_pure rfl (p_move rfl) ?_)
            refine aops_cons rfl (w_pure rfl (p_not rfl) ?_)
            refine aops_cons rfl (w_pure rfl (p_move rfl) ?_)
            refine aops_guard_t rfl rfl rfl (w_pure rfl (p_move rfl) ?_)
            refine aops_guard_t rfl rfl rfl (w_pure rfl (p_not rfl) ?_)
            refine aops_cons rfl (w_pure rfl (p_pick_f rfl rfl) ?_)
            refine aops_cons rfl (w_pure rfl (p_move rfl) ?_)
            refine aops_guard_t rfl rfl rfl (w_pure rfl (p_move rfl) ?_)
            refine aops_guard_t rfl rfl rfl (w_pure rfl (p_not rfl) ?_)
            refine aops_cons rfl (w_pure rfl (p_pick_f rfl rfl) ?_)
            refine aops_cons rfl (w_pure rfl (p_move rfl) ?_)
            refine aops_guard_t rfl rfl rfl (w_pure rfl (p_move rfl) ?_)
            refine aops_guard_t rfl rfl rfl (w_pure rfl (p_move rfl) ?_)
            refine aops_guard_t rfl rfl rfl (w_pure rfl (p_lssF rfl rfl htc.2.2) ?_)
            refine aops_cons rfl (w_pure rfl (p_pick_f rfl rfl) ?_)
            refine aops_nil ?_
            refine a_cond_f rfl ?_
            refine a_skip ?_
            exact ⟨(), _, trivial, (by repeat (first | exact Knows.nil | refine Knows.cons (by rfl) ?_)), (by repeat (first | exact Back.refl _ _ | refine Back.cons (by rfl) ?_)), (by repeat (first | exact Picks.nil _ | exact Pick.here _ _ _ | apply Pick.next | apply Picks.cons))⟩
      · (try simp only [Bool.not_eq_true', Bool.not_eq_false', Bool.not_eq_true, Bool.not_eq_false, decide_eq_true_eq, decide_eq_false_iff_not, List.length_map, List.length_range] at h4)
        refine a_skip ?_
        exact ⟨(), _, trivial, (by repeat (first | exact Knows.nil | refine Knows.cons (by rfl) ?_)), (by repeat (first | exact Back.refl _ _ | refine Back.cons (by rfl) ?_)), (by repeat (first | exact Picks.nil _ | exact Pick.here _ _ _ | apply Pick.next | apply Picks.cons))⟩
    · rintro _ -
      refine a_seq ?_
      refine a_region ?_
      refine aops_cons rfl (w_pure rfl (p_move rfl) ?_)
      refine aops_cons rfl (w_call rfl rfl rfl cl_26 (c_spec_DrawTotalCredit bs hb) ?_)
      rintro _ _ ⟨⟨xs2, rfl, hx2⟩, rfl⟩
      skip
      refine aops_cons rfl (w_pure rfl (p_assign rfl) ?_)
      refine aops_nil ?_
      refine a_seq ?_
      refine a_region ?_
      refine aops_cons rfl (w_pure rfl (p_move rfl) ?_)
      refine aops_cons rfl (w_callR rfl rfl rfl cl_24 (c_impl_TotalCredit xs2 (by omega)) ?_)
      refine aops_cons rfl (w_pure rfl (p_move rfl) ?_)
      refine aops_cons rfl (w_pure rfl (p_extract rfl rfl) ?_)
      refine aops_cons rfl (w_pure rfl (p_extract rfl rfl) ?_)
      refine aops_cons rfl (w_pure rfl (p_assign rfl) ?_)
      refine aops_cons rfl (w_pure rfl (p_assign rfl) ?_)
      refine aops_nil ?_
      refine a_seq ?_
      refine a_seq ?_
      refine a_region ?_
      refine aops_cons rfl (w_pure rfl (p_move rfl) ?_)
      refine aops_cons rfl (w_callR rfl rfl rfl cl_27 (c_spec_TotalCredit xs2 (by omega)) ?_)
      refine aops_cons rfl (w_pure rfl (p_move rfl) ?_)
      refine aops_cons rfl (w_pure rfl (p_extract rfl rfl) ?_)
      refine aops_cons rfl (w_pure rfl (p_extract rfl rfl) ?_)
      refine aops_cons rfl (w_pure rfl (p_assign rfl) ?_)
      refine aops_cons rfl (w_pure rfl (p_assign rfl) ?_)
      refine aops_nil ?_
      refine a_seq ?_
      refine a_region ?_
      refine aops_cons rfl (w_pure rfl (p_move rfl) ?_)
      refine aops_cons rfl (w_pure rfl (p_move rfl) ?_)
      refine aops_cons rfl (w_pure rfl (p_neq_same rfl rfl) ?_)
      refine aops_cons rfl (w_pure rfl (p_move rfl) ?_)
      refine aops_guard_t rfl rfl rfl (w_pure rfl (p_move rfl) ?_)
      refine aops_guard_t rfl rfl rfl (w_pure rfl (p_move rfl) ?_)
      refine aops_guard_t rfl rfl rfl (w_pure rfl (p_neq_bsame um_4 rfl rfl) ?_)
      refine aops_cons rfl (w_pure rfl (p_pick_f rfl rfl) ?_)
      refine aops_nil ?_
      refine a_cond_f rfl ?_
      refine a_skip ?_
      refine a_seq ?_
      refine a_region ?_
      refine aops_cons rfl (w_pure rfl (p_move rfl) ?_)
      refine aops_cons rfl (w_call rfl rfl rfl cl_28 (c_spec_DrawLongestWait bs hb) ?_)
      rintro _ _ ⟨⟨xs3, m3, rfl, hx3, hm3⟩, rfl⟩
      skip
      refine aops_cons rfl (w_pure rfl (p_move rfl) ?_)
      refine aops_cons rfl (w_pure rfl (p_extract rfl rfl) ?_)
      refine aops_cons rfl (w_pure rfl (p_extract rfl rfl) ?_)
      refine aops_cons rfl (w_pure rfl (p_assign rfl) ?_)
      refine aops_cons rfl (w_pure rfl (p_assign rfl) ?_)
      refine aops_nil ?_
      refine a_seq ?_
      refine a_region ?_
      refine aops_cons rfl (w_pure rfl (p_move rfl) ?_)
      refine aops_cons rfl (w_pure rfl (p_move rfl) ?_)
      refine aops_cons rfl (w_callR rfl rfl rfl cl_29 (cv_impl_LongestWait xs3 (by omega) m3) ?_)
      refine aops_cons rfl (w_pure rfl (p_move rfl) ?_)
      refine aops_cons rfl (w_pure rfl (p_extract rfl rfl) ?_)
      refine aops_cons rfl (w_pure rfl (p_extract rfl rfl) ?_)
      refine aops_cons rfl (w_pure rfl (p_extract rfl rfl) ?_)
      refine aops_cons rfl (w_pure rfl (p_assign rfl) ?_)
      refine aops_cons rfl (w_pure rfl (p_assign rfl) ?_)
      refine aops_cons rfl (w_pure rfl (p_assign rfl) ?_)
      refine aops_nil ?_
      refine a_seq ?_
      refine a_region ?_
      refine aops_cons rfl (w_pure rfl (p_move rfl) ?_)
      refine aops_cons rfl (w_pure rfl (p_move rfl) ?_)
      refine aops_cons rfl (w_callR rfl rfl rfl cl_30 (cv_spec_LongestWait xs3 (by omega) m3) ?_)
      refine aops_cons rfl (w_pure rfl (p_move rfl) ?_)
      refine aops_cons rfl (w_pure rfl (p_extract rfl rfl) ?_)
      refine aops_cons rfl (w_pure rfl (p_extract rfl rfl) ?_)
      refine aops_cons rfl (w_pure rfl (p_extract rfl rfl) ?_)
      refine aops_cons rfl (w_pure rfl (p_assign rfl) ?_)
      refine aops_cons rfl (w_pure rfl (p_assign rfl) ?_)
      refine aops_cons rfl (w_pure rfl (p_assign rfl) ?_)
      refine aops_nil ?_
      refine a_seq ?_
      refine a_region ?_
      refine aops_cons rfl (w_pure rfl (p_move rfl) ?_)
      refine aops_cons rfl (w_pure rfl (p_move rfl) ?_)
      refine aops_cons rfl (w_pure rfl (p_eql_same rfl rfl) ?_)
      refine aops_cons rfl (w_pure rfl (p_move rfl) ?_)
      refine aops_guard_t rfl rfl rfl (w_pure rfl (p_move rfl) ?_)
      refine aops_guard_t rfl rfl rfl (w_pure rfl (p_move rfl) ?_)
      refine aops_guard_t rfl rfl rfl (w_pure rfl (p_eql_same rfl rfl) ?_)
      refine aops_cons rfl (w_pure rfl (p_pick_t rfl rfl) ?_)
      refine aops_cons rfl (w_pure rfl (p_move rfl) ?_)
      refine aops_guard_t rfl rfl rfl (w_pure rfl (p_move rfl) ?_)
      refine aops_guard_t rfl rfl rfl (w_pure rfl (p_move rfl) ?_)
      refine aops_guard_t rfl rfl rfl (w_pure rfl (p_eql_bsame um_4 rfl rfl) ?_)
      refine aops_cons rfl (w_pure rfl (p_pick_t rfl rfl) ?_)
      refine aops_cons rfl (w_pure rfl (p_move rfl) ?_)
      refine aops_guard_t rfl rfl rfl (w_pure rfl (p_move rfl) ?_)
      refine aops_guard_t rfl rfl rfl (w_pure rfl (p_not rfl) ?_)
      refine aops_guard_t rfl rfl rfl (w_pure rfl (p_move rfl) ?_)
      first | refine aops_split_d 256 rfl (fun h23 => ?_) (fun h24 => ?_) | refine aops_split 256 rfl (fun h23 => ?_) (fun h24 => ?_)
      · (try simp only [Bool.not_eq_true', Bool.not_eq_false', Bool.not_eq_true, Bool.not_eq_false, decide_eq_true_eq, decide_eq_false_iff_not, List.length_map, List.length_range] at h23)
        refine g_pass' rfl rfl rfl rfl rfl ?_
        refine g_pass' rfl rfl rfl rfl rfl ?_
        refine g_pass' rfl rfl rfl rfl rfl ?_
        refine aops_guard_t rfl rfl rfl (w_pure rfl (p_pick_t rfl rfl) ?_)
        refine aops_cons rfl (w_pure rfl (p_pick_t rfl rfl) ?_)
        refine aops_cons rfl (w_pure rfl (p_assign rfl) ?_)
        refine aops_nil ?_
        refine a_ret ?_
        refine ret_ok (hands1 rfl (.tmp rfl)) (.nil _) ?_
        first | exact ⟨rfl, rfl⟩ | (exfalso; omega)
      · (try simp only [Bool.not_eq_true', Bool.not_eq_false', Bool.not_eq_true, Bool.not_eq_false, decide_eq_true_eq, decide_eq_false_iff_not, List.length_map, List.length_range] at h24)
        refine aops_guard_t rfl rfl rfl (w_pure rfl (p_move rfl) ?_)
        refine aops_guard_t rfl rfl rfl (w_pure rfl (p_move rfl) ?_)
        refine aops_guard_t rfl rfl rfl (w_pure rfl (p_leqT rfl rfl (by have hg : GoodWait xs3 m3 := (by first | assumption | exact of_decide_eq_true (by simp_all; done) | simp_all); rw [pickI_y hg]; exact longest_le hg)) ?_)
        refine aops_guard_t rfl rfl rfl (w_pure rfl (p_pick_f rfl rfl) ?_)
        refine aops_cons rfl (w_pure rfl (p_pick_t rfl rfl) ?_)
        refine aops_cons rfl (w_pure rfl (p_assign rfl) ?_)
        refine aops_nil ?_
        refine a_ret ?_
        refine ret_ok (hands1 rfl (.tmp rfl)) (.nil _) ?_
        first | exact ⟨rfl, rfl⟩ | (exfalso; omega)

end Go.Proofs.Ytdlhpomgmlcfoaa
