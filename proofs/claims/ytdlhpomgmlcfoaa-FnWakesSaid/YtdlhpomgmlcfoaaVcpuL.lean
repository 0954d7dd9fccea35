/-
  The walks of this part: each theorem is the contract of one function. Condition: none but those that it names.
-/
import Derived.Test.YtdlhpomgmlcfoaaVcpuLd
import Derived.Test.YtdlhpomgmlcfoaaVcpuLF
import Derived.Test.YtdlhpomgmlcfoaaVcpuA
import Derived.Test.YtdlhpomgmlcfoaaVcpuB
import Derived.Test.YtdlhpomgmlcfoaaVcpuC
import Derived.Test.YtdlhpomgmlcfoaaVcpuG
import Derived.Test.YtdlhpomgmlcfoaaVcpuH
import Derived.Test.YtdlhpomgmlcfoaaVcpuI
import Derived.Test.YtdlhpomgmlcfoaaVcpuK
namespace Go.Proofs.Ytdlhpomgmlcfoaa
open Go Go.Fw Go.Hv
attribute [local irreducible] awp Aops Aop ADraw ADrawAll ACalls
set_option maxRecDepth 4000
set_option linter.unusedSimpArgs false
set_option linter.unusedVariables false

theorem c_spec_l1Cur_hallOps (q : Nat) (bs : List Int) (hb : Bytes bs) (a s : Int) (h0 : 0 ≤ a) (h1 : a ≤ 999999700000) (p : Hall) (hp : DrawnH p) (c1 c2 : Nat) : ACalls Try.prog 32 [.ptr q 0, .agg [.own 5 c1 0 p.list.length, .own 1 c2 0 p.events.length]] [(q, curE bs a s), (c1, .arr 56 5 (p.list.map eVcpu)), (c2, .arr 4 1 (p.events.map eBool))] (fun r st => ∃ (b : Nat) (os : List HallOp) (a' : Int) (s' : Int), r = .own 2 b 0 os.length ∧ os.length ≤ 31 ∧ a ≤ a' ∧ a' ≤ a + 300 ∧ st = [(q, curE bs a' s'), (c1, .arr 56 5 (p.list.map eVcpu)), (c2, .arr 4 1 (p.events.map eBool)), (b, .arr 37 2 (os.map eHallOp))]) := by
  have hp1 := hp.1
  refine a_enter Try.func32 rfl rfl (fun w0 M0 => ?_)
  refine a_seq ?_
  refine a_region ?_
  refine aops_cons rfl (w_box_v rfl rfl rfl ?_)
  refine aops_cons rfl (w_pure rfl (p_assign rfl) ?_)
  refine aops_nil ?_
  refine a_seq ?_
  refine a_region ?_
  refine aops_cons rfl (w_litM eHallOp [] rfl el_28 rfl rfl rfl rfl rfl fun b1 => ?_)
  refine aops_cons rfl (w_pure rfl (p_assign rfl) ?_)
  refine aops_nil ?_
  refine a_seq ?_
  refine a_seq ?_
  refine a_region ?_
  refine aops_cons rfl (w_pure rfl (p_move rfl) ?_)
  refine aops_cons rfl (w_callM0 rfl rfl rfl cl_60 (.cons (by repeat (first | exact Pick.here _ _ _ | apply Pick.next)) (.nil _)) (c_spec_l1Cur_pick _ _ hb _ _ (by omega) (by omega) _ (by first | omega | (simp; done) | (simp; omega))) trivial ?_)
  rintro _ _ ⟨m1, a1, s1, rfl, hm1, ha1, hc1, rfl⟩
  (try simp only [List.length_map] at hm1)
  refine aops_cons rfl (w_pure rfl (p_assign rfl) ?_)
  refine aops_nil ?_
  refine a_block ?_
  refine a_loop (ι := Int × Nat × List HallOp × Int × Int) (fun ⟨n, b, os, ka, ks⟩ => n + os.length = m1 ∧ 0 ≤ n ∧ a ≤ ka ∧ ka ≤ a + 2 + 10 * os.length) (fun ⟨n, b, os, ka, ks⟩ => [(5, .own 2 b 0 os.length), (6, .int .i64 n)]) (fun ⟨n, b, os, ka, ks⟩ => [(q, curE bs ka ks), (c1, .arr 56 5 (p.list.map eVcpu)), (c2, .arr 4 1 (p.events.map eBool)), (b, .arr 37 2 (os.map eHallOp))]) (fun ⟨n, b, os, ka, ks⟩ => n.toNat) (m1, b1, [], a1, s1) ⟨by simp, by omega, by omega, by simp; omega⟩ (by repeat (first | exact Knows.nil | refine Knows.cons (by rfl) ?_)) (by repeat (first | exact Picks.nil _ | exact Pick.here _ _ _ | apply Pick.next | apply Picks.cons)) ?_
  rintro ⟨n, b, os, ka, ks⟩ ⟨hk1, hk2, hk3, hk4⟩
  skip
  refine a_seq ?_
  refine a_seq ?_
  refine a_region ?_
  refine aops_cons rfl (w_pure rfl (p_move rfl) ?_)
  refine aops_cons rfl (w_pure rfl (p_gtr rfl rfl) ?_)
  refine aops_nil ?_
  first | refine a_cond_d rfl (fun h1 => ?_) (fun h2 => ?_) | refine a_cond_n rfl (fun h1 => ?_) (fun h2 => ?_) | refine a_cond_nb rfl (fun h1 => ?_) (fun h2 => ?_) | refine a_cond rfl (fun h1 => ?_) (fun h2 => ?_)
  · (try simp only [Bool.not_eq_true', Bool.not_eq_false', Bool.not_eq_true, Bool.not_eq_false, decide_eq_true_eq, decide_eq_false_iff_not, List.length_map, List.length_range] at h1)
    refine a_skip ?_
    refine a_seq ?_
    refine a_block ?_
    refine a_seq ?_
    refine a_region ?_
    refine aops_cons rfl (w_pure rfl (p_move rfl) ?_)
    refine aops_cons rfl (w_callM0 rfl rfl rfl cl_60 (.cons (by repeat (first | exact Pick.here _ _ _ | apply Pick.next)) (.nil _)) (c_spec_l1Cur_pick _ _ hb _ _ (by omega) (by omega) _ (by first | omega | (simp; done) | (simp; omega))) trivial ?_)
    rintro _ _ ⟨m2, a2, s2, rfl, hm2, ha2, hc2, rfl⟩
    (try simp only [List.length_map] at hm2)
    refine aops_nil ?_
    refine a_block ?_
    refine a_seq ?_
    refine a_region ?_
    refine aops_cons rfl (w_pure rfl (p_eql rfl rfl) ?_)
    refine aops_cons rfl (w_pure rfl (p_assign rfl) ?_)
    refine aops_nil ?_
    first | refine a_cond_d rfl (fun h3 => ?_) (fun h4 => ?_) | refine a_cond_n rfl (fun h3 => ?_) (fun h4 => ?_) | refine a_cond_nb rfl (fun h3 => ?_) (fun h4 => ?_) | refine a_cond rfl (fun h3 => ?_) (fun h4 => ?_)
    · (try simp only [Bool.not_eq_true', Bool.not_eq_false', Bool.not_eq_true, Bool.not_eq_false, decide_eq_true_eq, decide_eq_false_iff_not, List.length_map, List.length_range] at h3)
      refine a_region ?_
      refine aops_cons rfl (w_pure rfl (p_move rfl) ?_)
      refine aops_cons rfl (w_pure rfl (p_build (cells := [_, _]) z_37 pl_37 rfl rfl) ?_)
      refine aops_cons rfl (w_lit_vM eHallOp [⟨_, _⟩] rfl el_28 rfl rfl rfl rfl rfl ?_)
      refine aops_cons rfl (w_appendM eHallOp rfl el_28 rfl rfl (by repeat (first | exact Pick.here _ _ _ | apply Pick.next)) rfl (.sl _) (fun _ => rfl) (fun _ => rfl) (by simp; omega) (by simp; omega) trivial fun b2 => ?_)
      refine aops_cons rfl (w_pure rfl (p_assign rfl) ?_)
      refine aops_nil ?_
      refine a_region ?_
      refine aops_cons rfl (w_pure rfl (p_move rfl) ?_)
      refine aops_cons rfl (w_pure rfl (p_sub' rfl rfl ⟨by omega, by omega⟩) ?_)
      refine aops_cons rfl (w_pure rfl (p_assign rfl) ?_)
      refine aops_nil ?_
      refine ⟨(_, _, _, _, _), _, ?_, ?_, (by repeat (first | exact Knows.nil | refine Knows.cons (by rfl) ?_)), (by repeat (first | exact Back.refl _ _ | refine Back.cons (by rfl) ?_)), (by repeat (first | exact Picks.nil _ | exact Pick.here _ _ _ | apply Pick.next | apply Picks.cons))⟩
      · refine ⟨by first | omega | (simp; omega), by omega, by omega, by first | omega | (simp; omega)⟩
      · (try dsimp only); omega
    · (try simp only [Bool.not_eq_true', Bool.not_eq_false', Bool.not_eq_true, Bool.not_eq_false, decide_eq_true_eq, decide_eq_false_iff_not, List.length_map, List.length_range] at h4)
      refine a_seq ?_
      refine a_region ?_
      refine aops_cons rfl (w_pure rfl (p_eql rfl rfl) ?_)
      refine aops_cons rfl (w_pure rfl (p_assign rfl) ?_)
      refine aops_nil ?_
      first | refine a_cond_d rfl (fun h5 => ?_) (fun h6 => ?_) | refine a_cond_n rfl (fun h5 => ?_) (fun h6 => ?_) | refine a_cond_nb rfl (fun h5 => ?_) (fun h6 => ?_) | refine a_cond rfl (fun h5 => ?_) (fun h6 => ?_)
      · (try simp only [Bool.not_eq_true', Bool.not_eq_false', Bool.not_eq_true, Bool.not_eq_false, decide_eq_true_eq, decide_eq_false_iff_not, List.length_map, List.length_range] at h5)
        refine a_region ?_
        refine aops_cons rfl (w_pure rfl (p_move rfl) ?_)
        refine aops_cons rfl (w_pure rfl (p_move rfl) ?_)
        refine aops_cons rfl (w_pure rfl (p_load_v_all ag_27 rfl (by rfl) noX) ?_)
        refine aops_cons rfl (w_callM0 rfl rfl rfl cl_44 (.cons (by repeat (first | exact Pick.here _ _ _ | apply Pick.next)) (.cons (by repeat (first | exact Pick.here _ _ _ | apply Pick.next)) (.cons (by repeat (first | exact Pick.here _ _ _ | apply Pick.next)) (.nil _)))) (c_spec_l1Cur_vcpuOf _ _ hb _ _ (by omega) (by omega) _ (by assumption) _ _) trivial ?_)
        rintro _ _ ⟨m3, a3, s3, rfl, ha3, hc3, rfl⟩
        skip
        refine aops_cons rfl (w_pure rfl (p_build (cells := [_, _]) z_37 pl_37 rfl rfl) ?_)
        refine aops_cons rfl (w_lit_vM eHallOp [⟨_, _⟩] rfl el_28 rfl rfl rfl rfl rfl ?_)
        refine aops_cons rfl (w_appendM eHallOp rfl el_28 rfl rfl (by repeat (first | exact Pick.here _ _ _ | apply Pick.next)) rfl (.sl _) (fun _ => rfl) (fun _ => rfl) (by simp; omega) (by simp; omega) trivial fun b3 => ?_)
        refine aops_cons rfl (w_pure rfl (p_assign rfl) ?_)
        refine aops_nil ?_
        refine a_region ?_
        refine aops_cons rfl (w_pure rfl (p_move rfl) ?_)
        refine aops_cons rfl (w_pure rfl (p_sub' rfl rfl ⟨by omega, by omega⟩) ?_)
        refine aops_cons rfl (w_pure rfl (p_assign rfl) ?_)
        refine aops_nil ?_
        refine ⟨(_, _, _, _, _), _, ?_, ?_, (by repeat (first | exact Knows.nil | refine Knows.cons (by rfl) ?_)), (by repeat (first | exact Back.refl _ _ | refine Back.cons (by rfl) ?_)), (by repeat (first | exact Picks.nil _ | exact Pick.here _ _ _ | apply Pick.next | apply Picks.cons))⟩
        · refine ⟨by first | omega | (simp; omega), by omega, by omega, by first | omega | (simp; omega)⟩
        · (try dsimp only); omega
      · (try simp only [Bool.not_eq_true', Bool.not_eq_false', Bool.not_eq_true, Bool.not_eq_false, decide_eq_true_eq, decide_eq_false_iff_not, List.length_map, List.length_range] at h6)
        refine a_seq ?_
        refine a_region ?_
        refine aops_cons rfl (w_pure rfl (p_eql rfl rfl) ?_)
        refine aops_cons rfl (w_pure rfl (p_assign rfl) ?_)
        refine aops_nil ?_
        first | refine a_cond_d rfl (fun h7 => ?_) (fun h8 => ?_) | refine a_cond_n rfl (fun h7 => ?_) (fun h8 => ?_) | refine a_cond_nb rfl (fun h7 => ?_) (fun h8 => ?_) | refine a_cond rfl (fun h7 => ?_) (fun h8 => ?_)
        · (try simp only [Bool.not_eq_true', Bool.not_eq_false', Bool.not_eq_true, Bool.not_eq_false, decide_eq_true_eq, decide_eq_false_iff_not, List.length_map, List.length_range] at h7)
          refine a_region ?_
          refine aops_cons rfl (w_pure rfl (p_move rfl) ?_)
          refine aops_cons rfl (w_pure rfl (p_move rfl) ?_)
          refine aops_cons rfl (w_pure rfl (p_load_v_all ag_27 rfl (by rfl) noX) ?_)
          refine aops_cons rfl (w_callM0 rfl rfl rfl cl_44 (.cons (by repeat (first | exact Pick.here _ _ _ | apply Pick.next)) (.cons (by repeat (first | exact Pick.here _ _ _ | apply Pick.next)) (.cons (by repeat (first | exact Pick.here _ _ _ | apply Pick.next)) (.nil _)))) (c_spec_l1Cur_vcpuOf _ _ hb _ _ (by omega) (by omega) _ (by assumption) _ _) trivial ?_)
          rintro _ _ ⟨m3, a3, s3, rfl, ha3, hc3, rfl⟩
          skip
          refine aops_cons rfl (w_pure rfl (p_build (cells := [_, _]) z_37 pl_37 rfl rfl) ?_)
          refine aops_cons rfl (w_lit_vM eHallOp [⟨_, _⟩] rfl el_28 rfl rfl rfl rfl rfl ?_)
          refine aops_cons rfl (w_appendM eHallOp rfl el_28 rfl rfl (by repeat (first | exact Pick.here _ _ _ | apply Pick.next)) rfl (.sl _) (fun _ => rfl) (fun _ => rfl) (by simp; omega) (by simp; omega) trivial fun b4 => ?_)
          refine aops_cons rfl (w_pure rfl (p_assign rfl) ?_)
          refine aops_nil ?_
          refine a_region ?_
          refine aops_cons rfl (w_pure rfl (p_move rfl) ?_)
          refine aops_cons rfl (w_pure rfl (p_sub' rfl rfl ⟨by omega, by omega⟩) ?_)
          refine aops_cons rfl (w_pure rfl (p_assign rfl) ?_)
          refine aops_nil ?_
          refine ⟨(_, _, _, _, _), _, ?_, ?_, (by repeat (first | exact Knows.nil | refine Knows.cons (by rfl) ?_)), (by repeat (first | exact Back.refl _ _ | refine Back.cons (by rfl) ?_)), (by repeat (first | exact Picks.nil _ | exact Pick.here _ _ _ | apply Pick.next | apply Picks.cons))⟩
          · refine ⟨by first | omega | (simp; omega), by omega, by omega, by first | omega | (simp; omega)⟩
          · (try dsimp only); omega
        · (try simp only [Bool.not_eq_true', Bool.not_eq_false', Bool.not_eq_true, Bool.not_eq_false, decide_eq_true_eq, decide_eq_false_iff_not, List.length_map, List.length_range] at h8)
          refine a_skip ?_
          refine a_region ?_
          refine aops_cons rfl (w_pure rfl (p_move rfl) ?_)
          refine aops_cons rfl (w_pure rfl (p_sub' rfl rfl ⟨by omega, by omega⟩) ?_)
          refine aops_cons rfl (w_pure rfl (p_assign rfl) ?_)
          refine aops_nil ?_
          refine ⟨(_, _, _, _, _), _, ?_, ?_, (by repeat (first | exact Knows.nil | refine Knows.cons (by rfl) ?_)), (by repeat (first | exact Back.refl _ _ | refine Back.cons (by rfl) ?_)), (by repeat (first | exact Picks.nil _ | exact Pick.here _ _ _ | apply Pick.next | apply Picks.cons))⟩
          · refine ⟨by first | omega | (simp; omega), by omega, by omega, by first | omega | (simp; omega)⟩
          · (try dsimp only); omega
  · (try simp only [Bool.not_eq_true', Bool.not_eq_false', Bool.not_eq_true, Bool.not_eq_false, decide_eq_true_eq, decide_eq_false_iff_not, List.length_map, List.length_range] at h2)
    refine a_exit ?_
    refine a_seq ?_
    refine a_seq ?_
    refine a_region ?_
    refine aops_cons rfl (w_pure rfl (p_move rfl) ?_)
    refine aops_cons rfl (w_callM0 rfl rfl rfl cl_60 (.cons (by repeat (first | exact Pick.here _ _ _ | apply Pick.next)) (.nil _)) (c_spec_l1Cur_pick _ _ hb _ _ (by omega) (by omega) _ (by first | omega | (simp; done) | (simp; omega))) trivial ?_)
    rintro _ _ ⟨m2, a2, s2, rfl, hm2, ha2, hc2, rfl⟩
    (try simp only [List.length_map] at hm2)
    refine aops_nil ?_
    refine a_block ?_
    refine a_seq ?_
    refine a_region ?_
    refine aops_cons rfl (w_pure rfl (p_eql rfl rfl) ?_)
    refine aops_cons rfl (w_pure rfl (p_assign rfl) ?_)
    refine aops_nil ?_
    first | refine a_cond_d rfl (fun h9 => ?_) (fun h10 => ?_) | refine a_cond_n rfl (fun h9 => ?_) (fun h10 => ?_) | refine a_cond_nb rfl (fun h9 => ?_) (fun h10 => ?_) | refine a_cond rfl (fun h9 => ?_) (fun h10 => ?_)
    · (try simp only [Bool.not_eq_true', Bool.not_eq_false', Bool.not_eq_true, Bool.not_eq_false, decide_eq_true_eq, decide_eq_false_iff_not, List.length_map, List.length_range] at h9)
      refine a_region ?_
      refine aops_cons rfl (w_pure rfl (p_move rfl) ?_)
      refine aops_cons rfl (w_pure rfl (p_move rfl) ?_)
      refine aops_cons rfl (w_lit_vM eInt [_, _, _] rfl el_31 rfl rfl rfl rfl rfl ?_)
      refine aops_cons rfl (w_callM0 rfl rfl rfl cl_61 (.cons (by repeat (first | exact Pick.here _ _ _ | apply Pick.next)) (.nil _)) (c_spec_l1Cur_among _ _ hb _ _ (by omega) (by omega) _ (by first | (simp; done) | (simp; omega)) (0) 4 (by first | (intro x hx; simp only [List.mem_cons, List.not_mem_nil, or_false] at hx; omega) | (intro x hx; have hx := List.mem_of_mem_take hx; simp only [List.mem_cons, List.not_mem_nil, or_false] at hx; omega))) trivial ?_)
      rintro _ _ ⟨m3, a3, s3, rfl, hm3, ha3, hc3, rfl⟩
      (try simp only [List.length_map] at hm3)
      refine aops_cons rfl (w_pure rfl (p_move rfl) ?_)
      refine aops_cons rfl (w_callM0 rfl rfl rfl cl_60 (.cons (by repeat (first | exact Pick.here _ _ _ | apply Pick.next)) (.nil _)) (c_spec_l1Cur_pick _ _ hb _ _ (by omega) (by omega) _ (by first | omega | (simp; done) | (simp; omega))) trivial ?_)
      rintro _ _ ⟨m4, a4, s4, rfl, hm4, ha4, hc4, rfl⟩
      (try simp only [List.length_map] at hm4)
      refine aops_cons rfl (w_pure rfl (p_build (cells := [_, _]) z_37 pl_37 rfl rfl) ?_)
      refine aops_cons rfl (w_lit_vM eHallOp [⟨_, _⟩] rfl el_28 rfl rfl rfl rfl rfl ?_)
      refine aops_cons rfl (w_appendM eHallOp rfl el_28 rfl rfl (by repeat (first | exact Pick.here _ _ _ | apply Pick.next)) rfl (.sl _) (fun _ => rfl) (fun _ => rfl) (by simp; omega) (by simp; omega) trivial fun b5 => ?_)
      refine aops_cons rfl (w_pure rfl (p_assign rfl) ?_)
      refine aops_nil ?_
      refine a_seq ?_
      refine a_region ?_
      refine aops_cons rfl (w_pure rfl (p_move rfl) ?_)
      refine aops_cons rfl (w_pure rfl (p_assign rfl) ?_)
      refine aops_nil ?_
      refine a_ret ?_
      refine ret_ok (hands1 rfl (.tmp rfl)) (st' := [(q, _), (c1, _), (c2, _), (b5, _)]) (.cons (by repeat (first | exact Pick.here _ _ _ | apply Pick.next)) (.cons (by repeat (first | exact Pick.here _ _ _ | apply Pick.next)) (.cons (by repeat (first | exact Pick.here _ _ _ | apply Pick.next)) (.cons (by repeat (first | exact Pick.here _ _ _ | apply Pick.next)) (.nil _))))) ?_
      exact ⟨_, _, _, _, rfl, (by first | omega | (simp; omega)), by omega, by omega, rfl⟩
    · (try simp only [Bool.not_eq_true', Bool.not_eq_false', Bool.not_eq_true, Bool.not_eq_false, decide_eq_true_eq, decide_eq_false_iff_not, List.length_map, List.length_range] at h10)
      refine a_seq ?_
      refine a_region ?_
      refine aops_cons rfl (w_pure rfl (p_eql rfl rfl) ?_)
      refine aops_cons rfl (w_pure rfl (p_assign rfl) ?_)
      refine aops_nil ?_
      first | refine a_cond_d rfl (fun h11 => ?_) (fun h12 => ?_) | refine a_cond_n rfl (fun h11 => ?_) (fun h12 => ?_) | refine a_cond_nb rfl (fun h11 => ?_) (fun h12 => ?_) | refine a_cond rfl (fun h11 => ?_) (fun h12 => ?_)
      · (try simp only [Bool.not_eq_true', Bool.not_eq_false', Bool.not_eq_true, Bool.not_eq_false, decide_eq_true_eq, decide_eq_false_iff_not, List.length_map, List.length_range] at h11)
        refine a_block ?_
        refine a_loop (ι := Nat × List HallOp × Int × Int) (fun ⟨b, os, ka, ks⟩ => os.length ≤ 31 ∧ a ≤ ka ∧ ka ≤ a + 150 + 2 * os.length) (fun ⟨b, os, ka, ks⟩ => [(5, .own 2 b 0 os.length)]) (fun ⟨b, os, ka, ks⟩ => [(q, curE bs ka ks), (c1, .arr 56 5 (p.list.map eVcpu)), (c2, .arr 4 1 (p.events.map eBool)), (b, .arr 37 2 (os.map eHallOp))]) (fun ⟨b, os, ka, ks⟩ => 32 - os.length) (b, os, a2, s2) ⟨by omega, by omega, by omega⟩ (by repeat (first | exact Knows.nil | refine Knows.cons (by rfl) ?_)) (by repeat (first | exact Picks.nil _ | exact Pick.here _ _ _ | apply Pick.next | apply Picks.cons)) ?_
        rintro ⟨c, ps, ja, js⟩ ⟨hj1, hj2, hj3⟩
        skip
        refine a_seq ?_
        refine a_seq ?_
        refine a_region ?_
        refine aops_cons rfl (w_pure rfl (p_move rfl) ?_)
        refine aops_cons rfl (w_pure rfl (p_len sl_28 rfl rfl) ?_)
        refine aops_cons rfl (w_pure rfl (p_move rfl) ?_)
        refine aops_cons rfl (w_callM0 rfl rfl rfl cl_60 (.cons (by repeat (first | exact Pick.here _ _ _ | apply Pick.next)) (.nil _)) (c_spec_l1Cur_pick _ _ hb _ _ (by omega) (by omega) _ (by first | omega | (simp; done) | (simp; omega))) trivial ?_)
        rintro _ _ ⟨m3, a3, s3, rfl, hm3, ha3, hc3, rfl⟩
        (try simp only [List.length_map] at hm3)
        refine aops_cons rfl (w_pure rfl (p_add' rfl rfl ⟨by omega, by omega⟩) ?_)
        refine aops_cons rfl (w_pure rfl (p_lss rfl rfl) ?_)
        refine aops_nil ?_
        first | refine a_cond_d rfl (fun h13 => ?_) (fun h14 => ?_) | refine a_cond_n rfl (fun h13 => ?_) (fun h14 => ?_) | refine a_cond_nb rfl (fun h13 => ?_) (fun h14 => ?_) | refine a_cond rfl (fun h13 => ?_) (fun h14 => ?_)
        · (try simp only [Bool.not_eq_true', Bool.not_eq_false', Bool.not_eq_true, Bool.not_eq_false, decide_eq_true_eq, decide_eq_false_iff_not, List.length_map, List.length_range] at h13)
          refine a_skip ?_
          refine a_block ?_
          refine a_region ?_
          refine aops_cons rfl (w_pure rfl (p_move rfl) ?_)
          refine aops_cons rfl (w_pure rfl (p_build (cells := [_, _]) z_37 pl_37 rfl rfl) ?_)
          refine aops_cons rfl (w_lit_vM eHallOp [⟨_, _⟩] rfl el_28 rfl rfl rfl rfl rfl ?_)
          refine aops_cons rfl (w_appendM eHallOp rfl el_28 rfl rfl (by repeat (first | exact Pick.here _ _ _ | apply Pick.next)) rfl (.sl _) (fun _ => rfl) (fun _ => rfl) (by simp; omega) (by simp; omega) trivial fun b6 => ?_)
          refine aops_cons rfl (w_pure rfl (p_assign rfl) ?_)
          refine aops_nil ?_
          refine ⟨(_, _, _, _), _, ?_, ?_, (by repeat (first | exact Knows.nil | refine Knows.cons (by rfl) ?_)), (by repeat (first | exact Back.refl _ _ | refine Back.cons (by rfl) ?_)), (by repeat (first | exact Picks.nil _ | exact Pick.here _ _ _ | apply Pick.next | apply Picks.cons))⟩
          · refine ⟨by first | omega | (simp; omega), by omega, by first | omega | (simp; omega)⟩
          · simp; omega
        · (try simp only [Bool.not_eq_true', Bool.not_eq_false', Bool.not_eq_true, Bool.not_eq_false, decide_eq_true_eq, decide_eq_false_iff_not, List.length_map, List.length_range] at h14)
          refine a_exit ?_
          refine a_seq ?_
          refine a_region ?_
          refine aops_cons rfl (w_pure rfl (p_move rfl) ?_)
          refine aops_cons rfl (w_pure rfl (p_assign rfl) ?_)
          refine aops_nil ?_
          refine a_ret ?_
          refine ret_ok (hands1 rfl (.tmp rfl)) (st' := [(q, _), (c1, _), (c2, _), (c, _)]) (.cons (by repeat (first | exact Pick.here _ _ _ | apply Pick.next)) (.cons (by repeat (first | exact Pick.here _ _ _ | apply Pick.next)) (.cons (by repeat (first | exact Pick.here _ _ _ | apply Pick.next)) (.cons (by repeat (first | exact Pick.here _ _ _ | apply Pick.next)) (.nil _))))) ?_
          exact ⟨_, _, _, _, rfl, (by first | omega | (simp; omega)), by omega, by omega, rfl⟩
      · (try simp only [Bool.not_eq_true', Bool.not_eq_false', Bool.not_eq_true, Bool.not_eq_false, decide_eq_true_eq, decide_eq_false_iff_not, List.length_map, List.length_range] at h12)
        refine a_skip ?_
        refine a_seq ?_
        refine a_region ?_
        refine aops_cons rfl (w_pure rfl (p_move rfl) ?_)
        refine aops_cons rfl (w_pure rfl (p_assign rfl) ?_)
        refine aops_nil ?_
        refine a_ret ?_
        refine ret_ok (hands1 rfl (.tmp rfl)) (st' := [(q, _), (c1, _), (c2, _), (b, _)]) (.cons (by repeat (first | exact Pick.here _ _ _ | apply Pick.next)) (.cons (by repeat (first | exact Pick.here _ _ _ | apply Pick.next)) (.cons (by repeat (first | exact Pick.here _ _ _ | apply Pick.next)) (.cons (by repeat (first | exact Pick.here _ _ _ | apply Pick.next)) (.nil _))))) ?_
        exact ⟨_, _, _, _, rfl, (by first | omega | (simp; omega)), by omega, by omega, rfl⟩

theorem co_spec_DrawRunHall (bs : List Int) (hb : Bytes bs) : ACalls Try.prog 6 [.sl (bs.map eByte)] [] (fun r st => ∃ (b1 : Nat) (b2 : Nat) (b3 : Nat) (p : Hall) (os : List HallOp), r = .tup [.agg [.own 5 b1 0 p.list.length, .own 1 b2 0 p.events.length], .own 2 b3 0 os.length] ∧ DrawnH p ∧ os.length ≤ 31 ∧ st = [(b1, .arr 56 5 (p.list.map eVcpu)), (b2, .arr 4 1 (p.events.map eBool)), (b3, .arr 37 2 (os.map eHallOp))]) := by
  refine a_enter Try.func6 rfl rfl (fun w0 M0 => ?_)
  refine a_seq ?_
  refine a_region ?_
  refine aops_cons rfl (w_alloc rfl z_27 fun b1 => ?_)
  refine aops_cons rfl (w_pure rfl (p_assign rfl) ?_)
  refine aops_nil ?_
  refine a_seq ?_
  refine a_region ?_
  refine aops_cons rfl (w_pure rfl (p_move rfl) ?_)
  refine aops_cons rfl (w_pure rfl (p_build (cells := [_, _, _]) z_66 pl_66 rfl rfl) ?_)
  refine aops_cons rfl (w_box rfl rfl rfl fun b2 => ?_)
  refine aops_cons rfl (w_pure rfl (p_assign rfl) ?_)
  refine aops_nil ?_
  refine a_seq ?_
  refine a_region ?_
  refine aops_cons rfl (w_pure rfl (p_move rfl) ?_)
  refine aops_cons rfl (w_callM0 rfl rfl rfl cl_31 (.cons (by repeat (first | exact Pick.here _ _ _ | apply Pick.next)) (.nil _)) (c_spec_l1Cur_hall _ _ hb _ _ (by omega) (by omega) ) trivial ?_)
  rintro _ _ ⟨b3, b4, p1, a1, s1, rfl, hd1, ha1, hc1, rfl⟩
  skip
  refine aops_cons rfl (w_alloc rfl z_27 fun b5 => ?_)
  refine aops_cons rfl (w_store (cells' := [_, _]) rfl rfl rfl (by repeat (first | exact Pick.here _ _ _ | apply Pick.next)) cn_27 (by rfl) (by rfl) (by rfl) trivial ?_)
  refine aops_nil ?_
  refine a_seq ?_
  refine a_draw [b2, b1, b3, b4] (by kernel_rfl) ?_
  show ADraw _ _ _ _ _ _ 6 _ _ _ _
  refine d_load 0 rfl (by kernel_rfl) (by kernel_rfl) (by kernel_rfl) rfl (p_load_box_all ag_27 rfl (by repeat (first | exact Pick.here _ _ _ | apply Pick.next)) (by rfl) (by simp [keys])) ?_
  refine d_take 1 rfl (by kernel_rfl) (by kernel_rfl) (by kernel_rfl) rfl (p_move rfl) ?_
  refine d_load 2 rfl (by kernel_rfl) (by kernel_rfl) (by kernel_rfl) rfl (p_load_box_all ag_27 rfl (by repeat (first | exact Pick.here _ _ _ | apply Pick.next)) (by rfl) (by simp [keys])) ?_
  refine draw_all [3] (by kernel_rfl) (by simp) ?_
  refine all_cons rfl rfl ?_ ?_
  · skip
    refine w_callM0 rfl rfl rfl cl_32 (.cons (by repeat (first | exact Pick.here _ _ _ | apply Pick.next)) (.cons (by repeat (first | exact Pick.here _ _ _ | apply Pick.next)) (.cons (by repeat (first | exact Pick.here _ _ _ | apply Pick.next)) (.nil _)))) (c_spec_l1Cur_hallOps _ _ hb _ _ (by omega) (by omega) _ (by assumption) _ _) (by first | (simp [InTs, keys]; done) | trivial) ?_
    rintro _ _ ⟨b6, os2, a2, s2, rfl, ho2, ha2, hc2, rfl⟩
    skip
    refine draw_all [4] (by kernel_rfl) (by simp) ?_
    refine all_cons rfl rfl ?_ ?_
    · skip
      refine w_store (cells' := [_, _]) rfl rfl rfl (by repeat (first | exact Pick.here _ _ _ | apply Pick.next)) cn_27 (by rfl) (by rfl) (by rfl) (by first | (refine .inl ?_; simp; done) | (refine .inr ?_; simp [keys]; done)) ?_
      refine d_take 5 rfl (by kernel_rfl) (by kernel_rfl) (by kernel_rfl) rfl (p_assign rfl) ?_
      refine draw_done (by kernel_rfl) ?_
      refine a_ret ?_
      refine ret_ok (hands2 rfl (.cell ag_27 rfl (by repeat (first | exact Pick.here _ _ _ | apply Pick.next)) (by rfl)) (.tmp rfl)) (st' := [(b3, _), (b4, _), (b6, _)]) (.cons (by repeat (first | exact Pick.here _ _ _ | apply Pick.next)) (.cons (by repeat (first | exact Pick.here _ _ _ | apply Pick.next)) (.cons (by repeat (first | exact Pick.here _ _ _ | apply Pick.next)) (.nil _)))) ?_
      exact ⟨_, _, _, _, _, rfl, hd1, ho2, rfl⟩
    exact all_nil
  exact all_nil

theorem c_spec_DrawRunHall (bs : List Int) (hb : Bytes bs) : ACalls Try.prog 6 [.sl (bs.map eByte)] [] (fun r st => (∃ (p : Hall) (os : List HallOp), r = .tup [.agg (eHall p), .sl (os.map eHallOp)] ∧ DrawnH p ∧ os.length ≤ 31) ∧ st = []) :=
  freezeE (co_spec_DrawRunHall bs hb) (by rintro _ _ ⟨b1, b2, b3, p, os, rfl, hx, ho, rfl⟩; exact ⟨_, (.tup (.cons (.agg (.cons (.own (by repeat (first | exact List.Mem.head _ | apply List.Mem.tail)) (List.length_map _)) (.cons (.own (by repeat (first | exact List.Mem.head _ | apply List.Mem.tail)) (List.length_map _)) .nil))) (.cons (.own (by repeat (first | exact List.Mem.head _ | apply List.Mem.tail)) (List.length_map _)) .nil))), p, os, rfl, hx, ho⟩)

theorem co_spec_DrawWakesOf (bs : List Int) (hb : Bytes bs) : ACalls Try.prog 14 [.sl (bs.map eByte)] [] (fun r st => ∃ (b1 : Nat) (b2 : Nat) (b3 : Nat) (p : Hall) (os : List HallOp) (m : Int), r = .tup [.agg [.own 5 b1 0 p.list.length, .own 1 b2 0 p.events.length], .own 2 b3 0 os.length, .int .i64 m] ∧ DrawnH p ∧ os.length ≤ 31 ∧ st = [(b1, .arr 56 5 (p.list.map eVcpu)), (b2, .arr 4 1 (p.events.map eBool)), (b3, .arr 37 2 (os.map eHallOp))]) := by
  refine a_enter Try.func14 rfl rfl (fun w0 M0 => ?_)
  refine a_seq ?_
  refine a_region ?_
  refine aops_cons rfl (w_alloc rfl z_27 fun b1 => ?_)
  refine aops_cons rfl (w_pure rfl (p_assign rfl) ?_)
  refine aops_cons rfl (w_pure rfl (p_assign rfl) ?_)
  refine aops_nil ?_
  refine a_seq ?_
  refine a_region ?_
  refine aops_cons rfl (w_pure rfl (p_move rfl) ?_)
  refine aops_cons rfl (w_pure rfl (p_build (cells := [_, _, _]) z_66 pl_66 rfl rfl) ?_)
  refine aops_cons rfl (w_box rfl rfl rfl fun b2 => ?_)
  refine aops_cons rfl (w_pure rfl (p_assign rfl) ?_)
  refine aops_nil ?_
  refine a_seq ?_
  refine a_region ?_
  refine aops_cons rfl (w_pure rfl (p_move rfl) ?_)
  refine aops_cons rfl (w_callM0 rfl rfl rfl cl_31 (.cons (by repeat (first | exact Pick.here _ _ _ | apply Pick.next)) (.nil _)) (c_spec_l1Cur_hall _ _ hb _ _ (by omega) (by omega) ) trivial ?_)
  rintro _ _ ⟨b3, b4, p1, a1, s1, rfl, hd1, ha1, hc1, rfl⟩
  skip
  refine aops_cons rfl (w_alloc rfl z_27 fun b5 => ?_)
  refine aops_cons rfl (w_store (cells' := [_, _]) rfl rfl rfl (by repeat (first | exact Pick.here _ _ _ | apply Pick.next)) cn_27 (by rfl) (by rfl) (by rfl) trivial ?_)
  refine aops_nil ?_
  refine a_seq ?_
  refine a_draw [b2, b1, b3, b4] (by kernel_rfl) ?_
  show ADraw _ _ _ _ _ _ 10 _ _ _ _
  refine d_load 0 rfl (by kernel_rfl) (by kernel_rfl) (by kernel_rfl) rfl (p_load_box_all ag_27 rfl (by repeat (first | exact Pick.here _ _ _ | apply Pick.next)) (by rfl) (by simp [keys])) ?_
  refine d_take 1 rfl (by kernel_rfl) (by kernel_rfl) (by kernel_rfl) rfl (p_move rfl) ?_
  refine d_load 2 rfl (by kernel_rfl) (by kernel_rfl) (by kernel_rfl) rfl (p_load_box_all ag_27 rfl (by repeat (first | exact Pick.here _ _ _ | apply Pick.next)) (by rfl) (by simp [keys])) ?_
  refine d_take 4 rfl (by kernel_rfl) (by kernel_rfl) (by kernel_rfl) rfl (p_move rfl) ?_
  refine d_load 5 rfl (by kernel_rfl) (by kernel_rfl) (by kernel_rfl) rfl (p_load_box_all ag_27 rfl (by repeat (first | exact Pick.here _ _ _ | apply Pick.next)) (by rfl) (by simp [keys])) ?_
  refine draw_all [3] (by kernel_rfl) (by simp) ?_
  refine all_cons rfl rfl ?_ ?_
  · skip
    refine w_callM0 rfl rfl rfl cl_32 (.cons (by repeat (first | exact Pick.here _ _ _ | apply Pick.next)) (.cons (by repeat (first | exact Pick.here _ _ _ | apply Pick.next)) (.cons (by repeat (first | exact Pick.here _ _ _ | apply Pick.next)) (.nil _)))) (c_spec_l1Cur_hallOps _ _ hb _ _ (by omega) (by omega) _ (by assumption) _ _) (by first | (simp [InTs, keys]; done) | trivial) ?_
    rintro _ _ ⟨b6, os2, a2, s2, rfl, ho2, ha2, hc2, rfl⟩
    skip
    refine draw_all [6] (by kernel_rfl) (by simp) ?_
    refine all_cons rfl rfl ?_ ?_
    · skip
      refine w_callM0 rfl rfl rfl cl_44 (.cons (by repeat (first | exact Pick.here _ _ _ | apply Pick.next)) (.cons (by repeat (first | exact Pick.here _ _ _ | apply Pick.next)) (.cons (by repeat (first | exact Pick.here _ _ _ | apply Pick.next)) (.nil _)))) (c_spec_l1Cur_vcpuOf _ _ hb _ _ (by omega) (by omega) _ (by assumption) _ _) (by first | (simp [InTs, keys]; done) | trivial) ?_
      rintro _ _ ⟨m3, a3, s3, rfl, ha3, hc3, rfl⟩
      skip
      refine draw_all [7] (by kernel_rfl) (by simp) ?_
      refine all_cons rfl rfl ?_ ?_
      · skip
        refine w_store (cells' := [_, _]) rfl rfl rfl (by repeat (first | exact Pick.here _ _ _ | apply Pick.next)) cn_27 (by rfl) (by rfl) (by rfl) (by first | (refine .inl ?_; simp; done) | (refine .inr ?_; simp [keys]; done)) ?_
        refine d_take 8 rfl (by kernel_rfl) (by kernel_rfl) (by kernel_rfl) rfl (p_assign rfl) ?_
        refine d_take 9 rfl (by kernel_rfl) (by kernel_rfl) (by kernel_rfl) rfl (p_assign rfl) ?_
        refine draw_done (by kernel_rfl) ?_
        refine a_ret ?_
        refine ret_ok (hands3 rfl (.cell ag_27 rfl (by repeat (first | exact Pick.here _ _ _ | apply Pick.next)) (by rfl)) (.tmp rfl) (.tmp rfl)) (st' := [(b3, _), (b4, _), (b6, _)]) (.cons (by repeat (first | exact Pick.here _ _ _ | apply Pick.next)) (.cons (by repeat (first | exact Pick.here _ _ _ | apply Pick.next)) (.cons (by repeat (first | exact Pick.here _ _ _ | apply Pick.next)) (.nil _)))) ?_
        exact ⟨_, _, _, _, _, _, rfl, hd1, ho2, rfl⟩
      exact all_nil
    exact all_nil
  exact all_nil

theorem c_spec_DrawWakesOf (bs : List Int) (hb : Bytes bs) : ACalls Try.prog 14 [.sl (bs.map eByte)] [] (fun r st => (∃ (p : Hall) (os : List HallOp) (m : Int), r = .tup [.agg (eHall p), .sl (os.map eHallOp), .int .i64 m] ∧ DrawnH p ∧ os.length ≤ 31) ∧ st = []) :=
  freezeE (co_spec_DrawWakesOf bs hb) (by rintro _ _ ⟨b1, b2, b3, p, os, m, rfl, hx, ho, rfl⟩; exact ⟨_, (.tup (.cons (.agg (.cons (.own (by repeat (first | exact List.Mem.head _ | apply List.Mem.tail)) (List.length_map _)) (.cons (.own (by repeat (first | exact List.Mem.head _ | apply List.Mem.tail)) (List.length_map _)) .nil))) (.cons (.own (by repeat (first | exact List.Mem.head _ | apply List.Mem.tail)) (List.length_map _)) (.cons (.refl _) .nil)))), p, os, m, rfl, hx, ho⟩)

theorem cv_spec_RunHall (h : Hall) (hn : SmallHall h) (ops : List HallOp) (hm : ops.length ≤ 1048576) : ACalls Try.prog 8 [.agg (eHall h), .sl (ops.map eHallOp)] [] (Ret (.tup [.agg (eHall (pickH (GoodOps h ops) (fin h ops 0).hall)), .sl ((pickL (GoodOps h ops) (fin h ops 0).ticks).map eInt), .bool (decide (GoodOps h ops))])) := by
  by_cases hA : GoodOps h ops
  · rw [pickH_y hA, pickL_y hA, decide_eq_true hA]
    exact cy_spec_RunHall h hn ops hm hA
  · rw [pickH_n hA, pickL_n hA, decide_eq_false hA]
    exact (cn_spec_RunHall h hn ops hm hA).freeze (by rintro _ _ ⟨rfl, rfl⟩; first | exact (.tup (.cons (.agg (.cons .nil (.cons .nil .nil))) (.cons .nil (.cons (.refl _) .nil)))) | exact (.tup (.cons (.agg (.cons .nil (.cons .nil .nil))) (.cons (.refl _) (.cons (.refl _) .nil)))))

theorem cv_impl_RunHall (h : Hall) (hn : SmallHall h) (ops : List HallOp) (hm : ops.length ≤ 1048576) : ACalls Try.prog 7 [.agg (eHall h), .sl (ops.map eHallOp)] [] (Ret (.tup [.agg (eHall (pickH (GoodOps h ops) (fin h ops 0).hall)), .sl ((pickL (GoodOps h ops) (fin h ops 0).ticks).map eInt), .bool (decide (GoodOps h ops))])) := by
  by_cases hA : GoodOps h ops
  · rw [pickH_y hA, pickL_y hA, decide_eq_true hA]
    exact cf_impl_RunHall h hn ops hm hA
  · rw [pickH_n hA, pickL_n hA, decide_eq_false hA]
    exact (cn_impl_RunHall h hn ops hm hA).freeze (by rintro _ _ ⟨rfl, rfl⟩; first | exact (.tup (.cons (.agg (.cons .nil (.cons .nil .nil))) (.cons .nil (.cons (.refl _) .nil)))) | exact (.tup (.cons (.agg (.cons .nil (.cons .nil .nil))) (.cons (.refl _) (.cons (.refl _) .nil)))))

theorem cv_spec_WakesOf (h : Hall) (hn : SmallHall h) (ops : List HallOp) (hm : ops.length ≤ 1048576) (id : Int) : ACalls Try.prog 16 [.agg (eHall h), .sl (ops.map eHallOp), .int .i64 id] [] (Ret (.tup [.int .i64 (pickI (GoodWk h ops id) (fin h ops id).woken), .int .i64 (pickI (GoodWk h ops id) (fin h ops id).takes), .bool (decide (GoodWk h ops id))])) := by
  by_cases hA : GoodWk h ops id
  · rw [pickI_y hA, pickI_y hA, decide_eq_true hA]
    exact cy_spec_WakesOf h hn ops hm id hA
  · rw [pickI_n hA, pickI_n hA, decide_eq_false hA]
    exact cn_spec_WakesOf h hn ops hm id hA

theorem cv_impl_WakesOf (h : Hall) (hn : SmallHall h) (ops : List HallOp) (hm : ops.length ≤ 1048576) (id : Int) : ACalls Try.prog 15 [.agg (eHall h), .sl (ops.map eHallOp), .int .i64 id] [] (Ret (.tup [.int .i64 (pickI (GoodWk h ops id) (fin h ops id).woken), .int .i64 (pickI (GoodWk h ops id) (fin h ops id).takes), .bool (decide (GoodWk h ops id))])) := by
  by_cases hA : GoodWk h ops id
  · rw [pickI_y hA, pickI_y hA, decide_eq_true hA]
    exact cy_impl_WakesOf h hn ops hm id hA
  · rw [pickI_n hA, pickI_n hA, decide_eq_false hA]
    exact cn_impl_WakesOf h hn ops hm id hA

end Go.Proofs.Ytdlhpomgmlcfoaa
