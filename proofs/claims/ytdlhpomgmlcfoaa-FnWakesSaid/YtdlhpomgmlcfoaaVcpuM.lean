/-
  The walks of this part: each theorem is the contract of one function. Condition: none but those that it names.
-/
import Derived.Test.YtdlhpomgmlcfoaaVcpuMd
import Derived.Test.YtdlhpomgmlcfoaaVcpuMF
import Derived.Test.YtdlhpomgmlcfoaaVcpuA
import Derived.Test.YtdlhpomgmlcfoaaVcpuB
import Derived.Test.YtdlhpomgmlcfoaaVcpuC
import Derived.Test.YtdlhpomgmlcfoaaVcpuG
import Derived.Test.YtdlhpomgmlcfoaaVcpuH
import Derived.Test.YtdlhpomgmlcfoaaVcpuI
import Derived.Test.YtdlhpomgmlcfoaaVcpuK
import Derived.Test.YtdlhpomgmlcfoaaVcpuL
namespace Go.Proofs.Ytdlhpomgmlcfoaa
open Go Go.Fw Go.Hv
attribute [local irreducible] awp Aops Aop ADraw ADrawAll ACalls
set_option maxRecDepth 4000
set_option linter.unusedSimpArgs false
set_option linter.unusedVariables false

set_option maxHeartbeats 4000000 in
theorem c_laws_FnWakes (bs : List Int) (_hc : (∀ x ∈ bs, 0 ≤ x ∧ x ≤ 255) ∧ bs.length ≤ maxLen) : ACalls Try.prog 3 [.sl (bs.map eByte)] [] (Ret (.bool true)) := by
  have hm : bs.length ≤ 9223372036854775807 := _hc.2
  refine a_enter Try.func3 rfl rfl (fun w0 M0 => ?_)
  refine a_seq ?_
  refine a_region ?_
  refine aops_cons rfl (w_pure rfl (p_assign rfl) ?_)
  refine aops_nil ?_
  refine a_seq ?_
  refine a_seq ?_
  refine a_region ?_
  refine aops_cons rfl (w_pure rfl (p_move rfl) ?_)
  refine aops_cons rfl (w_callR rfl rfl rfl cl_5 (c_laws_vBig _ (by omega)) ?_)
  refine aops_nil ?_
  first | refine a_cond_d rfl (fun h1 => ?_) (fun h2 => ?_) | refine a_cond_n rfl (fun h1 => ?_) (fun h2 => ?_) | refine a_cond_nb rfl (fun h1 => ?_) (fun h2 => ?_) | refine a_cond rfl (fun h1 => ?_) (fun h2 => ?_)
  · (try simp only [Bool.not_eq_true', Bool.not_eq_false', Bool.not_eq_true, Bool.not_eq_false, decide_eq_true_eq, decide_eq_false_iff_not, List.length_map, List.length_range] at h1)
    refine a_seq ?_
    refine a_region ?_
    refine aops_cons rfl (w_pure rfl (p_assign rfl) ?_)
    refine aops_nil ?_
    refine a_ret ?_
    refine ret_ok (hands1 rfl (.tmp rfl)) (.nil _) ?_
    first | exact ⟨rfl, rfl⟩ | (exfalso; omega)
  · (try simp only [Bool.not_eq_true', Bool.not_eq_false', Bool.not_eq_true, Bool.not_eq_false, decide_eq_true_eq, decide_eq_false_iff_not, List.length_map, List.length_range] at h2)
    refine a_skip ?_
    refine a_seq ?_
    have hb : Bytes bs := ⟨by omega, _hc.1⟩
    refine a_region ?_
    refine aops_cons rfl (w_pure rfl (p_move rfl) ?_)
    refine aops_cons rfl (w_call rfl rfl rfl cl_6 (c_spec_DrawRunHall bs hb) ?_)
    rintro _ _ ⟨⟨p1, os1, rfl, hx1, ho1⟩, rfl⟩
    skip
    refine aops_cons rfl (w_pure rfl (p_move rfl) ?_)
    refine aops_cons rfl (w_pure rfl (p_extract rfl rfl) ?_)
    refine aops_cons rfl (w_pure rfl (p_extract rfl rfl) ?_)
    refine aops_cons rfl (w_alloc rfl z_27 fun b1 => ?_)
    refine aops_cons rfl (w_store (cells' := [_, _]) rfl rfl rfl (by repeat (first | exact Pick.here _ _ _ | apply Pick.next)) cn_27 (by rfl) (by rfl) (by rfl) trivial ?_)
    refine aops_cons rfl (w_pure rfl (p_assign rfl) ?_)
    refine aops_nil ?_
    refine a_seq ?_
    refine a_region ?_
    refine aops_cons rfl (w_pure rfl (p_load_box_all ag_27 rfl (by repeat (first | exact Pick.here _ _ _ | apply Pick.next)) (by rfl) noX) ?_)
    refine aops_cons rfl (w_pure rfl (p_move rfl) ?_)
    refine aops_cons rfl (w_callR rfl rfl rfl cl_7 (cv_impl_RunHall p1 hx1.small os1 (by omega)) ?_)
    refine aops_cons rfl (w_pure rfl (p_move rfl) ?_)
    refine aops_cons rfl (w_pure rfl (p_extract rfl rfl) ?_)
    refine aops_cons rfl (w_pure rfl (p_extract rfl rfl) ?_)
    refine aops_cons rfl (w_pure rfl (p_extract rfl rfl) ?_)
    refine aops_cons rfl (w_alloc rfl z_27 fun b2 => ?_)
    refine aops_cons rfl (w_store (cells' := [_, _]) rfl rfl rfl (by repeat (first | exact Pick.here _ _ _ | apply Pick.next)) cn_27 (by rfl) (by rfl) (by rfl) trivial ?_)
    refine aops_cons rfl (w_pure rfl (p_assign rfl) ?_)
    refine aops_cons rfl (w_pure rfl (p_assign rfl) ?_)
    refine aops_nil ?_
    refine a_seq ?_
    refine a_seq ?_
    refine a_region ?_
    refine aops_cons rfl (w_pure rfl (p_load_box_all ag_27 rfl (by repeat (first | exact Pick.here _ _ _ | apply Pick.next)) (by rfl) noX) ?_)
    refine aops_cons rfl (w_pure rfl (p_move rfl) ?_)
    refine aops_cons rfl (w_callR rfl rfl rfl cl_8 (cv_spec_RunHall p1 hx1.small os1 (by omega)) ?_)
    refine aops_cons rfl (w_pure rfl (p_move rfl) ?_)
    refine aops_cons rfl (w_pure rfl (p_extract rfl rfl) ?_)
    refine aops_cons rfl (w_pure rfl (p_extract rfl rfl) ?_)
    refine aops_cons rfl (w_pure rfl (p_extract rfl rfl) ?_)
    refine aops_cons rfl (w_alloc rfl z_27 fun b3 => ?_)
    refine aops_cons rfl (w_store (cells' := [_, _]) rfl rfl rfl (by repeat (first | exact Pick.here _ _ _ | apply Pick.next)) cn_27 (by rfl) (by rfl) (by rfl) trivial ?_)
    refine aops_cons rfl (w_pure rfl (p_assign rfl) ?_)
    refine aops_cons rfl (w_pure rfl (p_assign rfl) ?_)
    refine aops_nil ?_
    refine a_seq ?_
    refine a_region ?_
    refine aops_cons rfl (w_pure rfl (p_move rfl) ?_)
    refine aops_cons rfl (w_pure rfl (p_move rfl) ?_)
    refine aops_cons rfl (w_pure rfl (p_neq_bsame um_4 rfl rfl) ?_)
    refine aops_cons rfl (w_pure rfl (p_move rfl) ?_)
    refine aops_guard_t rfl rfl rfl (w_pure rfl (p_move rfl) ?_)
    refine aops_guard_t rfl rfl rfl (w_pure rfl (p_move rfl) ?_)
    refine aops_guard_t rfl rfl rfl (w_callR rfl rfl rfl cl_9 (c_laws_vInts (pickL (GoodOps p1 os1) (fin p1 os1 0).ticks) (pickL_small (fun h => small_ticks h))) ?_)
    refine aops_guard_t rfl rfl rfl (w_pure rfl (p_not rfl) ?_)
    refine aops_cons rfl (w_pure rfl (p_pick_f rfl rfl) ?_)
    refine aops_cons rfl (w_pure rfl (p_move rfl) ?_)
    refine aops_guard_t rfl rfl rfl (w_pure rfl (p_load_box_all ag_27 rfl (by repeat (first | exact Pick.here _ _ _ | apply Pick.next)) (by rfl) noX) ?_)
    refine aops_guard_t rfl rfl rfl (w_pure rfl (p_load_box_all ag_27 rfl (by repeat (first | exact Pick.here _ _ _ | apply Pick.next)) (by rfl) noX) ?_)
    refine aops_guard_t rfl rfl rfl (w_callR rfl rfl rfl cl_10 (c_laws_vHall (pickH (GoodOps p1 os1) (fin p1 os1 0).hall) (pickH_small (fun h => small_fin h))) ?_)
    refine aops_guard_t rfl rfl rfl (w_pure rfl (p_not rfl) ?_)
    refine aops_cons rfl (w_pure rfl (p_pick_f rfl rfl) ?_)
    refine aops_nil ?_
    refine a_cond_f rfl ?_
    refine a_skip ?_
    refine a_seq_join (ι := Unit) (fun _ => True) (fun _ => []) (fun _ => []) (old := []) (by repeat (first | exact Picks.nil _ | exact Pick.here _ _ _ | apply Pick.next | apply Picks.cons)) ?_ ?_
    · skip
      refine a_seq ?_
      refine a_region ?_
      refine aops_cons rfl (w_pure rfl (p_move rfl) ?_)
      refine aops_nil ?_
      first | refine a_cond_d rfl (fun h3 => ?_) (fun h4 => ?_) | refine a_cond_n rfl (fun h3 => ?_) (fun h4 => ?_) | refine a_cond_nb rfl (fun h3 => ?_) (fun h4 => ?_) | refine a_cond rfl (fun h3 => ?_) (fun h4 => ?_)
      · (try simp only [Bool.not_eq_true', Bool.not_eq_false', Bool.not_eq_true, Bool.not_eq_false, decide_eq_true_eq, decide_eq_false_iff_not, List.length_map, List.length_range] at h3)
        refine a_seq ?_
        have hk : GoodOps p1 os1 := (by assumption)
        rw [pickH_y hk, pickL_y hk]
        have hko := hk.2.1
        refine a_region ?_
        refine aops_cons rfl (w_pure rfl (p_load_box_all ag_27 rfl (by repeat (first | exact Pick.here _ _ _ | apply Pick.next)) (by rfl) noX) ?_)
        refine aops_cons rfl (w_litM eInt [] rfl el_31 rfl rfl rfl rfl rfl fun b4 => ?_)
        refine aops_cons rfl (w_alloc rfl z_27 fun b5 => ?_)
        refine aops_cons rfl (w_store (cells' := [_, _]) rfl rfl rfl (by repeat (first | exact Pick.here _ _ _ | apply Pick.next)) cn_27 (by rfl) (by rfl) (by rfl) trivial ?_)
        refine aops_cons rfl (w_pure rfl (p_assign rfl) ?_)
        refine aops_nil ?_
        refine a_seq ?_
        refine a_seq ?_
        refine a_region ?_
        refine aops_cons rfl (w_pure rfl (p_assign rfl) ?_)
        refine aops_nil ?_
        refine a_block ?_
        refine a_loop (ι := Nat × Nat × Hall × List Int) (fun ⟨k, b, g, tk⟩ => k ≤ os1.length ∧ WInv p1 os1 k g tk) (fun ⟨k, b, g, tk⟩ => [(13, .int .i64 (k : Int)), (12, .own 1 b 0 tk.length)]) (fun ⟨k, b, g, tk⟩ => [(b5, .box [.sl (g.list.map eVcpu), .sl (g.events.map eBool)]), (b, .arr 3 1 (tk.map eInt))]) (fun ⟨k, b, g, tk⟩ => os1.length - k) (0, b4, p1, []) ⟨Nat.zero_le _, WInv.zero⟩ (by repeat (first | exact Knows.nil | refine Knows.cons (by rfl) ?_)) (by repeat (first | exact Picks.nil _ | exact Pick.here _ _ _ | apply Pick.next | apply Picks.cons)) ?_
        rintro ⟨k, b, g, tk⟩ ⟨hi, hW⟩
        replace hW : WInv p1 os1 k g tk := hW; replace hi : k ≤ os1.length := hi; have hti := hW.tl hk hi; have hko := hk.2.1
        refine a_seq ?_
        refine a_seq ?_
        refine a_region ?_
        refine aops_cons rfl (w_pure rfl (p_move rfl) ?_)
        refine aops_cons rfl (w_pure rfl (p_move rfl) ?_)
        refine aops_cons rfl (w_pure rfl (p_len sl_28 rfl rfl) ?_)
        refine aops_cons rfl (w_pure rfl (p_lss rfl rfl) ?_)
        refine aops_nil ?_
        first | refine a_cond_d rfl (fun h5 => ?_) (fun h6 => ?_) | refine a_cond_n rfl (fun h5 => ?_) (fun h6 => ?_) | refine a_cond_nb rfl (fun h5 => ?_) (fun h6 => ?_) | refine a_cond rfl (fun h5 => ?_) (fun h6 => ?_)
        · (try simp only [Bool.not_eq_true', Bool.not_eq_false', Bool.not_eq_true, Bool.not_eq_false, decide_eq_true_eq, decide_eq_false_iff_not, List.length_map, List.length_range] at h5)
          refine a_skip ?_
          refine a_seq ?_
          refine a_block ?_
          refine a_seq ?_
          refine a_region ?_
          refine aops_cons rfl (w_pure rfl (p_load_box_all ag_27 rfl (by repeat (first | exact Pick.here _ _ _ | apply Pick.next)) (by rfl) noX) ?_)
          refine aops_cons rfl (w_alloc rfl z_27 fun b6 => ?_)
          refine aops_cons rfl (w_store (cells' := [_, _]) rfl rfl rfl (by repeat (first | exact Pick.here _ _ _ | apply Pick.next)) cn_27 (by rfl) (by rfl) (by rfl) trivial ?_)
          refine aops_cons rfl (w_pure rfl (p_assign rfl) ?_)
          refine aops_cons rfl (w_pure rfl (p_assign rfl) ?_)
          refine aops_nil ?_
          refine a_seq ?_
          refine a_seq ?_
          refine a_region ?_
          refine aops_cons rfl (w_pure rfl (p_move rfl) ?_)
          refine aops_cons rfl (w_pure rfl (p_move rfl) ?_)
          refine aops_cons rfl (w_pure rfl (p_index_sl k rfl rfl rfl (rowD _ _ zHallOp (by omega)) es_28) ?_)
          refine aops_cons rfl (w_pure rfl (p_field_v fo_37_0 rfl) ?_)
          refine aops_cons rfl (w_pure rfl (p_load_v ag_3 rfl (by rfl) noX) ?_)
          refine aops_nil ?_
          refine a_block ?_
          refine a_seq ?_
          refine a_region ?_
          refine aops_cons rfl (w_pure rfl (p_eql rfl rfl) ?_)
          refine aops_cons rfl (w_pure rfl (p_assign rfl) ?_)
          refine aops_nil ?_
          first | refine a_cond_d rfl (fun h7 => ?_) (fun h8 => ?_) | refine a_cond_n rfl (fun h7 => ?_) (fun h8 => ?_) | refine a_cond_nb rfl (fun h7 => ?_) (fun h8 => ?_) | refine a_cond rfl (fun h7 => ?_) (fun h8 => ?_)
          · (try simp only [Bool.not_eq_true', Bool.not_eq_false', Bool.not_eq_true, Bool.not_eq_false, decide_eq_true_eq, decide_eq_false_iff_not, List.length_map, List.length_range] at h7)
            refine a_draw [b6] (by kernel_rfl) ?_
            show ADraw _ _ _ _ _ _ 12 _ _ _ _
            refine d_load 0 rfl (by kernel_rfl) (by kernel_rfl) (by kernel_rfl) rfl (p_load_box_all ag_27 rfl (by repeat (first | exact Pick.here _ _ _ | apply Pick.next)) (by rfl) (by simp [keys])) ?_
            refine d_take 1 rfl (by kernel_rfl) (by kernel_rfl) (by kernel_rfl) rfl (p_move rfl) ?_
            refine d_take 2 rfl (by kernel_rfl) (by kernel_rfl) (by kernel_rfl) rfl (p_move rfl) ?_
            refine d_take 3 rfl (by kernel_rfl) (by kernel_rfl) (by kernel_rfl) rfl (p_index_sl k rfl rfl rfl (rowD _ _ zHallOp (by omega)) es_28) ?_
            refine d_take 4 rfl (by kernel_rfl) (by kernel_rfl) (by kernel_rfl) rfl (p_field_v fo_37_1 rfl) ?_
            refine d_load 5 rfl (by kernel_rfl) (by kernel_rfl) (by kernel_rfl) rfl (p_load_v ag_3 rfl (by rfl) (by simp [keys])) ?_
            refine draw_all [6] (by kernel_rfl) (by simp) ?_
            refine all_cons rfl rfl ?_ ?_
            · skip
              refine w_callR rfl rfl rfl cl_11 (cv_impl_WaitVcpu g (hW.small hk hi) (os1.getD k zHallOp).id) ?_
              refine d_take 7 rfl (by kernel_rfl) (by kernel_rfl) (by kernel_rfl) rfl (p_move rfl) ?_
              refine d_take 8 rfl (by kernel_rfl) (by kernel_rfl) (by kernel_rfl) rfl (p_extract rfl rfl) ?_
              refine d_take 9 rfl (by kernel_rfl) (by kernel_rfl) (by kernel_rfl) rfl (p_extract rfl rfl) ?_
              refine draw_all [10] (by kernel_rfl) (by simp) ?_
              refine all_cons rfl rfl ?_ ?_
              · skip
                refine w_store (cells' := [_, _]) rfl rfl rfl (by repeat (first | exact Pick.here _ _ _ | apply Pick.next)) cn_27 (by rfl) (by rfl) (by rfl) (by first | (refine .inl ?_; simp; done) | (refine .inr ?_; simp [keys]; done)) ?_
                refine d_take 11 rfl (by kernel_rfl) (by kernel_rfl) (by kernel_rfl) rfl (p_assign rfl) ?_
                refine draw_done (by kernel_rfl) ?_
                refine a_seq ?_
                refine a_region ?_
                refine aops_cons rfl (w_pure rfl (p_move rfl) ?_)
                refine aops_nil ?_
                first | refine a_cond_d rfl (fun h9 => ?_) (fun h10 => ?_) | refine a_cond_n rfl (fun h9 => ?_) (fun h10 => ?_) | refine a_cond_nb rfl (fun h9 => ?_) (fun h10 => ?_) | refine a_cond rfl (fun h9 => ?_) (fun h10 => ?_)
                · (try simp only [Bool.not_eq_true', Bool.not_eq_false', Bool.not_eq_true, Bool.not_eq_false, decide_eq_true_eq, decide_eq_false_iff_not, List.length_map, List.length_range] at h9)
                  refine a_region ?_
                  refine aops_cons rfl (w_pure rfl (p_load_box_all ag_27 rfl (by repeat (first | exact Pick.here _ _ _ | apply Pick.next)) (by rfl) noX) ?_)
                  refine aops_cons rfl (w_store (cells' := [_, _]) rfl rfl rfl (by repeat (first | exact Pick.here _ _ _ | apply Pick.next)) cn_27 (by rfl) (by rfl) (by rfl) trivial ?_)
                  refine aops_nil ?_
                  refine a_region ?_
                  refine aops_cons rfl (w_pure rfl (p_move rfl) ?_)
                  refine aops_cons rfl (w_pure rfl (p_add' rfl rfl ⟨by omega, by omega⟩) ?_)
                  refine aops_cons rfl (w_pure rfl (p_assign rfl) ?_)
                  refine aops_nil ?_
                  refine ⟨(k + 1, _, _, _), _, ?_, ?_, (by repeat (first | exact Knows.nil | refine Knows.cons (by rfl) ?_)), (by repeat (first | exact Back.refl _ _ | refine Back.cons (by rfl) ?_)), (by repeat (first | exact Picks.nil _ | exact Pick.here _ _ _ | apply Pick.next | apply Picks.cons))⟩
                  · refine ⟨(by first | omega | (simp; done) | (simp; omega)), ?_⟩; first | exact hW.sig hk (by omega) (by assumption) | exact hW.wait1 hk (by omega) (by assumption) (by assumption) | exact hW.wait0 hk (by omega) (by assumption) (by assumption) | exact hW.tick hk (by omega) (by assumption) (by assumption)
                  · (try dsimp only); omega
                · (try simp only [Bool.not_eq_true', Bool.not_eq_false', Bool.not_eq_true, Bool.not_eq_false, decide_eq_true_eq, decide_eq_false_iff_not, List.length_map, List.length_range] at h10)
                  refine a_skip ?_
                  refine a_region ?_
                  refine aops_cons rfl (w_pure rfl (p_move rfl) ?_)
                  refine aops_cons rfl (w_pure rfl (p_add' rfl rfl ⟨by omega, by omega⟩) ?_)
                  refine aops_cons rfl (w_pure rfl (p_assign rfl) ?_)
                  refine aops_nil ?_
                  refine ⟨(k + 1, _, _, _), _, ?_, ?_, (by repeat (first | exact Knows.nil | refine Knows.cons (by rfl) ?_)), (by repeat (first | exact Back.refl _ _ | refine Back.cons (by rfl) ?_)), (by repeat (first | exact Picks.nil _ | exact Pick.here _ _ _ | apply Pick.next | apply Picks.cons))⟩
                  · refine ⟨(by first | omega | (simp; done) | (simp; omega)), ?_⟩; first | exact hW.sig hk (by omega) (by assumption) | exact hW.wait1 hk (by omega) (by assumption) (by assumption) | exact hW.wait0 hk (by omega) (by assumption) (by assumption) | exact hW.tick hk (by omega) (by assumption) (by assumption)
                  · (try dsimp only); omega
              exact all_nil
            exact all_nil
          · (try simp only [Bool.not_eq_true', Bool.not_eq_false', Bool.not_eq_true, Bool.not_eq_false, decide_eq_true_eq, decide_eq_false_iff_not, List.length_map, List.length_range] at h8)
            refine a_seq ?_
            refine a_region ?_
            refine aops_cons rfl (w_pure rfl (p_eql rfl rfl) ?_)
            refine aops_cons rfl (w_pure rfl (p_assign rfl) ?_)
            refine aops_nil ?_
            first | refine a_cond_d rfl (fun h11 => ?_) (fun h12 => ?_) | refine a_cond_n rfl (fun h11 => ?_) (fun h12 => ?_) | refine a_cond_nb rfl (fun h11 => ?_) (fun h12 => ?_) | refine a_cond rfl (fun h11 => ?_) (fun h12 => ?_)
            · (try simp only [Bool.not_eq_true', Bool.not_eq_false', Bool.not_eq_true, Bool.not_eq_false, decide_eq_true_eq, decide_eq_false_iff_not, List.length_map, List.length_range] at h11)
              refine a_draw [b6] (by kernel_rfl) ?_
              show ADraw _ _ _ _ _ _ 12 _ _ _ _
              refine d_load 0 rfl (by kernel_rfl) (by kernel_rfl) (by kernel_rfl) rfl (p_load_box_all ag_27 rfl (by repeat (first | exact Pick.here _ _ _ | apply Pick.next)) (by rfl) (by simp [keys])) ?_
              refine d_take 1 rfl (by kernel_rfl) (by kernel_rfl) (by kernel_rfl) rfl (p_move rfl) ?_
              refine d_take 2 rfl (by kernel_rfl) (by kernel_rfl) (by kernel_rfl) rfl (p_move rfl) ?_
              refine d_take 3 rfl (by kernel_rfl) (by kernel_rfl) (by kernel_rfl) rfl (p_index_sl k rfl rfl rfl (rowD _ _ zHallOp (by omega)) es_28) ?_
              refine d_take 4 rfl (by kernel_rfl) (by kernel_rfl) (by kernel_rfl) rfl (p_field_v fo_37_1 rfl) ?_
              refine d_load 5 rfl (by kernel_rfl) (by kernel_rfl) (by kernel_rfl) rfl (p_load_v ag_3 rfl (by rfl) (by simp [keys])) ?_
              refine draw_all [6] (by kernel_rfl) (by simp) ?_
              refine all_cons rfl rfl ?_ ?_
              · skip
                refine w_callR rfl rfl rfl cl_12 (cf_impl_SignalVcpu g (hW.small hk hi) (os1.getD k zHallOp).id (hW.good hk (by omega) (by assumption))) ?_
                refine d_take 7 rfl (by kernel_rfl) (by kernel_rfl) (by kernel_rfl) rfl (p_move rfl) ?_
                refine d_take 8 rfl (by kernel_rfl) (by kernel_rfl) (by kernel_rfl) rfl (p_extract rfl rfl) ?_
                refine d_take 9 rfl (by kernel_rfl) (by kernel_rfl) (by kernel_rfl) rfl (p_extract rfl rfl) ?_
                refine draw_all [10] (by kernel_rfl) (by simp) ?_
                refine all_cons rfl rfl ?_ ?_
                · skip
                  refine w_store (cells' := [_, _]) rfl rfl rfl (by repeat (first | exact Pick.here _ _ _ | apply Pick.next)) cn_27 (by rfl) (by rfl) (by rfl) (by first | (refine .inl ?_; simp; done) | (refine .inr ?_; simp [keys]; done)) ?_
                  refine d_take 11 rfl (by kernel_rfl) (by kernel_rfl) (by kernel_rfl) rfl (p_assign rfl) ?_
                  refine draw_done (by kernel_rfl) ?_
                  refine a_seq ?_
                  refine a_region ?_
                  refine aops_cons rfl (w_pure rfl (p_move rfl) ?_)
                  refine aops_nil ?_
                  refine a_cond_t rfl ?_
                  refine a_region ?_
                  refine aops_cons rfl (w_pure rfl (p_load_box_all ag_27 rfl (by repeat (first | exact Pick.here _ _ _ | apply Pick.next)) (by rfl) noX) ?_)
                  refine aops_cons rfl (w_store (cells' := [_, _]) rfl rfl rfl (by repeat (first | exact Pick.here _ _ _ | apply Pick.next)) cn_27 (by rfl) (by rfl) (by rfl) trivial ?_)
                  refine aops_nil ?_
                  refine a_region ?_
                  refine aops_cons rfl (w_pure rfl (p_move rfl) ?_)
                  refine aops_cons rfl (w_pure rfl (p_add' rfl rfl ⟨by omega, by omega⟩) ?_)
                  refine aops_cons rfl (w_pure rfl (p_assign rfl) ?_)
                  refine aops_nil ?_
                  refine ⟨(k + 1, _, _, _), _, ?_, ?_, (by repeat (first | exact Knows.nil | refine Knows.cons (by rfl) ?_)), (by repeat (first | exact Back.refl _ _ | refine Back.cons (by rfl) ?_)), (by repeat (first | exact Picks.nil _ | exact Pick.here _ _ _ | apply Pick.next | apply Picks.cons))⟩
                  · refine ⟨(by first | omega | (simp; done) | (simp; omega)), ?_⟩; first | exact hW.sig hk (by omega) (by assumption) | exact hW.wait1 hk (by omega) (by assumption) (by assumption) | exact hW.wait0 hk (by omega) (by assumption) (by assumption) | exact hW.tick hk (by omega) (by assumption) (by assumption)
                  · (try dsimp only); omega
                exact all_nil
              exact all_nil
            · (try simp only [Bool.not_eq_true', Bool.not_eq_false', Bool.not_eq_true, Bool.not_eq_false, decide_eq_true_eq, decide_eq_false_iff_not, List.length_map, List.length_range] at h12)
              refine a_seq ?_
              refine a_region ?_
              refine aops_cons rfl (w_pure rfl (p_load_box_all ag_27 rfl (by repeat (first | exact Pick.here _ _ _ | apply Pick.next)) (by rfl) noX) ?_)
              refine aops_cons rfl (w_callR rfl rfl rfl cl_13 (cf_impl_TickHall g (hW.small hk hi) (hW.hall hk hi)) ?_)
              refine aops_cons rfl (w_pure rfl (p_move rfl) ?_)
              refine aops_cons rfl (w_pure rfl (p_extract rfl rfl) ?_)
              refine aops_cons rfl (w_pure rfl (p_extract rfl rfl) ?_)
              refine aops_cons rfl (w_pure rfl (p_extract rfl rfl) ?_)
              refine aops_cons rfl (w_store (cells' := [_, _]) rfl rfl rfl (by repeat (first | exact Pick.here _ _ _ | apply Pick.next)) cn_27 (by rfl) (by rfl) (by rfl) trivial ?_)
              refine aops_cons rfl (w_pure rfl (p_assign rfl) ?_)
              refine aops_cons rfl (w_pure rfl (p_assign rfl) ?_)
              refine aops_nil ?_
              refine a_region ?_
              refine aops_cons rfl (w_pure rfl (p_move rfl) ?_)
              refine aops_cons rfl (w_pure rfl (p_move rfl) ?_)
              refine aops_cons rfl (w_lit_vM eInt [(tickH g).2] rfl el_31 rfl rfl rfl rfl rfl ?_)
              refine aops_cons rfl (w_appendM eInt rfl el_31 rfl rfl (by repeat (first | exact Pick.here _ _ _ | apply Pick.next)) rfl (.sl _) (fun _ => rfl) (fun _ => rfl) (by simp; omega) (by simp; omega) trivial fun b7 => ?_)
              refine aops_cons rfl (w_pure rfl (p_assign rfl) ?_)
              refine aops_nil ?_
              refine a_seq ?_
              refine a_region ?_
              refine aops_cons rfl (w_pure rfl (p_move rfl) ?_)
              refine aops_nil ?_
              refine a_cond_t rfl ?_
              refine a_region ?_
              refine aops_cons rfl (w_pure rfl (p_load_box_all ag_27 rfl (by repeat (first | exact Pick.here _ _ _ | apply Pick.next)) (by rfl) noX) ?_)
              refine aops_cons rfl (w_store (cells' := [_, _]) rfl rfl rfl (by repeat (first | exact Pick.here _ _ _ | apply Pick.next)) cn_27 (by rfl) (by rfl) (by rfl) trivial ?_)
              refine aops_nil ?_
              refine a_region ?_
              refine aops_cons rfl (w_pure rfl (p_move rfl) ?_)
              refine aops_cons rfl (w_pure rfl (p_add' rfl rfl ⟨by omega, by omega⟩) ?_)
              refine aops_cons rfl (w_pure rfl (p_assign rfl) ?_)
              refine aops_nil ?_
              refine ⟨(k + 1, _, _, _), _, ?_, ?_, (by repeat (first | exact Knows.nil | refine Knows.cons (by rfl) ?_)), (by repeat (first | exact Back.refl _ _ | refine Back.cons (by rfl) ?_)), (by repeat (first | exact Picks.nil _ | exact Pick.here _ _ _ | apply Pick.next | apply Picks.cons))⟩
              · refine ⟨(by first | omega | (simp; done) | (simp; omega)), ?_⟩; first | exact hW.sig hk (by omega) (by assumption) | exact hW.wait1 hk (by omega) (by assumption) (by assumption) | exact hW.wait0 hk (by omega) (by assumption) (by assumption) | exact hW.tick hk (by omega) (by assumption) (by assumption)
              · (try dsimp only); omega
        · (try simp only [Bool.not_eq_true', Bool.not_eq_false', Bool.not_eq_true, Bool.not_eq_false, decide_eq_true_eq, decide_eq_false_iff_not, List.length_map, List.length_range] at h6)
          refine a_exit ?_
          refine a_seq ?_
          have hx : k = os1.length := (by omega)
          subst hx
          obtain ⟨rfl, rfl⟩ := hW.fin
          refine a_region ?_
          refine aops_cons rfl (w_pure rfl (p_load_box_all ag_27 rfl (by repeat (first | exact Pick.here _ _ _ | apply Pick.next)) (by rfl) noX) ?_)
          refine aops_cons rfl (w_pure rfl (p_load_box_all ag_27 rfl (by repeat (first | exact Pick.here _ _ _ | apply Pick.next)) (by rfl) noX) ?_)
          refine aops_cons rfl (w_callR rfl rfl rfl cl_10 (c_laws_vHall (fin p1 os1 0).hall (small_fin hk)) ?_)
          refine aops_cons rfl (w_pure rfl (p_not rfl) ?_)
          refine aops_cons rfl (w_pure rfl (p_move rfl) ?_)
          refine aops_guard_t rfl rfl rfl (w_pure rfl (p_move rfl) ?_)
          refine aops_guard_t rfl rfl rfl (w_pure rfl (p_move rfl) ?_)
          refine aops_guard_t rfl rfl rfl (w_callLR rfl rfl rfl cl_9 (.cons (.own (by repeat (first | exact List.Mem.head _ | apply List.Mem.tail)) (by first | (simp; done) | (simp; assumption) | (simp; omega) | (simp [mkL]; done))) (.cons (.refl _) .nil)) (c_laws_vInts (fin p1 os1 0).ticks (small_ticks hk)) (closed_bool _) ?_)
          refine aops_guard_t rfl rfl rfl (w_pure rfl (p_not rfl) ?_)
          refine aops_cons rfl (w_pure rfl (p_pick_f rfl rfl) ?_)
          refine aops_nil ?_
          refine a_cond_f rfl ?_
          refine a_skip ?_
          exact ⟨(), _, trivial, (by repeat (first | exact Knows.nil | refine Knows.cons (by rfl) ?_)), (by repeat (first | exact Back.refl _ _ | refine Back.cons (by rfl) ?_)), (by repeat (first | exact Picks.nil _ | exact Pick.here _ _ _ | apply Pick.next | apply Picks.cons))⟩
      · (try simp only [Bool.not_eq_true', Bool.not_eq_false', Bool.not_eq_true, Bool.not_eq_false, decide_eq_true_eq, decide_eq_false_iff_not, List.length_map, List.length_range] at h4)
        refine a_skip ?_
        exact ⟨(), _, trivial, (by repeat (first | exact Knows.nil | refine Knows.cons (by rfl) ?_)), (by repeat (first | exact Back.refl _ _ | refine Back.cons (by rfl) ?_)), (by repeat (first | exact Picks.nil _ | exact Pick.here _ _ _ | apply Pick.next | apply Picks.cons))⟩
    · rintro _ -
      refine a_seq ?_
      refine a_region ?_
      refine aops_cons rfl (w_pure rfl (p_move rfl) ?_)
      refine aops_cons rfl (w_call rfl rfl rfl cl_14 (c_spec_DrawWakesOf bs hb) ?_)
      rintro _ _ ⟨⟨p2, os2, m2, rfl, hx2, ho2⟩, rfl⟩
      skip
      refine aops_cons rfl (w_pure rfl (p_move rfl) ?_)
      refine aops_cons rfl (w_pure rfl (p_extract rfl rfl) ?_)
      refine aops_cons rfl (w_pure rfl (p_extract rfl rfl) ?_)
      refine aops_cons rfl (w_pure rfl (p_extract rfl rfl) ?_)
      refine aops_cons rfl (w_alloc rfl z_27 fun b8 => ?_)
      refine aops_cons rfl (w_store (cells' := [_, _]) rfl rfl rfl (by repeat (first | exact Pick.here _ _ _ | apply Pick.next)) cn_27 (by rfl) (by rfl) (by rfl) trivial ?_)
      refine aops_cons rfl (w_pure rfl (p_assign rfl) ?_)
      refine aops_cons rfl (w_pure rfl (p_assign rfl) ?_)
      refine aops_nil ?_
      refine a_seq ?_
      refine a_region ?_
      refine aops_cons rfl (w_pure rfl (p_load_box_all ag_27 rfl (by repeat (first | exact Pick.here _ _ _ | apply Pick.next)) (by rfl) noX) ?_)
      refine aops_cons rfl (w_pure rfl (p_move rfl) ?_)
      refine aops_cons rfl (w_pure rfl (p_move rfl) ?_)
      refine aops_cons rfl (w_callR rfl rfl rfl cl_15 (cv_impl_WakesOf p2 hx2.small os2 (by omega) m2) ?_)
      refine aops_cons rfl (w_pure rfl (p_move rfl) ?_)
      refine aops_cons rfl (w_pure rfl (p_extract rfl rfl) ?_)
      refine aops_cons rfl (w_pure rfl (p_extract rfl rfl) ?_)
      refine aops_cons rfl (w_pure rfl (p_extract rfl rfl) ?_)
      refine aops_cons rfl (w_pure rfl (p_assign rfl) ?_)
      refine aops_cons rfl (w_pure rfl (p_assign rfl) ?_)
      refine aops_cons rfl (w_pure rfl (p_assign rfl) ?_)
      refine aops_nil ?_
      refine a_seq ?_
      refine a_seq ?_
      refine a_region ?_
      refine aops_cons rfl (w_pure rfl (p_load_box_all ag_27 rfl (by repeat (first | exact Pick.here _ _ _ | apply Pick.next)) (by rfl) noX) ?_)
      refine aops_cons rfl (w_pure rfl (p_move rfl) ?_)
      refine aops_cons rfl (w_pure rfl (p_move rfl) ?_)
      refine aops_cons rfl (w_callR rfl rfl rfl cl_16 (cv_spec_WakesOf p2 hx2.small os2 (by omega) m2) ?_)
      refine aops_cons rfl (w_pure rfl (p_move rfl) ?_)
      refine aops_cons rfl (w_pure rfl (p_extract rfl rfl) ?_)
      refine aops_cons rfl (w_pure rfl (p_extract rfl rfl) ?_)
      refine aops_cons rfl (w_pure rfl (p_extract rfl rfl) ?_)
      refine aops_cons rfl (w_pure rfl (p_assign rfl) ?_)
      refine aops_cons rfl (w_pure rfl (p_assign rfl) ?_)
      refine aops_cons rfl (w_pure rfl (p_assign rfl) ?_)
      refine aops_nil ?_
      refine a_seq ?_
      refine a_region ?_
      refine aops_cons rfl (w_pure rfl (p_move rfl) ?_)
      refine aops_cons rfl (w_pure rfl (p_move rfl) ?_)
      refine aops_cons rfl (w_pure rfl (p_neq_same rfl rfl) ?_)
      refine aops_cons rfl (w_pure rfl (p_move rfl) ?_)
      refine aops_guard_t rfl rfl rfl (w_pure rfl (p_move rfl) ?_)
      refine aops_guard_t rfl rfl rfl (w_pure rfl (p_move rfl) ?_)
      refine aops_guard_t rfl rfl rfl (w_pure rfl (p_neq_same rfl rfl) ?_)
      refine aops_cons rfl (w_pure rfl (p_pick_f rfl rfl) ?_)
      refine aops_cons rfl (w_pure rfl (p_move rfl) ?_)
      refine aops_guard_t rfl rfl rfl (w_pure rfl (p_move rfl) ?_)
      refine aops_guard_t rfl rfl rfl (w_pure rfl (p_move rfl) ?_)
      refine aops_guard_t rfl rfl rfl (w_pure rfl (p_neq_bsame um_4 rfl rfl) ?_)
      refine aops_cons rfl (w_pure rfl (p_pick_f rfl rfl) ?_)
      refine aops_nil ?_
      refine a_cond_f rfl ?_
      refine a_skip ?_
      refine a_seq ?_
      refine a_seq ?_
      refine a_region ?_
      refine aops_cons rfl (w_pure rfl (p_move rfl) ?_)
      refine aops_nil ?_
      first | refine a_cond_d rfl (fun h13 => ?_) (fun h14 => ?_) | refine a_cond_n rfl (fun h13 => ?_) (fun h14 => ?_) | refine a_cond_nb rfl (fun h13 => ?_) (fun h14 => ?_) | refine a_cond rfl (fun h13 => ?_) (fun h14 => ?_)
      · (try simp only [Bool.not_eq_true', Bool.not_eq_false', Bool.not_eq_true, Bool.not_eq_false, decide_eq_true_eq, decide_eq_false_iff_not, List.length_map, List.length_range] at h13)
        refine a_seq ?_
        have hk : GoodWk p2 os2 m2 := (by assumption)
        rw [pickI_y hk, pickI_y hk]
        have hko := hk.1.2.1
        refine a_region ?_
        refine aops_cons rfl (w_pure rfl (p_assign rfl) ?_)
        refine aops_nil ?_
        refine a_seq ?_
        refine a_seq ?_
        refine a_region ?_
        refine aops_cons rfl (w_pure rfl (p_assign rfl) ?_)
        refine aops_nil ?_
        refine a_block ?_
        refine a_loop (ι := Nat × Int) (fun ⟨i, n⟩ => i ≤ os2.length ∧ n = sigTo os2 m2 i) (fun ⟨i, n⟩ => [(27, .int .i64 (i : Int)), (26, .int .i64 n)]) (fun ⟨i, n⟩ => []) (fun ⟨i, n⟩ => os2.length - i) (0, 0) ⟨Nat.zero_le _, rfl⟩ (by repeat (first | exact Knows.nil | refine Knows.cons (by rfl) ?_)) (by repeat (first | exact Picks.nil _ | exact Pick.here _ _ _ | apply Pick.next | apply Picks.cons)) ?_
        rintro ⟨i, n⟩ ⟨hi, hJ⟩
        replace hJ : n = sigTo os2 m2 i := hJ; have hsr := sigTo_rng os2 m2 i; rw [← hJ] at hsr; replace hi : i ≤ os2.length := hi
        refine a_seq ?_
        refine a_seq ?_
        refine a_region ?_
        refine aops_cons rfl (w_pure rfl (p_move rfl) ?_)
        refine aops_cons rfl (w_pure rfl (p_move rfl) ?_)
        refine aops_cons rfl (w_pure rfl (p_len sl_28 rfl rfl) ?_)
        refine aops_cons rfl (w_pure rfl (p_lss rfl rfl) ?_)
        refine aops_nil ?_
        first | refine a_cond_d rfl (fun h15 => ?_) (fun h16 => ?_) | refine a_cond_n rfl (fun h15 => ?_) (fun h16 => ?_) | refine a_cond_nb rfl (fun h15 => ?_) (fun h16 => ?_) | refine a_cond rfl (fun h15 => ?_) (fun h16 => ?_)
        · (try simp only [Bool.not_eq_true', Bool.not_eq_false', Bool.not_eq_true, Bool.not_eq_false, decide_eq_true_eq, decide_eq_false_iff_not, List.length_map, List.length_range] at h15)
          refine a_skip ?_
          refine a_seq ?_
          refine a_block ?_
          refine a_seq ?_
          refine a_region ?_
          refine aops_cons rfl (w_pure rfl (p_move rfl) ?_)
          refine aops_cons rfl (w_pure rfl (p_move rfl) ?_)
          refine aops_cons rfl (w_pure rfl (p_index_sl _ rfl rfl rfl (rowD _ _ zHallOp (by omega)) es_28) ?_)
          refine aops_cons rfl (w_pure rfl (p_field_v fo_37_0 rfl) ?_)
          refine aops_cons rfl (w_pure rfl (p_load_v ag_3 rfl (by rfl) noX) ?_)
          refine aops_cons rfl (w_pure rfl (p_eql rfl rfl) ?_)
          refine aops_cons rfl (w_pure rfl (p_move rfl) ?_)
          first | refine aops_split_d 176 rfl (fun h17 => ?_) (fun h18 => ?_) | refine aops_split 176 rfl (fun h17 => ?_) (fun h18 => ?_)
          · (try simp only [Bool.not_eq_true', Bool.not_eq_false', Bool.not_eq_true, Bool.not_eq_false, decide_eq_true_eq, decide_eq_false_iff_not, List.length_map, List.length_range] at h17)
            refine aops_guard_t rfl rfl rfl (w_pure rfl (p_move rfl) ?_)
            refine aops_guard_t rfl rfl rfl (w_pure rfl (p_move rfl) ?_)
            refine aops_guard_t rfl rfl rfl (w_pure rfl (p_index_sl _ rfl rfl rfl (rowD _ _ zHallOp (by omega)) es_28) ?_)
            refine aops_guard_t rfl rfl rfl (w_pure rfl (p_field_v fo_37_1 rfl) ?_)
            refine aops_guard_t rfl rfl rfl (w_pure rfl (p_load_v ag_3 rfl (by rfl) noX) ?_)
            refine aops_guard_t rfl rfl rfl (w_pure rfl (p_move rfl) ?_)
            refine aops_guard_t rfl rfl rfl (w_pure rfl (p_eql rfl rfl) ?_)
            refine aops_cons rfl (w_pure rfl (p_pick_t rfl rfl) ?_)
            refine aops_nil ?_
            first | refine a_cond_d rfl (fun h19 => ?_) (fun h20 => ?_) | refine a_cond_n rfl (fun h19 => ?_) (fun h20 => ?_) | refine a_cond_nb rfl (fun h19 => ?_) (fun h20 => ?_) | refine a_cond rfl (fun h19 => ?_) (fun h20 => ?_)
            · (try simp only [Bool.not_eq_true', Bool.not_eq_false', Bool.not_eq_true, Bool.not_eq_false, decide_eq_true_eq, decide_eq_false_iff_not, List.length_map, List.length_range] at h19)
              refine a_region ?_
              refine aops_cons rfl (w_pure rfl (p_move rfl) ?_)
              refine aops_cons rfl (w_pure rfl (p_add' rfl rfl ⟨by omega, by omega⟩) ?_)
              refine aops_cons rfl (w_pure rfl (p_assign rfl) ?_)
              refine aops_nil ?_
              refine a_region ?_
              refine aops_cons rfl (w_pure rfl (p_move rfl) ?_)
              refine aops_cons rfl (w_pure rfl (p_add' rfl rfl ⟨by omega, by omega⟩) ?_)
              refine aops_cons rfl (w_pure rfl (p_assign rfl) ?_)
              refine aops_nil ?_
              refine ⟨(i + 1, _), _, ?_, ?_, (by repeat (first | exact Knows.nil | refine Knows.cons (by rfl) ?_)), (by repeat (first | exact Back.refl _ _ | refine Back.cons (by rfl) ?_)), (by repeat (first | exact Picks.nil _ | exact Pick.here _ _ _ | apply Pick.next | apply Picks.cons))⟩
              · refine ⟨by omega, ?_⟩; first | exact sig_step1 hJ (by assumption) (by assumption) | exact sig_step2 hJ (by assumption) | exact sig_step3 hJ (by assumption)
              · (try dsimp only); omega
            · (try simp only [Bool.not_eq_true', Bool.not_eq_false', Bool.not_eq_true, Bool.not_eq_false, decide_eq_true_eq, decide_eq_false_iff_not, List.length_map, List.length_range] at h20)
              refine a_skip ?_
              refine a_region ?_
              refine aops_cons rfl (w_pure rfl (p_move rfl) ?_)
              refine aops_cons rfl (w_pure rfl (p_add' rfl rfl ⟨by omega, by omega⟩) ?_)
              refine aops_cons rfl (w_pure rfl (p_assign rfl) ?_)
              refine aops_nil ?_
              refine ⟨(i + 1, _), _, ?_, ?_, (by repeat (first | exact Knows.nil | refine Knows.cons (by rfl) ?_)), (by repeat (first | exact Back.refl _ _ | refine Back.cons (by rfl) ?_)), (by repeat (first | exact Picks.nil _ | exact Pick.here _ _ _ | apply Pick.next | apply Picks.cons))⟩
              · refine ⟨by omega, ?_⟩; first | exact sig_step1 hJ (by assumption) (by assumption) | exact sig_step2 hJ (by assumption) | exact sig_step3 hJ (by assumption)
              · (try dsimp only); omega
          · (try simp only [Bool.not_eq_true', Bool.not_eq_false', Bool.not_eq_true, Bool.not_eq_false, decide_eq_true_eq, decide_eq_false_iff_not, List.length_map, List.length_range] at h18)
            refine g_pass' rfl rfl rfl rfl rfl ?_
            refine g_pass' rfl rfl rfl rfl rfl ?_
            refine g_pass' rfl rfl rfl rfl rfl ?_
            refine g_pass' rfl rfl rfl rfl rfl ?_
            refine g_pass' rfl rfl rfl rfl rfl ?_
            refine g_pass' rfl rfl rfl rfl rfl ?_
            refine g_pass' rfl rfl rfl rfl rfl ?_
            refine aops_cons rfl (w_pure rfl (p_pick_f rfl rfl) ?_)
            refine aops_nil ?_
            refine a_cond_f rfl ?_
            refine a_skip ?_
            refine a_region ?_
            refine aops_cons rfl (w_pure rfl (p_move rfl) ?_)
            refine aops_cons rfl (w_pure rfl (p_add' rfl rfl ⟨by omega, by omega⟩) ?_)
            refine aops_cons rfl (w_pure rfl (p_assign rfl) ?_)
            refine aops_nil ?_
            refine ⟨(i + 1, _), _, ?_, ?_, (by repeat (first | exact Knows.nil | refine Knows.cons (by rfl) ?_)), (by repeat (first | exact Back.refl _ _ | refine Back.cons (by rfl) ?_)), (by repeat (first | exact Picks.nil _ | exact Pick.here _ _ _ | apply Pick.next | apply Picks.cons))⟩
            · refine ⟨by omega, ?_⟩; first | exact sig_step1 hJ (by assumption) (by assumption) | exact sig_step2 hJ (by assumption) | exact sig_step3 hJ (by assumption)
            · (try dsimp only); omega
        · (try simp only [Bool.not_eq_true', Bool.not_eq_false', Bool.not_eq_true, Bool.not_eq_false, decide_eq_true_eq, decide_eq_false_iff_not, List.length_map, List.length_range] at h16)
          refine a_exit ?_
          refine a_seq ?_
          have hw := wk_end hk
          have hx : i = os2.length := (by omega)
          subst hx
          rw [← hJ] at hw
          have hev := evb_rng p2 (hI p2 m2)
          have hrw := (fin_inv hk.1 (id := m2) os2.length (Nat.le_refl _)).wb
          have hrt := (fin_inv hk.1 (id := m2) os2.length (Nat.le_refl _)).tb
          replace hrw : 0 ≤ (fin p2 os2 m2).woken ∧ (fin p2 os2 m2).woken ≤ os2.length := hrw
          replace hrt : 0 ≤ (fin p2 os2 m2).takes ∧ (fin p2 os2 m2).takes ≤ os2.length := hrt
          refine a_region ?_
          refine aops_cons rfl (w_pure rfl (p_load_box_all ag_27 rfl (by repeat (first | exact Pick.here _ _ _ | apply Pick.next)) (by rfl) noX) ?_)
          refine aops_cons rfl (w_callR rfl rfl rfl cl_17 (cf_impl_EventIds p2 hx2.small hk.1.1) ?_)
          refine aops_cons rfl (w_pure rfl (p_move rfl) ?_)
          refine aops_cons rfl (w_pure rfl (p_extract rfl rfl) ?_)
          refine aops_cons rfl (w_pure rfl (p_extract rfl rfl) ?_)
          refine aops_cons rfl (w_pure rfl (p_assign rfl) ?_)
          refine aops_cons rfl (w_pure rfl (p_assign rfl) ?_)
          refine aops_nil ?_
          refine a_seq ?_
          refine a_region ?_
          refine aops_cons rfl (w_pure rfl (p_assign rfl) ?_)
          refine aops_nil ?_
          refine a_seq ?_
          refine a_seq ?_
          refine a_region ?_
          refine aops_cons rfl (w_pure rfl (p_move rfl) ?_)
          refine aops_cons rfl (w_pure rfl (p_move rfl) ?_)
          refine aops_cons rfl (w_callR rfl rfl rfl cl_18 (c_laws_vHas (evtIds p2) (small_evt hk.1.1) m2) ?_)
          refine aops_nil ?_
          first | refine a_cond_d rfl (fun h21 => ?_) (fun h22 => ?_) | refine a_cond_n rfl (fun h21 => ?_) (fun h22 => ?_) | refine a_cond_nb rfl (fun h21 => ?_) (fun h22 => ?_) | refine a_cond rfl (fun h21 => ?_) (fun h22 => ?_)
          · (try simp only [Bool.not_eq_true', Bool.not_eq_false', Bool.not_eq_true, Bool.not_eq_false, decide_eq_true_eq, decide_eq_false_iff_not, List.length_map, List.length_range] at h21)
            have hev1 := evb_t hk (by assumption)
            refine a_region ?_
            refine aops_cons rfl (w_pure rfl (p_assign rfl) ?_)
            refine aops_nil ?_
            refine a_seq ?_
            first | have hev2 := evb_f hk (by assumption) | skip
            refine a_region ?_
            refine aops_cons rfl (w_pure rfl (p_move rfl) ?_)
            refine aops_cons rfl (w_pure rfl (p_not rfl) ?_)
            refine aops_cons rfl (w_pure rfl (p_move rfl) ?_)
            refine aops_guard_t rfl rfl rfl (w_pure rfl (p_move rfl) ?_)
            refine aops_guard_t rfl rfl rfl (w_pure rfl (p_move rfl) ?_)
            refine aops_guard_t rfl rfl rfl (w_pure rfl (p_gtrF rfl rfl (by omega)) ?_)
            refine aops_cons rfl (w_pure rfl (p_pick_f rfl rfl) ?_)
            refine aops_cons rfl (w_pure rfl (p_move rfl) ?_)
            refine aops_guard_t rfl rfl rfl (w_pure rfl (p_move rfl) ?_)
            refine aops_guard_t rfl rfl rfl (w_pure rfl (p_move rfl) ?_)
            refine aops_guard_t rfl rfl rfl (w_pure rfl (p_add' rfl rfl ⟨by omega, by omega⟩) ?_)
            refine aops_guard_t rfl rfl rfl (w_pure rfl (p_move rfl) ?_)
            refine aops_guard_t rfl rfl rfl (w_pure rfl (p_move rfl) ?_)
            refine aops_guard_t rfl rfl rfl (w_pure rfl (p_add' rfl rfl ⟨by omega, by omega⟩) ?_)
            refine aops_guard_t rfl rfl rfl (w_pure rfl (p_gtrF rfl rfl (by omega)) ?_)
            refine aops_cons rfl (w_pure rfl (p_pick_f rfl rfl) ?_)
            refine aops_nil ?_
            refine a_cond_f rfl ?_
            refine a_skip ?_
            refine a_seq ?_
            refine a_region ?_
            refine aops_cons rfl (w_pure rfl (p_assign rfl) ?_)
            refine aops_nil ?_
            refine a_ret ?_
            refine ret_ok (hands1 rfl (.tmp rfl)) (.nil _) ?_
            first | exact ⟨rfl, rfl⟩ | (exfalso; omega)
          · (try simp only [Bool.not_eq_true', Bool.not_eq_false', Bool.not_eq_true, Bool.not_eq_false, decide_eq_true_eq, decide_eq_false_iff_not, List.length_map, List.length_range] at h22)
            refine a_skip ?_
            refine a_seq ?_
            first | have hev2 := evb_f hk (by assumption) | skip
            refine a_region ?_
            refine aops_cons rfl (w_pure rfl (p_move rfl) ?_)
            refine aops_cons rfl (w_pure rfl (p_not rfl) ?_)
            refine aops_cons rfl (w_pure rfl (p_move rfl) ?_)
            refine aops_guard_t rfl rfl rfl (w_pure rfl (p_move rfl) ?_)
            refine aops_guard_t rfl rfl rfl (w_pure rfl (p_move rfl) ?_)
            refine aops_guard_t rfl rfl rfl (w_pure rfl (p_gtrF rfl rfl (by omega)) ?_)
            refine aops_cons rfl (w_pure rfl (p_pick_f rfl rfl) ?_)
            refine aops_cons rfl (w_pure rfl (p_move rfl) ?_)
            refine aops_guard_t rfl rfl rfl (w_pure rfl (p_move rfl) ?_)
            refine aops_guard_t rfl rfl rfl (w_pure rfl (p_move rfl) ?_)
            refine aops_guard_t rfl rfl rfl (w_pure rfl (p_add' rfl rfl ⟨by omega, by omega⟩) ?_)
            refine aops_guard_t rfl rfl rfl (w_pure rfl (p_move rfl) ?_)
            refine aops_guard_t rfl rfl rfl (w_pure rfl (p_move rfl) ?_)
            refine aops_guard_t rfl rfl rfl (w_pure rfl (p_add' rfl rfl ⟨by omega, by omega⟩) ?_)
            refine aops_guard_t rfl rfl rfl (w_pure rfl (p_gtrF rfl rfl (by omega)) ?_)
            refine aops_cons rfl (w_pure rfl (p_pick_f rfl rfl) ?_)
            refine aops_nil ?_
            refine a_cond_f rfl ?_
            refine a_skip ?_
            refine a_seq ?_
            refine a_region ?_
            refine aops_cons rfl (w_pure rfl (p_assign rfl) ?_)
            refine aops_nil ?_
            refine a_ret ?_
            refine ret_ok (hands1 rfl (.tmp rfl)) (.nil _) ?_
            first | exact ⟨rfl, rfl⟩ | (exfalso; omega)
      · (try simp only [Bool.not_eq_true', Bool.not_eq_false', Bool.not_eq_true, Bool.not_eq_false, decide_eq_true_eq, decide_eq_false_iff_not, List.length_map, List.length_range] at h14)
        refine a_skip ?_
        refine a_seq ?_
        refine a_region ?_
        refine aops_cons rfl (w_pure rfl (p_assign rfl) ?_)
        refine aops_nil ?_
        refine a_ret ?_
        refine ret_ok (hands1 rfl (.tmp rfl)) (.nil _) ?_
        first | exact ⟨rfl, rfl⟩ | (exfalso; omega)

end Go.Proofs.Ytdlhpomgmlcfoaa
