/-
  The walks of this part: each theorem is the contract of one function. Condition: none but those that it names.
-/
import Derived.Test.YtejlhpmmgjfllaaCtxDd
import Derived.Test.YtejlhpmmgjfllaaCtxDF
import Derived.Test.YtejlhpmmgjfllaaCtxA
import Derived.Test.YtejlhpmmgjfllaaCtxB
import Derived.Test.YtejlhpmmgjfllaaCtxCs
namespace Go.Proofs.Ytejlhpmmgjfllaa
open Go Go.Fw Go.Hv
attribute [local irreducible] awp Aops Aop ADraw ADrawAll ACalls
set_option maxRecDepth 4000
set_option linter.unusedSimpArgs false
set_option linter.unusedVariables false

theorem c_laws_eqIntSS (xs : List (List Int)) (hn : DeepL xs) : ACalls Try.prog 36 [.sl (xs.map eInts), .sl (xs.map eInts)] [] (Ret (.bool true)) := by
  have hn1 := hn.1
  refine a_enter Try.func36 rfl rfl (fun w0 M0 => ?_)
  refine a_seq ?_
  refine a_region ?_
  refine aops_cons rfl (w_pure rfl (p_assign rfl) ?_)
  refine aops_nil ?_
  refine a_seq ?_
  refine a_seq ?_
  refine a_region ?_
  refine aops_cons rfl (w_pure rfl (p_move rfl) ?_)
  refine aops_cons rfl (w_pure rfl (p_len sl_54 rfl rfl) ?_)
  refine aops_cons rfl (w_pure rfl (p_move rfl) ?_)
  refine aops_cons rfl (w_pure rfl (p_len sl_54 rfl rfl) ?_)
  refine aops_cons rfl (w_pure rfl (p_neq_same rfl rfl) ?_)
  refine aops_nil ?_
  refine a_cond_f rfl ?_
  refine a_skip ?_
  refine a_seq ?_
  refine a_seq ?_
  refine a_region ?_
  refine aops_cons rfl (w_pure rfl (p_assign rfl) ?_)
  refine aops_nil ?_
  refine a_block ?_
  refine a_loop (ι := Nat) (fun i => i ≤ xs.length) (fun i => [(5, .int .i64 (i : Int))]) (fun i => []) (fun i => xs.length - i) 0 (Nat.zero_le _) (by repeat (first | exact Knows.nil | refine Knows.cons (by rfl) ?_)) (by repeat (first | exact Picks.nil _ | exact Pick.here _ _ _ | apply Pick.next | apply Picks.cons)) ?_
  rintro i hi
  have hr := fun h : i < xs.length => hn.2 i h
  refine a_seq ?_
  refine a_seq ?_
  refine a_region ?_
  refine aops_cons rfl (w_pure rfl (p_move rfl) ?_)
  refine aops_cons rfl (w_pure rfl (p_move rfl) ?_)
  refine aops_cons rfl (w_pure rfl (p_len sl_54 rfl rfl) ?_)
  refine aops_cons rfl (w_pure rfl (p_lss rfl rfl) ?_)
  refine aops_nil ?_
  first | refine a_cond_d rfl (fun h1 => ?_) (fun h2 => ?_) | refine a_cond_n rfl (fun h1 => ?_) (fun h2 => ?_) | refine a_cond_nb rfl (fun h1 => ?_) (fun h2 => ?_) | refine a_cond rfl (fun h1 => ?_) (fun h2 => ?_)
  · (try simp only [Bool.not_eq_true', Bool.not_eq_false', Bool.not_eq_true, Bool.not_eq_false, decide_eq_true_eq, decide_eq_false_iff_not, List.length_map, List.length_range] at h1)
    refine a_skip ?_
    refine a_seq ?_
    refine a_block ?_
    refine a_seq ?_
    refine a_draw [] (by kernel_rfl) ?_
    show ADraw _ _ _ _ _ _ 10 _ _ _ _
    refine d_take 0 rfl (by kernel_rfl) (by kernel_rfl) (by kernel_rfl) rfl (p_move rfl) ?_
    refine d_take 1 rfl (by kernel_rfl) (by kernel_rfl) (by kernel_rfl) rfl (p_move rfl) ?_
    refine d_take 2 rfl (by kernel_rfl) (by kernel_rfl) (by kernel_rfl) rfl (p_index_sl _ rfl rfl rfl (rowD eInts xs ([] : List Int) (by omega)) es_54) ?_
    refine d_load 3 rfl (by kernel_rfl) (by kernel_rfl) (by kernel_rfl) rfl (p_load_v ag_22 rfl (by rfl) noX) ?_
    refine d_take 4 rfl (by kernel_rfl) (by kernel_rfl) (by kernel_rfl) rfl (p_move rfl) ?_
    refine d_take 5 rfl (by kernel_rfl) (by kernel_rfl) (by kernel_rfl) rfl (p_move rfl) ?_
    refine d_take 6 rfl (by kernel_rfl) (by kernel_rfl) (by kernel_rfl) rfl (p_index_sl _ rfl rfl rfl (rowD eInts xs ([] : List Int) (by omega)) es_54) ?_
    refine d_load 7 rfl (by kernel_rfl) (by kernel_rfl) (by kernel_rfl) rfl (p_load_v ag_22 rfl (by rfl) noX) ?_
    refine draw_all [8] (by kernel_rfl) (by simp) ?_
    refine all_cons rfl rfl ?_ ?_
    · skip
      refine w_callR rfl rfl rfl cl_16 (c_laws_eqIntS (xs.getD i []) (hr (by omega))) ?_
      refine d_take 9 rfl (by kernel_rfl) (by kernel_rfl) (by kernel_rfl) rfl (p_not rfl) ?_
      refine draw_done (by kernel_rfl) ?_
      refine a_cond_f rfl ?_
      refine a_skip ?_
      refine a_region ?_
      refine aops_cons rfl (w_pure rfl (p_move rfl) ?_)
      refine aops_cons rfl (w_pure rfl (p_add' rfl rfl ⟨by omega, by omega⟩) ?_)
      refine aops_cons rfl (w_pure rfl (p_assign rfl) ?_)
      refine aops_nil ?_
      refine ⟨(i + 1), _, ?_, ?_, (by repeat (first | exact Knows.nil | refine Knows.cons (by rfl) ?_)), (by repeat (first | exact Back.refl _ _ | refine Back.cons (by rfl) ?_)), (by repeat (first | exact Picks.nil _ | exact Pick.here _ _ _ | apply Pick.next | apply Picks.cons))⟩
      · omega
      · (try dsimp only); omega
    exact all_nil
  · (try simp only [Bool.not_eq_true', Bool.not_eq_false', Bool.not_eq_true, Bool.not_eq_false, decide_eq_true_eq, decide_eq_false_iff_not, List.length_map, List.length_range] at h2)
    refine a_exit ?_
    refine a_seq ?_
    refine a_region ?_
    refine aops_cons rfl (w_pure rfl (p_assign rfl) ?_)
    refine aops_nil ?_
    refine a_ret ?_
    refine ret_ok (hands1 rfl (.tmp rfl)) (.nil _) ?_
    first | exact ⟨rfl, rfl⟩ | (exfalso; omega)

theorem ce_laws_eqIntSS (xs ys : List (List Int)) (hn : DeepL ys) (h : xs = ys) : ACalls Try.prog 36 [.sl (xs.map eInts), .sl (ys.map eInts)] [] (Ret (.bool true)) := by
  subst h
  exact c_laws_eqIntSS xs hn

theorem c_laws_markIntSS (b : Nat) (ps : List BI) (hd : DeepI ps) (k : Int) (k0 : 0 ≤ k) (k1 : k ≤ 50000000) : ACalls Try.prog 37 [.own 1 b 0 ps.length, .int .i64 k] ((b, .arr 22 1 (ps.map rowI)) :: fam (famI 3) ps) (fun r st => r = .int .i64 (kA k ps ps.length) ∧ st = (b, .arr 22 1 ((markP k ps).map rowI)) :: fam (famI 3) (markP k ps)) := by
  have hn1 := hd.1
  refine a_enter Try.func37 rfl rfl (fun w0 M0 => ?_)
  refine a_seq ?_
  refine a_region ?_
  refine aops_cons rfl (w_pure rfl (p_assign rfl) ?_)
  refine aops_nil ?_
  refine a_seq ?_
  refine a_seq ?_
  refine a_region ?_
  refine aops_cons rfl (w_pure rfl (p_assign rfl) ?_)
  refine aops_nil ?_
  refine a_block ?_
  refine a_loop (ι := Nat × Int) (fun ⟨i, m⟩ => i ≤ ps.length ∧ m = kA k ps i) (fun ⟨i, m⟩ => [(5, .int .i64 (i : Int)), (1, .int .i64 m)]) (fun ⟨i, m⟩ => (b, .arr 22 1 (ps.map rowI)) :: fam (famI 3) (putTo (mkP k ps) ps i)) (fun ⟨i, m⟩ => ps.length - i) (0, k) ⟨Nat.zero_le _, rfl⟩ (by repeat (first | exact Knows.nil | refine Knows.cons (by rfl) ?_)) (by (try dsimp only); (try simp only [fam_app, fam_one, fam_nil, List.append_assoc, List.cons_append, List.nil_append, List.append_nil, List.append_eq]); repeat (first | exact Picks.nil _ | exact Pick.here _ _ _ | exact Picks.whole _ _ | exact Picks.whole0 _ | apply Pick.next | apply Pick.under | apply Picks.cons | apply Picks.both | apply Picks.skip1 | apply Picks.skipA)) ?_
  rintro ⟨i, m⟩ ⟨hi, hI⟩
  replace hi : i ≤ ps.length := hi
  replace hI : m = kA k ps i := hI
  subst hI
  have hkb := deep_kA hd k0 i hi
  have hlr := fun h : i < ps.length => (hd.2 i h).1
  refine a_seq ?_
  refine a_seq ?_
  refine a_region ?_
  refine aops_cons rfl (w_pure rfl (p_move rfl) ?_)
  refine aops_cons rfl (w_pure rfl (p_move rfl) ?_)
  refine aops_cons rfl (w_pure rfl (p_len sl_54 rfl rfl) ?_)
  refine aops_cons rfl (w_pure rfl (p_lss rfl rfl) ?_)
  refine aops_nil ?_
  first | refine a_cond_d rfl (fun h1 => ?_) (fun h2 => ?_) | refine a_cond_n rfl (fun h1 => ?_) (fun h2 => ?_) | refine a_cond_nb rfl (fun h1 => ?_) (fun h2 => ?_) | refine a_cond rfl (fun h1 => ?_) (fun h2 => ?_)
  · (try simp only [Bool.not_eq_true', Bool.not_eq_false', Bool.not_eq_true, Bool.not_eq_false, decide_eq_true_eq, decide_eq_false_iff_not, List.length_map, List.length_range] at h1)
    refine a_skip ?_
    refine a_seq ?_
    refine a_block ?_
    refine a_region ?_
    refine aops_cons rfl (w_pure rfl (p_move rfl) ?_)
    refine aops_cons rfl (w_pure rfl (p_move rfl) ?_)
    refine aops_cons rfl (w_pure rfl (p_index_own0 _ rfl rfl rfl (by omega) es_54) ?_)
    refine aops_cons rfl (w_pure rfl (p_load_e ag_22 rfl (by (try simp only [fam_app, fam_one, fam_nil, List.append_assoc, List.cons_append, List.nil_append, List.append_nil, List.append_eq]); repeat (first | exact Pick.here _ _ _ | apply Pick.next | apply Pick.under)) (rowD _ _ zBI (by omega)) (by rfl) noX) ?_)
    refine aops_cons rfl (w_pure rfl (p_move rfl) ?_)
    refine aops_app ((b, .arr 22 1 (ps.map rowI)) :: fam (famI 3) (putTo (mkP k ps) ps i)) ((b, .arr 22 1 (ps.map rowI)) :: (fam (famI 3) ((putTo (mkP k ps) ps i).take i) ++ famI 3 (ps.getD i zBI) :: fam (famI 3) ((putTo (mkP k ps) ps i).drop (i + 1)))) (by rw [fam_put (famI 3) (mkP k ps) zBI (show i < ps.length by omega)]) ?_
    refine aops_cons rfl (w_callM rfl rfl rfl cl_19 (by (try dsimp only); (try simp only [fam_app, fam_one, fam_nil, List.append_assoc, List.cons_append, List.nil_append, List.append_nil, List.append_eq]); repeat (first | exact Picks.nil _ | exact Pick.here _ _ _ | exact Picks.whole _ _ | exact Picks.whole0 _ | apply Pick.next | apply Pick.under | apply Picks.cons | apply Picks.both | apply Picks.skip1 | apply Picks.skipA)) (.cons (.refl _) (.cons (.refl _) .nil)) (c_laws_markIntS (ps.getD i zBI).1 (ps.getD i zBI).2 (hlr (by omega)) _ (by omega) (by omega)) trivial ?_)
    rintro _ _ ⟨rfl, rfl⟩
    refine ⟨(closed_int _ _), (closedS_cons (closedAll _ _ _ _ cl_eInt) closedS_nil), ?_⟩
    refine aops_cons rfl (w_pure rfl (p_assign rfl) ?_)
    refine aops_nil ?_
    refine a_region ?_
    refine aops_cons rfl (w_pure rfl (p_move rfl) ?_)
    refine aops_cons rfl (w_pure rfl (p_add' rfl rfl ⟨by omega, by omega⟩) ?_)
    refine aops_cons rfl (w_pure rfl (p_assign rfl) ?_)
    refine aops_nil ?_
    refine ⟨(i + 1, _), _, ?_, ?_, (by repeat (first | exact Knows.nil | refine Knows.cons (by rfl) ?_)), (by repeat (first | exact Back.refl _ _ | refine Back.cons (by rfl) ?_)), (by (try dsimp only); rw [fam_put' (famI 3) (mkP k ps) (show i < ps.length by omega)]; (try dsimp only); (try simp only [fam_app, fam_one, fam_nil, List.append_assoc, List.cons_append, List.nil_append, List.append_nil, List.append_eq]); repeat (first | exact Picks.nil _ | exact Pick.here _ _ _ | exact Picks.whole _ _ | exact Picks.whole0 _ | apply Pick.next | apply Pick.under | apply Picks.cons | apply Picks.both | apply Picks.skip1 | apply Picks.skipA))⟩
    · exact ⟨by omega, rfl⟩
    · (try dsimp only); omega
  · (try simp only [Bool.not_eq_true', Bool.not_eq_false', Bool.not_eq_true, Bool.not_eq_false, decide_eq_true_eq, decide_eq_false_iff_not, List.length_map, List.length_range] at h2)
    refine a_exit ?_
    refine a_seq ?_
    refine a_region ?_
    refine aops_cons rfl (w_pure rfl (p_move rfl) ?_)
    refine aops_cons rfl (w_pure rfl (p_assign rfl) ?_)
    refine aops_nil ?_
    refine a_ret ?_
    refine ret_ok (hands1 rfl (.tmp rfl)) (st' := (b, .arr 22 1 (ps.map rowI)) :: fam (famI 3) (putTo (mkP k ps) ps i)) (by (try dsimp only); (try simp only [fam_app, fam_one, fam_nil, List.append_assoc, List.cons_append, List.nil_append, List.append_nil, List.append_eq]); repeat (first | exact Picks.nil _ | exact Pick.here _ _ _ | exact Picks.whole _ _ | exact Picks.whole0 _ | apply Pick.next | apply Pick.under | apply Picks.cons | apply Picks.both | apply Picks.skip1 | apply Picks.skipA)) ?_
    have hx : i = ps.length := (by omega); subst hx; exact ⟨rfl, by rw [markP_row, markP, putTo_len _ _ (Nat.lt_irrefl _) (Nat.le_refl _)]⟩

theorem cn_laws_markIntSS (k : Int) : ACalls Try.prog 37 [.nil, .int .i64 k] [] (Ret (.int .i64 k)) := by
  refine a_enter Try.func37 rfl rfl (fun w0 M0 => ?_)
  refine a_seq ?_
  refine a_region ?_
  refine aops_cons rfl (w_pure rfl (p_assign rfl) ?_)
  refine aops_nil ?_
  refine a_seq ?_
  refine a_seq ?_
  refine a_region ?_
  refine aops_cons rfl (w_pure rfl (p_assign rfl) ?_)
  refine aops_nil ?_
  refine a_block ?_
  refine a_loop (ι := Nat) (fun i => i ≤ 0) (fun i => [(5, .int .i64 (i : Int))]) (fun i => []) (fun i => 0 - i) 0 (Nat.zero_le _) (by repeat (first | exact Knows.nil | refine Knows.cons (by rfl) ?_)) (by repeat (first | exact Picks.nil _ | exact Pick.here _ _ _ | apply Pick.next | apply Picks.cons)) ?_
  rintro i hi
  skip
  refine a_seq ?_
  refine a_seq ?_
  refine a_region ?_
  refine aops_cons rfl (w_pure rfl (p_move rfl) ?_)
  refine aops_cons rfl (w_pure rfl (p_move rfl) ?_)
  refine aops_cons rfl (w_pure rfl (p_len sl_54 rfl rfl) ?_)
  refine aops_cons rfl (w_pure rfl (p_lss rfl rfl) ?_)
  refine aops_nil ?_
  first | refine a_cond_d rfl (fun h1 => ?_) (fun h2 => ?_) | refine a_cond_n rfl (fun h1 => ?_) (fun h2 => ?_) | refine a_cond_nb rfl (fun h1 => ?_) (fun h2 => ?_) | refine a_cond rfl (fun h1 => ?_) (fun h2 => ?_)
  · (try simp only [Bool.not_eq_true', Bool.not_eq_false', Bool.not_eq_true, Bool.not_eq_false, decide_eq_true_eq, decide_eq_false_iff_not, List.length_map, List.length_range] at h1); exfalso; omega
  · (try simp only [Bool.not_eq_true', Bool.not_eq_false', Bool.not_eq_true, Bool.not_eq_false, decide_eq_true_eq, decide_eq_false_iff_not, List.length_map, List.length_range] at h2)
    refine a_exit ?_
    refine a_seq ?_
    refine a_region ?_
    refine aops_cons rfl (w_pure rfl (p_move rfl) ?_)
    refine aops_cons rfl (w_pure rfl (p_assign rfl) ?_)
    refine aops_nil ?_
    refine a_ret ?_
    refine ret_ok (hands1 rfl (.tmp rfl)) (.nil _) ?_
    exact ⟨by simp, rfl⟩

theorem c_laws_heldIntSS (ps : List BI) (hd : DeepI ps) (k : Int) (k0 : 0 ≤ k) (k1 : k ≤ 50000000) : ACalls Try.prog 38 [.sl (((markP k ps).map (·.2)).map eInts), .int .i64 k] [] (Ret (.int .i64 (kA k ps ps.length))) := by
  have hn1 := hd.1
  unfold markP
  refine a_enter Try.func38 rfl rfl (fun w0 M0 => ?_)
  refine a_seq ?_
  refine a_region ?_
  refine aops_cons rfl (w_pure rfl (p_assign rfl) ?_)
  refine aops_nil ?_
  refine a_seq ?_
  refine a_seq ?_
  refine a_region ?_
  refine aops_cons rfl (w_pure rfl (p_assign rfl) ?_)
  refine aops_nil ?_
  refine a_block ?_
  refine a_loop (ι := Nat × Int) (fun ⟨i, m⟩ => i ≤ ps.length ∧ m = kA k ps i) (fun ⟨i, m⟩ => [(5, .int .i64 (i : Int)), (1, .int .i64 m)]) (fun ⟨i, m⟩ => []) (fun ⟨i, m⟩ => ps.length - i) (0, k) ⟨Nat.zero_le _, rfl⟩ (by repeat (first | exact Knows.nil | refine Knows.cons (by rfl) ?_)) (by repeat (first | exact Picks.nil _ | exact Pick.here _ _ _ | apply Pick.next | apply Picks.cons)) ?_
  rintro ⟨i, m⟩ ⟨hi, hI⟩
  replace hi : i ≤ ps.length := hi
  replace hI : m = kA k ps i := hI
  subst hI
  have hkb := deep_kA hd k0 i hi
  have hlr := fun h : i < ps.length => (hd.2 i h).1
  refine a_seq ?_
  refine a_seq ?_
  refine a_region ?_
  refine aops_cons rfl (w_pure rfl (p_move rfl) ?_)
  refine aops_cons rfl (w_pure rfl (p_move rfl) ?_)
  refine aops_cons rfl (w_pure rfl (p_len sl_54 rfl rfl) ?_)
  refine aops_cons rfl (w_pure rfl (p_lss rfl rfl) ?_)
  refine aops_nil ?_
  first | refine a_cond_d rfl (fun h1 => ?_) (fun h2 => ?_) | refine a_cond_n rfl (fun h1 => ?_) (fun h2 => ?_) | refine a_cond_nb rfl (fun h1 => ?_) (fun h2 => ?_) | refine a_cond rfl (fun h1 => ?_) (fun h2 => ?_)
  · (try simp only [Bool.not_eq_true', Bool.not_eq_false', Bool.not_eq_true, Bool.not_eq_false, decide_eq_true_eq, decide_eq_false_iff_not, List.length_map, List.length_range] at h1)
    refine a_skip ?_
    refine a_seq ?_
    refine a_block ?_
    refine a_seq ?_
    refine a_region ?_
    refine aops_cons rfl (w_pure rfl (p_move rfl) ?_)
    refine aops_cons rfl (w_pure rfl (p_move rfl) ?_)
    refine aops_cons rfl (w_pure rfl (p_index_sl _ rfl rfl rfl (rowG2 eInts (fun p : BI => p.2) (mkP k ps) (by omega)) es_54) ?_)
    refine aops_cons rfl (w_pure rfl (p_load_v ag_22 rfl (by rfl) noX) ?_)
    refine aops_cons rfl (w_pure rfl (p_move rfl) ?_)
    refine aops_cons rfl (w_callR rfl rfl rfl cl_20 (c_laws_heldIntS (ps.getD i zBI).2.length (hlr (by omega)) _ (by omega) (by omega)) ?_)
    refine aops_cons rfl (w_pure rfl (p_assign rfl) ?_)
    refine aops_nil ?_
    refine a_seq ?_
    refine a_region ?_
    refine aops_cons rfl (w_pure rfl (p_move rfl) ?_)
    refine aops_cons rfl (w_pure rfl (p_lss rfl rfl) ?_)
    refine aops_nil ?_
    first | refine a_cond_d rfl (fun h3 => ?_) (fun h4 => ?_) | refine a_cond_n rfl (fun h3 => ?_) (fun h4 => ?_) | refine a_cond_nb rfl (fun h3 => ?_) (fun h4 => ?_) | refine a_cond rfl (fun h3 => ?_) (fun h4 => ?_)
    · (try simp only [Bool.not_eq_true', Bool.not_eq_false', Bool.not_eq_true, Bool.not_eq_false, decide_eq_true_eq, decide_eq_false_iff_not, List.length_map, List.length_range] at h3)
      refine a_seq ?_
      refine a_region ?_
      refine aops_cons rfl (w_pure rfl (p_assign rfl) ?_)
      refine aops_nil ?_
      refine a_ret ?_
      refine ret_ok (hands1 rfl (.tmp rfl)) (.nil _) ?_
      first | (have hx : i = ps.length := (by omega); subst hx; exact ⟨rfl, rfl⟩) | (exfalso; have := hlr (by omega); omega)
    · (try simp only [Bool.not_eq_true', Bool.not_eq_false', Bool.not_eq_true, Bool.not_eq_false, decide_eq_true_eq, decide_eq_false_iff_not, List.length_map, List.length_range] at h4)
      refine a_skip ?_
      refine a_region ?_
      refine aops_cons rfl (w_pure rfl (p_move rfl) ?_)
      refine aops_cons rfl (w_pure rfl (p_add' rfl rfl ⟨by omega, by omega⟩) ?_)
      refine aops_cons rfl (w_pure rfl (p_assign rfl) ?_)
      refine aops_nil ?_
      refine ⟨(i + 1, _), _, ?_, ?_, (by repeat (first | exact Knows.nil | refine Knows.cons (by rfl) ?_)), (by repeat (first | exact Back.refl _ _ | refine Back.cons (by rfl) ?_)), (by repeat (first | exact Picks.nil _ | exact Pick.here _ _ _ | apply Pick.next | apply Picks.cons))⟩
      · exact ⟨by omega, rfl⟩
      · (try dsimp only); omega
  · (try simp only [Bool.not_eq_true', Bool.not_eq_false', Bool.not_eq_true, Bool.not_eq_false, decide_eq_true_eq, decide_eq_false_iff_not, List.length_map, List.length_range] at h2)
    refine a_exit ?_
    refine a_seq ?_
    refine a_region ?_
    refine aops_cons rfl (w_pure rfl (p_move rfl) ?_)
    refine aops_cons rfl (w_pure rfl (p_assign rfl) ?_)
    refine aops_nil ?_
    refine a_ret ?_
    refine ret_ok (hands1 rfl (.tmp rfl)) (.nil _) ?_
    first | (have hx : i = ps.length := (by omega); subst hx; exact ⟨rfl, rfl⟩) | (exfalso; have := hlr (by omega); omega)

theorem cn_laws_heldIntSS (k : Int) (k0 : 0 ≤ k) (k1 : k ≤ 50000000) : ACalls Try.prog 38 [.sl ([] : List (List AV)), .int .i64 k] [] (Ret (.int .i64 k)) := c_laws_heldIntSS [] ⟨Nat.zero_le _, fun j hj => absurd hj (Nat.not_lt_zero _)⟩ k k0 k1

theorem c2_laws_szContextS (xs : List Context) (hn : xs.length ≤ 9223372036854775807) (hw : ∀ j, j < xs.length → (xs.getD j zContext).regs.words.length ≤ 9223372036854775807) (left : Int) (l0 : 0 ≤ left) (l1 : left ≤ 1048576) : ACalls Try.prog 23 [.sl (xs.map eContext), .int .i64 left] [] (fun r st => ∃ m : Int, r = .int .i64 m ∧ st = [] ∧ m ≤ left ∧ (¬ m < 0 → m = left - xs.length - (totW xs xs.length))) := by
  refine a_enter Try.func23 rfl rfl (fun w0 M0 => ?_)
  refine a_seq ?_
  refine a_region ?_
  refine aops_cons rfl (w_pure rfl (p_assign rfl) ?_)
  refine aops_nil ?_
  refine a_seq ?_
  refine a_region ?_
  refine aops_cons rfl (w_pure rfl (p_move rfl) ?_)
  refine aops_cons rfl (w_pure rfl (p_move rfl) ?_)
  refine aops_cons rfl (w_pure rfl (p_len sl_41 rfl rfl) ?_)
  refine aops_cons rfl (w_pure rfl (p_sub' rfl rfl ⟨by simp only [List.length_map]; omega, by simp only [List.length_map]; omega⟩) ?_)
  refine aops_cons rfl (w_pure rfl (p_assign rfl) ?_)
  refine aops_nil ?_
  refine a_seq ?_
  refine a_seq ?_
  refine a_region ?_
  refine aops_cons rfl (w_pure rfl (p_move rfl) ?_)
  refine aops_cons rfl (w_pure rfl (p_lss rfl rfl) ?_)
  refine aops_nil ?_
  first | refine a_cond_d rfl (fun h1 => ?_) (fun h2 => ?_) | refine a_cond_n rfl (fun h1 => ?_) (fun h2 => ?_) | refine a_cond_nb rfl (fun h1 => ?_) (fun h2 => ?_) | refine a_cond rfl (fun h1 => ?_) (fun h2 => ?_)
  · (try simp only [Bool.not_eq_true', Bool.not_eq_false', Bool.not_eq_true, Bool.not_eq_false, decide_eq_true_eq, decide_eq_false_iff_not, List.length_map, List.length_range] at h1)
    refine a_seq ?_
    refine a_region ?_
    refine aops_cons rfl (w_pure rfl (p_assign rfl) ?_)
    refine aops_nil ?_
    refine a_ret ?_
    refine ret_ok (hands1 rfl (.tmp rfl)) (.nil _) ?_
    first | exact ⟨-1, rfl, rfl, by omega, fun h => absurd (by decide) h⟩ | (have hx : i = xs.length := (by omega); subst hx; exact ⟨_, rfl, rfl, by have := totW_nn xs xs.length; omega, fun _ => hI⟩)
  · (try simp only [Bool.not_eq_true', Bool.not_eq_false', Bool.not_eq_true, Bool.not_eq_false, decide_eq_true_eq, decide_eq_false_iff_not, List.length_map, List.length_range] at h2)
    refine a_skip ?_
    refine a_seq ?_
    refine a_seq ?_
    refine a_region ?_
    refine aops_cons rfl (w_pure rfl (p_assign rfl) ?_)
    refine aops_nil ?_
    refine a_block ?_
    refine a_loop (ι := Nat × Int) (fun ⟨i, m⟩ => i ≤ xs.length ∧ 0 ≤ m ∧ m = left - xs.length - totW xs i) (fun ⟨i, m⟩ => [(5, .int .i64 (i : Int)), (1, .int .i64 m)]) (fun ⟨i, m⟩ => []) (fun ⟨i, m⟩ => xs.length - i) (0, left - (xs.map eContext).length) ⟨Nat.zero_le _, by simp only [List.length_map] at *; omega, by simp only [List.length_map, totW]; omega⟩ (by repeat (first | exact Knows.nil | refine Knows.cons (by rfl) ?_)) (by repeat (first | exact Picks.nil _ | exact Pick.here _ _ _ | apply Pick.next | apply Picks.cons)) ?_
    rintro ⟨i, m⟩ ⟨hi, hm0, hI⟩
    have z := fun n : Nat => szv_b (n := n) hm0; have hnn := totW_nn xs i
    refine a_seq ?_
    refine a_seq ?_
    refine a_region ?_
    refine aops_cons rfl (w_pure rfl (p_move rfl) ?_)
    refine aops_cons rfl (w_pure rfl (p_move rfl) ?_)
    refine aops_cons rfl (w_pure rfl (p_len sl_41 rfl rfl) ?_)
    refine aops_cons rfl (w_pure rfl (p_lss rfl rfl) ?_)
    refine aops_nil ?_
    first | refine a_cond_d rfl (fun h3 => ?_) (fun h4 => ?_) | refine a_cond_n rfl (fun h3 => ?_) (fun h4 => ?_) | refine a_cond_nb rfl (fun h3 => ?_) (fun h4 => ?_) | refine a_cond rfl (fun h3 => ?_) (fun h4 => ?_)
    · (try simp only [Bool.not_eq_true', Bool.not_eq_false', Bool.not_eq_true, Bool.not_eq_false, decide_eq_true_eq, decide_eq_false_iff_not, List.length_map, List.length_range] at h3)
      refine a_skip ?_
      refine a_seq ?_
      refine a_block ?_
      refine a_seq ?_
      refine a_region ?_
      refine aops_cons rfl (w_pure rfl (p_move rfl) ?_)
      refine aops_cons rfl (w_pure rfl (p_move rfl) ?_)
      refine aops_cons rfl (w_pure rfl (p_index_sl _ rfl rfl rfl (rowD eContext xs zContext (by omega)) es_41) ?_)
      refine aops_cons rfl (w_pure rfl (p_load_v_all ag_26 rfl (by rfl) noX) ?_)
      refine aops_cons rfl (w_pure rfl (p_move rfl) ?_)
      refine aops_cons rfl (w_callR rfl rfl rfl cl_12 (c_laws_szContext _ (by first | assumption | exact hw _ (by omega)) _ (by omega) (by omega)) ?_)
      refine aops_cons rfl (w_pure rfl (p_assign rfl) ?_)
      refine aops_nil ?_
      refine a_seq ?_
      refine a_region ?_
      refine aops_cons rfl (w_pure rfl (p_move rfl) ?_)
      refine aops_cons rfl (w_pure rfl (p_lss rfl rfl) ?_)
      refine aops_nil ?_
      first | refine a_cond_d rfl (fun h5 => ?_) (fun h6 => ?_) | refine a_cond_n rfl (fun h5 => ?_) (fun h6 => ?_) | refine a_cond_nb rfl (fun h5 => ?_) (fun h6 => ?_) | refine a_cond rfl (fun h5 => ?_) (fun h6 => ?_)
      · (try simp only [Bool.not_eq_true', Bool.not_eq_false', Bool.not_eq_true, Bool.not_eq_false, decide_eq_true_eq, decide_eq_false_iff_not, List.length_map, List.length_range] at h5)
        refine a_seq ?_
        refine a_region ?_
        refine aops_cons rfl (w_pure rfl (p_assign rfl) ?_)
        refine aops_nil ?_
        refine a_ret ?_
        refine ret_ok (hands1 rfl (.tmp rfl)) (.nil _) ?_
        first | exact ⟨-1, rfl, rfl, by omega, fun h => absurd (by decide) h⟩ | (have hx : i = xs.length := (by omega); subst hx; exact ⟨_, rfl, rfl, by have := totW_nn xs xs.length; omega, fun _ => hI⟩)
      · (try simp only [Bool.not_eq_true', Bool.not_eq_false', Bool.not_eq_true, Bool.not_eq_false, decide_eq_true_eq, decide_eq_false_iff_not, List.length_map, List.length_range] at h6)
        refine a_skip ?_
        refine a_region ?_
        refine aops_cons rfl (w_pure rfl (p_move rfl) ?_)
        refine aops_cons rfl (w_pure rfl (p_add' rfl rfl ⟨by omega, by omega⟩) ?_)
        refine aops_cons rfl (w_pure rfl (p_assign rfl) ?_)
        refine aops_nil ?_
        refine ⟨(i + 1, _), _, ?_, ?_, (by repeat (first | exact Knows.nil | refine Knows.cons (by rfl) ?_)), (by repeat (first | exact Back.refl _ _ | refine Back.cons (by rfl) ?_)), (by repeat (first | exact Picks.nil _ | exact Pick.here _ _ _ | apply Pick.next | apply Picks.cons))⟩
        · have q := szv_sub (n := (xs.getD i zContext).regs.words.length) (left := m) (by assumption); refine ⟨by omega, by omega, by rw [totW]; omega⟩
        · (try dsimp only); omega
    · (try simp only [Bool.not_eq_true', Bool.not_eq_false', Bool.not_eq_true, Bool.not_eq_false, decide_eq_true_eq, decide_eq_false_iff_not, List.length_map, List.length_range] at h4)
      refine a_exit ?_
      refine a_seq ?_
      refine a_region ?_
      refine aops_cons rfl (w_pure rfl (p_move rfl) ?_)
      refine aops_cons rfl (w_pure rfl (p_assign rfl) ?_)
      refine aops_nil ?_
      refine a_ret ?_
      refine ret_ok (hands1 rfl (.tmp rfl)) (.nil _) ?_
      first | exact ⟨-1, rfl, rfl, by omega, fun h => absurd (by decide) h⟩ | (have hx : i = xs.length := (by omega); subst hx; exact ⟨_, rfl, rfl, by have := totW_nn xs xs.length; omega, fun _ => hI⟩)

theorem cd_laws_toContextS (xs : List Context) (hn : SmallL xs) : ACalls Try.prog 25 [.sl (xs.map eContext)] [] (fun r st => ∃ (b1 : Nat) (ps1 : List BC), r = .own 7 b1 0 ps1.length ∧ ps1.map (·.2) = xs ∧ st = (b1, .arr 32 7 (ps1.map rowC)) :: fam (famC 3) ps1) := by
  have hn1 := hn.1
  refine a_enter Try.func25 rfl rfl (fun w0 M0 => ?_)
  refine a_seq ?_
  refine a_region ?_
  refine aops_cons rfl (w_pure rfl (p_assign rfl) ?_)
  refine aops_nil ?_
  refine a_seq ?_
  refine a_region ?_
  refine aops_cons rfl (w_pure rfl (p_move rfl) ?_)
  refine aops_cons rfl (w_pure rfl (p_len sl_41 rfl rfl) ?_)
  refine aops_cons rfl (w_makeN oC none xs.length rfl el_44 z_32 rfl rfl (by simp) (by omega) (by omega) fun b1 => ?_)
  refine aops_cons rfl (w_pure rfl (p_assign rfl) ?_)
  refine aops_nil ?_
  refine a_seq ?_
  refine a_seq ?_
  refine a_region ?_
  refine aops_cons rfl (w_pure rfl (p_assign rfl) ?_)
  refine aops_nil ?_
  refine a_block ?_
  refine a_loop (ι := Nat × List BC) (fun ⟨i, ps⟩ => i ≤ xs.length ∧ ps.length = i ∧ ps.map (·.2) = xs.take i) (fun ⟨i, ps⟩ => [(4, .int .i64 (i : Int))]) (fun ⟨i, ps⟩ => (b1, .arr 32 7 ((fillC ps xs.length).map oC)) :: fam (famC 3) ps) (fun ⟨i, ps⟩ => xs.length - i) (0, []) ⟨Nat.zero_le _, rfl, rfl⟩ (by repeat (first | exact Knows.nil | refine Knows.cons (by rfl) ?_)) (by (try dsimp only); (try simp only [fam_app, fam_one, fam_nil, List.append_assoc, List.cons_append, List.nil_append, List.append_nil, List.append_eq]); repeat (first | exact Picks.nil _ | exact Pick.here _ _ _ | exact Picks.whole _ _ | exact Picks.whole0 _ | apply Pick.next | apply Pick.under | apply Picks.cons | apply Picks.both | apply Picks.skip1 | apply Picks.skipA)) ?_
  rintro ⟨i, ps⟩ ⟨hi, hL, hP⟩
  replace hi : i ≤ xs.length := hi
  replace hL : ps.length = i := hL
  replace hP : ps.map (·.2) = xs.take i := hP
  have hfl := fillC_len (ps := ps) (n := xs.length) (by omega)
  refine a_seq ?_
  refine a_seq ?_
  refine a_region ?_
  refine aops_cons rfl (w_pure rfl (p_move rfl) ?_)
  refine aops_cons rfl (w_pure rfl (p_move rfl) ?_)
  refine aops_cons rfl (w_pure rfl (p_len sl_41 rfl rfl) ?_)
  refine aops_cons rfl (w_pure rfl (p_lss rfl rfl) ?_)
  refine aops_nil ?_
  first | refine a_cond_d rfl (fun h1 => ?_) (fun h2 => ?_) | refine a_cond_n rfl (fun h1 => ?_) (fun h2 => ?_) | refine a_cond_nb rfl (fun h1 => ?_) (fun h2 => ?_) | refine a_cond rfl (fun h1 => ?_) (fun h2 => ?_)
  · (try simp only [Bool.not_eq_true', Bool.not_eq_false', Bool.not_eq_true, Bool.not_eq_false, decide_eq_true_eq, decide_eq_false_iff_not, List.length_map, List.length_range] at h1)
    refine a_skip ?_
    refine a_seq ?_
    refine a_block ?_
    refine a_region ?_
    refine aops_cons rfl (w_pure rfl (p_move rfl) ?_)
    refine aops_cons rfl (w_pure rfl (p_move rfl) ?_)
    refine aops_cons rfl (w_pure rfl (p_move rfl) ?_)
    refine aops_cons rfl (w_pure rfl (p_move rfl) ?_)
    refine aops_cons rfl (w_pure rfl (p_index_sl _ rfl rfl rfl (rowD eContext xs zContext (by omega)) es_41) ?_)
    refine aops_cons rfl (w_pure rfl (p_load_v_all ag_26 rfl (by rfl) noX) ?_)
    refine aops_cons rfl (w_call rfl rfl rfl cl_14 (co_laws_toContext (xs.getD i zContext) (hn.2 i (by omega))) ?_)
    rintro _ _ ⟨b2, rfl, rfl⟩
    refine aops_cons rfl (w_pure rfl (p_index_own0 _ rfl rfl rfl (by first | omega | (rw [hfl]; omega)) es_44) ?_)
    refine aops_cons rfl (w_store_eM oC (some (b2, xs.getD i zContext)) rfl rfl rfl (by (try simp only [fam_app, fam_one, fam_nil, List.append_assoc, List.cons_append, List.nil_append, List.append_nil, List.append_eq]); repeat (first | exact Pick.here _ _ _ | apply Pick.next | apply Pick.under)) (by first | omega | (rw [hfl]; omega)) cn_32 (by rfl) (by rw [oC_len]; rfl) (segSet_all (oC_len _)) trivial ?_)
    rw [fillC_set' _ hL (by omega)]
    refine aops_nil ?_
    refine a_region ?_
    refine aops_cons rfl (w_pure rfl (p_move rfl) ?_)
    refine aops_cons rfl (w_pure rfl (p_add' rfl rfl ⟨by (try simp only [List.length_map, List.length_append, List.length_cons, List.length_nil]); omega, by (try simp only [List.length_map, List.length_append, List.length_cons, List.length_nil]); omega⟩) ?_)
    refine aops_cons rfl (w_pure rfl (p_assign rfl) ?_)
    refine aops_nil ?_
    refine ⟨(i + 1, ps ++ [(b2, xs.getD i zContext)]), _, ?_, ?_, (by repeat (first | exact Knows.nil | refine Knows.cons (by rfl) ?_)), (by repeat (first | exact Back.refl _ _ | refine Back.cons (by rfl) ?_)), (by (try dsimp only); (try simp only [fam_app, fam_one, fam_nil, List.append_assoc, List.cons_append, List.nil_append, List.append_nil, List.append_eq]); repeat (first | exact Picks.nil _ | exact Pick.here _ _ _ | exact Picks.whole _ _ | exact Picks.whole0 _ | apply Pick.next | apply Pick.under | apply Picks.cons | apply Picks.both | apply Picks.skip1 | apply Picks.skipA))⟩
    · exact ⟨by omega, by simp; omega, take_step hP (by omega) rfl⟩
    · (try dsimp only); omega
  · (try simp only [Bool.not_eq_true', Bool.not_eq_false', Bool.not_eq_true, Bool.not_eq_false, decide_eq_true_eq, decide_eq_false_iff_not, List.length_map, List.length_range] at h2)
    refine a_exit ?_
    refine a_seq ?_
    refine a_region ?_
    refine aops_cons rfl (w_pure rfl (p_move rfl) ?_)
    refine aops_cons rfl (w_pure rfl (p_assign rfl) ?_)
    refine aops_nil ?_
    refine a_ret ?_
    refine ret_ok (hands1 rfl (.tmp rfl)) (st' := (b1, .arr 32 7 ((fillC ps xs.length).map oC)) :: fam (famC 3) ps) (by (try dsimp only); (try simp only [fam_app, fam_one, fam_nil, List.append_assoc, List.cons_append, List.nil_append, List.append_nil, List.append_eq]); repeat (first | exact Picks.nil _ | exact Pick.here _ _ _ | exact Picks.whole _ _ | exact Picks.whole0 _ | apply Pick.next | apply Pick.under | apply Picks.cons | apply Picks.both | apply Picks.skip1 | apply Picks.skipA)) ?_
    have hx : i = xs.length := (by omega); subst hx; exact ⟨b1, ps, by rw [hL], by rw [hP, List.take_length], by rw [fillC_all hL]⟩

theorem ce_laws_eqContextS (xs ys : List Context) (hn : SmallL ys) (h : xs = ys) : ACalls Try.prog 27 [.sl (xs.map eContext), .sl (ys.map eContext)] [] (Ret (.bool true)) := by
  subst h
  exact c_laws_eqContextS xs hn

theorem c_laws_markContextS (b : Nat) (ps : List BC) (hd : DeepC ps) (k : Int) (k0 : 0 ≤ k) (k1 : k ≤ 50000000) : ACalls Try.prog 28 [.own 7 b 0 ps.length, .int .i64 k] ((b, .arr 32 7 (ps.map rowC)) :: fam (famC 3) ps) (fun r st => r = .int .i64 (kC k ps ps.length) ∧ st = (b, .arr 32 7 ((markPC k ps).map rowC)) :: fam (famC 3) (markPC k ps)) := by
  have hn1 := hd.1
  refine a_enter Try.func28 rfl rfl (fun w0 M0 => ?_)
  refine a_seq ?_
  refine a_region ?_
  refine aops_cons rfl (w_pure rfl (p_assign rfl) ?_)
  refine aops_nil ?_
  refine a_seq ?_
  refine a_seq ?_
  refine a_region ?_
  refine aops_cons rfl (w_pure rfl (p_assign rfl) ?_)
  refine aops_nil ?_
  refine a_block ?_
  refine a_loop (ι := Nat × Int) (fun ⟨i, m⟩ => i ≤ ps.length ∧ m = kC k ps i) (fun ⟨i, m⟩ => [(5, .int .i64 (i : Int)), (1, .int .i64 m)]) (fun ⟨i, m⟩ => (b, .arr 32 7 ((putTo (mkPC k ps) ps i).map rowC)) :: fam (famC 3) (putTo (mkPC k ps) ps i)) (fun ⟨i, m⟩ => ps.length - i) (0, k) ⟨Nat.zero_le _, rfl⟩ (by repeat (first | exact Knows.nil | refine Knows.cons (by rfl) ?_)) (by (try dsimp only); (try simp only [fam_app, fam_one, fam_nil, List.append_assoc, List.cons_append, List.nil_append, List.append_nil, List.append_eq]); repeat (first | exact Picks.nil _ | exact Pick.here _ _ _ | exact Picks.whole _ _ | exact Picks.whole0 _ | apply Pick.next | apply Pick.under | apply Picks.cons | apply Picks.both | apply Picks.skip1 | apply Picks.skipA)) ?_
  rintro ⟨i, m⟩ ⟨hi, hI⟩
  replace hi : i ≤ ps.length := hi
  replace hI : m = kC k ps i := hI
  subst hI
  have hkb := deep_kC hd k0 i hi
  have hkc := fun h : i < ps.length => deep_kC hd k0 (i + 1) h
  have hke : kC k ps (i + 1) = (kC k ps i) + 1 + 1 * ((ps.getD i zBC).2.regs.words.length : Int) + 1 + 1 + 1 + 1 + 1 := rfl
  have hlr := fun h : i < ps.length => (hd.2 i h).1
  refine a_seq ?_
  refine a_seq ?_
  refine a_region ?_
  refine aops_cons rfl (w_pure rfl (p_move rfl) ?_)
  refine aops_cons rfl (w_pure rfl (p_move rfl) ?_)
  refine aops_cons rfl (w_pure rfl (p_len sl_44 rfl rfl) ?_)
  refine aops_cons rfl (w_pure rfl (p_lss rfl rfl) ?_)
  refine aops_nil ?_
  first | refine a_cond_d rfl (fun h1 => ?_) (fun h2 => ?_) | refine a_cond_n rfl (fun h1 => ?_) (fun h2 => ?_) | refine a_cond_nb rfl (fun h1 => ?_) (fun h2 => ?_) | refine a_cond rfl (fun h1 => ?_) (fun h2 => ?_)
  · (try simp only [Bool.not_eq_true', Bool.not_eq_false', Bool.not_eq_true, Bool.not_eq_false, decide_eq_true_eq, decide_eq_false_iff_not, List.length_map, List.length_range] at h1)
    refine a_skip ?_
    refine a_seq ?_
    refine a_block ?_
    refine a_seq ?_
    refine awp_app ((b, .arr 32 7 ((putTo (mkPC k ps) ps i).map rowC)) :: fam (famC 3) (putTo (mkPC k ps) ps i)) ((b, .arr 32 7 ((putTo (mkPC k ps) ps i).map rowC)) :: (fam (famC 3) ((putTo (mkPC k ps) ps i).take i) ++ famC 3 (ps.getD i zBC) :: fam (famC 3) ((putTo (mkPC k ps) ps i).drop (i + 1)))) (by rw [fam_put (famC 3) (mkPC k ps) zBC (show i < ps.length by omega)]) ?_
    refine a_region ?_
    refine aops_cons rfl (w_pure rfl (p_move rfl) ?_)
    refine aops_cons rfl (w_pure rfl (p_move rfl) ?_)
    refine aops_cons rfl (w_pure rfl (p_move rfl) ?_)
    refine aops_cons rfl (w_pure rfl (p_index_own0 _ rfl rfl rfl (by omega) es_44) ?_)
    refine aops_cons rfl (w_pure rfl (p_field_e fo_32_0 rfl) ?_)
    refine aops_cons rfl (w_store_eM rowC ((ps.getD i zBC).1, (⟨(kC k ps i), ⟨(ps.getD i zBC).2.regs.words, (ps.getD i zBC).2.regs.pc, (ps.getD i zBC).2.regs.f, (ps.getD i zBC).2.regs.g⟩, (ps.getD i zBC).2.wait, (ps.getD i zBC).2.pend⟩ : Context)) rfl rfl rfl (by (try simp only [fam_app, fam_one, fam_nil, List.append_assoc, List.cons_append, List.nil_append, List.append_nil, List.append_eq]); repeat (first | exact Pick.here _ _ _ | apply Pick.next | apply Pick.under)) (by rw [putTo_length _ _ hi]; omega) cn_3 (by rfl) (by rfl) (by exact seg_putC (by omega) _ rfl) trivial ?_)
    refine aops_nil ?_
    refine a_seq ?_
    refine a_region ?_
    refine aops_cons rfl (w_pure rfl (p_move rfl) ?_)
    refine aops_cons rfl (w_pure rfl (p_add' rfl rfl ⟨by omega, by omega⟩) ?_)
    refine aops_cons rfl (w_pure rfl (p_assign rfl) ?_)
    refine aops_nil ?_
    refine a_seq ?_
    refine a_region ?_
    refine aops_cons rfl (w_pure rfl (p_move rfl) ?_)
    refine aops_cons rfl (w_pure rfl (p_move rfl) ?_)
    refine aops_cons rfl (w_pure rfl (p_index_own0 _ rfl rfl rfl (by omega) es_44) ?_)
    refine aops_cons rfl (w_pure rfl (p_field_e fo_32_1 rfl) ?_)
    refine aops_cons rfl (w_pure rfl (p_field_e fo_30_0 rfl) ?_)
    refine aops_cons rfl (w_pure rfl (p_load_e ag_22 rfl (by (try simp only [fam_app, fam_one, fam_nil, List.append_assoc, List.cons_append, List.nil_append, List.append_nil, List.append_eq]); repeat (first | exact Pick.here _ _ _ | apply Pick.next | apply Pick.under)) (rowS (by rw [putTo_length _ _ hi]; omega)) (by rfl) noX) ?_)
    refine aops_cons rfl (w_pure rfl (p_move rfl) ?_)
    refine aops_cons rfl (w_callM rfl rfl rfl cl_19 (by (try dsimp only); (try simp only [fam_app, fam_one, fam_nil, List.append_assoc, List.cons_append, List.nil_append, List.append_nil, List.append_eq]); repeat (first | exact Picks.nil _ | exact Pick.here _ _ _ | exact Picks.whole _ _ | exact Picks.whole0 _ | apply Pick.next | apply Pick.under | apply Picks.cons | apply Picks.both | apply Picks.skip1 | apply Picks.skipA)) (.cons (.refl _) (.cons (.refl _) .nil)) (c_laws_markIntS (ps.getD i zBC).1 (ps.getD i zBC).2.regs.words (hlr (by omega)) _ (by omega) (by omega)) trivial ?_)
    rintro _ _ ⟨rfl, rfl⟩
    refine ⟨(closed_int _ _), (closedS_cons (closedAll _ _ _ _ cl_eInt) closedS_nil), ?_⟩
    refine aops_cons rfl (w_pure rfl (p_assign rfl) ?_)
    refine aops_nil ?_
    refine a_seq ?_
    refine a_region ?_
    refine aops_cons rfl (w_pure rfl (p_move rfl) ?_)
    refine aops_cons rfl (w_pure rfl (p_move rfl) ?_)
    refine aops_cons rfl (w_pure rfl (p_move rfl) ?_)
    refine aops_cons rfl (w_pure rfl (p_index_own0 _ rfl rfl rfl (by omega) es_44) ?_)
    refine aops_cons rfl (w_pure rfl (p_field_e fo_32_1 rfl) ?_)
    refine aops_cons rfl (w_pure rfl (p_field_e fo_30_1 rfl) ?_)
    refine aops_cons rfl (w_store_eM rowC ((ps.getD i zBC).1, (⟨(kC k ps i), ⟨(ps.getD i zBC).2.regs.words, (kC k ps i) + 1 + 1 * ((ps.getD i zBC).2.regs.words.length : Int), (ps.getD i zBC).2.regs.f, (ps.getD i zBC).2.regs.g⟩, (ps.getD i zBC).2.wait, (ps.getD i zBC).2.pend⟩ : Context)) rfl rfl rfl (by (try simp only [fam_app, fam_one, fam_nil, List.append_assoc, List.cons_append, List.nil_append, List.append_nil, List.append_eq]); repeat (first | exact Pick.here _ _ _ | apply Pick.next | apply Pick.under)) (by rw [List.length_set, putTo_length _ _ hi]; omega) cn_3 (by rfl) (by rfl) (by exact seg_set _ rfl) trivial ?_)
    rw [List.set_set]
    refine aops_nil ?_
    refine a_seq ?_
    refine a_region ?_
    refine aops_cons rfl (w_pure rfl (p_move rfl) ?_)
    refine aops_cons rfl (w_pure rfl (p_add' rfl rfl ⟨by omega, by omega⟩) ?_)
    refine aops_cons rfl (w_pure rfl (p_assign rfl) ?_)
    refine aops_nil ?_
    refine a_seq ?_
    refine a_region ?_
    refine aops_cons rfl (w_pure rfl (p_move rfl) ?_)
    refine aops_cons rfl (w_pure rfl (p_move rfl) ?_)
    refine aops_cons rfl (w_pure rfl (p_move rfl) ?_)
    refine aops_cons rfl (w_pure rfl (p_rem' rfl rfl (by omega) (by omega)) ?_)
    refine aops_cons rfl (w_pure rfl (p_eql rfl rfl) ?_)
    refine aops_cons rfl (w_pure rfl (p_index_own0 _ rfl rfl rfl (by omega) es_44) ?_)
    refine aops_cons rfl (w_pure rfl (p_field_e fo_32_1 rfl) ?_)
    refine aops_cons rfl (w_pure rfl (p_field_e fo_30_2 rfl) ?_)
    refine aops_cons rfl (w_store_eM rowC ((ps.getD i zBC).1, (⟨(kC k ps i), ⟨(ps.getD i zBC).2.regs.words, (kC k ps i) + 1 + 1 * ((ps.getD i zBC).2.regs.words.length : Int), decide (((kC k ps i) + 1 + 1 * ((ps.getD i zBC).2.regs.words.length : Int) + 1) % 3 = 0), (ps.getD i zBC).2.regs.g⟩, (ps.getD i zBC).2.wait, (ps.getD i zBC).2.pend⟩ : Context)) rfl rfl rfl (by (try simp only [fam_app, fam_one, fam_nil, List.append_assoc, List.cons_append, List.nil_append, List.append_nil, List.append_eq]); repeat (first | exact Pick.here _ _ _ | apply Pick.next | apply Pick.under)) (by rw [List.length_set, putTo_length _ _ hi]; omega) cn_4 (by rfl) (by rfl) (by exact seg_set _ rfl) trivial ?_)
    rw [List.set_set]
    refine aops_nil ?_
    refine a_seq ?_
    refine a_region ?_
    refine aops_cons rfl (w_pure rfl (p_move rfl) ?_)
    refine aops_cons rfl (w_pure rfl (p_add' rfl rfl ⟨by omega, by omega⟩) ?_)
    refine aops_cons rfl (w_pure rfl (p_assign rfl) ?_)
    refine aops_nil ?_
    refine a_seq ?_
    refine a_region ?_
    refine aops_cons rfl (w_pure rfl (p_move rfl) ?_)
    refine aops_cons rfl (w_pure rfl (p_move rfl) ?_)
    refine aops_cons rfl (w_pure rfl (p_move rfl) ?_)
    refine aops_cons rfl (w_pure rfl (p_rem' rfl rfl (by omega) (by omega)) ?_)
    refine aops_cons rfl (w_pure rfl (p_eql rfl rfl) ?_)
    refine aops_cons rfl (w_pure rfl (p_index_own0 _ rfl rfl rfl (by omega) es_44) ?_)
    refine aops_cons rfl (w_pure rfl (p_field_e fo_32_1 rfl) ?_)
    refine aops_cons rfl (w_pure rfl (p_field_e fo_30_3 rfl) ?_)
    refine aops_cons rfl (w_store_eM rowC ((ps.getD i zBC).1, (⟨(kC k ps i), ⟨(ps.getD i zBC).2.regs.words, (kC k ps i) + 1 + 1 * ((ps.getD i zBC).2.regs.words.length : Int), decide (((kC k ps i) + 1 + 1 * ((ps.getD i zBC).2.regs.words.length : Int) + 1) % 3 = 0), decide (((kC k ps i) + 1 + 1 * ((ps.getD i zBC).2.regs.words.length : Int) + 1 + 1) % 3 = 0)⟩, (ps.getD i zBC).2.wait, (ps.getD i zBC).2.pend⟩ : Context)) rfl rfl rfl (by (try simp only [fam_app, fam_one, fam_nil, List.append_assoc, List.cons_append, List.nil_append, List.append_nil, List.append_eq]); repeat (first | exact Pick.here _ _ _ | apply Pick.next | apply Pick.under)) (by rw [List.length_set, putTo_length _ _ hi]; omega) cn_4 (by rfl) (by rfl) (by exact seg_set _ rfl) trivial ?_)
    rw [List.set_set]
    refine aops_nil ?_
    refine a_seq ?_
    refine a_region ?_
    refine aops_cons rfl (w_pure rfl (p_move rfl) ?_)
    refine aops_cons rfl (w_pure rfl (p_add' rfl rfl ⟨by omega, by omega⟩) ?_)
    refine aops_cons rfl (w_pure rfl (p_assign rfl) ?_)
    refine aops_nil ?_
    refine a_seq ?_
    refine a_region ?_
    refine aops_cons rfl (w_pure rfl (p_move rfl) ?_)
    refine aops_cons rfl (w_pure rfl (p_move rfl) ?_)
    refine aops_cons rfl (w_pure rfl (p_move rfl) ?_)
    refine aops_cons rfl (w_pure rfl (p_index_own0 _ rfl rfl rfl (by omega) es_44) ?_)
    refine aops_cons rfl (w_pure rfl (p_field_e fo_32_2 rfl) ?_)
    refine aops_cons rfl (w_store_eM rowC ((ps.getD i zBC).1, (⟨(kC k ps i), ⟨(ps.getD i zBC).2.regs.words, (kC k ps i) + 1 + 1 * ((ps.getD i zBC).2.regs.words.length : Int), decide (((kC k ps i) + 1 + 1 * ((ps.getD i zBC).2.regs.words.length : Int) + 1) % 3 = 0), decide (((kC k ps i) + 1 + 1 * ((ps.getD i zBC).2.regs.words.length : Int) + 1 + 1) % 3 = 0)⟩, (kC k ps i) + 1 + 1 * ((ps.getD i zBC).2.regs.words.length : Int) + 1 + 1 + 1, (ps.getD i zBC).2.pend⟩ : Context)) rfl rfl rfl (by (try simp only [fam_app, fam_one, fam_nil, List.append_assoc, List.cons_append, List.nil_append, List.append_nil, List.append_eq]); repeat (first | exact Pick.here _ _ _ | apply Pick.next | apply Pick.under)) (by rw [List.length_set, putTo_length _ _ hi]; omega) cn_3 (by rfl) (by rfl) (by exact seg_set _ rfl) trivial ?_)
    rw [List.set_set]
    refine aops_nil ?_
    refine a_seq ?_
    refine a_region ?_
    refine aops_cons rfl (w_pure rfl (p_move rfl) ?_)
    refine aops_cons rfl (w_pure rfl (p_add' rfl rfl ⟨by omega, by omega⟩) ?_)
    refine aops_cons rfl (w_pure rfl (p_assign rfl) ?_)
    refine aops_nil ?_
    refine a_seq ?_
    refine a_region ?_
    refine aops_cons rfl (w_pure rfl (p_move rfl) ?_)
    refine aops_cons rfl (w_pure rfl (p_move rfl) ?_)
    refine aops_cons rfl (w_pure rfl (p_move rfl) ?_)
    refine aops_cons rfl (w_pure rfl (p_index_own0 _ rfl rfl rfl (by omega) es_44) ?_)
    refine aops_cons rfl (w_pure rfl (p_field_e fo_32_3 rfl) ?_)
    refine aops_cons rfl (w_store_eM rowC ((ps.getD i zBC).1, (⟨(kC k ps i), ⟨(ps.getD i zBC).2.regs.words, (kC k ps i) + 1 + 1 * ((ps.getD i zBC).2.regs.words.length : Int), decide (((kC k ps i) + 1 + 1 * ((ps.getD i zBC).2.regs.words.length : Int) + 1) % 3 = 0), decide (((kC k ps i) + 1 + 1 * ((ps.getD i zBC).2.regs.words.length : Int) + 1 + 1) % 3 = 0)⟩, (kC k ps i) + 1 + 1 * ((ps.getD i zBC).2.regs.words.length : Int) + 1 + 1 + 1, (kC k ps i) + 1 + 1 * ((ps.getD i zBC).2.regs.words.length : Int) + 1 + 1 + 1 + 1⟩ : Context)) rfl rfl rfl (by (try simp only [fam_app, fam_one, fam_nil, List.append_assoc, List.cons_append, List.nil_append, List.append_nil, List.append_eq]); repeat (first | exact Pick.here _ _ _ | apply Pick.next | apply Pick.under)) (by rw [List.length_set, putTo_length _ _ hi]; omega) cn_3 (by rfl) (by rfl) (by exact seg_set _ rfl) trivial ?_)
    rw [List.set_set, mark_rowC (by omega) (rowC_mk k ps i _ rfl)]
    refine aops_nil ?_
    refine a_region ?_
    refine aops_cons rfl (w_pure rfl (p_move rfl) ?_)
    refine aops_cons rfl (w_pure rfl (p_add' rfl rfl ⟨by omega, by omega⟩) ?_)
    refine aops_cons rfl (w_pure rfl (p_assign rfl) ?_)
    refine aops_nil ?_
    refine a_region ?_
    refine aops_cons rfl (w_pure rfl (p_move rfl) ?_)
    refine aops_cons rfl (w_pure rfl (p_add' rfl rfl ⟨by omega, by omega⟩) ?_)
    refine aops_cons rfl (w_pure rfl (p_assign rfl) ?_)
    refine aops_nil ?_
    refine ⟨(i + 1, _), _, ?_, ?_, (by repeat (first | exact Knows.nil | refine Knows.cons (by rfl) ?_)), (by repeat (first | exact Back.refl _ _ | refine Back.cons (by rfl) ?_)), (by (try dsimp only); rw [fam_put' (famC 3) (mkPC k ps) (show i < ps.length by omega)]; (try dsimp only); (try simp only [fam_app, fam_one, fam_nil, List.append_assoc, List.cons_append, List.nil_append, List.append_nil, List.append_eq]); repeat (first | exact Picks.nil _ | exact Pick.here _ _ _ | exact Picks.whole _ _ | exact Picks.whole0 _ | apply Pick.next | apply Pick.under | apply Picks.cons | apply Picks.both | apply Picks.skip1 | apply Picks.skipA))⟩
    · exact ⟨by omega, rfl⟩
    · (try dsimp only); omega
  · (try simp only [Bool.not_eq_true', Bool.not_eq_false', Bool.not_eq_true, Bool.not_eq_false, decide_eq_true_eq, decide_eq_false_iff_not, List.length_map, List.length_range] at h2)
    refine a_exit ?_
    refine a_seq ?_
    refine a_region ?_
    refine aops_cons rfl (w_pure rfl (p_move rfl) ?_)
    refine aops_cons rfl (w_pure rfl (p_assign rfl) ?_)
    refine aops_nil ?_
    refine a_ret ?_
    refine ret_ok (hands1 rfl (.tmp rfl)) (st' := (b, .arr 32 7 ((putTo (mkPC k ps) ps i).map rowC)) :: fam (famC 3) (putTo (mkPC k ps) ps i)) (by (try dsimp only); (try simp only [fam_app, fam_one, fam_nil, List.append_assoc, List.cons_append, List.nil_append, List.append_nil, List.append_eq]); repeat (first | exact Picks.nil _ | exact Pick.here _ _ _ | exact Picks.whole _ _ | exact Picks.whole0 _ | apply Pick.next | apply Pick.under | apply Picks.cons | apply Picks.both | apply Picks.skip1 | apply Picks.skipA)) ?_
    have hx : i = ps.length := (by omega); subst hx; exact ⟨rfl, by rw [markPC, putTo_len _ _ (Nat.lt_irrefl _) (Nat.le_refl _)]⟩

theorem cn_laws_markContextS (k : Int) : ACalls Try.prog 28 [.nil, .int .i64 k] [] (Ret (.int .i64 k)) := by
  refine a_enter Try.func28 rfl rfl (fun w0 M0 => ?_)
  refine a_seq ?_
  refine a_region ?_
  refine aops_cons rfl (w_pure rfl (p_assign rfl) ?_)
  refine aops_nil ?_
  refine a_seq ?_
  refine a_seq ?_
  refine a_region ?_
  refine aops_cons rfl (w_pure rfl (p_assign rfl) ?_)
  refine aops_nil ?_
  refine a_block ?_
  refine a_loop (ι := Nat) (fun i => i ≤ 0) (fun i => [(5, .int .i64 (i : Int))]) (fun i => []) (fun i => 0 - i) 0 (Nat.zero_le _) (by repeat (first | exact Knows.nil | refine Knows.cons (by rfl) ?_)) (by repeat (first | exact Picks.nil _ | exact Pick.here _ _ _ | apply Pick.next | apply Picks.cons)) ?_
  rintro i hi
  skip
  refine a_seq ?_
  refine a_seq ?_
  refine a_region ?_
  refine aops_cons rfl (w_pure rfl (p_move rfl) ?_)
  refine aops_cons rfl (w_pure rfl (p_move rfl) ?_)
  refine aops_cons rfl (w_pure rfl (p_len sl_44 rfl rfl) ?_)
  refine aops_cons rfl (w_pure rfl (p_lss rfl rfl) ?_)
  refine aops_nil ?_
  first | refine a_cond_d rfl (fun h1 => ?_) (fun h2 => ?_) | refine a_cond_n rfl (fun h1 => ?_) (fun h2 => ?_) | refine a_cond_nb rfl (fun h1 => ?_) (fun h2 => ?_) | refine a_cond rfl (fun h1 => ?_) (fun h2 => ?_)
  · (try simp only [Bool.not_eq_true', Bool.not_eq_false', Bool.not_eq_true, Bool.not_eq_false, decide_eq_true_eq, decide_eq_false_iff_not, List.length_map, List.length_range] at h1); exfalso; omega
  · (try simp only [Bool.not_eq_true', Bool.not_eq_false', Bool.not_eq_true, Bool.not_eq_false, decide_eq_true_eq, decide_eq_false_iff_not, List.length_map, List.length_range] at h2)
    refine a_exit ?_
    refine a_seq ?_
    refine a_region ?_
    refine aops_cons rfl (w_pure rfl (p_move rfl) ?_)
    refine aops_cons rfl (w_pure rfl (p_assign rfl) ?_)
    refine aops_nil ?_
    refine a_ret ?_
    refine ret_ok (hands1 rfl (.tmp rfl)) (.nil _) ?_
    exact ⟨by simp, rfl⟩

theorem c_laws_heldContextS (ps : List BC) (hd : DeepC ps) (k : Int) (k0 : 0 ≤ k) (k1 : k ≤ 50000000) : ACalls Try.prog 33 [.sl (((markPC k ps).map (·.2)).map eContext), .int .i64 k] [] (Ret (.int .i64 (kC k ps ps.length))) := by
  have hn1 := hd.1
  unfold markPC
  refine a_enter Try.func33 rfl rfl (fun w0 M0 => ?_)
  refine a_seq ?_
  refine a_region ?_
  refine aops_cons rfl (w_pure rfl (p_assign rfl) ?_)
  refine aops_nil ?_
  refine a_seq ?_
  refine a_seq ?_
  refine a_region ?_
  refine aops_cons rfl (w_pure rfl (p_assign rfl) ?_)
  refine aops_nil ?_
  refine a_block ?_
  refine a_loop (ι := Nat × Int) (fun ⟨i, m⟩ => i ≤ ps.length ∧ m = kC k ps i) (fun ⟨i, m⟩ => [(5, .int .i64 (i : Int)), (1, .int .i64 m)]) (fun ⟨i, m⟩ => []) (fun ⟨i, m⟩ => ps.length - i) (0, k) ⟨Nat.zero_le _, rfl⟩ (by repeat (first | exact Knows.nil | refine Knows.cons (by rfl) ?_)) (by repeat (first | exact Picks.nil _ | exact Pick.here _ _ _ | apply Pick.next | apply Picks.cons)) ?_
  rintro ⟨i, m⟩ ⟨hi, hI⟩
  replace hi : i ≤ ps.length := hi
  replace hI : m = kC k ps i := hI
  subst hI
  have hkb := deep_kC hd k0 i hi
  have hkc := fun h : i < ps.length => deep_kC hd k0 (i + 1) h
  have hke : kC k ps (i + 1) = (kC k ps i) + 1 + 1 * ((ps.getD i zBC).2.regs.words.length : Int) + 1 + 1 + 1 + 1 + 1 := rfl
  have hlr := fun h : i < ps.length => (hd.2 i h).1
  refine a_seq ?_
  refine a_seq ?_
  refine a_region ?_
  refine aops_cons rfl (w_pure rfl (p_move rfl) ?_)
  refine aops_cons rfl (w_pure rfl (p_move rfl) ?_)
  refine aops_cons rfl (w_pure rfl (p_len sl_44 rfl rfl) ?_)
  refine aops_cons rfl (w_pure rfl (p_lss rfl rfl) ?_)
  refine aops_nil ?_
  first | refine a_cond_d rfl (fun h1 => ?_) (fun h2 => ?_) | refine a_cond_n rfl (fun h1 => ?_) (fun h2 => ?_) | refine a_cond_nb rfl (fun h1 => ?_) (fun h2 => ?_) | refine a_cond rfl (fun h1 => ?_) (fun h2 => ?_)
  · (try simp only [Bool.not_eq_true', Bool.not_eq_false', Bool.not_eq_true, Bool.not_eq_false, decide_eq_true_eq, decide_eq_false_iff_not, List.length_map, List.length_range] at h1)
    refine a_skip ?_
    refine a_seq ?_
    refine a_block ?_
    refine a_seq ?_
    refine a_seq ?_
    refine a_region ?_
    refine aops_cons rfl (w_pure rfl (p_move rfl) ?_)
    refine aops_cons rfl (w_pure rfl (p_move rfl) ?_)
    refine aops_cons rfl (w_pure rfl (p_index_sl _ rfl rfl rfl (rowG2 eContext (fun p : BC => p.2) (mkPC k ps) (by omega)) es_44) ?_)
    refine aops_cons rfl (w_pure rfl (p_field_v fo_32_0 rfl) ?_)
    refine aops_cons rfl (w_pure rfl (p_load_v ag_3 rfl (by rfl) noX) ?_)
    refine aops_cons rfl (w_pure rfl (p_move rfl) ?_)
    refine aops_cons rfl (w_pure rfl (p_neq_same rfl rfl) ?_)
    refine aops_nil ?_
    refine a_cond_f rfl ?_
    refine a_skip ?_
    refine a_seq ?_
    refine a_region ?_
    refine aops_cons rfl (w_pure rfl (p_move rfl) ?_)
    refine aops_cons rfl (w_pure rfl (p_add' rfl rfl ⟨by omega, by omega⟩) ?_)
    refine aops_cons rfl (w_pure rfl (p_assign rfl) ?_)
    refine aops_nil ?_
    refine a_seq ?_
    refine a_region ?_
    refine aops_cons rfl (w_pure rfl (p_move rfl) ?_)
    refine aops_cons rfl (w_pure rfl (p_move rfl) ?_)
    refine aops_cons rfl (w_pure rfl (p_index_sl _ rfl rfl rfl (rowG2 eContext (fun p : BC => p.2) (mkPC k ps) (by omega)) es_44) ?_)
    refine aops_cons rfl (w_pure rfl (p_field_v fo_32_1 rfl) ?_)
    refine aops_cons rfl (w_pure rfl (p_field_v fo_30_0 rfl) ?_)
    refine aops_cons rfl (w_pure rfl (p_load_v ag_22 rfl (by rfl) noX) ?_)
    refine aops_cons rfl (w_pure rfl (p_move rfl) ?_)
    refine aops_cons rfl (w_callR rfl rfl rfl cl_20 (c_laws_heldIntS (ps.getD i zBC).2.regs.words.length (hlr (by omega)) _ (by omega) (by omega)) ?_)
    refine aops_cons rfl (w_pure rfl (p_assign rfl) ?_)
    refine aops_nil ?_
    refine a_seq ?_
    refine a_seq ?_
    refine a_region ?_
    refine aops_cons rfl (w_pure rfl (p_move rfl) ?_)
    refine aops_cons rfl (w_pure rfl (p_lss rfl rfl) ?_)
    refine aops_nil ?_
    first | refine a_cond_d rfl (fun h3 => ?_) (fun h4 => ?_) | refine a_cond_n rfl (fun h3 => ?_) (fun h4 => ?_) | refine a_cond_nb rfl (fun h3 => ?_) (fun h4 => ?_) | refine a_cond rfl (fun h3 => ?_) (fun h4 => ?_)
    · (try simp only [Bool.not_eq_true', Bool.not_eq_false', Bool.not_eq_true, Bool.not_eq_false, decide_eq_true_eq, decide_eq_false_iff_not, List.length_map, List.length_range] at h3)
      refine a_seq ?_
      refine a_region ?_
      refine aops_cons rfl (w_pure rfl (p_assign rfl) ?_)
      refine aops_nil ?_
      refine a_ret ?_
      refine ret_ok (hands1 rfl (.tmp rfl)) (.nil _) ?_
      first | (have hx : i = ps.length := (by omega); subst hx; exact ⟨rfl, rfl⟩) | (exfalso; have := hlr (by omega); omega)
    · (try simp only [Bool.not_eq_true', Bool.not_eq_false', Bool.not_eq_true, Bool.not_eq_false, decide_eq_true_eq, decide_eq_false_iff_not, List.length_map, List.length_range] at h4)
      refine a_skip ?_
      refine a_seq ?_
      refine a_seq ?_
      refine a_region ?_
      refine aops_cons rfl (w_pure rfl (p_move rfl) ?_)
      refine aops_cons rfl (w_pure rfl (p_move rfl) ?_)
      refine aops_cons rfl (w_pure rfl (p_index_sl _ rfl rfl rfl (rowG2 eContext (fun p : BC => p.2) (mkPC k ps) (by omega)) es_44) ?_)
      refine aops_cons rfl (w_pure rfl (p_field_v fo_32_1 rfl) ?_)
      refine aops_cons rfl (w_pure rfl (p_field_v fo_30_1 rfl) ?_)
      refine aops_cons rfl (w_pure rfl (p_load_v ag_3 rfl (by rfl) noX) ?_)
      refine aops_cons rfl (w_pure rfl (p_move rfl) ?_)
      refine aops_cons rfl (w_pure rfl (p_neq_same rfl rfl) ?_)
      refine aops_nil ?_
      refine a_cond_f rfl ?_
      refine a_skip ?_
      refine a_seq ?_
      refine a_region ?_
      refine aops_cons rfl (w_pure rfl (p_move rfl) ?_)
      refine aops_cons rfl (w_pure rfl (p_add' rfl rfl ⟨by omega, by omega⟩) ?_)
      refine aops_cons rfl (w_pure rfl (p_assign rfl) ?_)
      refine aops_nil ?_
      refine a_seq ?_
      refine a_seq ?_
      refine a_region ?_
      refine aops_cons rfl (w_pure rfl (p_move rfl) ?_)
      refine aops_cons rfl (w_pure rfl (p_move rfl) ?_)
      refine aops_cons rfl (w_pure rfl (p_index_sl _ rfl rfl rfl (rowG2 eContext (fun p : BC => p.2) (mkPC k ps) (by omega)) es_44) ?_)
      refine aops_cons rfl (w_pure rfl (p_field_v fo_32_1 rfl) ?_)
      refine aops_cons rfl (w_pure rfl (p_field_v fo_30_2 rfl) ?_)
      refine aops_cons rfl (w_pure rfl (p_load_v ag_4 rfl (by rfl) noX) ?_)
      refine aops_cons rfl (w_pure rfl (p_move rfl) ?_)
      refine aops_cons rfl (w_pure rfl (p_rem' rfl rfl (by omega) (by omega)) ?_)
      refine aops_cons rfl (w_pure rfl (p_eql rfl rfl) ?_)
      refine aops_cons rfl (w_pure rfl (p_neq_bsame um_4 rfl rfl) ?_)
      refine aops_nil ?_
      refine a_cond_f rfl ?_
      refine a_skip ?_
      refine a_seq ?_
      refine a_region ?_
      refine aops_cons rfl (w_pure rfl (p_move rfl) ?_)
      refine aops_cons rfl (w_pure rfl (p_add' rfl rfl ⟨by omega, by omega⟩) ?_)
      refine aops_cons rfl (w_pure rfl (p_assign rfl) ?_)
      refine aops_nil ?_
      refine a_seq ?_
      refine a_seq ?_
      refine a_region ?_
      refine aops_cons rfl (w_pure rfl (p_move rfl) ?_)
      refine aops_cons rfl (w_pure rfl (p_move rfl) ?_)
      refine aops_cons rfl (w_pure rfl (p_index_sl _ rfl rfl rfl (rowG2 eContext (fun p : BC => p.2) (mkPC k ps) (by omega)) es_44) ?_)
      refine aops_cons rfl (w_pure rfl (p_field_v fo_32_1 rfl) ?_)
      refine aops_cons rfl (w_pure rfl (p_field_v fo_30_3 rfl) ?_)
      refine aops_cons rfl (w_pure rfl (p_load_v ag_4 rfl (by rfl) noX) ?_)
      refine aops_cons rfl (w_pure rfl (p_move rfl) ?_)
      refine aops_cons rfl (w_pure rfl (p_rem' rfl rfl (by omega) (by omega)) ?_)
      refine aops_cons rfl (w_pure rfl (p_eql rfl rfl) ?_)
      refine aops_cons rfl (w_pure rfl (p_neq_bsame um_4 rfl rfl) ?_)
      refine aops_nil ?_
      refine a_cond_f rfl ?_
      refine a_skip ?_
      refine a_seq ?_
      refine a_region ?_
      refine aops_cons rfl (w_pure rfl (p_move rfl) ?_)
      refine aops_cons rfl (w_pure rfl (p_add' rfl rfl ⟨by omega, by omega⟩) ?_)
      refine aops_cons rfl (w_pure rfl (p_assign rfl) ?_)
      refine aops_nil ?_
      refine a_seq ?_
      refine a_seq ?_
      refine a_region ?_
      refine aops_cons rfl (w_pure rfl (p_move rfl) ?_)
      refine aops_cons rfl (w_pure rfl (p_move rfl) ?_)
      refine aops_cons rfl (w_pure rfl (p_index_sl _ rfl rfl rfl (rowG2 eContext (fun p : BC => p.2) (mkPC k ps) (by omega)) es_44) ?_)
      refine aops_cons rfl (w_pure rfl (p_field_v fo_32_2 rfl) ?_)
      refine aops_cons rfl (w_pure rfl (p_load_v ag_3 rfl (by rfl) noX) ?_)
      refine aops_cons rfl (w_pure rfl (p_move rfl) ?_)
      refine aops_cons rfl (w_pure rfl (p_neq_same rfl rfl) ?_)
      refine aops_nil ?_
      refine a_cond_f rfl ?_
      refine a_skip ?_
      refine a_seq ?_
      refine a_region ?_
      refine aops_cons rfl (w_pure rfl (p_move rfl) ?_)
      refine aops_cons rfl (w_pure rfl (p_add' rfl rfl ⟨by omega, by omega⟩) ?_)
      refine aops_cons rfl (w_pure rfl (p_assign rfl) ?_)
      refine aops_nil ?_
      refine a_seq ?_
      refine a_seq ?_
      refine a_region ?_
      refine aops_cons rfl (w_pure rfl (p_move rfl) ?_)
      refine aops_cons rfl (w_pure rfl (p_move rfl) ?_)
      refine aops_cons rfl (w_pure rfl (p_index_sl _ rfl rfl rfl (rowG2 eContext (fun p : BC => p.2) (mkPC k ps) (by omega)) es_44) ?_)
      refine aops_cons rfl (w_pure rfl (p_field_v fo_32_3 rfl) ?_)
      refine aops_cons rfl (w_pure rfl (p_load_v ag_3 rfl (by rfl) noX) ?_)
      refine aops_cons rfl (w_pure rfl (p_move rfl) ?_)
      refine aops_cons rfl (w_pure rfl (p_neq_same rfl rfl) ?_)
      refine aops_nil ?_
      refine a_cond_f rfl ?_
      refine a_skip ?_
      refine a_region ?_
      refine aops_cons rfl (w_pure rfl (p_move rfl) ?_)
      refine aops_cons rfl (w_pure rfl (p_add' rfl rfl ⟨by omega, by omega⟩) ?_)
      refine aops_cons rfl (w_pure rfl (p_assign rfl) ?_)
      refine aops_nil ?_
      refine a_region ?_
      refine aops_cons rfl (w_pure rfl (p_move rfl) ?_)
      refine aops_cons rfl (w_pure rfl (p_add' rfl rfl ⟨by omega, by omega⟩) ?_)
      refine aops_cons rfl (w_pure rfl (p_assign rfl) ?_)
      refine aops_nil ?_
      refine ⟨(i + 1, _), _, ?_, ?_, (by repeat (first | exact Knows.nil | refine Knows.cons (by rfl) ?_)), (by repeat (first | exact Back.refl _ _ | refine Back.cons (by rfl) ?_)), (by repeat (first | exact Picks.nil _ | exact Pick.here _ _ _ | apply Pick.next | apply Picks.cons))⟩
      · exact ⟨by omega, rfl⟩
      · (try dsimp only); omega
  · (try simp only [Bool.not_eq_true', Bool.not_eq_false', Bool.not_eq_true, Bool.not_eq_false, decide_eq_true_eq, decide_eq_false_iff_not, List.length_map, List.length_range] at h2)
    refine a_exit ?_
    refine a_seq ?_
    refine a_region ?_
    refine aops_cons rfl (w_pure rfl (p_move rfl) ?_)
    refine aops_cons rfl (w_pure rfl (p_assign rfl) ?_)
    refine aops_nil ?_
    refine a_ret ?_
    refine ret_ok (hands1 rfl (.tmp rfl)) (.nil _) ?_
    first | (have hx : i = ps.length := (by omega); subst hx; exact ⟨rfl, rfl⟩) | (exfalso; have := hlr (by omega); omega)

theorem cn_laws_heldContextS (k : Int) (k0 : 0 ≤ k) (k1 : k ≤ 50000000) : ACalls Try.prog 33 [.sl ([] : List (List AV)), .int .i64 k] [] (Ret (.int .i64 k)) := c_laws_heldContextS [] ⟨Nat.zero_le _, fun j hj => absurd hj (Nat.not_lt_zero _)⟩ k k0 k1

theorem c_spec_l6Irq (n : Int) : ACalls Try.prog 71 [.int .i64 n] [] (Ret (.bool (decide (0 ≤ n ∧ n ≤ 7)))) := by
  refine a_enter Try.func71 rfl rfl (fun w0 M0 => ?_)
  refine a_seq ?_
  refine a_region ?_
  refine aops_cons rfl (w_pure rfl (p_assign rfl) ?_)
  refine aops_nil ?_
  refine a_seq ?_
  refine a_region ?_
  refine aops_cons rfl (w_pure rfl (p_move rfl) ?_)
  refine aops_cons rfl (w_callR rfl rfl rfl cl_93 (c_spec_l1In ..) ?_)
  refine aops_cons rfl (w_pure rfl (p_assign rfl) ?_)
  refine aops_nil ?_
  refine a_ret ?_
  refine ret_ok (hands1 rfl (.tmp rfl)) (.nil _) ?_
  first | (refine ret_dec ?_; exact Iff.rfl) | (refine ret_false ?_; omega) | (refine ret_true ?_; omega) | (refine ret_dec ?_; omega)

theorem c_impl_isIrq (n : Int) : ACalls Try.prog 72 [.int .i64 n] [] (Ret (.bool (decide (0 ≤ n ∧ n ≤ 7)))) := by
  refine a_enter Try.func72 rfl rfl (fun w0 M0 => ?_)
  refine a_seq ?_
  refine a_region ?_
  refine aops_cons rfl (w_pure rfl (p_assign rfl) ?_)
  refine aops_nil ?_
  refine a_seq ?_
  refine a_region ?_
  refine aops_cons rfl (w_pure rfl (p_move rfl) ?_)
  refine aops_cons rfl (w_callR rfl rfl rfl cl_81 (c_impl_inside ..) ?_)
  refine aops_cons rfl (w_pure rfl (p_assign rfl) ?_)
  refine aops_nil ?_
  refine a_ret ?_
  refine ret_ok (hands1 rfl (.tmp rfl)) (.nil _) ?_
  first | (refine ret_dec ?_; exact Iff.rfl) | (refine ret_false ?_; omega) | (refine ret_true ?_; omega) | (refine ret_dec ?_; omega)

theorem c_impl_RunnableGuests_1 (c : Context) : ACalls Try.prog 70 [.agg (eContext c)] [] (Ret (.bool (runs c))) := by
  refine a_enter Try.func70 rfl rfl (fun w0 M0 => ?_)
  refine a_seq ?_
  refine a_region ?_
  refine aops_cons rfl (w_box_v rfl rfl rfl ?_)
  refine aops_cons rfl (w_pure rfl (p_assign rfl) ?_)
  refine aops_nil ?_
  refine a_seq ?_
  refine a_region ?_
  refine aops_cons rfl (w_pure rfl (p_field_v fo_32_1 rfl) ?_)
  refine aops_cons rfl (w_pure rfl (p_field_v fo_30_3 rfl) ?_)
  refine aops_cons rfl (w_pure rfl (p_load_v ag_4 rfl (by rfl) noX) ?_)
  refine aops_cons rfl (w_pure rfl (p_not rfl) ?_)
  refine aops_cons rfl (w_pure rfl (p_move rfl) ?_)
  first | refine aops_split_d 7 rfl (fun h1 => ?_) (fun h2 => ?_) | refine aops_split 7 rfl (fun h1 => ?_) (fun h2 => ?_)
  · (try simp only [Bool.not_eq_true', Bool.not_eq_false', Bool.not_eq_true, Bool.not_eq_false, decide_eq_true_eq, decide_eq_false_iff_not, List.length_map, List.length_range] at h1)
    refine g_pass' rfl rfl rfl rfl rfl ?_
    refine g_pass' rfl rfl rfl rfl rfl ?_
    refine g_pass' rfl rfl rfl rfl rfl ?_
    refine aops_cons rfl (w_pure rfl (p_pick_t rfl rfl) ?_)
    refine aops_cons rfl (w_pure rfl (p_assign rfl) ?_)
    refine aops_nil ?_
    refine a_ret ?_
    refine ret_ok (hands1 rfl (.tmp rfl)) (.nil _) ?_
    exact ⟨by simp [runs, *], rfl⟩
  · (try simp only [Bool.not_eq_true', Bool.not_eq_false', Bool.not_eq_true, Bool.not_eq_false, decide_eq_true_eq, decide_eq_false_iff_not, List.length_map, List.length_range] at h2)
    refine aops_guard_t rfl rfl rfl (w_pure rfl (p_field_v fo_32_3 rfl) ?_)
    refine aops_guard_t rfl rfl rfl (w_pure rfl (p_load_v ag_3 rfl (by rfl) noX) ?_)
    refine aops_guard_t rfl rfl rfl (w_pure rfl (p_neq rfl rfl) ?_)
    refine aops_cons rfl (w_pure rfl (p_pick_f rfl rfl) ?_)
    refine aops_cons rfl (w_pure rfl (p_assign rfl) ?_)
    refine aops_nil ?_
    refine a_ret ?_
    refine ret_ok (hands1 rfl (.tmp rfl)) (.nil _) ?_
    exact ⟨by simp [runs, *], rfl⟩

theorem c_impl_WithPending_1 (c : Context) (q : Int) (h0 : 0 ≤ q) : ACalls Try.prog 73 [.agg (eContext c), .vptr [.int .i64 q]] [] (Ret (.bool (hasIrq q c))) := by
  refine a_enter Try.func73 rfl rfl (fun w0 M0 => ?_)
  refine a_seq ?_
  refine a_region ?_
  refine aops_cons rfl (w_box_v rfl rfl rfl ?_)
  refine aops_cons rfl (w_pure rfl (p_assign rfl) ?_)
  refine aops_nil ?_
  refine a_seq ?_
  refine a_region ?_
  refine aops_cons rfl (w_pure rfl (p_field_v fo_32_3 rfl) ?_)
  refine aops_cons rfl (w_pure rfl (p_load_v ag_3 rfl (by rfl) noX) ?_)
  refine aops_cons rfl (w_pure rfl (p_load_v ag_3 rfl (by rfl) noX) ?_)
  refine aops_cons rfl (w_pure rfl (p_shr rfl rfl (by omega)) ?_)
  refine aops_cons rfl (w_pure rfl (p_bits .and (by decide) rfl rfl) ?_)
  refine aops_cons rfl (w_pure rfl (p_eql rfl rfl) ?_)
  refine aops_cons rfl (w_pure rfl (p_assign rfl) ?_)
  refine aops_nil ?_
  refine a_ret ?_
  refine ret_ok (hands1 rfl (.tmp rfl)) (.nil _) ?_
  exact ⟨rfl, rfl⟩

theorem co_gw_run (xs : List Context) (hn : SmallL xs) : ACalls Try.prog 69 [.sl (xs.map eContext), .fn 70 []] [] (RetOwn 3 1 ((guests xs runs).map eInt)) := by
  have hn1 := hn.1
  refine a_enter Try.func69 rfl rfl (fun w0 M0 => ?_)
  refine a_seq ?_
  refine a_region ?_
  refine aops_cons rfl (w_pure rfl (p_assign rfl) ?_)
  refine aops_nil ?_
  refine a_seq ?_
  refine a_region ?_
  refine aops_cons rfl (w_litM eInt [] rfl el_22 rfl rfl rfl rfl rfl fun b1 => ?_)
  refine aops_cons rfl (w_pure rfl (p_assign rfl) ?_)
  refine aops_nil ?_
  refine a_seq ?_
  refine a_seq ?_
  refine a_region ?_
  refine aops_cons rfl (w_pure rfl (p_move rfl) ?_)
  refine aops_cons rfl (w_pure rfl (p_len sl_44 rfl rfl) ?_)
  refine aops_cons rfl (w_pure rfl (p_move rfl) ?_)
  refine aops_nil ?_
  refine a_block ?_
  refine a_loop (ι := Nat × Nat × List Int) (fun ⟨i, b, l⟩ => i ≤ xs.length ∧ l = guestsTo xs runs i) (fun ⟨i, b, l⟩ => [(11, .int .i64 (i : Int)), (5, .own 1 b 0 l.length)]) (fun ⟨i, b, l⟩ => [(b, .arr 3 1 (l.map eInt))]) (fun ⟨i, b, l⟩ => xs.length - i) (0, b1, []) ⟨Nat.zero_le _, rfl⟩ (by repeat (first | exact Knows.nil | refine Knows.cons (by rfl) ?_)) (by repeat (first | exact Picks.nil _ | exact Pick.here _ _ _ | apply Pick.next | apply Picks.cons)) ?_
  rintro ⟨i, b, l⟩ ⟨hi, hI⟩
  have hln := guestsTo_len xs runs i; rw [← hI] at hln
  refine a_seq ?_
  refine a_region ?_
  refine aops_cons rfl (w_pure rfl (p_lss rfl rfl) ?_)
  refine aops_nil ?_
  refine a_seq ?_
  first | refine a_cond_d rfl (fun h1 => ?_) (fun h2 => ?_) | refine a_cond_n rfl (fun h1 => ?_) (fun h2 => ?_) | refine a_cond_nb rfl (fun h1 => ?_) (fun h2 => ?_) | refine a_cond rfl (fun h1 => ?_) (fun h2 => ?_)
  · (try simp only [Bool.not_eq_true', Bool.not_eq_false', Bool.not_eq_true, Bool.not_eq_false, decide_eq_true_eq, decide_eq_false_iff_not, List.length_map, List.length_range] at h1)
    refine a_skip ?_
    refine a_seq ?_
    refine a_block ?_
    refine a_seq ?_
    refine a_region ?_
    refine aops_cons rfl (w_pure rfl (p_index_sl _ rfl rfl rfl (rowD eContext xs zContext (by omega)) es_44) ?_)
    refine aops_cons rfl (w_pure rfl (p_load_v_all ag_32 rfl (by rfl) noX) ?_)
    refine aops_cons rfl (w_alloc rfl z_32 fun b2 => ?_)
    refine aops_cons rfl (w_store (cells' := [_, _, _, _, _, _, _]) rfl rfl rfl (by repeat (first | exact Pick.here _ _ _ | apply Pick.next)) cn_32 (by rfl) (by rfl) (by rfl) trivial ?_)
    refine aops_nil ?_
    refine a_seq ?_
    refine a_region ?_
    refine aops_cons rfl (w_pure rfl (p_move rfl) ?_)
    refine aops_cons rfl (w_pure rfl (p_load_box_all ag_32 rfl (by repeat (first | exact Pick.here _ _ _ | apply Pick.next)) (by rfl) noX) ?_)
    refine aops_cons rfl (w_callR rfl rfl rfl cl_70 (c_impl_RunnableGuests_1 (xs.getD i zContext)) ?_)
    refine aops_nil ?_
    first | refine a_cond_d rfl (fun h3 => ?_) (fun h4 => ?_) | refine a_cond_n rfl (fun h3 => ?_) (fun h4 => ?_) | refine a_cond_nb rfl (fun h3 => ?_) (fun h4 => ?_) | refine a_cond rfl (fun h3 => ?_) (fun h4 => ?_)
    · (try simp only [Bool.not_eq_true', Bool.not_eq_false', Bool.not_eq_true, Bool.not_eq_false, decide_eq_true_eq, decide_eq_false_iff_not, List.length_map, List.length_range] at h3)
      refine a_region ?_
      refine aops_cons rfl (w_pure rfl (p_move rfl) ?_)
      refine aops_cons rfl (w_pure rfl (p_field_box fo_32_0 rfl) ?_)
      refine aops_cons rfl (w_pure rfl (p_load_box ag_3 rfl (by repeat (first | exact Pick.here _ _ _ | apply Pick.next)) (by rfl) noX) ?_)
      refine aops_cons rfl (w_lit_vM eInt [(xs.getD i zContext).id] rfl el_22 rfl rfl rfl rfl rfl ?_)
      refine aops_cons rfl (w_appendM eInt rfl el_22 rfl rfl (by repeat (first | exact Pick.here _ _ _ | apply Pick.next)) rfl (.sl _) (fun _ => rfl) (fun _ => rfl) (by simp; omega) (by simp; omega) trivial fun b3 => ?_)
      refine aops_cons rfl (w_pure rfl (p_assign rfl) ?_)
      refine aops_nil ?_
      refine a_region ?_
      refine aops_cons rfl (w_pure rfl (p_add' rfl rfl ⟨by (try simp only [List.length_map, List.length_append, List.length_cons, List.length_nil]); omega, by (try simp only [List.length_map, List.length_append, List.length_cons, List.length_nil]); omega⟩) ?_)
      refine aops_cons rfl (w_pure rfl (p_move rfl) ?_)
      refine aops_nil ?_
      refine ⟨(i + 1, _, _), _, ?_, ?_, (by repeat (first | exact Knows.nil | refine Knows.cons (by rfl) ?_)), (by repeat (first | exact Back.refl _ _ | refine Back.cons (by rfl) ?_)), (by repeat (first | exact Picks.nil _ | exact Pick.here _ _ _ | apply Pick.next | apply Picks.cons))⟩
      · refine ⟨by omega, ?_⟩; rw [guestsTo, ← hI]; first | exact (if_pos (by assumption)).symm | exact (if_neg (not_t (by assumption))).symm
      · (try dsimp only); omega
    · (try simp only [Bool.not_eq_true', Bool.not_eq_false', Bool.not_eq_true, Bool.not_eq_false, decide_eq_true_eq, decide_eq_false_iff_not, List.length_map, List.length_range] at h4)
      refine a_skip ?_
      refine a_region ?_
      refine aops_cons rfl (w_pure rfl (p_add' rfl rfl ⟨by (try simp only [List.length_map, List.length_append, List.length_cons, List.length_nil]); omega, by (try simp only [List.length_map, List.length_append, List.length_cons, List.length_nil]); omega⟩) ?_)
      refine aops_cons rfl (w_pure rfl (p_move rfl) ?_)
      refine aops_nil ?_
      refine ⟨(i + 1, _, _), _, ?_, ?_, (by repeat (first | exact Knows.nil | refine Knows.cons (by rfl) ?_)), (by repeat (first | exact Back.refl _ _ | refine Back.cons (by rfl) ?_)), (by repeat (first | exact Picks.nil _ | exact Pick.here _ _ _ | apply Pick.next | apply Picks.cons))⟩
      · refine ⟨by omega, ?_⟩; rw [guestsTo, ← hI]; first | exact (if_pos (by assumption)).symm | exact (if_neg (not_t (by assumption))).symm
      · (try dsimp only); omega
  · (try simp only [Bool.not_eq_true', Bool.not_eq_false', Bool.not_eq_true, Bool.not_eq_false, decide_eq_true_eq, decide_eq_false_iff_not, List.length_map, List.length_range] at h2)
    refine a_exit ?_
    refine a_seq ?_
    refine a_region ?_
    refine aops_cons rfl (w_pure rfl (p_move rfl) ?_)
    refine aops_cons rfl (w_pure rfl (p_assign rfl) ?_)
    refine aops_nil ?_
    refine a_ret ?_
    refine ret_ok (hands1 rfl (.tmp rfl)) (.cons (by repeat (first | exact Pick.here _ _ _ | apply Pick.next)) (.nil _)) ?_
    have hx : i = xs.length := (by omega); subst hx; subst hI; exact ⟨b, by rw [List.length_map]; rfl, rfl⟩

theorem co_gw_irq (xs : List Context) (hn : SmallL xs) (q : Int) (h0 : 0 ≤ q) : ACalls Try.prog 69 [.sl (xs.map eContext), .fn 73 [.vptr [.int .i64 q]]] [] (RetOwn 3 1 ((guests xs (hasIrq q)).map eInt)) := by
  have hn1 := hn.1
  refine a_enter Try.func69 rfl rfl (fun w0 M0 => ?_)
  refine a_seq ?_
  refine a_region ?_
  refine aops_cons rfl (w_pure rfl (p_assign rfl) ?_)
  refine aops_nil ?_
  refine a_seq ?_
  refine a_region ?_
  refine aops_cons rfl (w_litM eInt [] rfl el_22 rfl rfl rfl rfl rfl fun b1 => ?_)
  refine aops_cons rfl (w_pure rfl (p_assign rfl) ?_)
  refine aops_nil ?_
  refine a_seq ?_
  refine a_seq ?_
  refine a_region ?_
  refine aops_cons rfl (w_pure rfl (p_move rfl) ?_)
  refine aops_cons rfl (w_pure rfl (p_len sl_44 rfl rfl) ?_)
  refine aops_cons rfl (w_pure rfl (p_move rfl) ?_)
  refine aops_nil ?_
  refine a_block ?_
  refine a_loop (ι := Nat × Nat × List Int) (fun ⟨i, b, l⟩ => i ≤ xs.length ∧ l = guestsTo xs (hasIrq q) i) (fun ⟨i, b, l⟩ => [(11, .int .i64 (i : Int)), (5, .own 1 b 0 l.length)]) (fun ⟨i, b, l⟩ => [(b, .arr 3 1 (l.map eInt))]) (fun ⟨i, b, l⟩ => xs.length - i) (0, b1, []) ⟨Nat.zero_le _, rfl⟩ (by repeat (first | exact Knows.nil | refine Knows.cons (by rfl) ?_)) (by repeat (first | exact Picks.nil _ | exact Pick.here _ _ _ | apply Pick.next | apply Picks.cons)) ?_
  rintro ⟨i, b, l⟩ ⟨hi, hI⟩
  have hln := guestsTo_len xs (hasIrq q) i; rw [← hI] at hln
  refine a_seq ?_
  refine a_region ?_
  refine aops_cons rfl (w_pure rfl (p_lss rfl rfl) ?_)
  refine aops_nil ?_
  refine a_seq ?_
  first | refine a_cond_d rfl (fun h1 => ?_) (fun h2 => ?_) | refine a_cond_n rfl (fun h1 => ?_) (fun h2 => ?_) | refine a_cond_nb rfl (fun h1 => ?_) (fun h2 => ?_) | refine a_cond rfl (fun h1 => ?_) (fun h2 => ?_)
  · (try simp only [Bool.not_eq_true', Bool.not_eq_false', Bool.not_eq_true, Bool.not_eq_false, decide_eq_true_eq, decide_eq_false_iff_not, List.length_map, List.length_range] at h1)
    refine a_skip ?_
    refine a_seq ?_
    refine a_block ?_
    refine a_seq ?_
    refine a_region ?_
    refine aops_cons rfl (w_pure rfl (p_index_sl _ rfl rfl rfl (rowD eContext xs zContext (by omega)) es_44) ?_)
    refine aops_cons rfl (w_pure rfl (p_load_v_all ag_32 rfl (by rfl) noX) ?_)
    refine aops_cons rfl (w_alloc rfl z_32 fun b2 => ?_)
    refine aops_cons rfl (w_store (cells' := [_, _, _, _, _, _, _]) rfl rfl rfl (by repeat (first | exact Pick.here _ _ _ | apply Pick.next)) cn_32 (by rfl) (by rfl) (by rfl) trivial ?_)
    refine aops_nil ?_
    refine a_seq ?_
    refine a_region ?_
    refine aops_cons rfl (w_pure rfl (p_move rfl) ?_)
    refine aops_cons rfl (w_pure rfl (p_load_box_all ag_32 rfl (by repeat (first | exact Pick.here _ _ _ | apply Pick.next)) (by rfl) noX) ?_)
    refine aops_cons rfl (w_callR rfl rfl rfl cl_73 (c_impl_WithPending_1 (xs.getD i zContext) q h0) ?_)
    refine aops_nil ?_
    first | refine a_cond_d rfl (fun h3 => ?_) (fun h4 => ?_) | refine a_cond_n rfl (fun h3 => ?_) (fun h4 => ?_) | refine a_cond_nb rfl (fun h3 => ?_) (fun h4 => ?_) | refine a_cond rfl (fun h3 => ?_) (fun h4 => ?_)
    · (try simp only [Bool.not_eq_true', Bool.not_eq_false', Bool.not_eq_true, Bool.not_eq_false, decide_eq_true_eq, decide_eq_false_iff_not, List.length_map, List.length_range] at h3)
      refine a_region ?_
      refine aops_cons rfl (w_pure rfl (p_move rfl) ?_)
      refine aops_cons rfl (w_pure rfl (p_field_box fo_32_0 rfl) ?_)
      refine aops_cons rfl (w_pure rfl (p_load_box ag_3 rfl (by repeat (first | exact Pick.here _ _ _ | apply Pick.next)) (by rfl) noX) ?_)
      refine aops_cons rfl (w_lit_vM eInt [(xs.getD i zContext).id] rfl el_22 rfl rfl rfl rfl rfl ?_)
      refine aops_cons rfl (w_appendM eInt rfl el_22 rfl rfl (by repeat (first | exact Pick.here _ _ _ | apply Pick.next)) rfl (.sl _) (fun _ => rfl) (fun _ => rfl) (by simp; omega) (by simp; omega) trivial fun b3 => ?_)
      refine aops_cons rfl (w_pure rfl (p_assign rfl) ?_)
      refine aops_nil ?_
      refine a_region ?_
      refine aops_cons rfl (w_pure rfl (p_add' rfl rfl ⟨by (try simp only [List.length_map, List.length_append, List.length_cons, List.length_nil]); omega, by (try simp only [List.length_map, List.length_append, List.length_cons, List.length_nil]); omega⟩) ?_)
      refine aops_cons rfl (w_pure rfl (p_move rfl) ?_)
      refine aops_nil ?_
      refine ⟨(i + 1, _, _), _, ?_, ?_, (by repeat (first | exact Knows.nil | refine Knows.cons (by rfl) ?_)), (by repeat (first | exact Back.refl _ _ | refine Back.cons (by rfl) ?_)), (by repeat (first | exact Picks.nil _ | exact Pick.here _ _ _ | apply Pick.next | apply Picks.cons))⟩
      · refine ⟨by omega, ?_⟩; rw [guestsTo, ← hI]; first | exact (if_pos (by assumption)).symm | exact (if_pos (show hasIrq q (xs.getD i zContext) = true from decide_eq_true (by assumption))).symm | exact (if_neg (not_t (by assumption))).symm | exact (if_neg (not_t (show hasIrq q (xs.getD i zContext) = false from decide_eq_false (by assumption)))).symm
      · (try dsimp only); omega
    · (try simp only [Bool.not_eq_true', Bool.not_eq_false', Bool.not_eq_true, Bool.not_eq_false, decide_eq_true_eq, decide_eq_false_iff_not, List.length_map, List.length_range] at h4)
      refine a_skip ?_
      refine a_region ?_
      refine aops_cons rfl (w_pure rfl (p_add' rfl rfl ⟨by (try simp only [List.length_map, List.length_append, List.length_cons, List.length_nil]); omega, by (try simp only [List.length_map, List.length_append, List.length_cons, List.length_nil]); omega⟩) ?_)
      refine aops_cons rfl (w_pure rfl (p_move rfl) ?_)
      refine aops_nil ?_
      refine ⟨(i + 1, _, _), _, ?_, ?_, (by repeat (first | exact Knows.nil | refine Knows.cons (by rfl) ?_)), (by repeat (first | exact Back.refl _ _ | refine Back.cons (by rfl) ?_)), (by repeat (first | exact Picks.nil _ | exact Pick.here _ _ _ | apply Pick.next | apply Picks.cons))⟩
      · refine ⟨by omega, ?_⟩; rw [guestsTo, ← hI]; first | exact (if_pos (by assumption)).symm | exact (if_pos (show hasIrq q (xs.getD i zContext) = true from decide_eq_true (by assumption))).symm | exact (if_neg (not_t (by assumption))).symm | exact (if_neg (not_t (show hasIrq q (xs.getD i zContext) = false from decide_eq_false (by assumption)))).symm
      · (try dsimp only); omega
  · (try simp only [Bool.not_eq_true', Bool.not_eq_false', Bool.not_eq_true, Bool.not_eq_false, decide_eq_true_eq, decide_eq_false_iff_not, List.length_map, List.length_range] at h2)
    refine a_exit ?_
    refine a_seq ?_
    refine a_region ?_
    refine aops_cons rfl (w_pure rfl (p_move rfl) ?_)
    refine aops_cons rfl (w_pure rfl (p_assign rfl) ?_)
    refine aops_nil ?_
    refine a_ret ?_
    refine ret_ok (hands1 rfl (.tmp rfl)) (.cons (by repeat (first | exact Pick.here _ _ _ | apply Pick.next)) (.nil _)) ?_
    have hx : i = xs.length := (by omega); subst hx; subst hI; exact ⟨b, by rw [List.length_map]; rfl, rfl⟩

theorem co_spec_RunnableGuests (xs : List Context) (hn : SmallL xs) (hA : AreContexts xs) : ACalls Try.prog 24 [.sl (xs.map eContext)] [] (fun r st => ∃ b1, r = .tup [.own 1 b1 0 (guests xs runs).length, .bool true] ∧ st = [(b1, .arr 3 1 ((guests xs runs).map eInt))]) := by
  have hn1 := hn.1
  refine a_enter Try.func24 rfl rfl (fun w0 M0 => ?_)
  refine a_seq ?_
  refine a_region ?_
  refine aops_cons rfl (w_pure rfl (p_assign rfl) ?_)
  refine aops_cons rfl (w_pure rfl (p_assign rfl) ?_)
  refine aops_nil ?_
  refine a_seq ?_
  refine a_region ?_
  refine aops_cons rfl (w_litM eInt [] rfl el_22 rfl rfl rfl rfl rfl fun b1 => ?_)
  refine aops_cons rfl (w_pure rfl (p_assign rfl) ?_)
  refine aops_nil ?_
  refine a_seq ?_
  refine a_seq ?_
  refine a_region ?_
  refine aops_cons rfl (w_pure rfl (p_move rfl) ?_)
  refine aops_cons rfl (w_callR rfl rfl rfl cl_68 (c_spec_l14Good _ ‹_›) ?_)
  refine aops_cons rfl (w_pure rfl (p_not rfl) ?_)
  refine aops_nil ?_
  first | refine a_cond_d rfl (fun h1 => ?_) (fun h2 => ?_) | refine a_cond_n rfl (fun h1 => ?_) (fun h2 => ?_) | refine a_cond_nb rfl (fun h1 => ?_) (fun h2 => ?_) | refine a_cond rfl (fun h1 => ?_) (fun h2 => ?_)
  · (try simp only [Bool.not_eq_true', Bool.not_eq_false', Bool.not_eq_true, Bool.not_eq_false, decide_eq_true_eq, decide_eq_false_iff_not, List.length_map, List.length_range] at h1)
    refine a_seq ?_
    refine a_region ?_
    refine aops_cons rfl (w_pure rfl (p_move rfl) ?_)
    refine aops_cons rfl (w_pure rfl (p_assign rfl) ?_)
    refine aops_cons rfl (w_pure rfl (p_assign rfl) ?_)
    refine aops_nil ?_
    refine a_ret ?_
    refine ret_ok (hands2 rfl (.tmp rfl) (.tmp rfl)) (st' := [(b1, _)]) (.cons (by repeat (first | exact Pick.here _ _ _ | apply Pick.next)) (.nil _)) ?_
    first | (have hx : i = xs.length := (by omega); subst hx; subst hI; exact ⟨b, rfl, rfl⟩) | (exfalso; first | contradiction | exact absurd hA (by assumption) | exact absurd hA.1 (by assumption) | (have := hA.2; omega))
  · (try simp only [Bool.not_eq_true', Bool.not_eq_false', Bool.not_eq_true, Bool.not_eq_false, decide_eq_true_eq, decide_eq_false_iff_not, List.length_map, List.length_range] at h2)
    refine a_skip ?_
    refine a_seq ?_
    refine a_seq ?_
    refine a_region ?_
    refine aops_cons rfl (w_pure rfl (p_assign rfl) ?_)
    refine aops_nil ?_
    refine a_block ?_
    refine a_loop (ι := Nat × Nat × List Int) (fun ⟨i, b, l⟩ => i ≤ xs.length ∧ l = guestsTo xs runs i) (fun ⟨i, b, l⟩ => [(5, .int .i64 (i : Int)), (4, .own 1 b 0 l.length)]) (fun ⟨i, b, l⟩ => [(b, .arr 3 1 (l.map eInt))]) (fun ⟨i, b, l⟩ => xs.length - i) (0, b1, []) ⟨Nat.zero_le _, rfl⟩ (by repeat (first | exact Knows.nil | refine Knows.cons (by rfl) ?_)) (by repeat (first | exact Picks.nil _ | exact Pick.here _ _ _ | apply Pick.next | apply Picks.cons)) ?_
    rintro ⟨i, b, l⟩ ⟨hi, hI⟩
    have hln := guestsTo_len xs runs i; rw [← hI] at hln; have hcx := fun h : i < xs.length => are_at hA h
    refine a_seq ?_
    refine a_seq ?_
    refine a_region ?_
    refine aops_cons rfl (w_pure rfl (p_move rfl) ?_)
    refine aops_cons rfl (w_pure rfl (p_move rfl) ?_)
    refine aops_cons rfl (w_pure rfl (p_len sl_44 rfl rfl) ?_)
    refine aops_cons rfl (w_pure rfl (p_lss rfl rfl) ?_)
    refine aops_nil ?_
    first | refine a_cond_d rfl (fun h3 => ?_) (fun h4 => ?_) | refine a_cond_n rfl (fun h3 => ?_) (fun h4 => ?_) | refine a_cond_nb rfl (fun h3 => ?_) (fun h4 => ?_) | refine a_cond rfl (fun h3 => ?_) (fun h4 => ?_)
    · (try simp only [Bool.not_eq_true', Bool.not_eq_false', Bool.not_eq_true, Bool.not_eq_false, decide_eq_true_eq, decide_eq_false_iff_not, List.length_map, List.length_range] at h3)
      refine a_skip ?_
      refine a_seq ?_
      refine a_block ?_
      refine a_seq ?_
      refine a_region ?_
      refine aops_cons rfl (w_pure rfl (p_move rfl) ?_)
      refine aops_cons rfl (w_pure rfl (p_move rfl) ?_)
      refine aops_cons rfl (w_pure rfl (p_index_sl _ rfl rfl rfl (rowD eContext xs zContext (by omega)) es_44) ?_)
      refine aops_cons rfl (w_pure rfl (p_field_v fo_32_1 rfl) ?_)
      refine aops_cons rfl (w_pure rfl (p_field_v fo_30_3 rfl) ?_)
      refine aops_cons rfl (w_pure rfl (p_load_v ag_4 rfl (by rfl) noX) ?_)
      refine aops_cons rfl (w_pure rfl (p_not rfl) ?_)
      refine aops_cons rfl (w_pure rfl (p_move rfl) ?_)
      first | refine aops_split_d 24 rfl (fun h5 => ?_) (fun h6 => ?_) | refine aops_split 24 rfl (fun h5 => ?_) (fun h6 => ?_)
      · (try simp only [Bool.not_eq_true', Bool.not_eq_false', Bool.not_eq_true, Bool.not_eq_false, decide_eq_true_eq, decide_eq_false_iff_not, List.length_map, List.length_range] at h5)
        refine g_pass' rfl rfl rfl rfl rfl ?_
        refine g_pass' rfl rfl rfl rfl rfl ?_
        refine g_pass' rfl rfl rfl rfl rfl ?_
        refine g_pass' rfl rfl rfl rfl rfl ?_
        refine g_pass' rfl rfl rfl rfl rfl ?_
        refine g_pass' rfl rfl rfl rfl rfl ?_
        refine aops_cons rfl (w_pure rfl (p_pick_t rfl rfl) ?_)
        refine aops_nil ?_
        refine a_cond_t rfl ?_
        refine a_region ?_
        refine aops_cons rfl (w_pure rfl (p_move rfl) ?_)
        refine aops_cons rfl (w_pure rfl (p_move rfl) ?_)
        refine aops_cons rfl (w_pure rfl (p_move rfl) ?_)
        refine aops_cons rfl (w_pure rfl (p_index_sl _ rfl rfl rfl (rowD eContext xs zContext (by omega)) es_44) ?_)
        refine aops_cons rfl (w_pure rfl (p_field_v fo_32_0 rfl) ?_)
        refine aops_cons rfl (w_pure rfl (p_load_v ag_3 rfl (by rfl) noX) ?_)
        refine aops_cons rfl (w_lit_vM eInt [(xs.getD i zContext).id] rfl el_22 rfl rfl rfl rfl rfl ?_)
        refine aops_cons rfl (w_appendM eInt rfl el_22 rfl rfl (by repeat (first | exact Pick.here _ _ _ | apply Pick.next)) rfl (.sl _) (fun _ => rfl) (fun _ => rfl) (by simp; omega) (by simp; omega) trivial fun b2 => ?_)
        refine aops_cons rfl (w_pure rfl (p_assign rfl) ?_)
        refine aops_nil ?_
        refine a_region ?_
        refine aops_cons rfl (w_pure rfl (p_move rfl) ?_)
        refine aops_cons rfl (w_pure rfl (p_add' rfl rfl ⟨by omega, by omega⟩) ?_)
        refine aops_cons rfl (w_pure rfl (p_assign rfl) ?_)
        refine aops_nil ?_
        refine ⟨(i + 1, _, _), _, ?_, ?_, (by repeat (first | exact Knows.nil | refine Knows.cons (by rfl) ?_)), (by repeat (first | exact Back.refl _ _ | refine Back.cons (by rfl) ?_)), (by repeat (first | exact Picks.nil _ | exact Pick.here _ _ _ | apply Pick.next | apply Picks.cons))⟩
        · refine ⟨by omega, ?_⟩; rw [guestsTo, ← hI]; first | exact (if_pos (by first | exact runs_t1 (by assumption) | exact runs_t2 (hcx (by omega)) (by assumption) | exact runs_f (hcx (by omega)) (by assumption) (by assumption))).symm | exact (if_neg (by first | exact runs_t1 (by assumption) | exact runs_t2 (hcx (by omega)) (by assumption) | exact runs_f (hcx (by omega)) (by assumption) (by assumption))).symm
        · (try dsimp only); omega
      · (try simp only [Bool.not_eq_true', Bool.not_eq_false', Bool.not_eq_true, Bool.not_eq_false, decide_eq_true_eq, decide_eq_false_iff_not, List.length_map, List.length_range] at h6)
        refine aops_guard_t rfl rfl rfl (w_pure rfl (p_move rfl) ?_)
        refine aops_guard_t rfl rfl rfl (w_pure rfl (p_move rfl) ?_)
        refine aops_guard_t rfl rfl rfl (w_pure rfl (p_index_sl _ rfl rfl rfl (rowD eContext xs zContext (by omega)) es_44) ?_)
        refine aops_guard_t rfl rfl rfl (w_pure rfl (p_field_v fo_32_3 rfl) ?_)
        refine aops_guard_t rfl rfl rfl (w_pure rfl (p_load_v ag_3 rfl (by rfl) noX) ?_)
        refine aops_guard_t rfl rfl rfl (w_pure rfl (p_gtr rfl rfl) ?_)
        refine aops_cons rfl (w_pure rfl (p_pick_f rfl rfl) ?_)
        refine aops_nil ?_
        first | refine a_cond_d rfl (fun h7 => ?_) (fun h8 => ?_) | refine a_cond_n rfl (fun h7 => ?_) (fun h8 => ?_) | refine a_cond_nb rfl (fun h7 => ?_) (fun h8 => ?_) | refine a_cond rfl (fun h7 => ?_) (fun h8 => ?_)
        · (try simp only [Bool.not_eq_true', Bool.not_eq_false', Bool.not_eq_true, Bool.not_eq_false, decide_eq_true_eq, decide_eq_false_iff_not, List.length_map, List.length_range] at h7)
          refine a_region ?_
          refine aops_cons rfl (w_pure rfl (p_move rfl) ?_)
          refine aops_cons rfl (w_pure rfl (p_move rfl) ?_)
          refine aops_cons rfl (w_pure rfl (p_move rfl) ?_)
          refine aops_cons rfl (w_pure rfl (p_index_sl _ rfl rfl rfl (rowD eContext xs zContext (by omega)) es_44) ?_)
          refine aops_cons rfl (w_pure rfl (p_field_v fo_32_0 rfl) ?_)
          refine aops_cons rfl (w_pure rfl (p_load_v ag_3 rfl (by rfl) noX) ?_)
          refine aops_cons rfl (w_lit_vM eInt [(xs.getD i zContext).id] rfl el_22 rfl rfl rfl rfl rfl ?_)
          refine aops_cons rfl (w_appendM eInt rfl el_22 rfl rfl (by repeat (first | exact Pick.here _ _ _ | apply Pick.next)) rfl (.sl _) (fun _ => rfl) (fun _ => rfl) (by simp; omega) (by simp; omega) trivial fun b3 => ?_)
          refine aops_cons rfl (w_pure rfl (p_assign rfl) ?_)
          refine aops_nil ?_
          refine a_region ?_
          refine aops_cons rfl (w_pure rfl (p_move rfl) ?_)
          refine aops_cons rfl (w_pure rfl (p_add' rfl rfl ⟨by omega, by omega⟩) ?_)
          refine aops_cons rfl (w_pure rfl (p_assign rfl) ?_)
          refine aops_nil ?_
          refine ⟨(i + 1, _, _), _, ?_, ?_, (by repeat (first | exact Knows.nil | refine Knows.cons (by rfl) ?_)), (by repeat (first | exact Back.refl _ _ | refine Back.cons (by rfl) ?_)), (by repeat (first | exact Picks.nil _ | exact Pick.here _ _ _ | apply Pick.next | apply Picks.cons))⟩
          · refine ⟨by omega, ?_⟩; rw [guestsTo, ← hI]; first | exact (if_pos (by first | exact runs_t1 (by assumption) | exact runs_t2 (hcx (by omega)) (by assumption) | exact runs_f (hcx (by omega)) (by assumption) (by assumption))).symm | exact (if_neg (by first | exact runs_t1 (by assumption) | exact runs_t2 (hcx (by omega)) (by assumption) | exact runs_f (hcx (by omega)) (by assumption) (by assumption))).symm
          · (try dsimp only); omega
        · (try simp only [Bool.not_eq_true', Bool.not_eq_false', Bool.not_eq_true, Bool.not_eq_false, decide_eq_true_eq, decide_eq_false_iff_not, List.length_map, List.length_range] at h8)
          refine a_skip ?_
          refine a_region ?_
          refine aops_cons rfl (w_pure rfl (p_move rfl) ?_)
          refine aops_cons rfl (w_pure rfl (p_add' rfl rfl ⟨by omega, by omega⟩) ?_)
          refine aops_cons rfl (w_pure rfl (p_assign rfl) ?_)
          refine aops_nil ?_
          refine ⟨(i + 1, _, _), _, ?_, ?_, (by repeat (first | exact Knows.nil | refine Knows.cons (by rfl) ?_)), (by repeat (first | exact Back.refl _ _ | refine Back.cons (by rfl) ?_)), (by repeat (first | exact Picks.nil _ | exact Pick.here _ _ _ | apply Pick.next | apply Picks.cons))⟩
          · refine ⟨by omega, ?_⟩; rw [guestsTo, ← hI]; first | exact (if_pos (by first | exact runs_t1 (by assumption) | exact runs_t2 (hcx (by omega)) (by assumption) | exact runs_f (hcx (by omega)) (by assumption) (by assumption))).symm | exact (if_neg (by first | exact runs_t1 (by assumption) | exact runs_t2 (hcx (by omega)) (by assumption) | exact runs_f (hcx (by omega)) (by assumption) (by assumption))).symm
          · (try dsimp only); omega
    · (try simp only [Bool.not_eq_true', Bool.not_eq_false', Bool.not_eq_true, Bool.not_eq_false, decide_eq_true_eq, decide_eq_false_iff_not, List.length_map, List.length_range] at h4)
      refine a_exit ?_
      refine a_seq ?_
      refine a_region ?_
      refine aops_cons rfl (w_pure rfl (p_move rfl) ?_)
      refine aops_cons rfl (w_pure rfl (p_assign rfl) ?_)
      refine aops_cons rfl (w_pure rfl (p_assign rfl) ?_)
      refine aops_nil ?_
      refine a_ret ?_
      refine ret_ok (hands2 rfl (.tmp rfl) (.tmp rfl)) (st' := [(b, _)]) (.cons (by repeat (first | exact Pick.here _ _ _ | apply Pick.next)) (.nil _)) ?_
      first | (have hx : i = xs.length := (by omega); subst hx; subst hI; exact ⟨b, rfl, rfl⟩) | (exfalso; first | contradiction | exact absurd hA (by assumption) | exact absurd hA.1 (by assumption) | (have := hA.2; omega))

theorem cy_spec_RunnableGuests (xs : List Context) (hn : SmallL xs) (hA : AreContexts xs) : ACalls Try.prog 24 [.sl (xs.map eContext)] [] (Ret (.tup [.sl ((guests xs runs).map eInt), .bool true])) :=
  (co_spec_RunnableGuests xs hn hA).freeze (by rintro _ _ ⟨_, rfl, rfl⟩; exact (.tup (.cons (.own (by repeat (first | exact List.Mem.head _ | apply List.Mem.tail)) (List.length_map _)) (.cons (.refl _) .nil))))

theorem cn_spec_RunnableGuests (xs : List Context) (hn : SmallL xs) (hA : ¬ AreContexts xs) : ACalls Try.prog 24 [.sl (xs.map eContext)] [] (Ret (.tup [.sl ([] : List (List AV)), .bool false])) := by
  have hn1 := hn.1
  refine a_enter Try.func24 rfl rfl (fun w0 M0 => ?_)
  refine a_seq ?_
  refine a_region ?_
  refine aops_cons rfl (w_pure rfl (p_assign rfl) ?_)
  refine aops_cons rfl (w_pure rfl (p_assign rfl) ?_)
  refine aops_nil ?_
  refine a_seq ?_
  refine a_region ?_
  refine aops_cons rfl (w_lit_vM eInt [] rfl el_22 rfl rfl rfl rfl rfl ?_)
  refine aops_cons rfl (w_pure rfl (p_assign rfl) ?_)
  refine aops_nil ?_
  refine a_seq ?_
  refine a_seq ?_
  refine a_region ?_
  refine aops_cons rfl (w_pure rfl (p_move rfl) ?_)
  refine aops_cons rfl (w_callR rfl rfl rfl cl_68 (c_spec_l14Good _ ‹_›) ?_)
  refine aops_cons rfl (w_pure rfl (p_not rfl) ?_)
  refine aops_nil ?_
  first | refine a_cond_d rfl (fun h1 => ?_) (fun h2 => ?_) | refine a_cond_n rfl (fun h1 => ?_) (fun h2 => ?_) | refine a_cond_nb rfl (fun h1 => ?_) (fun h2 => ?_) | refine a_cond rfl (fun h1 => ?_) (fun h2 => ?_)
  · (try simp only [Bool.not_eq_true', Bool.not_eq_false', Bool.not_eq_true, Bool.not_eq_false, decide_eq_true_eq, decide_eq_false_iff_not, List.length_map, List.length_range] at h1)
    refine a_seq ?_
    refine a_region ?_
    refine aops_cons rfl (w_pure rfl (p_move rfl) ?_)
    refine aops_cons rfl (w_pure rfl (p_assign rfl) ?_)
    refine aops_cons rfl (w_pure rfl (p_assign rfl) ?_)
    refine aops_nil ?_
    refine a_ret ?_
    refine ret_ok (hands2 rfl (.tmp rfl) (.tmp rfl)) (.nil _) ?_
    exact ⟨rfl, rfl⟩
  · (try simp only [Bool.not_eq_true', Bool.not_eq_false', Bool.not_eq_true, Bool.not_eq_false, decide_eq_true_eq, decide_eq_false_iff_not, List.length_map, List.length_range] at h2)
    refine a_skip ?_
    refine a_seq ?_
    refine a_seq ?_
    exact absurd (by assumption) hA

theorem cy_impl_RunnableGuests (xs : List Context) (hn : SmallL xs) (hA : AreContexts xs) : ACalls Try.prog 26 [.sl (xs.map eContext)] [] (fun r st => ∃ b1, r = .tup [.own 1 b1 0 (guests xs runs).length, .bool true] ∧ st = [(b1, .arr 3 1 ((guests xs runs).map eInt))]) := by
  refine a_enter Try.func26 rfl rfl (fun w0 M0 => ?_)
  refine a_seq ?_
  refine a_region ?_
  refine aops_cons rfl (w_pure rfl (p_assign rfl) ?_)
  refine aops_cons rfl (w_pure rfl (p_assign rfl) ?_)
  refine aops_nil ?_
  refine a_seq ?_
  refine a_seq ?_
  refine a_region ?_
  refine aops_cons rfl (w_pure rfl (p_move rfl) ?_)
  refine aops_cons rfl (w_callR rfl rfl rfl cl_50 (c_impl_AreContexts _ ‹_›) ?_)
  refine aops_cons rfl (w_pure rfl (p_not rfl) ?_)
  refine aops_nil ?_
  first | refine a_cond_d rfl (fun h1 => ?_) (fun h2 => ?_) | refine a_cond_n rfl (fun h1 => ?_) (fun h2 => ?_) | refine a_cond_nb rfl (fun h1 => ?_) (fun h2 => ?_) | refine a_cond rfl (fun h1 => ?_) (fun h2 => ?_)
  · (try simp only [Bool.not_eq_true', Bool.not_eq_false', Bool.not_eq_true, Bool.not_eq_false, decide_eq_true_eq, decide_eq_false_iff_not, List.length_map, List.length_range] at h1)
    refine a_seq ?_
    refine a_region ?_
    refine aops_cons rfl (w_pure rfl (p_assign rfl) ?_)
    refine aops_cons rfl (w_pure rfl (p_assign rfl) ?_)
    refine aops_nil ?_
    refine a_ret ?_
    refine ret_ok (hands2 rfl (.tmp rfl) (.tmp rfl)) (.nil _) ?_
    first | exact ⟨_, rfl, rfl⟩ | (exfalso; first | contradiction | exact absurd hA (by assumption) | exact absurd hA.1 (by assumption) | (have := hA.2; omega))
  · (try simp only [Bool.not_eq_true', Bool.not_eq_false', Bool.not_eq_true, Bool.not_eq_false, decide_eq_true_eq, decide_eq_false_iff_not, List.length_map, List.length_range] at h2)
    refine a_skip ?_
    refine a_seq ?_
    refine a_region ?_
    refine aops_cons rfl (w_pure rfl (p_move rfl) ?_)
    refine aops_cons rfl (w_call rfl rfl rfl cl_69 ((co_gw_run xs hn).mono fun _ _ h => h.len) ?_)
    rintro _ _ ⟨b1, rfl, rfl⟩
    refine aops_cons rfl (w_pure rfl (p_assign rfl) ?_)
    refine aops_cons rfl (w_pure rfl (p_assign rfl) ?_)
    refine aops_nil ?_
    refine a_ret ?_
    refine ret_ok (hands2 rfl (.tmp rfl) (.tmp rfl)) (st' := [(b1, _)]) (.cons (by repeat (first | exact Pick.here _ _ _ | apply Pick.next)) (.nil _)) ?_
    first | exact ⟨_, rfl, rfl⟩ | (exfalso; first | contradiction | exact absurd hA (by assumption) | exact absurd hA.1 (by assumption) | (have := hA.2; omega))

theorem cf_impl_RunnableGuests (xs : List Context) (hn : SmallL xs) (hA : AreContexts xs) : ACalls Try.prog 26 [.sl (xs.map eContext)] [] (Ret (.tup [.sl ((guests xs runs).map eInt), .bool true])) :=
  (cy_impl_RunnableGuests xs hn hA).freeze (by rintro _ _ ⟨_, rfl, rfl⟩; exact (.tup (.cons (.own (by repeat (first | exact List.Mem.head _ | apply List.Mem.tail)) (List.length_map _)) (.cons (.refl _) .nil))))

theorem cn_impl_RunnableGuests (xs : List Context) (hn : SmallL xs) (hA : ¬ AreContexts xs) : ACalls Try.prog 26 [.sl (xs.map eContext)] [] (Ret (.tup [.nil, .bool false])) := by
  refine a_enter Try.func26 rfl rfl (fun w0 M0 => ?_)
  refine a_seq ?_
  refine a_region ?_
  refine aops_cons rfl (w_pure rfl (p_assign rfl) ?_)
  refine aops_cons rfl (w_pure rfl (p_assign rfl) ?_)
  refine aops_nil ?_
  refine a_seq ?_
  refine a_seq ?_
  refine a_region ?_
  refine aops_cons rfl (w_pure rfl (p_move rfl) ?_)
  refine aops_cons rfl (w_callR rfl rfl rfl cl_50 (c_impl_AreContexts _ ‹_›) ?_)
  refine aops_cons rfl (w_pure rfl (p_not rfl) ?_)
  refine aops_nil ?_
  first | refine a_cond_d rfl (fun h1 => ?_) (fun h2 => ?_) | refine a_cond_n rfl (fun h1 => ?_) (fun h2 => ?_) | refine a_cond_nb rfl (fun h1 => ?_) (fun h2 => ?_) | refine a_cond rfl (fun h1 => ?_) (fun h2 => ?_)
  · (try simp only [Bool.not_eq_true', Bool.not_eq_false', Bool.not_eq_true, Bool.not_eq_false, decide_eq_true_eq, decide_eq_false_iff_not, List.length_map, List.length_range] at h1)
    refine a_seq ?_
    refine a_region ?_
    refine aops_cons rfl (w_pure rfl (p_assign rfl) ?_)
    refine aops_cons rfl (w_pure rfl (p_assign rfl) ?_)
    refine aops_nil ?_
    refine a_ret ?_
    refine ret_ok (hands2 rfl (.tmp rfl) (.tmp rfl)) (.nil _) ?_
    exact ⟨rfl, rfl⟩
  · (try simp only [Bool.not_eq_true', Bool.not_eq_false', Bool.not_eq_true, Bool.not_eq_false, decide_eq_true_eq, decide_eq_false_iff_not, List.length_map, List.length_range] at h2)
    refine a_skip ?_
    refine a_seq ?_
    exact absurd (by assumption) hA

theorem co_spec_WithPending (xs : List Context) (hn : SmallL xs) (q : Int) (hA : GoodIrq xs q) : ACalls Try.prog 29 [.sl (xs.map eContext), .int .i64 q] [] (fun r st => ∃ b1, r = .tup [.own 1 b1 0 (guests xs (hasIrq q)).length, .bool true] ∧ st = [(b1, .arr 3 1 ((guests xs (hasIrq q)).map eInt))]) := by
  have hn1 := hn.1
  have hq := hA.2
  refine a_enter Try.func29 rfl rfl (fun w0 M0 => ?_)
  refine a_seq ?_
  refine a_region ?_
  refine aops_cons rfl (w_pure rfl (p_assign rfl) ?_)
  refine aops_cons rfl (w_pure rfl (p_assign rfl) ?_)
  refine aops_nil ?_
  refine a_seq ?_
  refine a_region ?_
  refine aops_cons rfl (w_litM eInt [] rfl el_22 rfl rfl rfl rfl rfl fun b1 => ?_)
  refine aops_cons rfl (w_pure rfl (p_assign rfl) ?_)
  refine aops_nil ?_
  refine a_seq ?_
  refine a_seq ?_
  refine a_region ?_
  refine aops_cons rfl (w_pure rfl (p_move rfl) ?_)
  refine aops_cons rfl (w_callR rfl rfl rfl cl_68 (c_spec_l14Good _ ‹_›) ?_)
  refine aops_cons rfl (w_pure rfl (p_not rfl) ?_)
  refine aops_cons rfl (w_pure rfl (p_move rfl) ?_)
  first | refine aops_split_d 12 rfl (fun h1 => ?_) (fun h2 => ?_) | refine aops_split 12 rfl (fun h1 => ?_) (fun h2 => ?_)
  · (try simp only [Bool.not_eq_true', Bool.not_eq_false', Bool.not_eq_true, Bool.not_eq_false, decide_eq_true_eq, decide_eq_false_iff_not, List.length_map, List.length_range] at h1)
    refine g_pass' rfl rfl rfl rfl rfl ?_
    refine g_pass' rfl rfl rfl rfl rfl ?_
    refine g_pass' rfl rfl rfl rfl rfl ?_
    refine aops_cons rfl (w_pure rfl (p_pick_t rfl rfl) ?_)
    refine aops_nil ?_
    refine a_cond_t rfl ?_
    refine a_seq ?_
    refine a_region ?_
    refine aops_cons rfl (w_pure rfl (p_move rfl) ?_)
    refine aops_cons rfl (w_pure rfl (p_assign rfl) ?_)
    refine aops_cons rfl (w_pure rfl (p_assign rfl) ?_)
    refine aops_nil ?_
    refine a_ret ?_
    refine ret_ok (hands2 rfl (.tmp rfl) (.tmp rfl)) (st' := [(b1, _)]) (.cons (by repeat (first | exact Pick.here _ _ _ | apply Pick.next)) (.nil _)) ?_
    first | (have hx : i = xs.length := (by omega); subst hx; subst hI; exact ⟨b, rfl, rfl⟩) | (exfalso; first | contradiction | exact absurd hA (by assumption) | exact absurd hA.1 (by assumption) | (have := hA.2; omega))
  · (try simp only [Bool.not_eq_true', Bool.not_eq_false', Bool.not_eq_true, Bool.not_eq_false, decide_eq_true_eq, decide_eq_false_iff_not, List.length_map, List.length_range] at h2)
    refine aops_guard_t rfl rfl rfl (w_pure rfl (p_move rfl) ?_)
    refine aops_guard_t rfl rfl rfl (w_callR rfl rfl rfl cl_71 (c_spec_l6Irq ..) ?_)
    refine aops_guard_t rfl rfl rfl (w_pure rfl (p_not rfl) ?_)
    refine aops_cons rfl (w_pure rfl (p_pick_f rfl rfl) ?_)
    refine aops_nil ?_
    first | refine a_cond_d rfl (fun h3 => ?_) (fun h4 => ?_) | refine a_cond_n rfl (fun h3 => ?_) (fun h4 => ?_) | refine a_cond_nb rfl (fun h3 => ?_) (fun h4 => ?_) | refine a_cond rfl (fun h3 => ?_) (fun h4 => ?_)
    · (try simp only [Bool.not_eq_true', Bool.not_eq_false', Bool.not_eq_true, Bool.not_eq_false, decide_eq_true_eq, decide_eq_false_iff_not, List.length_map, List.length_range] at h3)
      refine a_seq ?_
      refine a_region ?_
      refine aops_cons rfl (w_pure rfl (p_move rfl) ?_)
      refine aops_cons rfl (w_pure rfl (p_assign rfl) ?_)
      refine aops_cons rfl (w_pure rfl (p_assign rfl) ?_)
      refine aops_nil ?_
      refine a_ret ?_
      refine ret_ok (hands2 rfl (.tmp rfl) (.tmp rfl)) (st' := [(b1, _)]) (.cons (by repeat (first | exact Pick.here _ _ _ | apply Pick.next)) (.nil _)) ?_
      first | (have hx : i = xs.length := (by omega); subst hx; subst hI; exact ⟨b, rfl, rfl⟩) | (exfalso; first | contradiction | exact absurd hA (by assumption) | exact absurd hA.1 (by assumption) | (have := hA.2; omega))
    · (try simp only [Bool.not_eq_true', Bool.not_eq_false', Bool.not_eq_true, Bool.not_eq_false, decide_eq_true_eq, decide_eq_false_iff_not, List.length_map, List.length_range] at h4)
      refine a_skip ?_
      refine a_seq ?_
      refine a_seq ?_
      refine a_region ?_
      refine aops_cons rfl (w_pure rfl (p_assign rfl) ?_)
      refine aops_nil ?_
      refine a_block ?_
      refine a_loop (ι := Nat × Nat × List Int) (fun ⟨i, b, l⟩ => i ≤ xs.length ∧ l = guestsTo xs (hasIrq q) i) (fun ⟨i, b, l⟩ => [(7, .int .i64 (i : Int)), (6, .own 1 b 0 l.length)]) (fun ⟨i, b, l⟩ => [(b, .arr 3 1 (l.map eInt))]) (fun ⟨i, b, l⟩ => xs.length - i) (0, b1, []) ⟨Nat.zero_le _, rfl⟩ (by repeat (first | exact Knows.nil | refine Knows.cons (by rfl) ?_)) (by repeat (first | exact Picks.nil _ | exact Pick.here _ _ _ | apply Pick.next | apply Picks.cons)) ?_
      rintro ⟨i, b, l⟩ ⟨hi, hI⟩
      have hln := guestsTo_len xs (hasIrq q) i; rw [← hI] at hln; have hcx := fun h : i < xs.length => are_at hA.1 h
      refine a_seq ?_
      refine a_seq ?_
      refine a_region ?_
      refine aops_cons rfl (w_pure rfl (p_move rfl) ?_)
      refine aops_cons rfl (w_pure rfl (p_move rfl) ?_)
      refine aops_cons rfl (w_pure rfl (p_len sl_44 rfl rfl) ?_)
      refine aops_cons rfl (w_pure rfl (p_lss rfl rfl) ?_)
      refine aops_nil ?_
      first | refine a_cond_d rfl (fun h5 => ?_) (fun h6 => ?_) | refine a_cond_n rfl (fun h5 => ?_) (fun h6 => ?_) | refine a_cond_nb rfl (fun h5 => ?_) (fun h6 => ?_) | refine a_cond rfl (fun h5 => ?_) (fun h6 => ?_)
      · (try simp only [Bool.not_eq_true', Bool.not_eq_false', Bool.not_eq_true, Bool.not_eq_false, decide_eq_true_eq, decide_eq_false_iff_not, List.length_map, List.length_range] at h5)
        refine a_skip ?_
        refine a_seq ?_
        refine a_block ?_
        refine a_seq ?_
        refine a_region ?_
        refine aops_cons rfl (w_pure rfl (p_move rfl) ?_)
        refine aops_cons rfl (w_pure rfl (p_move rfl) ?_)
        refine aops_cons rfl (w_pure rfl (p_index_sl _ rfl rfl rfl (rowD eContext xs zContext (by omega)) es_44) ?_)
        refine aops_cons rfl (w_pure rfl (p_field_v fo_32_3 rfl) ?_)
        refine aops_cons rfl (w_pure rfl (p_load_v ag_3 rfl (by rfl) noX) ?_)
        refine aops_cons rfl (w_pure rfl (p_move rfl) ?_)
        refine aops_cons rfl (w_pure rfl (p_convert ui_3 um_87 rfl) ?_)
        refine aops_cons rfl (w_pure rfl (p_shr rfl rfl (by rw [u64_irq (by omega) (by omega)]; omega)) ?_)
        refine aops_cons rfl (w_pure rfl (p_bits .and (by decide) rfl rfl) ?_)
        refine aops_cons rfl (w_pure rfl (p_eql rfl rfl) ?_)
        refine aops_nil ?_
        first | refine a_cond_d rfl (fun h7 => ?_) (fun h8 => ?_) | refine a_cond_n rfl (fun h7 => ?_) (fun h8 => ?_) | refine a_cond_nb rfl (fun h7 => ?_) (fun h8 => ?_) | refine a_cond rfl (fun h7 => ?_) (fun h8 => ?_)
        · (try simp only [Bool.not_eq_true', Bool.not_eq_false', Bool.not_eq_true, Bool.not_eq_false, decide_eq_true_eq, decide_eq_false_iff_not, List.length_map, List.length_range] at h7)
          refine a_region ?_
          refine aops_cons rfl (w_pure rfl (p_move rfl) ?_)
          refine aops_cons rfl (w_pure rfl (p_move rfl) ?_)
          refine aops_cons rfl (w_pure rfl (p_move rfl) ?_)
          refine aops_cons rfl (w_pure rfl (p_index_sl _ rfl rfl rfl (rowD eContext xs zContext (by omega)) es_44) ?_)
          refine aops_cons rfl (w_pure rfl (p_field_v fo_32_0 rfl) ?_)
          refine aops_cons rfl (w_pure rfl (p_load_v ag_3 rfl (by rfl) noX) ?_)
          refine aops_cons rfl (w_lit_vM eInt [(xs.getD i zContext).id] rfl el_22 rfl rfl rfl rfl rfl ?_)
          refine aops_cons rfl (w_appendM eInt rfl el_22 rfl rfl (by repeat (first | exact Pick.here _ _ _ | apply Pick.next)) rfl (.sl _) (fun _ => rfl) (fun _ => rfl) (by simp; omega) (by simp; omega) trivial fun b2 => ?_)
          refine aops_cons rfl (w_pure rfl (p_assign rfl) ?_)
          refine aops_nil ?_
          refine a_region ?_
          refine aops_cons rfl (w_pure rfl (p_move rfl) ?_)
          refine aops_cons rfl (w_pure rfl (p_add' rfl rfl ⟨by omega, by omega⟩) ?_)
          refine aops_cons rfl (w_pure rfl (p_assign rfl) ?_)
          refine aops_nil ?_
          refine ⟨(i + 1, _, _), _, ?_, ?_, (by repeat (first | exact Knows.nil | refine Knows.cons (by rfl) ?_)), (by repeat (first | exact Back.refl _ _ | refine Back.cons (by rfl) ?_)), (by repeat (first | exact Picks.nil _ | exact Pick.here _ _ _ | apply Pick.next | apply Picks.cons))⟩
          · refine ⟨by omega, ?_⟩; rw [guestsTo, ← hI]; first | exact (if_pos (by have hu := u64_irq (n := q) (by omega) (by omega); simp only [hu] at *; unfold hasIrq; first | exact decide_eq_true (by assumption) | (rw [decide_eq_true_eq]; assumption))).symm | exact (if_neg (by have hu := u64_irq (n := q) (by omega) (by omega); simp only [hu] at *; unfold hasIrq; first | exact decide_eq_true (by assumption) | (rw [decide_eq_true_eq]; assumption))).symm
          · (try dsimp only); omega
        · (try simp only [Bool.not_eq_true', Bool.not_eq_false', Bool.not_eq_true, Bool.not_eq_false, decide_eq_true_eq, decide_eq_false_iff_not, List.length_map, List.length_range] at h8)
          refine a_skip ?_
          refine a_region ?_
          refine aops_cons rfl (w_pure rfl (p_move rfl) ?_)
          refine aops_cons rfl (w_pure rfl (p_add' rfl rfl ⟨by omega, by omega⟩) ?_)
          refine aops_cons rfl (w_pure rfl (p_assign rfl) ?_)
          refine aops_nil ?_
          refine ⟨(i + 1, _, _), _, ?_, ?_, (by repeat (first | exact Knows.nil | refine Knows.cons (by rfl) ?_)), (by repeat (first | exact Back.refl _ _ | refine Back.cons (by rfl) ?_)), (by repeat (first | exact Picks.nil _ | exact Pick.here _ _ _ | apply Pick.next | apply Picks.cons))⟩
          · refine ⟨by omega, ?_⟩; rw [guestsTo, ← hI]; first | exact (if_pos (by have hu := u64_irq (n := q) (by omega) (by omega); simp only [hu] at *; unfold hasIrq; first | exact decide_eq_true (by assumption) | (rw [decide_eq_true_eq]; assumption))).symm | exact (if_neg (by have hu := u64_irq (n := q) (by omega) (by omega); simp only [hu] at *; unfold hasIrq; first | exact decide_eq_true (by assumption) | (rw [decide_eq_true_eq]; assumption))).symm
          · (try dsimp only); omega
      · (try simp only [Bool.not_eq_true', Bool.not_eq_false', Bool.not_eq_true, Bool.not_eq_false, decide_eq_true_eq, decide_eq_false_iff_not, List.length_map, List.length_range] at h6)
        refine a_exit ?_
        refine a_seq ?_
        refine a_region ?_
        refine aops_cons rfl (w_pure rfl (p_move rfl) ?_)
        refine aops_cons rfl (w_pure rfl (p_assign rfl) ?_)
        refine aops_cons rfl (w_pure rfl (p_assign rfl) ?_)
        refine aops_nil ?_
        refine a_ret ?_
        refine ret_ok (hands2 rfl (.tmp rfl) (.tmp rfl)) (st' := [(b, _)]) (.cons (by repeat (first | exact Pick.here _ _ _ | apply Pick.next)) (.nil _)) ?_
        first | (have hx : i = xs.length := (by omega); subst hx; subst hI; exact ⟨b, rfl, rfl⟩) | (exfalso; first | contradiction | exact absurd hA (by assumption) | exact absurd hA.1 (by assumption) | (have := hA.2; omega))

theorem cy_spec_WithPending (xs : List Context) (hn : SmallL xs) (q : Int) (hA : GoodIrq xs q) : ACalls Try.prog 29 [.sl (xs.map eContext), .int .i64 q] [] (Ret (.tup [.sl ((guests xs (hasIrq q)).map eInt), .bool true])) :=
  (co_spec_WithPending xs hn q hA).freeze (by rintro _ _ ⟨_, rfl, rfl⟩; exact (.tup (.cons (.own (by repeat (first | exact List.Mem.head _ | apply List.Mem.tail)) (List.length_map _)) (.cons (.refl _) .nil))))

theorem cn_spec_WithPending (xs : List Context) (hn : SmallL xs) (q : Int) (hA : ¬ GoodIrq xs q) : ACalls Try.prog 29 [.sl (xs.map eContext), .int .i64 q] [] (Ret (.tup [.sl ([] : List (List AV)), .bool false])) := by
  have hn1 := hn.1
  refine a_enter Try.func29 rfl rfl (fun w0 M0 => ?_)
  refine a_seq ?_
  refine a_region ?_
  refine aops_cons rfl (w_pure rfl (p_assign rfl) ?_)
  refine aops_cons rfl (w_pure rfl (p_assign rfl) ?_)
  refine aops_nil ?_
  refine a_seq ?_
  refine a_region ?_
  refine aops_cons rfl (w_lit_vM eInt [] rfl el_22 rfl rfl rfl rfl rfl ?_)
  refine aops_cons rfl (w_pure rfl (p_assign rfl) ?_)
  refine aops_nil ?_
  refine a_seq ?_
  refine a_seq ?_
  refine a_region ?_
  refine aops_cons rfl (w_pure rfl (p_move rfl) ?_)
  refine aops_cons rfl (w_callR rfl rfl rfl cl_68 (c_spec_l14Good _ ‹_›) ?_)
  refine aops_cons rfl (w_pure rfl (p_not rfl) ?_)
  refine aops_cons rfl (w_pure rfl (p_move rfl) ?_)
  first | refine aops_split_d 12 rfl (fun h1 => ?_) (fun h2 => ?_) | refine aops_split 12 rfl (fun h1 => ?_) (fun h2 => ?_)
  · (try simp only [Bool.not_eq_true', Bool.not_eq_false', Bool.not_eq_true, Bool.not_eq_false, decide_eq_true_eq, decide_eq_false_iff_not, List.length_map, List.length_range] at h1)
    refine g_pass' rfl rfl rfl rfl rfl ?_
    refine g_pass' rfl rfl rfl rfl rfl ?_
    refine g_pass' rfl rfl rfl rfl rfl ?_
    refine aops_cons rfl (w_pure rfl (p_pick_t rfl rfl) ?_)
    refine aops_nil ?_
    refine a_cond_t rfl ?_
    refine a_seq ?_
    refine a_region ?_
    refine aops_cons rfl (w_pure rfl (p_move rfl) ?_)
    refine aops_cons rfl (w_pure rfl (p_assign rfl) ?_)
    refine aops_cons rfl (w_pure rfl (p_assign rfl) ?_)
    refine aops_nil ?_
    refine a_ret ?_
    refine ret_ok (hands2 rfl (.tmp rfl) (.tmp rfl)) (.nil _) ?_
    exact ⟨rfl, rfl⟩
  · (try simp only [Bool.not_eq_true', Bool.not_eq_false', Bool.not_eq_true, Bool.not_eq_false, decide_eq_true_eq, decide_eq_false_iff_not, List.length_map, List.length_range] at h2)
    refine aops_guard_t rfl rfl rfl (w_pure rfl (p_move rfl) ?_)
    refine aops_guard_t rfl rfl rfl (w_callR rfl rfl rfl cl_71 (c_spec_l6Irq ..) ?_)
    refine aops_guard_t rfl rfl rfl (w_pure rfl (p_not rfl) ?_)
    refine aops_cons rfl (w_pure rfl (p_pick_f rfl rfl) ?_)
    refine aops_nil ?_
    first | refine a_cond_d rfl (fun h3 => ?_) (fun h4 => ?_) | refine a_cond_n rfl (fun h3 => ?_) (fun h4 => ?_) | refine a_cond_nb rfl (fun h3 => ?_) (fun h4 => ?_) | refine a_cond rfl (fun h3 => ?_) (fun h4 => ?_)
    · (try simp only [Bool.not_eq_true', Bool.not_eq_false', Bool.not_eq_true, Bool.not_eq_false, decide_eq_true_eq, decide_eq_false_iff_not, List.length_map, List.length_range] at h3)
      refine a_seq ?_
      refine a_region ?_
      refine aops_cons rfl (w_pure rfl (p_move rfl) ?_)
      refine aops_cons rfl (w_pure rfl (p_assign rfl) ?_)
      refine aops_cons rfl (w_pure rfl (p_assign rfl) ?_)
      refine aops_nil ?_
      refine a_ret ?_
      refine ret_ok (hands2 rfl (.tmp rfl) (.tmp rfl)) (.nil _) ?_
      exact ⟨rfl, rfl⟩
    · (try simp only [Bool.not_eq_true', Bool.not_eq_false', Bool.not_eq_true, Bool.not_eq_false, decide_eq_true_eq, decide_eq_false_iff_not, List.length_map, List.length_range] at h4)
      refine a_skip ?_
      refine a_seq ?_
      refine a_seq ?_
      exact absurd (show GoodIrq xs q from ⟨by assumption, by omega⟩) hA

theorem cy_impl_WithPending (xs : List Context) (hn : SmallL xs) (q : Int) (hA : GoodIrq xs q) : ACalls Try.prog 30 [.sl (xs.map eContext), .int .i64 q] [] (fun r st => ∃ b1, r = .tup [.own 1 b1 0 (guests xs (hasIrq q)).length, .bool true] ∧ st = [(b1, .arr 3 1 ((guests xs (hasIrq q)).map eInt))]) := by
  refine a_enter Try.func30 rfl rfl (fun w0 M0 => ?_)
  refine a_seq ?_
  refine a_region ?_
  refine aops_cons rfl (w_box_v rfl rfl rfl ?_)
  refine aops_cons rfl (w_pure rfl (p_assign rfl) ?_)
  refine aops_cons rfl (w_pure rfl (p_assign rfl) ?_)
  refine aops_nil ?_
  refine a_seq ?_
  refine a_seq ?_
  refine a_region ?_
  refine aops_cons rfl (w_pure rfl (p_move rfl) ?_)
  refine aops_cons rfl (w_callR rfl rfl rfl cl_50 (c_impl_AreContexts _ ‹_›) ?_)
  refine aops_cons rfl (w_pure rfl (p_not rfl) ?_)
  refine aops_cons rfl (w_pure rfl (p_move rfl) ?_)
  first | refine aops_split_d 9 rfl (fun h1 => ?_) (fun h2 => ?_) | refine aops_split 9 rfl (fun h1 => ?_) (fun h2 => ?_)
  · (try simp only [Bool.not_eq_true', Bool.not_eq_false', Bool.not_eq_true, Bool.not_eq_false, decide_eq_true_eq, decide_eq_false_iff_not, List.length_map, List.length_range] at h1)
    refine g_pass' rfl rfl rfl rfl rfl ?_
    refine g_pass' rfl rfl rfl rfl rfl ?_
    refine g_pass' rfl rfl rfl rfl rfl ?_
    refine aops_cons rfl (w_pure rfl (p_pick_t rfl rfl) ?_)
    refine aops_nil ?_
    refine a_cond_t rfl ?_
    refine a_seq ?_
    refine a_region ?_
    refine aops_cons rfl (w_pure rfl (p_assign rfl) ?_)
    refine aops_cons rfl (w_pure rfl (p_assign rfl) ?_)
    refine aops_nil ?_
    refine a_ret ?_
    refine ret_ok (hands2 rfl (.tmp rfl) (.tmp rfl)) (.nil _) ?_
    first | exact ⟨_, rfl, rfl⟩ | (exfalso; first | contradiction | exact absurd hA (by assumption) | exact absurd hA.1 (by assumption) | (have := hA.2; omega))
  · (try simp only [Bool.not_eq_true', Bool.not_eq_false', Bool.not_eq_true, Bool.not_eq_false, decide_eq_true_eq, decide_eq_false_iff_not, List.length_map, List.length_range] at h2)
    refine aops_guard_t rfl rfl rfl (w_pure rfl (p_load_v ag_3 rfl (by rfl) noX) ?_)
    refine aops_guard_t rfl rfl rfl (w_callR rfl rfl rfl cl_72 (c_impl_isIrq ..) ?_)
    refine aops_guard_t rfl rfl rfl (w_pure rfl (p_not rfl) ?_)
    refine aops_cons rfl (w_pure rfl (p_pick_f rfl rfl) ?_)
    refine aops_nil ?_
    first | refine a_cond_d rfl (fun h3 => ?_) (fun h4 => ?_) | refine a_cond_n rfl (fun h3 => ?_) (fun h4 => ?_) | refine a_cond_nb rfl (fun h3 => ?_) (fun h4 => ?_) | refine a_cond rfl (fun h3 => ?_) (fun h4 => ?_)
    · (try simp only [Bool.not_eq_true', Bool.not_eq_false', Bool.not_eq_true, Bool.not_eq_false, decide_eq_true_eq, decide_eq_false_iff_not, List.length_map, List.length_range] at h3)
      refine a_seq ?_
      refine a_region ?_
      refine aops_cons rfl (w_pure rfl (p_assign rfl) ?_)
      refine aops_cons rfl (w_pure rfl (p_assign rfl) ?_)
      refine aops_nil ?_
      refine a_ret ?_
      refine ret_ok (hands2 rfl (.tmp rfl) (.tmp rfl)) (.nil _) ?_
      first | exact ⟨_, rfl, rfl⟩ | (exfalso; first | contradiction | exact absurd hA (by assumption) | exact absurd hA.1 (by assumption) | (have := hA.2; omega))
    · (try simp only [Bool.not_eq_true', Bool.not_eq_false', Bool.not_eq_true, Bool.not_eq_false, decide_eq_true_eq, decide_eq_false_iff_not, List.length_map, List.length_range] at h4)
      refine a_skip ?_
      refine a_seq ?_
      refine a_region ?_
      refine aops_cons rfl (w_pure rfl (p_move rfl) ?_)
      refine aops_cons rfl (w_pure rfl (p_func rfl) ?_)
      refine aops_cons rfl (w_call rfl rfl rfl cl_69 ((co_gw_irq xs hn q hA.2.1).mono fun _ _ h => h.len) ?_)
      rintro _ _ ⟨b1, rfl, rfl⟩
      refine aops_cons rfl (w_pure rfl (p_assign rfl) ?_)
      refine aops_cons rfl (w_pure rfl (p_assign rfl) ?_)
      refine aops_nil ?_
      refine a_ret ?_
      refine ret_ok (hands2 rfl (.tmp rfl) (.tmp rfl)) (st' := [(b1, _)]) (.cons (by repeat (first | exact Pick.here _ _ _ | apply Pick.next)) (.nil _)) ?_
      first | exact ⟨_, rfl, rfl⟩ | (exfalso; first | contradiction | exact absurd hA (by assumption) | exact absurd hA.1 (by assumption) | (have := hA.2; omega))

theorem cf_impl_WithPending (xs : List Context) (hn : SmallL xs) (q : Int) (hA : GoodIrq xs q) : ACalls Try.prog 30 [.sl (xs.map eContext), .int .i64 q] [] (Ret (.tup [.sl ((guests xs (hasIrq q)).map eInt), .bool true])) :=
  (cy_impl_WithPending xs hn q hA).freeze (by rintro _ _ ⟨_, rfl, rfl⟩; exact (.tup (.cons (.own (by repeat (first | exact List.Mem.head _ | apply List.Mem.tail)) (List.length_map _)) (.cons (.refl _) .nil))))

theorem cn_impl_WithPending (xs : List Context) (hn : SmallL xs) (q : Int) (hA : ¬ GoodIrq xs q) : ACalls Try.prog 30 [.sl (xs.map eContext), .int .i64 q] [] (Ret (.tup [.nil, .bool false])) := by
  refine a_enter Try.func30 rfl rfl (fun w0 M0 => ?_)
  refine a_seq ?_
  refine a_region ?_
  refine aops_cons rfl (w_box_v rfl rfl rfl ?_)
  refine aops_cons rfl (w_pure rfl (p_assign rfl) ?_)
  refine aops_cons rfl (w_pure rfl (p_assign rfl) ?_)
  refine aops_nil ?_
  refine a_seq ?_
  refine a_seq ?_
  refine a_region ?_
  refine aops_cons rfl (w_pure rfl (p_move rfl) ?_)
  refine aops_cons rfl (w_callR rfl rfl rfl cl_50 (c_impl_AreContexts _ ‹_›) ?_)
  refine aops_cons rfl (w_pure rfl (p_not rfl) ?_)
  refine aops_cons rfl (w_pure rfl (p_move rfl) ?_)
  first | refine aops_split_d 9 rfl (fun h1 => ?_) (fun h2 => ?_) | refine aops_split 9 rfl (fun h1 => ?_) (fun h2 => ?_)
  · (try simp only [Bool.not_eq_true', Bool.not_eq_false', Bool.not_eq_true, Bool.not_eq_false, decide_eq_true_eq, decide_eq_false_iff_not, List.length_map, List.length_range] at h1)
    refine g_pass' rfl rfl rfl rfl rfl ?_
    refine g_pass' rfl rfl rfl rfl rfl ?_
    refine g_pass' rfl rfl rfl rfl rfl ?_
    refine aops_cons rfl (w_pure rfl (p_pick_t rfl rfl) ?_)
    refine aops_nil ?_
    refine a_cond_t rfl ?_
    refine a_seq ?_
    refine a_region ?_
    refine aops_cons rfl (w_pure rfl (p_assign rfl) ?_)
    refine aops_cons rfl (w_pure rfl (p_assign rfl) ?_)
    refine aops_nil ?_
    refine a_ret ?_
    refine ret_ok (hands2 rfl (.tmp rfl) (.tmp rfl)) (.nil _) ?_
    exact ⟨rfl, rfl⟩
  · (try simp only [Bool.not_eq_true', Bool.not_eq_false', Bool.not_eq_true, Bool.not_eq_false, decide_eq_true_eq, decide_eq_false_iff_not, List.length_map, List.length_range] at h2)
    refine aops_guard_t rfl rfl rfl (w_pure rfl (p_load_v ag_3 rfl (by rfl) noX) ?_)
    refine aops_guard_t rfl rfl rfl (w_callR rfl rfl rfl cl_72 (c_impl_isIrq ..) ?_)
    refine aops_guard_t rfl rfl rfl (w_pure rfl (p_not rfl) ?_)
    refine aops_cons rfl (w_pure rfl (p_pick_f rfl rfl) ?_)
    refine aops_nil ?_
    first | refine a_cond_d rfl (fun h3 => ?_) (fun h4 => ?_) | refine a_cond_n rfl (fun h3 => ?_) (fun h4 => ?_) | refine a_cond_nb rfl (fun h3 => ?_) (fun h4 => ?_) | refine a_cond rfl (fun h3 => ?_) (fun h4 => ?_)
    · (try simp only [Bool.not_eq_true', Bool.not_eq_false', Bool.not_eq_true, Bool.not_eq_false, decide_eq_true_eq, decide_eq_false_iff_not, List.length_map, List.length_range] at h3)
      refine a_seq ?_
      refine a_region ?_
      refine aops_cons rfl (w_pure rfl (p_assign rfl) ?_)
      refine aops_cons rfl (w_pure rfl (p_assign rfl) ?_)
      refine aops_nil ?_
      refine a_ret ?_
      refine ret_ok (hands2 rfl (.tmp rfl) (.tmp rfl)) (.nil _) ?_
      exact ⟨rfl, rfl⟩
    · (try simp only [Bool.not_eq_true', Bool.not_eq_false', Bool.not_eq_true, Bool.not_eq_false, decide_eq_true_eq, decide_eq_false_iff_not, List.length_map, List.length_range] at h4)
      refine a_skip ?_
      refine a_seq ?_
      exact absurd (show GoodIrq xs q from ⟨by assumption, by omega⟩) hA

end Go.Proofs.Ytejlhpmmgjfllaa
