/-
  The walks of this part: each theorem is the contract of one function. Condition: none but those that it names.
-/
import Derived.Test.YtmdhojgkhbihaaaMailPd
import Derived.Test.YtmdhojgkhbihaaaMailPF
import Derived.Test.YtmdhojgkhbihaaaMailA
import Derived.Test.YtmdhojgkhbihaaaMailB
import Derived.Test.YtmdhojgkhbihaaaMailC
import Derived.Test.YtmdhojgkhbihaaaMailD
import Derived.Test.YtmdhojgkhbihaaaMailE
namespace Go.Proofs.Ytmdhojgkhbihaaa
open Go Go.Fw Go.Hv
attribute [local irreducible] awp Aops Aop ADraw ADrawAll ACalls
set_option maxRecDepth 4000
set_option linter.unusedSimpArgs false
set_option linter.unusedVariables false

theorem c_laws_eqIntSS (xs : List (List Int)) (hn : DeepL xs) : ACalls Try.prog 38 [.sl (xs.map eInts), .sl (xs.map eInts)] [] (Ret (.bool true)) := by
  have hn1 := hn.1
  refine a_enter Try.func38 rfl rfl (fun w0 M0 => ?_)
  refine a_seq ?_
  refine a_region ?_
  refine aops_cons rfl (w_pure rfl (p_assign rfl) ?_)
  refine aops_nil ?_
  refine a_seq ?_
  refine a_seq ?_
  refine a_region ?_
  refine aops_cons rfl (w_pure rfl (p_move rfl) ?_)
  refine aops_cons rfl (w_pure rfl (p_len sl_50 rfl rfl) ?_)
  refine aops_cons rfl (w_pure rfl (p_move rfl) ?_)
  refine aops_cons rfl (w_pure rfl (p_len sl_50 rfl rfl) ?_)
  refine aops_cons rfl (w_pure rfl (p_neq_same rfl rfl) ?_)
  refine aops_nil ?_
  refine a_cond_f rfl ?_
  refine a_skip ?_
  refine a_seq ?_
  refine a_seq ?_
  refine a_region ?_
  refine aops_cons rfl (w_pure rfl (p_assign rfl) ?_)
  refine aops_nil ?_
  refine a_block ?_
  refine a_loop (ι := Nat) (fun i => i ≤ xs.length) (fun i => [(5, .int .i64 (i : Int))]) (fun i => []) (fun i => xs.length - i) 0 (Nat.zero_le _) (by repeat (first | exact Knows.nil | refine Knows.cons (by rfl) ?_)) (by repeat (first | exact Picks.nil _ | exact Pick.here _ _ _ | apply Pick.next | apply Picks.cons)) ?_
  rintro i hi
  have hr := fun h : i < xs.length => hn.2 i h
  refine a_seq ?_
  refine a_seq ?_
  refine a_region ?_
  refine aops_cons rfl (w_pure rfl (p_move rfl) ?_)
  refine aops_cons rfl (w_pure rfl (p_move rfl) ?_)
  refine aops_cons rfl (w_pure rfl (p_len sl_50 rfl rfl) ?_)
  refine aops_cons rfl (w_pure rfl (p_lss rfl rfl) ?_)
  refine aops_nil ?_
  first | refine a_cond_d rfl (fun h1 => ?_) (fun h2 => ?_) | refine a_cond_n rfl (fun h1 => ?_) (fun h2 => ?_) | refine a_cond_nb rfl (fun h1 => ?_) (fun h2 => ?_) | refine a_cond rfl (fun h1 => ?_) (fun h2 => ?_)
  · (try simp only [Bool.not_eq_true', Bool.not_eq_false', Bool.not_eq_true, Bool.not_eq_false, decide_eq_true_eq, decide_eq_false_iff_not, List.length_map, List.length_range] at h1)
    refine a_skip ?_
    refine a_seq ?_
    refine a_block ?_
    refine a_seq ?_
    refine a_draw [] (by kernel_rfl) ?_
    show ADraw _ _ _ _ _ _ 10 _ _ _ _
    refine d_take 0 rfl (by kernel_rfl) (by kernel_rfl) (by kernel_rfl) rfl (p_move rfl) ?_
    refine d_take 1 rfl (by kernel_rfl) (by kernel_rfl) (by kernel_rfl) rfl (p_move rfl) ?_
    refine d_take 2 rfl (by kernel_rfl) (by kernel_rfl) (by kernel_rfl) rfl (p_index_sl _ rfl rfl rfl (rowD eInts xs ([] : List Int) (by omega)) es_50) ?_
    refine d_load 3 rfl (by kernel_rfl) (by kernel_rfl) (by kernel_rfl) rfl (p_load_v ag_45 rfl (by rfl) noX) ?_
    refine d_take 4 rfl (by kernel_rfl) (by kernel_rfl) (by kernel_rfl) rfl (p_move rfl) ?_
    refine d_take 5 rfl (by kernel_rfl) (by kernel_rfl) (by kernel_rfl) rfl (p_move rfl) ?_
    refine d_take 6 rfl (by kernel_rfl) (by kernel_rfl) (by kernel_rfl) rfl (p_index_sl _ rfl rfl rfl (rowD eInts xs ([] : List Int) (by omega)) es_50) ?_
    refine d_load 7 rfl (by kernel_rfl) (by kernel_rfl) (by kernel_rfl) rfl (p_load_v ag_45 rfl (by rfl) noX) ?_
    refine draw_all [8] (by kernel_rfl) (by simp) ?_
    refine all_cons rfl rfl ?_ ?_
    · skip
      refine w_callR rfl rfl rfl cl_69 (c_laws_eqIntS (xs.getD i []) (hr (by omega))) ?_
      refine d_take 9 rfl (by kernel_rfl) (by kernel_rfl) (by kernel_rfl) rfl (p_not rfl) ?_
      refine draw_done (by kernel_rfl) ?_
      refine a_cond_f rfl ?_
      refine a_skip ?_
      refine a_region ?_
      refine aops_cons rfl (w_pure rfl (p_move rfl) ?_)
      refine aops_cons rfl (w_pure rfl (p_add' rfl rfl ⟨by omega, by omega⟩) ?_)
      refine aops_cons rfl (w_pure rfl (p_assign rfl) ?_)
      refine aops_nil ?_
      refine ⟨(i + 1), _, ?_, ?_, (by repeat (first | exact Knows.nil | refine Knows.cons (by rfl) ?_)), (by repeat (first | exact Back.refl _ _ | refine Back.cons (by rfl) ?_)), (by repeat (first | exact Picks.nil _ | exact Pick.here _ _ _ | apply Pick.next | apply Picks.cons))⟩
      · omega
      · (try dsimp only); omega
    exact all_nil
  · (try simp only [Bool.not_eq_true', Bool.not_eq_false', Bool.not_eq_true, Bool.not_eq_false, decide_eq_true_eq, decide_eq_false_iff_not, List.length_map, List.length_range] at h2)
    refine a_exit ?_
    refine a_seq ?_
    refine a_region ?_
    refine aops_cons rfl (w_pure rfl (p_assign rfl) ?_)
    refine aops_nil ?_
    refine a_ret ?_
    refine ret_ok (hands1 rfl (.tmp rfl)) (.nil _) ?_
    first | exact ⟨rfl, rfl⟩ | (exfalso; omega)

theorem ce_laws_eqIntSS (xs ys : List (List Int)) (hn : DeepL ys) (h : xs = ys) : ACalls Try.prog 38 [.sl (xs.map eInts), .sl (ys.map eInts)] [] (Ret (.bool true)) := by
  subst h
  exact c_laws_eqIntSS xs hn

theorem c_laws_markIntSS (b : Nat) (ps : List BI) (hd : DeepI ps) (k : Int) (k0 : 0 ≤ k) (k1 : k ≤ 50000000) : ACalls Try.prog 41 [.own 1 b 0 ps.length, .int .i64 k] ((b, .arr 45 1 (ps.map rowI)) :: fam (famI 3) ps) (fun r st => r = .int .i64 (kA k ps ps.length) ∧ st = (b, .arr 45 1 ((markP k ps).map rowI)) :: fam (famI 3) (markP k ps)) := by
  have hn1 := hd.1
  refine a_enter Try.func41 rfl rfl (fun w0 M0 => ?_)
  refine a_seq ?_
  refine a_region ?_
  refine aops_cons rfl (w_pure rfl (p_assign rfl) ?_)
  refine aops_nil ?_
  refine a_seq ?_
  refine a_seq ?_
  refine a_region ?_
  refine aops_cons rfl (w_pure rfl (p_assign rfl) ?_)
  refine aops_nil ?_
  refine a_block ?_
  refine a_loop (ι := Nat × Int) (fun ⟨i, m⟩ => i ≤ ps.length ∧ m = kA k ps i) (fun ⟨i, m⟩ => [(5, .int .i64 (i : Int)), (1, .int .i64 m)]) (fun ⟨i, m⟩ => (b, .arr 45 1 (ps.map rowI)) :: fam (famI 3) (putTo (mkP k ps) ps i)) (fun ⟨i, m⟩ => ps.length - i) (0, k) ⟨Nat.zero_le _, rfl⟩ (by repeat (first | exact Knows.nil | refine Knows.cons (by rfl) ?_)) (by (try dsimp only); (try simp only [fam_app, fam_one, fam_nil, List.append_assoc, List.cons_append, List.nil_append, List.append_nil, List.append_eq]); repeat (first | exact Picks.nil _ | exact Pick.here _ _ _ | exact Picks.whole _ _ | exact Picks.whole0 _ | apply Pick.next | apply Pick.under | apply Picks.cons | apply Picks.both | apply Picks.skip1 | apply Picks.skipA)) ?_
  rintro ⟨i, m⟩ ⟨hi, hI⟩
  replace hi : i ≤ ps.length := hi
  replace hI : m = kA k ps i := hI
  subst hI
  have hkb := deep_kA hd k0 i hi
  have hlr := fun h : i < ps.length => (hd.2 i h).1
  refine a_seq ?_
  refine a_seq ?_
  refine a_region ?_
  refine aops_cons rfl (w_pure rfl (p_move rfl) ?_)
  refine aops_cons rfl (w_pure rfl (p_move rfl) ?_)
  refine aops_cons rfl (w_pure rfl (p_len sl_50 rfl rfl) ?_)
  refine aops_cons rfl (w_pure rfl (p_lss rfl rfl) ?_)
  refine aops_nil ?_
  first | refine a_cond_d rfl (fun h1 => ?_) (fun h2 => ?_) | refine a_cond_n rfl (fun h1 => ?_) (fun h2 => ?_) | refine a_cond_nb rfl (fun h1 => ?_) (fun h2 => ?_) | refine a_cond rfl (fun h1 => ?_) (fun h2 => ?_)
  · (try simp only [Bool.not_eq_true', Bool.not_eq_false', Bool.not_eq_true, Bool.not_eq_false, decide_eq_true_eq, decide_eq_false_iff_not, List.length_map, List.length_range] at h1)
    refine a_skip ?_
    refine a_seq ?_
    refine a_block ?_
    refine a_region ?_
    refine aops_cons rfl (w_pure rfl (p_move rfl) ?_)
    refine aops_cons rfl (w_pure rfl (p_move rfl) ?_)
    refine aops_cons rfl (w_pure rfl (p_index_own0 _ rfl rfl rfl (by omega) es_50) ?_)
    refine aops_cons rfl (w_pure rfl (p_load_e ag_45 rfl (by (try simp only [fam_app, fam_one, fam_nil, List.append_assoc, List.cons_append, List.nil_append, List.append_nil, List.append_eq]); repeat (first | exact Pick.here _ _ _ | apply Pick.next | apply Pick.under)) (rowD _ _ zBI (by omega)) (by rfl) noX) ?_)
    refine aops_cons rfl (w_pure rfl (p_move rfl) ?_)
    refine aops_app ((b, .arr 45 1 (ps.map rowI)) :: fam (famI 3) (putTo (mkP k ps) ps i)) ((b, .arr 45 1 (ps.map rowI)) :: (fam (famI 3) ((putTo (mkP k ps) ps i).take i) ++ famI 3 (ps.getD i zBI) :: fam (famI 3) ((putTo (mkP k ps) ps i).drop (i + 1)))) (by rw [fam_put (famI 3) (mkP k ps) zBI (show i < ps.length by omega)]) ?_
    refine aops_cons rfl (w_callM rfl rfl rfl cl_71 (by (try dsimp only); (try simp only [fam_app, fam_one, fam_nil, List.append_assoc, List.cons_append, List.nil_append, List.append_nil, List.append_eq]); repeat (first | exact Picks.nil _ | exact Pick.here _ _ _ | exact Picks.whole _ _ | exact Picks.whole0 _ | apply Pick.next | apply Pick.under | apply Picks.cons | apply Picks.both | apply Picks.skip1 | apply Picks.skipA)) (.cons (.refl _) (.cons (.refl _) .nil)) (c_laws_markIntS (ps.getD i zBI).1 (ps.getD i zBI).2 (hlr (by omega)) _ (by omega) (by omega)) trivial ?_)
    rintro _ _ ⟨rfl, rfl⟩
    refine ⟨(closed_int _ _), (closedS_cons (closedAll _ _ _ _ cl_eInt) closedS_nil), ?_⟩
    refine aops_cons rfl (w_pure rfl (p_assign rfl) ?_)
    refine aops_nil ?_
    refine a_region ?_
    refine aops_cons rfl (w_pure rfl (p_move rfl) ?_)
    refine aops_cons rfl (w_pure rfl (p_add' rfl rfl ⟨by omega, by omega⟩) ?_)
    refine aops_cons rfl (w_pure rfl (p_assign rfl) ?_)
    refine aops_nil ?_
    refine ⟨(i + 1, _), _, ?_, ?_, (by repeat (first | exact Knows.nil | refine Knows.cons (by rfl) ?_)), (by repeat (first | exact Back.refl _ _ | refine Back.cons (by rfl) ?_)), (by (try dsimp only); rw [fam_put' (famI 3) (mkP k ps) (show i < ps.length by omega)]; (try dsimp only); (try simp only [fam_app, fam_one, fam_nil, List.append_assoc, List.cons_append, List.nil_append, List.append_nil, List.append_eq]); repeat (first | exact Picks.nil _ | exact Pick.here _ _ _ | exact Picks.whole _ _ | exact Picks.whole0 _ | apply Pick.next | apply Pick.under | apply Picks.cons | apply Picks.both | apply Picks.skip1 | apply Picks.skipA))⟩
    · exact ⟨by omega, rfl⟩
    · (try dsimp only); omega
  · (try simp only [Bool.not_eq_true', Bool.not_eq_false', Bool.not_eq_true, Bool.not_eq_false, decide_eq_true_eq, decide_eq_false_iff_not, List.length_map, List.length_range] at h2)
    refine a_exit ?_
    refine a_seq ?_
    refine a_region ?_
    refine aops_cons rfl (w_pure rfl (p_move rfl) ?_)
    refine aops_cons rfl (w_pure rfl (p_assign rfl) ?_)
    refine aops_nil ?_
    refine a_ret ?_
    refine ret_ok (hands1 rfl (.tmp rfl)) (st' := (b, .arr 45 1 (ps.map rowI)) :: fam (famI 3) (putTo (mkP k ps) ps i)) (by (try dsimp only); (try simp only [fam_app, fam_one, fam_nil, List.append_assoc, List.cons_append, List.nil_append, List.append_nil, List.append_eq]); repeat (first | exact Picks.nil _ | exact Pick.here _ _ _ | exact Picks.whole _ _ | exact Picks.whole0 _ | apply Pick.next | apply Pick.under | apply Picks.cons | apply Picks.both | apply Picks.skip1 | apply Picks.skipA)) ?_
    have hx : i = ps.length := (by omega); subst hx; exact ⟨rfl, by rw [markP_row, markP, putTo_len _ _ (Nat.lt_irrefl _) (Nat.le_refl _)]⟩

theorem cn_laws_markIntSS (k : Int) : ACalls Try.prog 41 [.nil, .int .i64 k] [] (Ret (.int .i64 k)) := by
  refine a_enter Try.func41 rfl rfl (fun w0 M0 => ?_)
  refine a_seq ?_
  refine a_region ?_
  refine aops_cons rfl (w_pure rfl (p_assign rfl) ?_)
  refine aops_nil ?_
  refine a_seq ?_
  refine a_seq ?_
  refine a_region ?_
  refine aops_cons rfl (w_pure rfl (p_assign rfl) ?_)
  refine aops_nil ?_
  refine a_block ?_
  refine a_loop (ι := Nat) (fun i => i ≤ 0) (fun i => [(5, .int .i64 (i : Int))]) (fun i => []) (fun i => 0 - i) 0 (Nat.zero_le _) (by repeat (first | exact Knows.nil | refine Knows.cons (by rfl) ?_)) (by repeat (first | exact Picks.nil _ | exact Pick.here _ _ _ | apply Pick.next | apply Picks.cons)) ?_
  rintro i hi
  skip
  refine a_seq ?_
  refine a_seq ?_
  refine a_region ?_
  refine aops_cons rfl (w_pure rfl (p_move rfl) ?_)
  refine aops_cons rfl (w_pure rfl (p_move rfl) ?_)
  refine aops_cons rfl (w_pure rfl (p_len sl_50 rfl rfl) ?_)
  refine aops_cons rfl (w_pure rfl (p_lss rfl rfl) ?_)
  refine aops_nil ?_
  first | refine a_cond_d rfl (fun h1 => ?_) (fun h2 => ?_) | refine a_cond_n rfl (fun h1 => ?_) (fun h2 => ?_) | refine a_cond_nb rfl (fun h1 => ?_) (fun h2 => ?_) | refine a_cond rfl (fun h1 => ?_) (fun h2 => ?_)
  · (try simp only [Bool.not_eq_true', Bool.not_eq_false', Bool.not_eq_true, Bool.not_eq_false, decide_eq_true_eq, decide_eq_false_iff_not, List.length_map, List.length_range] at h1); exfalso; omega
  · (try simp only [Bool.not_eq_true', Bool.not_eq_false', Bool.not_eq_true, Bool.not_eq_false, decide_eq_true_eq, decide_eq_false_iff_not, List.length_map, List.length_range] at h2)
    refine a_exit ?_
    refine a_seq ?_
    refine a_region ?_
    refine aops_cons rfl (w_pure rfl (p_move rfl) ?_)
    refine aops_cons rfl (w_pure rfl (p_assign rfl) ?_)
    refine aops_nil ?_
    refine a_ret ?_
    refine ret_ok (hands1 rfl (.tmp rfl)) (.nil _) ?_
    exact ⟨by simp, rfl⟩

theorem c_laws_heldIntSS (ps : List BI) (hd : DeepI ps) (k : Int) (k0 : 0 ≤ k) (k1 : k ≤ 50000000) : ACalls Try.prog 42 [.sl (((markP k ps).map (·.2)).map eInts), .int .i64 k] [] (Ret (.int .i64 (kA k ps ps.length))) := by
  have hn1 := hd.1
  unfold markP
  refine a_enter Try.func42 rfl rfl (fun w0 M0 => ?_)
  refine a_seq ?_
  refine a_region ?_
  refine aops_cons rfl (w_pure rfl (p_assign rfl) ?_)
  refine aops_nil ?_
  refine a_seq ?_
  refine a_seq ?_
  refine a_region ?_
  refine aops_cons rfl (w_pure rfl (p_assign rfl) ?_)
  refine aops_nil ?_
  refine a_block ?_
  refine a_loop (ι := Nat × Int) (fun ⟨i, m⟩ => i ≤ ps.length ∧ m = kA k ps i) (fun ⟨i, m⟩ => [(5, .int .i64 (i : Int)), (1, .int .i64 m)]) (fun ⟨i, m⟩ => []) (fun ⟨i, m⟩ => ps.length - i) (0, k) ⟨Nat.zero_le _, rfl⟩ (by repeat (first | exact Knows.nil | refine Knows.cons (by rfl) ?_)) (by repeat (first | exact Picks.nil _ | exact Pick.here _ _ _ | apply Pick.next | apply Picks.cons)) ?_
  rintro ⟨i, m⟩ ⟨hi, hI⟩
  replace hi : i ≤ ps.length := hi
  replace hI : m = kA k ps i := hI
  subst hI
  have hkb := deep_kA hd k0 i hi
  have hlr := fun h : i < ps.length => (hd.2 i h).1
  refine a_seq ?_
  refine a_seq ?_
  refine a_region ?_
  refine aops_cons rfl (w_pure rfl (p_move rfl) ?_)
  refine aops_cons rfl (w_pure rfl (p_move rfl) ?_)
  refine aops_cons rfl (w_pure rfl (p_len sl_50 rfl rfl) ?_)
  refine aops_cons rfl (w_pure rfl (p_lss rfl rfl) ?_)
  refine aops_nil ?_
  first | refine a_cond_d rfl (fun h1 => ?_) (fun h2 => ?_) | refine a_cond_n rfl (fun h1 => ?_) (fun h2 => ?_) | refine a_cond_nb rfl (fun h1 => ?_) (fun h2 => ?_) | refine a_cond rfl (fun h1 => ?_) (fun h2 => ?_)
  · (try simp only [Bool.not_eq_true', Bool.not_eq_false', Bool.not_eq_true, Bool.not_eq_false, decide_eq_true_eq, decide_eq_false_iff_not, List.length_map, List.length_range] at h1)
    refine a_skip ?_
    refine a_seq ?_
    refine a_block ?_
    refine a_seq ?_
    refine a_region ?_
    refine aops_cons rfl (w_pure rfl (p_move rfl) ?_)
    refine aops_cons rfl (w_pure rfl (p_move rfl) ?_)
    refine aops_cons rfl (w_pure rfl (p_index_sl _ rfl rfl rfl (rowG2 eInts (fun p : BI => p.2) (mkP k ps) (by omega)) es_50) ?_)
    refine aops_cons rfl (w_pure rfl (p_load_v ag_45 rfl (by rfl) noX) ?_)
    refine aops_cons rfl (w_pure rfl (p_move rfl) ?_)
    refine aops_cons rfl (w_callR rfl rfl rfl cl_72 (c_laws_heldIntS (ps.getD i zBI).2.length (hlr (by omega)) _ (by omega) (by omega)) ?_)
    refine aops_cons rfl (w_pure rfl (p_assign rfl) ?_)
    refine aops_nil ?_
    refine a_seq ?_
    refine a_region ?_
    refine aops_cons rfl (w_pure rfl (p_move rfl) ?_)
    refine aops_cons rfl (w_pure rfl (p_lss rfl rfl) ?_)
    refine aops_nil ?_
    first | refine a_cond_d rfl (fun h3 => ?_) (fun h4 => ?_) | refine a_cond_n rfl (fun h3 => ?_) (fun h4 => ?_) | refine a_cond_nb rfl (fun h3 => ?_) (fun h4 => ?_) | refine a_cond rfl (fun h3 => ?_) (fun h4 => ?_)
    · (try simp only [Bool.not_eq_true', Bool.not_eq_false', Bool.not_eq_true, Bool.not_eq_false, decide_eq_true_eq, decide_eq_false_iff_not, List.length_map, List.length_range] at h3)
      refine a_seq ?_
      refine a_region ?_
      refine aops_cons rfl (w_pure rfl (p_assign rfl) ?_)
      refine aops_nil ?_
      refine a_ret ?_
      refine ret_ok (hands1 rfl (.tmp rfl)) (.nil _) ?_
      first | (have hx : i = ps.length := (by omega); subst hx; exact ⟨rfl, rfl⟩) | (exfalso; have := hlr (by omega); omega)
    · (try simp only [Bool.not_eq_true', Bool.not_eq_false', Bool.not_eq_true, Bool.not_eq_false, decide_eq_true_eq, decide_eq_false_iff_not, List.length_map, List.length_range] at h4)
      refine a_skip ?_
      refine a_region ?_
      refine aops_cons rfl (w_pure rfl (p_move rfl) ?_)
      refine aops_cons rfl (w_pure rfl (p_add' rfl rfl ⟨by omega, by omega⟩) ?_)
      refine aops_cons rfl (w_pure rfl (p_assign rfl) ?_)
      refine aops_nil ?_
      refine ⟨(i + 1, _), _, ?_, ?_, (by repeat (first | exact Knows.nil | refine Knows.cons (by rfl) ?_)), (by repeat (first | exact Back.refl _ _ | refine Back.cons (by rfl) ?_)), (by repeat (first | exact Picks.nil _ | exact Pick.here _ _ _ | apply Pick.next | apply Picks.cons))⟩
      · exact ⟨by omega, rfl⟩
      · (try dsimp only); omega
  · (try simp only [Bool.not_eq_true', Bool.not_eq_false', Bool.not_eq_true, Bool.not_eq_false, decide_eq_true_eq, decide_eq_false_iff_not, List.length_map, List.length_range] at h2)
    refine a_exit ?_
    refine a_seq ?_
    refine a_region ?_
    refine aops_cons rfl (w_pure rfl (p_move rfl) ?_)
    refine aops_cons rfl (w_pure rfl (p_assign rfl) ?_)
    refine aops_nil ?_
    refine a_ret ?_
    refine ret_ok (hands1 rfl (.tmp rfl)) (.nil _) ?_
    first | (have hx : i = ps.length := (by omega); subst hx; exact ⟨rfl, rfl⟩) | (exfalso; have := hlr (by omega); omega)

theorem cn_laws_heldIntSS (k : Int) (k0 : 0 ≤ k) (k1 : k ≤ 50000000) : ACalls Try.prog 42 [.sl ([] : List (List AV)), .int .i64 k] [] (Ret (.int .i64 k)) := c_laws_heldIntSS [] ⟨Nat.zero_le _, fun j hj => absurd hj (Nat.not_lt_zero _)⟩ k k0 k1

theorem cv_impl_takeMail (xs : List Mail) (hn : xs.length ≤ 1000) (c : Int) : ACalls Try.prog 55 [.sl (xs.map eMail), .int .i64 c] [] (Ret (.tup [.sl ((pickM (0 ≤ takeI xs c) (takeL xs c)).map eMail), .agg (eMail (pick1 (0 ≤ takeI xs c) (takeM xs c))), .bool (decide (0 ≤ takeI xs c))])) := by
  by_cases hA : 0 ≤ takeI xs c
  · rw [pickM_y hA, pick1_y hA, decide_eq_true hA]
    exact cf_impl_takeMail xs hn c hA
  · rw [pickM_n hA, pick1_n hA, decide_eq_false hA]
    exact (cn_impl_takeMail xs hn c (by omega)).freeze (by rintro _ _ ⟨rfl, rfl⟩; exact (.tup (.cons .nil (.cons (.refl _) (.cons (.refl _) .nil)))))

theorem cy_impl_DeliverAll (xs : List Mail) (hn : xs.length ≤ 1048576) (hA : IsBox xs) : ACalls Try.prog 25 [.sl (xs.map eMail)] [] (fun r st => ∃ (b1 : Nat) (ps1 : List BI), r = .tup [.own 1 b1 0 ps1.length, .bool true] ∧ ps1.map (·.2) = (getsL xs) ∧ st = (b1, .arr 45 1 (ps1.map rowI)) :: fam (famI 3) ps1) := by
  have hbl := hA.2
  refine a_enter Try.func25 rfl rfl (fun w0 M0 => ?_)
  refine a_seq ?_
  refine a_region ?_
  refine aops_cons rfl (w_pure rfl (p_assign rfl) ?_)
  refine aops_cons rfl (w_pure rfl (p_assign rfl) ?_)
  refine aops_nil ?_
  refine a_seq ?_
  refine a_seq ?_
  refine a_region ?_
  refine aops_cons rfl (w_pure rfl (p_move rfl) ?_)
  refine aops_cons rfl (w_callR rfl rfl rfl cl_13 (c_impl_IsBox _ (by omega)) ?_)
  refine aops_cons rfl (w_pure rfl (p_not rfl) ?_)
  refine aops_nil ?_
  first | refine a_cond_d rfl (fun h1 => ?_) (fun h2 => ?_) | refine a_cond_n rfl (fun h1 => ?_) (fun h2 => ?_) | refine a_cond_nb rfl (fun h1 => ?_) (fun h2 => ?_) | refine a_cond rfl (fun h1 => ?_) (fun h2 => ?_)
  · (try simp only [Bool.not_eq_true', Bool.not_eq_false', Bool.not_eq_true, Bool.not_eq_false, decide_eq_true_eq, decide_eq_false_iff_not, List.length_map, List.length_range] at h1)
    refine a_seq ?_
    exact absurd hA (by assumption)
  · (try simp only [Bool.not_eq_true', Bool.not_eq_false', Bool.not_eq_true, Bool.not_eq_false, decide_eq_true_eq, decide_eq_false_iff_not, List.length_map, List.length_range] at h2)
    refine a_skip ?_
    refine a_seq ?_
    refine a_region ?_
    refine aops_cons rfl (w_litM rowI [] rfl el_50 rfl rfl rfl rfl rfl fun b1 => ?_)
    refine aops_cons rfl (w_pure rfl (p_assign rfl) ?_)
    refine aops_nil ?_
    refine a_seq ?_
    refine a_seq ?_
    refine a_region ?_
    refine aops_cons rfl (w_pure rfl (p_move rfl) ?_)
    refine aops_nil ?_
    refine a_block ?_
    refine a_loop (ι := Nat × Nat × List BI) (fun ⟨c, b, ps⟩ => c ≤ 4 ∧ ps.map (·.2) = getsTo xs c) (fun ⟨c, b, ps⟩ => [(14, .int .i64 (c : Int)), (4, .own 1 b 0 ps.length)]) (fun ⟨c, b, ps⟩ => (b, .arr 45 1 (ps.map rowI)) :: fam (famI 3) ps) (fun ⟨c, b, ps⟩ => 4 - c) (0, b1, []) ⟨Nat.zero_le _, rfl⟩ (by repeat (first | exact Knows.nil | refine Knows.cons (by rfl) ?_)) (by (try dsimp only); (try simp only [fam_app, fam_one, fam_nil, List.append_assoc, List.cons_append, List.nil_append, List.append_nil, List.append_eq]); repeat (first | exact Picks.nil _ | exact Pick.here _ _ _ | exact Picks.whole _ _ | exact Picks.whole0 _ | apply Pick.next | apply Pick.under | apply Picks.cons | apply Picks.both | apply Picks.skip1 | apply Picks.skipA)) ?_
    rintro ⟨c, b, ps⟩ ⟨hc, hP⟩
    replace hc : c ≤ 4 := hc
    replace hP : ps.map (·.2) = getsTo xs c := hP
    have hpl : ps.length = c := (by have := congrArg List.length hP; rwa [List.length_map, getsTo_len] at this)
    refine a_seq ?_
    refine a_region ?_
    refine aops_cons rfl (w_pure rfl (p_lss rfl rfl) ?_)
    refine aops_nil ?_
    refine a_seq ?_
    first | refine a_cond_d rfl (fun h3 => ?_) (fun h4 => ?_) | refine a_cond_n rfl (fun h3 => ?_) (fun h4 => ?_) | refine a_cond_nb rfl (fun h3 => ?_) (fun h4 => ?_) | refine a_cond rfl (fun h3 => ?_) (fun h4 => ?_)
    · (try simp only [Bool.not_eq_true', Bool.not_eq_false', Bool.not_eq_true, Bool.not_eq_false, decide_eq_true_eq, decide_eq_false_iff_not, List.length_map, List.length_range] at h3)
      refine a_skip ?_
      refine a_seq ?_
      refine a_block ?_
      refine a_seq ?_
      refine a_region ?_
      refine aops_cons rfl (w_pure rfl (p_move rfl) ?_)
      refine aops_cons rfl (w_pure rfl (p_assign rfl) ?_)
      refine aops_nil ?_
      refine a_seq ?_
      refine a_region ?_
      refine aops_cons rfl (w_litM eInt [] rfl el_45 rfl rfl rfl rfl rfl fun b2 => ?_)
      refine aops_cons rfl (w_pure rfl (p_assign rfl) ?_)
      refine aops_nil ?_
      refine a_seq ?_
      refine a_region ?_
      refine aops_cons rfl (w_pure rfl (p_move rfl) ?_)
      refine aops_cons rfl (w_pure rfl (p_move rfl) ?_)
      refine aops_cons rfl (w_callR rfl rfl rfl cl_55 (cv_impl_takeMail xs (by omega) (c : Int)) ?_)
      refine aops_cons rfl (w_pure rfl (p_move rfl) ?_)
      refine aops_cons rfl (w_pure rfl (p_extract rfl rfl) ?_)
      refine aops_cons rfl (w_pure rfl (p_extract rfl rfl) ?_)
      refine aops_cons rfl (w_pure rfl (p_extract rfl rfl) ?_)
      refine aops_cons rfl (w_alloc rfl z_26 fun b3 => ?_)
      refine aops_cons rfl (w_pure rfl (p_assign rfl) ?_)
      refine aops_cons rfl (w_store (cells' := [_, _, _]) rfl rfl rfl (by (try simp only [fam_app, fam_one, fam_nil, List.append_assoc, List.cons_append, List.nil_append, List.append_nil, List.append_eq]); repeat (first | exact Pick.here _ _ _ | apply Pick.next | apply Pick.under)) cn_26 (by rfl) (by rfl) (by rfl) trivial ?_)
      refine aops_cons rfl (w_pure rfl (p_assign rfl) ?_)
      refine aops_nil ?_
      refine a_seq ?_
      refine a_block ?_
      refine a_loop (ι := Nat × Nat) (fun ⟨k, e⟩ => DInv xs (c : Int) k) (fun ⟨k, e⟩ => [(6, .own 1 e 0 (gN xs (c : Int) k).length), (7, .sl ((pickM (0 ≤ takeI (dN xs (c : Int) k) (c : Int)) (takeL (dN xs (c : Int) k) (c : Int))).map eMail)), (9, .bool (decide (0 ≤ takeI (dN xs (c : Int) k) (c : Int))))]) (fun ⟨k, e⟩ => (e, .arr 3 1 ((gN xs (c : Int) k).map eInt)) :: [(b3, .box [.int .i64 (pick1 (0 ≤ takeI (dN xs (c : Int) k) (c : Int)) (takeM (dN xs (c : Int) k) (c : Int))).src, .int .i64 (pick1 (0 ≤ takeI (dN xs (c : Int) k) (c : Int)) (takeM (dN xs (c : Int) k) (c : Int))).dst, .int .i64 (pick1 (0 ≤ takeI (dN xs (c : Int) k) (c : Int)) (takeM (dN xs (c : Int) k) (c : Int))).irq])]) (fun ⟨k, e⟩ => nN xs (c : Int) - k) (0, b2) (.zero hA (c : Int)) (by repeat (first | exact Knows.nil | refine Knows.cons (by rfl) ?_)) (by (try dsimp only); (try simp only [fam_app, fam_one, fam_nil, List.append_assoc, List.cons_append, List.nil_append, List.append_nil, List.append_eq]); repeat (first | exact Picks.nil _ | exact Pick.here _ _ _ | exact Picks.whole _ _ | exact Picks.whole0 _ | apply Pick.next | apply Pick.under | apply Picks.cons | apply Picks.both | apply Picks.skip1 | apply Picks.skipA)) ?_
      rintro ⟨k, e⟩ hD
      replace hD : DInv xs (c : Int) k := hD
      have hdb := hD.box.2
      have hgl := gN_len xs (c : Int) k
      have hnn := nN_le hA (c : Int)
      have hdl := hD.le
      refine a_seq ?_
      refine a_seq ?_
      refine a_region ?_
      refine aops_cons rfl (w_pure rfl (p_move rfl) ?_)
      refine aops_nil ?_
      first | refine a_cond_d rfl (fun h5 => ?_) (fun h6 => ?_) | refine a_cond_n rfl (fun h5 => ?_) (fun h6 => ?_) | refine a_cond_nb rfl (fun h5 => ?_) (fun h6 => ?_) | refine a_cond rfl (fun h5 => ?_) (fun h6 => ?_)
      · (try simp only [Bool.not_eq_true', Bool.not_eq_false', Bool.not_eq_true, Bool.not_eq_false, decide_eq_true_eq, decide_eq_false_iff_not, List.length_map, List.length_range] at h5)
        refine a_skip ?_
        refine a_block ?_
        refine a_seq ?_
        have hO : 0 ≤ takeI (dN xs (c : Int) k) (c : Int) := (by assumption)
        dsimp only
        rw [pickM_y hO, pick1_y hO]
        refine a_region ?_
        refine aops_cons rfl (w_pure rfl (p_move rfl) ?_)
        refine aops_cons rfl (w_pure rfl (p_field_box fo_26_2 rfl) ?_)
        refine aops_cons rfl (w_pure rfl (p_load_box ag_3 rfl (by (try simp only [fam_app, fam_one, fam_nil, List.append_assoc, List.cons_append, List.nil_append, List.append_nil, List.append_eq]); repeat (first | exact Pick.here _ _ _ | apply Pick.next | apply Pick.under)) (by rfl) noX) ?_)
        refine aops_cons rfl (w_lit_vM eInt [(takeM (dN xs (c : Int) k) (c : Int)).irq] rfl el_45 rfl rfl rfl rfl rfl ?_)
        refine aops_cons rfl (w_appendM eInt rfl el_45 rfl rfl (by (try simp only [fam_app, fam_one, fam_nil, List.append_assoc, List.cons_append, List.nil_append, List.append_nil, List.append_eq]); repeat (first | exact Pick.here _ _ _ | apply Pick.next | apply Pick.under)) rfl (.sl _) (fun _ => rfl) (fun _ => rfl) (by simp; omega) (by simp; omega) trivial fun b4 => ?_)
        refine aops_cons rfl (w_pure rfl (p_assign rfl) ?_)
        refine aops_nil ?_
        refine a_region ?_
        refine aops_cons rfl (w_pure rfl (p_move rfl) ?_)
        refine aops_cons rfl (w_pure rfl (p_move rfl) ?_)
        refine aops_cons rfl (w_callR rfl rfl rfl cl_55 (cv_impl_takeMail (takeL (dN xs (c : Int) k) (c : Int)) (by have := (hD.next hO).box.2; rw [dN] at this; omega) (c : Int)) ?_)
        refine aops_cons rfl (w_pure rfl (p_move rfl) ?_)
        refine aops_cons rfl (w_pure rfl (p_extract rfl rfl) ?_)
        refine aops_cons rfl (w_pure rfl (p_extract rfl rfl) ?_)
        refine aops_cons rfl (w_pure rfl (p_extract rfl rfl) ?_)
        refine aops_cons rfl (w_pure rfl (p_assign rfl) ?_)
        refine aops_cons rfl (w_store (cells' := [_, _, _]) rfl rfl rfl (by (try simp only [fam_app, fam_one, fam_nil, List.append_assoc, List.cons_append, List.nil_append, List.append_nil, List.append_eq]); repeat (first | exact Pick.here _ _ _ | apply Pick.next | apply Pick.under)) cn_26 (by rfl) (by rfl) (by rfl) trivial ?_)
        refine aops_cons rfl (w_pure rfl (p_assign rfl) ?_)
        refine aops_nil ?_
        refine ⟨(k + 1, _), _, ?_, ?_, (by repeat (first | exact Knows.nil | refine Knows.cons (by rfl) ?_)), (by repeat (first | exact Back.refl _ _ | refine Back.cons (by rfl) ?_)), (by (try dsimp only); (try simp only [fam_app, fam_one, fam_nil, List.append_assoc, List.cons_append, List.nil_append, List.append_nil, List.append_eq]); repeat (first | exact Picks.nil _ | exact Pick.here _ _ _ | exact Picks.whole _ _ | exact Picks.whole0 _ | apply Pick.next | apply Pick.under | apply Picks.cons | apply Picks.both | apply Picks.skip1 | apply Picks.skipA))⟩
        · exact hD.next hO
        · have := hD.more.1 hO; (try dsimp only); omega
      · (try simp only [Bool.not_eq_true', Bool.not_eq_false', Bool.not_eq_true, Bool.not_eq_false, decide_eq_true_eq, decide_eq_false_iff_not, List.length_map, List.length_range] at h6)
        refine a_exit ?_
        have hke : k = nN xs (c : Int) := hD.end' (by assumption)
        have hge : (gN xs (c : Int) k) = gets xs (c : Int) := (by rw [hke]; rfl)
        refine a_region ?_
        refine aops_cons rfl (w_pure rfl (p_move rfl) ?_)
        refine aops_cons rfl (w_pure rfl (p_move rfl) ?_)
        refine aops_cons rfl (w_lit_vM rowI [(e, (gN xs (c : Int) k))] rfl el_50 rfl rfl rfl rfl rfl ?_)
        refine aops_cons rfl (w_appendM rowI rfl el_50 rfl rfl (by (try simp only [fam_app, fam_one, fam_nil, List.append_assoc, List.cons_append, List.nil_append, List.append_nil, List.append_eq]); repeat (first | exact Pick.here _ _ _ | apply Pick.next | apply Pick.under)) rfl (.sl _) (fun _ => rfl) (fun _ => rfl) (by simp; omega) (by simp; omega) trivial fun b5 => ?_)
        refine aops_cons rfl (w_pure rfl (p_assign rfl) ?_)
        refine aops_nil ?_
        refine a_region ?_
        refine aops_cons rfl (w_pure rfl (p_add' rfl rfl ⟨by omega, by omega⟩) ?_)
        refine aops_cons rfl (w_pure rfl (p_move rfl) ?_)
        refine aops_nil ?_
        refine ⟨(c + 1, _, _), _, ?_, ?_, (by repeat (first | exact Knows.nil | refine Knows.cons (by rfl) ?_)), (by repeat (first | exact Back.refl _ _ | refine Back.cons (by rfl) ?_)), (by (try dsimp only); (try simp only [fam_app, fam_one, fam_nil, List.append_assoc, List.cons_append, List.nil_append, List.append_nil, List.append_eq]); repeat (first | exact Picks.nil _ | exact Pick.here _ _ _ | exact Picks.whole _ _ | exact Picks.whole0 _ | apply Pick.next | apply Pick.under | apply Picks.cons | apply Picks.both | apply Picks.skip1 | apply Picks.skipA))⟩
        · exact ⟨by omega, gets_step hP hge⟩
        · (try dsimp only); omega
    · (try simp only [Bool.not_eq_true', Bool.not_eq_false', Bool.not_eq_true, Bool.not_eq_false, decide_eq_true_eq, decide_eq_false_iff_not, List.length_map, List.length_range] at h4)
      refine a_exit ?_
      refine a_seq ?_
      refine a_region ?_
      refine aops_cons rfl (w_pure rfl (p_move rfl) ?_)
      refine aops_cons rfl (w_pure rfl (p_assign rfl) ?_)
      refine aops_cons rfl (w_pure rfl (p_assign rfl) ?_)
      refine aops_nil ?_
      refine a_ret ?_
      refine ret_ok (hands2 rfl (.tmp rfl) (.tmp rfl)) (st' := (b, .arr 45 1 (ps.map rowI)) :: fam (famI 3) ps) (by (try dsimp only); (try simp only [fam_app, fam_one, fam_nil, List.append_assoc, List.cons_append, List.nil_append, List.append_nil, List.append_eq]); repeat (first | exact Picks.nil _ | exact Pick.here _ _ _ | exact Picks.whole _ _ | exact Picks.whole0 _ | apply Pick.next | apply Pick.under | apply Picks.cons | apply Picks.both | apply Picks.skip1 | apply Picks.skipA)) ?_
      first | (have hx : c = 4 := (by omega); subst hx; exact ⟨b, ps, rfl, hP, rfl⟩) | exact absurd hA (by assumption)

theorem cf_impl_DeliverAll (xs : List Mail) (hn : xs.length ≤ 1048576) (hA : IsBox xs) : ACalls Try.prog 25 [.sl (xs.map eMail)] [] (Ret (.tup [.sl ((getsL xs).map eInts), .bool true])) :=
  (cy_impl_DeliverAll xs hn hA).freeze (by rintro _ _ ⟨_, _, rfl, e0, rfl⟩; rw [← e0]; exact (.tup (.cons (.own2 (by (try simp only [fam_app, fam_one, fam_nil, List.append_assoc, List.cons_append, List.nil_append, List.append_nil, List.append_eq]); repeat (first | exact List.Mem.head _ | apply List.Mem.tail | apply List.mem_append_right)) (List.length_map _) (vwR_ints (t := 3) (by intro x hx; (try simp only [fam_app, fam_one, fam_nil, List.append_assoc, List.cons_append, List.nil_append, List.append_nil, List.append_eq]); repeat (first | exact hx | exact List.mem_append_left _ hx | apply List.mem_append_right | apply List.mem_cons_of_mem)))) (.cons (.refl _) .nil))))

theorem cn_impl_DeliverAll (xs : List Mail) (hn : xs.length ≤ 1048576) (hA : ¬ IsBox xs) : ACalls Try.prog 25 [.sl (xs.map eMail)] [] (Ret (.tup [.nil, .bool false])) := by
  refine a_enter Try.func25 rfl rfl (fun w0 M0 => ?_)
  refine a_seq ?_
  refine a_region ?_
  refine aops_cons rfl (w_pure rfl (p_assign rfl) ?_)
  refine aops_cons rfl (w_pure rfl (p_assign rfl) ?_)
  refine aops_nil ?_
  refine a_seq ?_
  refine a_seq ?_
  refine a_region ?_
  refine aops_cons rfl (w_pure rfl (p_move rfl) ?_)
  refine aops_cons rfl (w_callR rfl rfl rfl cl_13 (c_impl_IsBox _ (by omega)) ?_)
  refine aops_cons rfl (w_pure rfl (p_not rfl) ?_)
  refine aops_nil ?_
  first | refine a_cond_d rfl (fun h1 => ?_) (fun h2 => ?_) | refine a_cond_n rfl (fun h1 => ?_) (fun h2 => ?_) | refine a_cond_nb rfl (fun h1 => ?_) (fun h2 => ?_) | refine a_cond rfl (fun h1 => ?_) (fun h2 => ?_)
  · (try simp only [Bool.not_eq_true', Bool.not_eq_false', Bool.not_eq_true, Bool.not_eq_false, decide_eq_true_eq, decide_eq_false_iff_not, List.length_map, List.length_range] at h1)
    refine a_seq ?_
    refine a_region ?_
    refine aops_cons rfl (w_pure rfl (p_assign rfl) ?_)
    refine aops_cons rfl (w_pure rfl (p_assign rfl) ?_)
    refine aops_nil ?_
    refine a_ret ?_
    refine ret_ok (hands2 rfl (.tmp rfl) (.tmp rfl)) (.nil _) ?_
    exact ⟨rfl, rfl⟩
  · (try simp only [Bool.not_eq_true', Bool.not_eq_false', Bool.not_eq_true, Bool.not_eq_false, decide_eq_true_eq, decide_eq_false_iff_not, List.length_map, List.length_range] at h2)
    refine a_skip ?_
    refine a_seq ?_
    exact absurd (by assumption) hA

theorem co_spec_DeliverAll (xs : List Mail) (hn : xs.length ≤ 1048576) (hA : IsBox xs) : ACalls Try.prog 26 [.sl (xs.map eMail)] [] (fun r st => ∃ (b1 : Nat) (ps1 : List BI), r = .tup [.own 1 b1 0 ps1.length, .bool true] ∧ ps1.map (·.2) = (getsL xs) ∧ st = (b1, .arr 45 1 (ps1.map rowI)) :: fam (famI 3) ps1) := by
  refine a_enter Try.func26 rfl rfl (fun w0 M0 => ?_)
  refine a_seq ?_
  refine a_region ?_
  refine aops_cons rfl (w_pure rfl (p_assign rfl) ?_)
  refine aops_cons rfl (w_pure rfl (p_assign rfl) ?_)
  refine aops_nil ?_
  refine a_seq ?_
  refine a_region ?_
  refine aops_cons rfl (w_litM rowI [] rfl el_50 rfl rfl rfl rfl rfl fun b1 => ?_)
  refine aops_cons rfl (w_pure rfl (p_assign rfl) ?_)
  refine aops_nil ?_
  refine a_seq ?_
  refine a_seq ?_
  refine a_region ?_
  refine aops_cons rfl (w_pure rfl (p_move rfl) ?_)
  refine aops_cons rfl (w_callR rfl rfl rfl cl_48 (c_spec_l12Good _ (by omega)) ?_)
  refine aops_cons rfl (w_pure rfl (p_not rfl) ?_)
  refine aops_nil ?_
  first | refine a_cond_d rfl (fun h1 => ?_) (fun h2 => ?_) | refine a_cond_n rfl (fun h1 => ?_) (fun h2 => ?_) | refine a_cond_nb rfl (fun h1 => ?_) (fun h2 => ?_) | refine a_cond rfl (fun h1 => ?_) (fun h2 => ?_)
  · (try simp only [Bool.not_eq_true', Bool.not_eq_false', Bool.not_eq_true, Bool.not_eq_false, decide_eq_true_eq, decide_eq_false_iff_not, List.length_map, List.length_range] at h1)
    refine a_seq ?_
    exact absurd hA (by assumption)
  · (try simp only [Bool.not_eq_true', Bool.not_eq_false', Bool.not_eq_true, Bool.not_eq_false, decide_eq_true_eq, decide_eq_false_iff_not, List.length_map, List.length_range] at h2)
    refine a_skip ?_
    refine a_seq ?_
    refine a_seq ?_
    refine a_region ?_
    refine aops_cons rfl (w_pure rfl (p_assign rfl) ?_)
    refine aops_nil ?_
    refine a_block ?_
    refine a_loop (ι := Nat × Nat × List BI) (fun ⟨c, b, ps⟩ => c ≤ 4 ∧ ps.map (·.2) = getsTo xs c) (fun ⟨c, b, ps⟩ => [(5, .int .i64 (c : Int)), (4, .own 1 b 0 ps.length), (0, .sl ((bN xs c).map eMail))]) (fun ⟨c, b, ps⟩ => (b, .arr 45 1 (ps.map rowI)) :: fam (famI 3) ps) (fun ⟨c, b, ps⟩ => 4 - c) (0, b1, []) ⟨Nat.zero_le _, rfl⟩ (by repeat (first | exact Knows.nil | refine Knows.cons (by rfl) ?_)) (by (try dsimp only); (try simp only [fam_app, fam_one, fam_nil, List.append_assoc, List.cons_append, List.nil_append, List.append_nil, List.append_eq]); repeat (first | exact Picks.nil _ | exact Pick.here _ _ _ | exact Picks.whole _ _ | exact Picks.whole0 _ | apply Pick.next | apply Pick.under | apply Picks.cons | apply Picks.both | apply Picks.skip1 | apply Picks.skipA)) ?_
    rintro ⟨c, b, ps⟩ ⟨hc, hP⟩
    replace hc : c ≤ 4 := hc
    replace hP : ps.map (·.2) = getsTo xs c := hP
    have hpl : ps.length = c := (by have := congrArg List.length hP; rwa [List.length_map, getsTo_len] at this)
    have hbx := bN_is hA c
    have hbl := hbx.1.2
    refine a_seq ?_
    refine a_seq ?_
    refine a_region ?_
    refine aops_cons rfl (w_pure rfl (p_move rfl) ?_)
    refine aops_cons rfl (w_pure rfl (p_lss rfl rfl) ?_)
    refine aops_nil ?_
    first | refine a_cond_d rfl (fun h3 => ?_) (fun h4 => ?_) | refine a_cond_n rfl (fun h3 => ?_) (fun h4 => ?_) | refine a_cond_nb rfl (fun h3 => ?_) (fun h4 => ?_) | refine a_cond rfl (fun h3 => ?_) (fun h4 => ?_)
    · (try simp only [Bool.not_eq_true', Bool.not_eq_false', Bool.not_eq_true, Bool.not_eq_false, decide_eq_true_eq, decide_eq_false_iff_not, List.length_map, List.length_range] at h3)
      refine a_skip ?_
      refine a_seq ?_
      refine a_block ?_
      refine a_seq ?_
      refine a_region ?_
      refine aops_cons rfl (w_litM eInt [] rfl el_45 rfl rfl rfl rfl rfl fun b2 => ?_)
      refine aops_cons rfl (w_pure rfl (p_assign rfl) ?_)
      refine aops_nil ?_
      refine a_seq ?_
      refine a_seq ?_
      refine a_region ?_
      refine aops_cons rfl (w_pure rfl (p_move rfl) ?_)
      refine aops_cons rfl (w_pure rfl (p_move rfl) ?_)
      refine aops_cons rfl (w_callR rfl rfl rfl cl_57 (show ACalls Try.prog 57 [.sl ((bN xs c).map eMail), .int .i64 (c : Int)] [] (Ret (.int .i64 (takeI (bN xs c) (c : Int)))) from c_spec_l12Next _ (by omega) _) ?_)
      refine aops_cons rfl (w_pure rfl (p_assign rfl) ?_)
      refine aops_nil ?_
      refine a_block ?_
      refine a_loop (ι := Nat × Nat) (fun ⟨k, e⟩ => DInv (bN xs c) (c : Int) k) (fun ⟨k, e⟩ => [(6, .own 1 e 0 (gN (bN xs c) (c : Int) k).length), (0, .sl ((dN (bN xs c) (c : Int) k).map eMail)), (7, .int .i64 (takeI (dN (bN xs c) (c : Int) k) (c : Int)))]) (fun ⟨k, e⟩ => (e, .arr 3 1 ((gN (bN xs c) (c : Int) k).map eInt)) :: []) (fun ⟨k, e⟩ => nN (bN xs c) (c : Int) - k) (0, b2) (.zero hbx.1 (c : Int)) (by repeat (first | exact Knows.nil | refine Knows.cons (by rfl) ?_)) (by (try dsimp only); (try simp only [fam_app, fam_one, fam_nil, List.append_assoc, List.cons_append, List.nil_append, List.append_nil, List.append_eq]); repeat (first | exact Picks.nil _ | exact Pick.here _ _ _ | exact Picks.whole _ _ | exact Picks.whole0 _ | apply Pick.next | apply Pick.under | apply Picks.cons | apply Picks.both | apply Picks.skip1 | apply Picks.skipA)) ?_
      rintro ⟨k, e⟩ hD
      replace hD : DInv (bN xs c) (c : Int) k := hD
      have hdb := hD.box.2
      have hgl := gN_len (bN xs c) (c : Int) k
      have hnn := nN_le hbx.1 (c : Int)
      have hdl := hD.le
      have htl := (takeI_lt (dN (bN xs c) (c : Int) k) (c : Int)).2
      refine a_seq ?_
      refine a_seq ?_
      refine a_region ?_
      refine aops_cons rfl (w_pure rfl (p_move rfl) ?_)
      refine aops_cons rfl (w_pure rfl (p_geq rfl rfl) ?_)
      refine aops_nil ?_
      first | refine a_cond_d rfl (fun h5 => ?_) (fun h6 => ?_) | refine a_cond_n rfl (fun h5 => ?_) (fun h6 => ?_) | refine a_cond_nb rfl (fun h5 => ?_) (fun h6 => ?_) | refine a_cond rfl (fun h5 => ?_) (fun h6 => ?_)
      · (try simp only [Bool.not_eq_true', Bool.not_eq_false', Bool.not_eq_true, Bool.not_eq_false, decide_eq_true_eq, decide_eq_false_iff_not, List.length_map, List.length_range] at h5)
        refine a_skip ?_
        refine a_seq ?_
        refine a_block ?_
        refine a_seq ?_
        have hO : 0 ≤ (takeI (dN (bN xs c) (c : Int) k) (c : Int)) := (by assumption)
        refine a_region ?_
        refine aops_cons rfl (w_pure rfl (p_move rfl) ?_)
        refine aops_cons rfl (w_pure rfl (p_move rfl) ?_)
        refine aops_cons rfl (w_pure rfl (p_move rfl) ?_)
        refine aops_cons rfl (w_pure rfl (p_index_sl (takeI (dN (bN xs c) (c : Int) k) (c : Int)).toNat rfl rfl (by omega) (rowD _ _ zMail (by omega)) es_24) ?_)
        refine aops_cons rfl (w_pure rfl (p_field_v fo_26_2 rfl) ?_)
        refine aops_cons rfl (w_pure rfl (p_load_v ag_3 rfl (by rfl) noX) ?_)
        refine aops_cons rfl (w_lit_vM eInt [(takeM (dN (bN xs c) (c : Int) k) (c : Int)).irq] rfl el_45 rfl rfl rfl rfl rfl ?_)
        refine aops_cons rfl (w_appendM eInt rfl el_45 rfl rfl (by (try simp only [fam_app, fam_one, fam_nil, List.append_assoc, List.cons_append, List.nil_append, List.append_nil, List.append_eq]); repeat (first | exact Pick.here _ _ _ | apply Pick.next | apply Pick.under)) rfl (.sl _) (fun _ => rfl) (fun _ => rfl) (by simp; omega) (by simp; omega) trivial fun b3 => ?_)
        refine aops_cons rfl (w_pure rfl (p_assign rfl) ?_)
        refine aops_nil ?_
        refine a_region ?_
        refine aops_cons rfl (w_pure rfl (p_move rfl) ?_)
        refine aops_cons rfl (w_pure rfl (p_move rfl) ?_)
        refine aops_cons rfl (w_callR rfl rfl rfl cl_58 (show ACalls Try.prog 58 [.sl ((dN (bN xs c) (c : Int) k).map eMail), .int .i64 (takeI (dN (bN xs c) (c : Int) k) (c : Int))] [] (Ret (.sl ((takeL (dN (bN xs c) (c : Int) k) (c : Int)).map eMail))) from c_spec_l12Without _ (by omega) _ hO htl) ?_)
        refine aops_cons rfl (w_pure rfl (p_assign rfl) ?_)
        refine aops_nil ?_
        refine a_region ?_
        refine aops_cons rfl (w_pure rfl (p_move rfl) ?_)
        refine aops_cons rfl (w_pure rfl (p_move rfl) ?_)
        refine aops_cons rfl (w_callR rfl rfl rfl cl_57 (show ACalls Try.prog 57 [.sl ((takeL (dN (bN xs c) (c : Int) k) (c : Int)).map eMail), .int .i64 (c : Int)] [] (Ret (.int .i64 (takeI (takeL (dN (bN xs c) (c : Int) k) (c : Int)) (c : Int)))) from c_spec_l12Next _ (by have := (hD.next hO).box.2; rw [dN] at this; omega) _) ?_)
        refine aops_cons rfl (w_pure rfl (p_assign rfl) ?_)
        refine aops_nil ?_
        refine ⟨(k + 1, _), _, ?_, ?_, (by repeat (first | exact Knows.nil | refine Knows.cons (by rfl) ?_)), (by repeat (first | exact Back.refl _ _ | refine Back.cons (by rfl) ?_)), (by (try dsimp only); (try simp only [fam_app, fam_one, fam_nil, List.append_assoc, List.cons_append, List.nil_append, List.append_nil, List.append_eq]); repeat (first | exact Picks.nil _ | exact Pick.here _ _ _ | exact Picks.whole _ _ | exact Picks.whole0 _ | apply Pick.next | apply Pick.under | apply Picks.cons | apply Picks.both | apply Picks.skip1 | apply Picks.skipA))⟩
        · exact hD.next hO
        · have := hD.more.1 hO; (try dsimp only); omega
      · (try simp only [Bool.not_eq_true', Bool.not_eq_false', Bool.not_eq_true, Bool.not_eq_false, decide_eq_true_eq, decide_eq_false_iff_not, List.length_map, List.length_range] at h6)
        refine a_exit ?_
        have hke : k = nN (bN xs c) (c : Int) := hD.end' (by omega)
        have hge : (gN (bN xs c) (c : Int) k) = gets xs (c : Int) := (by rw [← gets_bN hA c, hke]; rfl)
        subst hke
        refine a_region ?_
        refine aops_cons rfl (w_pure rfl (p_move rfl) ?_)
        refine aops_cons rfl (w_pure rfl (p_move rfl) ?_)
        refine aops_cons rfl (w_lit_vM rowI [(e, (gN (bN xs c) (c : Int) (nN (bN xs c) (c : Int))))] rfl el_50 rfl rfl rfl rfl rfl ?_)
        refine aops_cons rfl (w_appendM rowI rfl el_50 rfl rfl (by (try simp only [fam_app, fam_one, fam_nil, List.append_assoc, List.cons_append, List.nil_append, List.append_nil, List.append_eq]); repeat (first | exact Pick.here _ _ _ | apply Pick.next | apply Pick.under)) rfl (.sl _) (fun _ => rfl) (fun _ => rfl) (by simp; omega) (by simp; omega) trivial fun b4 => ?_)
        refine aops_cons rfl (w_pure rfl (p_assign rfl) ?_)
        refine aops_nil ?_
        refine a_region ?_
        refine aops_cons rfl (w_pure rfl (p_move rfl) ?_)
        refine aops_cons rfl (w_pure rfl (p_add' rfl rfl ⟨by omega, by omega⟩) ?_)
        refine aops_cons rfl (w_pure rfl (p_assign rfl) ?_)
        refine aops_nil ?_
        refine ⟨(c + 1, _, _), _, ?_, ?_, (by repeat (first | exact Knows.nil | refine Knows.cons (by rfl) ?_)), (by repeat (first | exact Back.refl _ _ | refine Back.cons (by rfl) ?_)), (by (try dsimp only); (try simp only [fam_app, fam_one, fam_nil, List.append_assoc, List.cons_append, List.nil_append, List.append_nil, List.append_eq]); repeat (first | exact Picks.nil _ | exact Pick.here _ _ _ | exact Picks.whole _ _ | exact Picks.whole0 _ | apply Pick.next | apply Pick.under | apply Picks.cons | apply Picks.both | apply Picks.skip1 | apply Picks.skipA))⟩
        · exact ⟨by omega, gets_step hP hge⟩
        · (try dsimp only); omega
    · (try simp only [Bool.not_eq_true', Bool.not_eq_false', Bool.not_eq_true, Bool.not_eq_false, decide_eq_true_eq, decide_eq_false_iff_not, List.length_map, List.length_range] at h4)
      refine a_exit ?_
      refine a_seq ?_
      refine a_region ?_
      refine aops_cons rfl (w_pure rfl (p_move rfl) ?_)
      refine aops_cons rfl (w_pure rfl (p_assign rfl) ?_)
      refine aops_cons rfl (w_pure rfl (p_assign rfl) ?_)
      refine aops_nil ?_
      refine a_ret ?_
      refine ret_ok (hands2 rfl (.tmp rfl) (.tmp rfl)) (st' := (b, .arr 45 1 (ps.map rowI)) :: fam (famI 3) ps) (by (try dsimp only); (try simp only [fam_app, fam_one, fam_nil, List.append_assoc, List.cons_append, List.nil_append, List.append_nil, List.append_eq]); repeat (first | exact Picks.nil _ | exact Pick.here _ _ _ | exact Picks.whole _ _ | exact Picks.whole0 _ | apply Pick.next | apply Pick.under | apply Picks.cons | apply Picks.both | apply Picks.skip1 | apply Picks.skipA)) ?_
      first | (have hx : c = 4 := (by omega); subst hx; exact ⟨b, ps, rfl, hP, rfl⟩) | exact absurd hA (by assumption)

theorem cy_spec_DeliverAll (xs : List Mail) (hn : xs.length ≤ 1048576) (hA : IsBox xs) : ACalls Try.prog 26 [.sl (xs.map eMail)] [] (Ret (.tup [.sl ((getsL xs).map eInts), .bool true])) :=
  (co_spec_DeliverAll xs hn hA).freeze (by rintro _ _ ⟨_, _, rfl, e0, rfl⟩; rw [← e0]; exact (.tup (.cons (.own2 (by (try simp only [fam_app, fam_one, fam_nil, List.append_assoc, List.cons_append, List.nil_append, List.append_nil, List.append_eq]); repeat (first | exact List.Mem.head _ | apply List.Mem.tail | apply List.mem_append_right)) (List.length_map _) (vwR_ints (t := 3) (by intro x hx; (try simp only [fam_app, fam_one, fam_nil, List.append_assoc, List.cons_append, List.nil_append, List.append_nil, List.append_eq]); repeat (first | exact hx | exact List.mem_append_left _ hx | apply List.mem_append_right | apply List.mem_cons_of_mem)))) (.cons (.refl _) .nil))))

theorem cn_spec_DeliverAll (xs : List Mail) (hn : xs.length ≤ 1048576) (hA : ¬ IsBox xs) : ACalls Try.prog 26 [.sl (xs.map eMail)] [] (Ret (.tup [.sl ([] : List (List AV)), .bool false])) := by
  refine a_enter Try.func26 rfl rfl (fun w0 M0 => ?_)
  refine a_seq ?_
  refine a_region ?_
  refine aops_cons rfl (w_pure rfl (p_assign rfl) ?_)
  refine aops_cons rfl (w_pure rfl (p_assign rfl) ?_)
  refine aops_nil ?_
  refine a_seq ?_
  refine a_region ?_
  refine aops_cons rfl (w_lit_vM rowI [] rfl el_50 rfl rfl rfl rfl rfl ?_)
  refine aops_cons rfl (w_pure rfl (p_assign rfl) ?_)
  refine aops_nil ?_
  refine a_seq ?_
  refine a_seq ?_
  refine a_region ?_
  refine aops_cons rfl (w_pure rfl (p_move rfl) ?_)
  refine aops_cons rfl (w_callR rfl rfl rfl cl_48 (c_spec_l12Good _ (by omega)) ?_)
  refine aops_cons rfl (w_pure rfl (p_not rfl) ?_)
  refine aops_nil ?_
  first | refine a_cond_d rfl (fun h1 => ?_) (fun h2 => ?_) | refine a_cond_n rfl (fun h1 => ?_) (fun h2 => ?_) | refine a_cond_nb rfl (fun h1 => ?_) (fun h2 => ?_) | refine a_cond rfl (fun h1 => ?_) (fun h2 => ?_)
  · (try simp only [Bool.not_eq_true', Bool.not_eq_false', Bool.not_eq_true, Bool.not_eq_false, decide_eq_true_eq, decide_eq_false_iff_not, List.length_map, List.length_range] at h1)
    refine a_seq ?_
    refine a_region ?_
    refine aops_cons rfl (w_pure rfl (p_move rfl) ?_)
    refine aops_cons rfl (w_pure rfl (p_assign rfl) ?_)
    refine aops_cons rfl (w_pure rfl (p_assign rfl) ?_)
    refine aops_nil ?_
    refine a_ret ?_
    refine ret_ok (hands2 rfl (.tmp rfl) (.tmp rfl)) (.nil _) ?_
    exact ⟨rfl, rfl⟩
  · (try simp only [Bool.not_eq_true', Bool.not_eq_false', Bool.not_eq_true, Bool.not_eq_false, decide_eq_true_eq, decide_eq_false_iff_not, List.length_map, List.length_range] at h2)
    refine a_skip ?_
    refine a_seq ?_
    refine a_seq ?_
    exact absurd (by assumption) hA

set_option maxHeartbeats 4000000 in
theorem c_laws_FnExactDeliverAll (xs : List Mail) (_hc0 : (∀ x ∈ xs, okMail x) ∧ xs.length ≤ maxLen) : ACalls Try.prog 5 [.sl (xs.map eMail)] [] (Ret (.bool true)) := by
  have hm0 : xs.length ≤ 9223372036854775807 := _hc0.2
  by_cases hA : IsBox xs
  all_goals refine a_enter Try.func5 rfl rfl (fun w0 M0 => ?_)
  · skip
    refine a_seq ?_
    refine a_region ?_
    refine aops_cons rfl (w_pure rfl (p_assign rfl) ?_)
    refine aops_nil ?_
    refine a_seq ?_
    refine a_region ?_
    refine aops_cons rfl (w_pure rfl (p_assign rfl) ?_)
    refine aops_nil ?_
    refine a_seq ?_
    refine a_region ?_
    refine aops_cons rfl (w_pure rfl (p_move rfl) ?_)
    refine aops_cons rfl (w_pure rfl (p_move rfl) ?_)
    refine aops_cons rfl (w_callR rfl rfl rfl cl_36 (c_laws_szMailS _ ‹_› _ (by omega) (by omega)) ?_)
    refine aops_cons rfl (w_pure rfl (p_assign rfl) ?_)
    refine aops_nil ?_
    refine a_seq ?_
    refine a_seq ?_
    refine a_region ?_
    refine aops_cons rfl (w_pure rfl (p_move rfl) ?_)
    refine aops_cons rfl (w_pure rfl (p_lss rfl rfl) ?_)
    refine aops_nil ?_
    first | refine a_cond_d rfl (fun h1 => ?_) (fun h2 => ?_) | refine a_cond_n rfl (fun h1 => ?_) (fun h2 => ?_) | refine a_cond_nb rfl (fun h1 => ?_) (fun h2 => ?_) | refine a_cond rfl (fun h1 => ?_) (fun h2 => ?_)
    · (try simp only [Bool.not_eq_true', Bool.not_eq_false', Bool.not_eq_true, Bool.not_eq_false, decide_eq_true_eq, decide_eq_false_iff_not, List.length_map, List.length_range] at h1)
      refine a_seq ?_
      refine a_region ?_
      refine aops_cons rfl (w_pure rfl (p_assign rfl) ?_)
      refine aops_nil ?_
      refine a_ret ?_
      refine ret_ok (hands1 rfl (.tmp rfl)) (.nil _) ?_
      first | exact ⟨rfl, rfl⟩ | (exfalso; omega)
    · (try simp only [Bool.not_eq_true', Bool.not_eq_false', Bool.not_eq_true, Bool.not_eq_false, decide_eq_true_eq, decide_eq_false_iff_not, List.length_map, List.length_range] at h2)
      refine a_skip ?_
      refine a_seq ?_
      have hl0 : xs.length ≤ 1048576 := (by have := szv_le (n := xs.length) (left := 1048576) ‹_›; omega)
      refine a_region ?_
      refine aops_cons rfl (w_pure rfl (p_move rfl) ?_)
      refine aops_cons rfl (w_callR rfl rfl rfl cl_37 (c_laws_toMailS xs hl0) ?_)
      refine aops_cons rfl (w_callR rfl rfl rfl cl_26 (cy_spec_DeliverAll xs hl0 hA) ?_)
      refine aops_cons rfl (w_pure rfl (p_move rfl) ?_)
      refine aops_cons rfl (w_pure rfl (p_extract rfl rfl) ?_)
      refine aops_cons rfl (w_pure rfl (p_extract rfl rfl) ?_)
      refine aops_cons rfl (w_pure rfl (p_assign rfl) ?_)
      refine aops_cons rfl (w_pure rfl (p_assign rfl) ?_)
      refine aops_nil ?_
      refine a_seq ?_
      refine a_region ?_
      refine aops_cons rfl (w_pure rfl (p_move rfl) ?_)
      refine aops_cons rfl (w_call rfl rfl rfl cl_37 ((co_laws_toMailS xs hl0).mono fun _ _ h => h.len) ?_)
      rintro _ _ ⟨b1, rfl, rfl⟩
      refine aops_cons rfl (w_pure rfl (p_assign rfl) ?_)
      refine aops_nil ?_
      refine a_seq ?_
      refine a_region ?_
      refine aops_cons rfl (w_pure rfl (p_move rfl) ?_)
      refine aops_cons rfl (w_callL rfl rfl rfl cl_25 (.cons (.own (by (try simp only [fam_app, fam_one, fam_nil, List.append_assoc, List.cons_append, List.nil_append, List.append_nil, List.append_eq]); repeat (first | exact List.Mem.head _ | apply List.Mem.tail | apply List.mem_append_right)) (by first | (simp; done) | (simp; assumption) | (simp; omega) | (simp [mkL]; done))) .nil) (cy_impl_DeliverAll xs hl0 hA) ?_)
      rintro _ _ ⟨b2, ps1, rfl, hp1, rfl⟩
      refine ⟨(closed_tup (all_cons' (closed_own _ _ _ _) (all_cons' (closed_bool _) all_nil'))), (closedS_cons (closedAll _ _ _ _ closed_rowI) (closedS_fam (closed_famI 3) _)), ?_⟩
      have hd1 : DeepI ps1 := deep_ps hA hp1
      have hk1 := deep_kA hd1 (k := 1) (by decide) _ (Nat.le_refl _)
      refine aops_cons rfl (w_pure rfl (p_move rfl) ?_)
      refine aops_cons rfl (w_pure rfl (p_extract rfl rfl) ?_)
      refine aops_cons rfl (w_pure rfl (p_extract rfl rfl) ?_)
      refine aops_cons rfl (w_pure rfl (p_assign rfl) ?_)
      refine aops_cons rfl (w_pure rfl (p_assign rfl) ?_)
      refine aops_nil ?_
      refine a_seq ?_
      refine a_seq ?_
      refine a_region ?_
      refine aops_cons rfl (w_pure rfl (p_move rfl) ?_)
      refine aops_cons rfl (w_pure rfl (p_move rfl) ?_)
      refine aops_cons rfl (w_callLR rfl rfl rfl cl_38 (.cons (.own2 (by (try simp only [fam_app, fam_one, fam_nil, List.append_assoc, List.cons_append, List.nil_append, List.append_nil, List.append_eq]); repeat (first | exact List.Mem.head _ | apply List.Mem.tail | apply List.mem_append_right)) (by simp [markP_len]) (vwR_ints (t := 3) (by intro x hx; (try simp only [fam_app, fam_one, fam_nil, List.append_assoc, List.cons_append, List.nil_append, List.append_nil, List.append_eq]); repeat (first | exact hx | exact List.mem_append_left _ hx | apply List.mem_append_right | apply List.mem_cons_of_mem)))) (.cons (.refl _) .nil)) (ce_laws_eqIntSS (ps1.map (·.2)) (getsL xs) (deep_gets hA) (by first | rfl | assumption)) (closed_bool _) ?_)
      refine aops_cons rfl (w_pure rfl (p_not rfl) ?_)
      refine aops_cons rfl (w_pure rfl (p_move rfl) ?_)
      refine aops_guard_t rfl rfl rfl (w_pure rfl (p_move rfl) ?_)
      refine aops_guard_t rfl rfl rfl (w_pure rfl (p_move rfl) ?_)
      refine aops_guard_t rfl rfl rfl (w_pure rfl (p_neq_bsame um_4 rfl rfl) ?_)
      refine aops_cons rfl (w_pure rfl (p_pick_f rfl rfl) ?_)
      refine aops_nil ?_
      refine a_cond_f rfl ?_
      refine a_skip ?_
      refine a_seq ?_
      refine a_seq ?_
      refine a_region ?_
      refine aops_cons rfl (w_pure rfl (p_move rfl) ?_)
      refine aops_cons rfl (w_pure rfl (p_move rfl) ?_)
      refine aops_cons rfl (w_callR rfl rfl rfl cl_37 (c_laws_toMailS xs hl0) ?_)
      refine aops_cons rfl (w_callLR rfl rfl rfl cl_39 (.cons (.own (by (try simp only [fam_app, fam_one, fam_nil, List.append_assoc, List.cons_append, List.nil_append, List.append_nil, List.append_eq]); repeat (first | exact List.Mem.head _ | apply List.Mem.tail | apply List.mem_append_right)) (by first | (simp; done) | (simp; assumption) | (simp; omega) | (simp [mkL]; done))) (.cons (.refl _) .nil)) (c_laws_eqMailS xs hl0) (closed_bool _) ?_)
      refine aops_cons rfl (w_pure rfl (p_not rfl) ?_)
      refine aops_nil ?_
      refine a_cond_f rfl ?_
      refine a_skip ?_
      refine a_seq ?_
      refine a_region ?_
      refine aops_cons rfl (w_pure rfl (p_assign rfl) ?_)
      refine aops_nil ?_
      refine a_seq ?_
      refine a_region ?_
      refine aops_cons rfl (w_pure rfl (p_move rfl) ?_)
      refine aops_cons rfl (w_pure rfl (p_move rfl) ?_)
      refine aops_cons rfl (w_callM rfl rfl rfl cl_40 (.cons (by (try simp only [fam_app, fam_one, fam_nil, List.append_assoc, List.cons_append, List.nil_append, List.append_nil, List.append_eq]); repeat (first | exact Pick.here _ _ _ | apply Pick.next | apply Pick.under)) (.nil _)) (.cons (.refl _) (.cons (.refl _) .nil)) (c_laws_markMailS _ xs hl0 _ (by first | omega | (simp; done) | (simp; omega)) (by first | omega | (simp; done) | (simp; omega))) trivial ?_)
      rintro _ _ ⟨rfl, rfl⟩
      refine ⟨(closed_int _ _), (closedS_cons (closedAll _ _ _ _ cl_eMail) closedS_nil), ?_⟩
      refine aops_cons rfl (w_pure rfl (p_assign rfl) ?_)
      refine aops_nil ?_
      refine a_seq ?_
      refine a_seq ?_
      refine a_region ?_
      refine aops_cons rfl (w_pure rfl (p_move rfl) ?_)
      refine aops_cons rfl (w_pure rfl (p_lss rfl rfl) ?_)
      refine aops_cons rfl (w_pure rfl (p_move rfl) ?_)
      first | refine aops_split_d 51 rfl (fun h3 => ?_) (fun h4 => ?_) | refine aops_split 51 rfl (fun h3 => ?_) (fun h4 => ?_)
      · (try simp only [Bool.not_eq_true', Bool.not_eq_false', Bool.not_eq_true, Bool.not_eq_false, decide_eq_true_eq, decide_eq_false_iff_not, List.length_map, List.length_range] at h3)
        refine g_pass' rfl rfl rfl rfl rfl ?_
        refine g_pass' rfl rfl rfl rfl rfl ?_
        refine g_pass' rfl rfl rfl rfl rfl ?_
        refine g_pass' rfl rfl rfl rfl rfl ?_
        refine aops_cons rfl (w_pure rfl (p_pick_t rfl rfl) ?_)
        refine aops_cons rfl (w_pure rfl (p_move rfl) ?_)
        refine g_pass' rfl rfl rfl rfl rfl ?_
        refine g_pass' rfl rfl rfl rfl rfl ?_
        refine g_pass' rfl rfl rfl rfl rfl ?_
        refine aops_cons rfl (w_pure rfl (p_pick_t rfl rfl) ?_)
        refine aops_nil ?_
        refine a_cond_t rfl ?_
        refine a_seq ?_
        refine a_region ?_
        refine aops_cons rfl (w_pure rfl (p_assign rfl) ?_)
        refine aops_nil ?_
        refine a_ret ?_
        refine ret_ok (hands1 rfl (.tmp rfl)) (.nil _) ?_
        first | exact ⟨rfl, rfl⟩ | (exfalso; omega)
      · (try simp only [Bool.not_eq_true', Bool.not_eq_false', Bool.not_eq_true, Bool.not_eq_false, decide_eq_true_eq, decide_eq_false_iff_not, List.length_map, List.length_range] at h4)
        refine aops_guard_t rfl rfl rfl (w_pure rfl (p_move rfl) ?_)
        refine aops_guard_t rfl rfl rfl (w_pure rfl (p_move rfl) ?_)
        refine aops_guard_t rfl rfl rfl (w_callLR rfl rfl rfl cl_38 (.cons (.own2 (by (try simp only [fam_app, fam_one, fam_nil, List.append_assoc, List.cons_append, List.nil_append, List.append_nil, List.append_eq]); repeat (first | exact List.Mem.head _ | apply List.Mem.tail | apply List.mem_append_right)) (by simp [markP_len]) (vwR_ints (t := 3) (by intro x hx; (try simp only [fam_app, fam_one, fam_nil, List.append_assoc, List.cons_append, List.nil_append, List.append_nil, List.append_eq]); repeat (first | exact hx | exact List.mem_append_left _ hx | apply List.mem_append_right | apply List.mem_cons_of_mem)))) (.cons (.refl _) .nil)) (ce_laws_eqIntSS (ps1.map (·.2)) (getsL xs) (deep_gets hA) (by first | rfl | assumption)) (closed_bool _) ?_)
        refine aops_guard_t rfl rfl rfl (w_pure rfl (p_not rfl) ?_)
        refine aops_cons rfl (w_pure rfl (p_pick_f rfl rfl) ?_)
        refine aops_cons rfl (w_pure rfl (p_move rfl) ?_)
        refine aops_guard_t rfl rfl rfl (w_pure rfl (p_move rfl) ?_)
        refine aops_guard_t rfl rfl rfl (w_pure rfl (p_move rfl) ?_)
        refine aops_guard_t rfl rfl rfl (w_pure rfl (p_neq_bsame um_4 rfl rfl) ?_)
        refine aops_cons rfl (w_pure rfl (p_pick_f rfl rfl) ?_)
        refine aops_nil ?_
        refine a_cond_f rfl ?_
        refine a_skip ?_
        refine a_seq ?_
        refine a_region ?_
        refine aops_cons rfl (w_pure rfl (p_assign rfl) ?_)
        refine aops_nil ?_
        refine a_seq ?_
        refine a_region ?_
        refine aops_cons rfl (w_pure rfl (p_move rfl) ?_)
        refine aops_cons rfl (w_pure rfl (p_move rfl) ?_)
        refine aops_cons rfl (w_callM rfl rfl rfl cl_41 (by (try dsimp only); (try simp only [fam_app, fam_one, fam_nil, List.append_assoc, List.cons_append, List.nil_append, List.append_nil, List.append_eq]); repeat (first | exact Picks.nil _ | exact Pick.here _ _ _ | exact Picks.whole _ _ | exact Picks.whole0 _ | apply Pick.next | apply Pick.under | apply Picks.cons | apply Picks.both | apply Picks.skip1 | apply Picks.skipA)) (.cons (.refl _) (.cons (.refl _) .nil)) (c_laws_markIntSS _ ps1 hd1 _ (by first | omega | (simp; done) | (simp; omega)) (by first | omega | (simp; done) | (simp; omega))) trivial ?_)
        rintro _ _ ⟨rfl, rfl⟩
        refine ⟨(closed_int _ _), (closedS_cons (closedAll _ _ _ _ closed_rowI) (closedS_fam (closed_famI 3) _)), ?_⟩
        refine aops_cons rfl (w_pure rfl (p_assign rfl) ?_)
        refine aops_nil ?_
        refine a_seq ?_
        refine a_region ?_
        refine aops_cons rfl (w_pure rfl (p_assign rfl) ?_)
        refine aops_nil ?_
        refine a_seq ?_
        refine a_region ?_
        refine aops_cons rfl (w_pure rfl (p_move rfl) ?_)
        refine aops_cons rfl (w_pure rfl (p_move rfl) ?_)
        refine aops_cons rfl (w_callLR rfl rfl rfl cl_42 (.cons (.own2 (by (try simp only [fam_app, fam_one, fam_nil, List.append_assoc, List.cons_append, List.nil_append, List.append_nil, List.append_eq]); repeat (first | exact List.Mem.head _ | apply List.Mem.tail | apply List.mem_append_right)) (by simp [markP_len]) (vwR_ints (t := 3) (by intro x hx; (try simp only [fam_app, fam_one, fam_nil, List.append_assoc, List.cons_append, List.nil_append, List.append_nil, List.append_eq]); repeat (first | exact hx | exact List.mem_append_left _ hx | apply List.mem_append_right | apply List.mem_cons_of_mem)))) (.cons (.refl _) .nil)) (c_laws_heldIntSS ps1 hd1 _ (by first | omega | (simp; done) | (simp; omega)) (by first | omega | (simp; done) | (simp; omega))) (closed_int _ _) ?_)
        refine aops_cons rfl (w_pure rfl (p_assign rfl) ?_)
        refine aops_nil ?_
        refine a_seq ?_
        refine a_seq ?_
        refine a_region ?_
        refine aops_cons rfl (w_pure rfl (p_move rfl) ?_)
        refine aops_cons rfl (w_pure rfl (p_lss rfl rfl) ?_)
        refine aops_nil ?_
        first | refine a_cond_d rfl (fun h5 => ?_) (fun h6 => ?_) | refine a_cond_n rfl (fun h5 => ?_) (fun h6 => ?_) | refine a_cond_nb rfl (fun h5 => ?_) (fun h6 => ?_) | refine a_cond rfl (fun h5 => ?_) (fun h6 => ?_)
        · (try simp only [Bool.not_eq_true', Bool.not_eq_false', Bool.not_eq_true, Bool.not_eq_false, decide_eq_true_eq, decide_eq_false_iff_not, List.length_map, List.length_range] at h5)
          refine a_seq ?_
          refine a_region ?_
          refine aops_cons rfl (w_pure rfl (p_assign rfl) ?_)
          refine aops_nil ?_
          refine a_ret ?_
          refine ret_ok (hands1 rfl (.tmp rfl)) (.nil _) ?_
          first | exact ⟨rfl, rfl⟩ | (exfalso; omega)
        · (try simp only [Bool.not_eq_true', Bool.not_eq_false', Bool.not_eq_true, Bool.not_eq_false, decide_eq_true_eq, decide_eq_false_iff_not, List.length_map, List.length_range] at h6)
          refine a_skip ?_
          refine a_seq ?_
          refine a_seq ?_
          refine a_region ?_
          refine aops_cons rfl (w_pure rfl (p_move rfl) ?_)
          refine aops_cons rfl (w_pure rfl (p_move rfl) ?_)
          refine aops_cons rfl (w_pure rfl (p_neq_same rfl rfl) ?_)
          refine aops_nil ?_
          refine a_cond_f rfl ?_
          refine a_skip ?_
          refine a_seq ?_
          refine a_region ?_
          refine aops_cons rfl (w_pure rfl (p_move rfl) ?_)
          refine aops_cons rfl (w_callR rfl rfl rfl cl_37 (c_laws_toMailS xs hl0) ?_)
          refine aops_cons rfl (w_callR rfl rfl rfl cl_25 (cf_impl_DeliverAll xs hl0 hA) ?_)
          refine aops_cons rfl (w_pure rfl (p_move rfl) ?_)
          refine aops_cons rfl (w_pure rfl (p_extract rfl rfl) ?_)
          refine aops_cons rfl (w_pure rfl (p_extract rfl rfl) ?_)
          refine aops_cons rfl (w_pure rfl (p_assign rfl) ?_)
          refine aops_cons rfl (w_pure rfl (p_assign rfl) ?_)
          refine aops_nil ?_
          refine a_seq ?_
          refine a_seq ?_
          refine a_region ?_
          refine aops_cons rfl (w_pure rfl (p_move rfl) ?_)
          refine aops_cons rfl (w_pure rfl (p_move rfl) ?_)
          refine aops_cons rfl (w_callLR rfl rfl rfl cl_38 (.cons (.refl _) (.cons (.refl _) .nil)) (ce_laws_eqIntSS (getsL xs) (getsL xs) (deep_gets hA) (by first | rfl | assumption)) (closed_bool _) ?_)
          refine aops_cons rfl (w_pure rfl (p_not rfl) ?_)
          refine aops_cons rfl (w_pure rfl (p_move rfl) ?_)
          refine aops_guard_t rfl rfl rfl (w_pure rfl (p_move rfl) ?_)
          refine aops_guard_t rfl rfl rfl (w_pure rfl (p_move rfl) ?_)
          refine aops_guard_t rfl rfl rfl (w_pure rfl (p_neq_bsame um_4 rfl rfl) ?_)
          refine aops_cons rfl (w_pure rfl (p_pick_f rfl rfl) ?_)
          refine aops_nil ?_
          refine a_cond_f rfl ?_
          refine a_skip ?_
          refine a_seq ?_
          refine a_region ?_
          refine aops_cons rfl (w_pure rfl (p_assign rfl) ?_)
          refine aops_nil ?_
          refine a_seq ?_
          refine a_region ?_
          refine aops_cons rfl (w_pure rfl (p_move rfl) ?_)
          refine aops_cons rfl (w_pure rfl (p_move rfl) ?_)
          refine aops_cons rfl (w_callLR rfl rfl rfl cl_42 (.cons (.own2 (by (try simp only [fam_app, fam_one, fam_nil, List.append_assoc, List.cons_append, List.nil_append, List.append_nil, List.append_eq]); repeat (first | exact List.Mem.head _ | apply List.Mem.tail | apply List.mem_append_right)) (by simp [markP_len]) (vwR_ints (t := 3) (by intro x hx; (try simp only [fam_app, fam_one, fam_nil, List.append_assoc, List.cons_append, List.nil_append, List.append_nil, List.append_eq]); repeat (first | exact hx | exact List.mem_append_left _ hx | apply List.mem_append_right | apply List.mem_cons_of_mem)))) (.cons (.refl _) .nil)) (c_laws_heldIntSS ps1 hd1 _ (by first | omega | (simp; done) | (simp; omega)) (by first | omega | (simp; done) | (simp; omega))) (closed_int _ _) ?_)
          refine aops_cons rfl (w_pure rfl (p_assign rfl) ?_)
          refine aops_nil ?_
          refine a_seq ?_
          refine a_seq ?_
          refine a_region ?_
          refine aops_cons rfl (w_pure rfl (p_move rfl) ?_)
          refine aops_cons rfl (w_pure rfl (p_lss rfl rfl) ?_)
          refine aops_nil ?_
          first | refine a_cond_d rfl (fun h7 => ?_) (fun h8 => ?_) | refine a_cond_n rfl (fun h7 => ?_) (fun h8 => ?_) | refine a_cond_nb rfl (fun h7 => ?_) (fun h8 => ?_) | refine a_cond rfl (fun h7 => ?_) (fun h8 => ?_)
          · (try simp only [Bool.not_eq_true', Bool.not_eq_false', Bool.not_eq_true, Bool.not_eq_false, decide_eq_true_eq, decide_eq_false_iff_not, List.length_map, List.length_range] at h7)
            refine a_seq ?_
            refine a_region ?_
            refine aops_cons rfl (w_pure rfl (p_assign rfl) ?_)
            refine aops_nil ?_
            refine a_ret ?_
            refine ret_ok (hands1 rfl (.tmp rfl)) (.nil _) ?_
            first | exact ⟨rfl, rfl⟩ | (exfalso; omega)
          · (try simp only [Bool.not_eq_true', Bool.not_eq_false', Bool.not_eq_true, Bool.not_eq_false, decide_eq_true_eq, decide_eq_false_iff_not, List.length_map, List.length_range] at h8)
            refine a_skip ?_
            refine a_seq ?_
            refine a_seq ?_
            refine a_region ?_
            refine aops_cons rfl (w_pure rfl (p_move rfl) ?_)
            refine aops_cons rfl (w_pure rfl (p_move rfl) ?_)
            refine aops_cons rfl (w_pure rfl (p_neq_same rfl rfl) ?_)
            refine aops_nil ?_
            refine a_cond_f rfl ?_
            refine a_skip ?_
            refine a_seq ?_
            refine a_region ?_
            refine aops_cons rfl (w_pure rfl (p_assign rfl) ?_)
            refine aops_nil ?_
            refine a_ret ?_
            refine ret_ok (hands1 rfl (.tmp rfl)) (.nil _) ?_
            first | exact ⟨rfl, rfl⟩ | (exfalso; omega)
  · skip
    refine a_seq ?_
    refine a_region ?_
    refine aops_cons rfl (w_pure rfl (p_assign rfl) ?_)
    refine aops_nil ?_
    refine a_seq ?_
    refine a_region ?_
    refine aops_cons rfl (w_pure rfl (p_assign rfl) ?_)
    refine aops_nil ?_
    refine a_seq ?_
    refine a_region ?_
    refine aops_cons rfl (w_pure rfl (p_move rfl) ?_)
    refine aops_cons rfl (w_pure rfl (p_move rfl) ?_)
    refine aops_cons rfl (w_callR rfl rfl rfl cl_36 (c_laws_szMailS _ ‹_› _ (by omega) (by omega)) ?_)
    refine aops_cons rfl (w_pure rfl (p_assign rfl) ?_)
    refine aops_nil ?_
    refine a_seq ?_
    refine a_seq ?_
    refine a_region ?_
    refine aops_cons rfl (w_pure rfl (p_move rfl) ?_)
    refine aops_cons rfl (w_pure rfl (p_lss rfl rfl) ?_)
    refine aops_nil ?_
    first | refine a_cond_d rfl (fun h1 => ?_) (fun h2 => ?_) | refine a_cond_n rfl (fun h1 => ?_) (fun h2 => ?_) | refine a_cond_nb rfl (fun h1 => ?_) (fun h2 => ?_) | refine a_cond rfl (fun h1 => ?_) (fun h2 => ?_)
    · (try simp only [Bool.not_eq_true', Bool.not_eq_false', Bool.not_eq_true, Bool.not_eq_false, decide_eq_true_eq, decide_eq_false_iff_not, List.length_map, List.length_range] at h1)
      refine a_seq ?_
      refine a_region ?_
      refine aops_cons rfl (w_pure rfl (p_assign rfl) ?_)
      refine aops_nil ?_
      refine a_ret ?_
      refine ret_ok (hands1 rfl (.tmp rfl)) (.nil _) ?_
      first | exact ⟨rfl, rfl⟩ | (exfalso; omega)
    · (try simp only [Bool.not_eq_true', Bool.not_eq_false', Bool.not_eq_true, Bool.not_eq_false, decide_eq_true_eq, decide_eq_false_iff_not, List.length_map, List.length_range] at h2)
      refine a_skip ?_
      refine a_seq ?_
      have hl0 : xs.length ≤ 1048576 := (by have := szv_le (n := xs.length) (left := 1048576) ‹_›; omega)
      refine a_region ?_
      refine aops_cons rfl (w_pure rfl (p_move rfl) ?_)
      refine aops_cons rfl (w_callR rfl rfl rfl cl_37 (c_laws_toMailS xs hl0) ?_)
      refine aops_cons rfl (w_callR rfl rfl rfl cl_26 (cn_spec_DeliverAll xs hl0 hA) ?_)
      refine aops_cons rfl (w_pure rfl (p_move rfl) ?_)
      refine aops_cons rfl (w_pure rfl (p_extract rfl rfl) ?_)
      refine aops_cons rfl (w_pure rfl (p_extract rfl rfl) ?_)
      refine aops_cons rfl (w_pure rfl (p_assign rfl) ?_)
      refine aops_cons rfl (w_pure rfl (p_assign rfl) ?_)
      refine aops_nil ?_
      refine a_seq ?_
      refine a_region ?_
      refine aops_cons rfl (w_pure rfl (p_move rfl) ?_)
      refine aops_cons rfl (w_call rfl rfl rfl cl_37 ((co_laws_toMailS xs hl0).mono fun _ _ h => h.len) ?_)
      rintro _ _ ⟨b1, rfl, rfl⟩
      refine aops_cons rfl (w_pure rfl (p_assign rfl) ?_)
      refine aops_nil ?_
      refine a_seq ?_
      refine a_region ?_
      refine aops_cons rfl (w_pure rfl (p_move rfl) ?_)
      refine aops_cons rfl (w_callLR rfl rfl rfl cl_25 (.cons (.own (by (try simp only [fam_app, fam_one, fam_nil, List.append_assoc, List.cons_append, List.nil_append, List.append_nil, List.append_eq]); repeat (first | exact List.Mem.head _ | apply List.Mem.tail | apply List.mem_append_right)) (by first | (simp; done) | (simp; assumption) | (simp; omega) | (simp [mkL]; done))) .nil) (cn_impl_DeliverAll xs hl0 hA) (closed_tup (all_cons' closed_nil (all_cons' (closed_bool _) all_nil'))) ?_)
      refine aops_cons rfl (w_pure rfl (p_move rfl) ?_)
      refine aops_cons rfl (w_pure rfl (p_extract rfl rfl) ?_)
      refine aops_cons rfl (w_pure rfl (p_extract rfl rfl) ?_)
      refine aops_cons rfl (w_pure rfl (p_assign rfl) ?_)
      refine aops_cons rfl (w_pure rfl (p_assign rfl) ?_)
      refine aops_nil ?_
      refine a_seq ?_
      refine a_seq ?_
      refine a_region ?_
      refine aops_cons rfl (w_pure rfl (p_move rfl) ?_)
      refine aops_cons rfl (w_pure rfl (p_move rfl) ?_)
      refine aops_cons rfl (w_callLR rfl rfl rfl cl_38 (.cons .nil (.cons (.refl _) .nil)) (ce_laws_eqIntSS [] ([] : List (List Int)) ⟨Nat.zero_le _, fun j hj => absurd hj (Nat.not_lt_zero _)⟩ (by first | rfl | assumption)) (closed_bool _) ?_)
      refine aops_cons rfl (w_pure rfl (p_not rfl) ?_)
      refine aops_cons rfl (w_pure rfl (p_move rfl) ?_)
      refine aops_guard_t rfl rfl rfl (w_pure rfl (p_move rfl) ?_)
      refine aops_guard_t rfl rfl rfl (w_pure rfl (p_move rfl) ?_)
      refine aops_guard_t rfl rfl rfl (w_pure rfl (p_neq_bsame um_4 rfl rfl) ?_)
      refine aops_cons rfl (w_pure rfl (p_pick_f rfl rfl) ?_)
      refine aops_nil ?_
      refine a_cond_f rfl ?_
      refine a_skip ?_
      refine a_seq ?_
      refine a_seq ?_
      refine a_region ?_
      refine aops_cons rfl (w_pure rfl (p_move rfl) ?_)
      refine aops_cons rfl (w_pure rfl (p_move rfl) ?_)
      refine aops_cons rfl (w_callR rfl rfl rfl cl_37 (c_laws_toMailS xs hl0) ?_)
      refine aops_cons rfl (w_callLR rfl rfl rfl cl_39 (.cons (.own (by (try simp only [fam_app, fam_one, fam_nil, List.append_assoc, List.cons_append, List.nil_append, List.append_nil, List.append_eq]); repeat (first | exact List.Mem.head _ | apply List.Mem.tail | apply List.mem_append_right)) (by first | (simp; done) | (simp; assumption) | (simp; omega) | (simp [mkL]; done))) (.cons (.refl _) .nil)) (c_laws_eqMailS xs hl0) (closed_bool _) ?_)
      refine aops_cons rfl (w_pure rfl (p_not rfl) ?_)
      refine aops_nil ?_
      refine a_cond_f rfl ?_
      refine a_skip ?_
      refine a_seq ?_
      refine a_region ?_
      refine aops_cons rfl (w_pure rfl (p_assign rfl) ?_)
      refine aops_nil ?_
      refine a_seq ?_
      refine a_region ?_
      refine aops_cons rfl (w_pure rfl (p_move rfl) ?_)
      refine aops_cons rfl (w_pure rfl (p_move rfl) ?_)
      refine aops_cons rfl (w_callM rfl rfl rfl cl_40 (.cons (by (try simp only [fam_app, fam_one, fam_nil, List.append_assoc, List.cons_append, List.nil_append, List.append_nil, List.append_eq]); repeat (first | exact Pick.here _ _ _ | apply Pick.next | apply Pick.under)) (.nil _)) (.cons (.refl _) (.cons (.refl _) .nil)) (c_laws_markMailS _ xs hl0 _ (by first | omega | (simp; done) | (simp; omega)) (by first | omega | (simp; done) | (simp; omega))) trivial ?_)
      rintro _ _ ⟨rfl, rfl⟩
      refine ⟨(closed_int _ _), (closedS_cons (closedAll _ _ _ _ cl_eMail) closedS_nil), ?_⟩
      refine aops_cons rfl (w_pure rfl (p_assign rfl) ?_)
      refine aops_nil ?_
      refine a_seq ?_
      refine a_seq ?_
      refine a_region ?_
      refine aops_cons rfl (w_pure rfl (p_move rfl) ?_)
      refine aops_cons rfl (w_pure rfl (p_lss rfl rfl) ?_)
      refine aops_cons rfl (w_pure rfl (p_move rfl) ?_)
      first | refine aops_split_d 51 rfl (fun h3 => ?_) (fun h4 => ?_) | refine aops_split 51 rfl (fun h3 => ?_) (fun h4 => ?_)
      · (try simp only [Bool.not_eq_true', Bool.not_eq_false', Bool.not_eq_true, Bool.not_eq_false, decide_eq_true_eq, decide_eq_false_iff_not, List.length_map, List.length_range] at h3)
        refine g_pass' rfl rfl rfl rfl rfl ?_
        refine g_pass' rfl rfl rfl rfl rfl ?_
        refine g_pass' rfl rfl rfl rfl rfl ?_
        refine g_pass' rfl rfl rfl rfl rfl ?_
        refine aops_cons rfl (w_pure rfl (p_pick_t rfl rfl) ?_)
        refine aops_cons rfl (w_pure rfl (p_move rfl) ?_)
        refine g_pass' rfl rfl rfl rfl rfl ?_
        refine g_pass' rfl rfl rfl rfl rfl ?_
        refine g_pass' rfl rfl rfl rfl rfl ?_
        refine aops_cons rfl (w_pure rfl (p_pick_t rfl rfl) ?_)
        refine aops_nil ?_
        refine a_cond_t rfl ?_
        refine a_seq ?_
        refine a_region ?_
        refine aops_cons rfl (w_pure rfl (p_assign rfl) ?_)
        refine aops_nil ?_
        refine a_ret ?_
        refine ret_ok (hands1 rfl (.tmp rfl)) (.nil _) ?_
        first | exact ⟨rfl, rfl⟩ | (exfalso; omega)
      · (try simp only [Bool.not_eq_true', Bool.not_eq_false', Bool.not_eq_true, Bool.not_eq_false, decide_eq_true_eq, decide_eq_false_iff_not, List.length_map, List.length_range] at h4)
        refine aops_guard_t rfl rfl rfl (w_pure rfl (p_move rfl) ?_)
        refine aops_guard_t rfl rfl rfl (w_pure rfl (p_move rfl) ?_)
        refine aops_guard_t rfl rfl rfl (w_callLR rfl rfl rfl cl_38 (.cons .nil (.cons (.refl _) .nil)) (ce_laws_eqIntSS [] ([] : List (List Int)) ⟨Nat.zero_le _, fun j hj => absurd hj (Nat.not_lt_zero _)⟩ (by first | rfl | assumption)) (closed_bool _) ?_)
        refine aops_guard_t rfl rfl rfl (w_pure rfl (p_not rfl) ?_)
        refine aops_cons rfl (w_pure rfl (p_pick_f rfl rfl) ?_)
        refine aops_cons rfl (w_pure rfl (p_move rfl) ?_)
        refine aops_guard_t rfl rfl rfl (w_pure rfl (p_move rfl) ?_)
        refine aops_guard_t rfl rfl rfl (w_pure rfl (p_move rfl) ?_)
        refine aops_guard_t rfl rfl rfl (w_pure rfl (p_neq_bsame um_4 rfl rfl) ?_)
        refine aops_cons rfl (w_pure rfl (p_pick_f rfl rfl) ?_)
        refine aops_nil ?_
        refine a_cond_f rfl ?_
        refine a_skip ?_
        refine a_seq ?_
        refine a_region ?_
        refine aops_cons rfl (w_pure rfl (p_assign rfl) ?_)
        refine aops_nil ?_
        refine a_seq ?_
        refine a_region ?_
        refine aops_cons rfl (w_pure rfl (p_move rfl) ?_)
        refine aops_cons rfl (w_pure rfl (p_move rfl) ?_)
        refine aops_cons rfl (w_callR rfl rfl rfl cl_41 (cn_laws_markIntSS _) ?_)
        refine aops_cons rfl (w_pure rfl (p_assign rfl) ?_)
        refine aops_nil ?_
        refine a_seq ?_
        refine a_region ?_
        refine aops_cons rfl (w_pure rfl (p_assign rfl) ?_)
        refine aops_nil ?_
        refine a_seq ?_
        refine a_region ?_
        refine aops_cons rfl (w_pure rfl (p_move rfl) ?_)
        refine aops_cons rfl (w_pure rfl (p_move rfl) ?_)
        refine aops_cons rfl (w_callLR rfl rfl rfl cl_42 (.cons .nil (.cons (.refl _) .nil)) (cn_laws_heldIntSS _ (by first | omega | (simp; done) | (simp; omega)) (by first | omega | (simp; done) | (simp; omega))) (closed_int _ _) ?_)
        refine aops_cons rfl (w_pure rfl (p_assign rfl) ?_)
        refine aops_nil ?_
        refine a_seq ?_
        refine a_seq ?_
        refine a_region ?_
        refine aops_cons rfl (w_pure rfl (p_move rfl) ?_)
        refine aops_cons rfl (w_pure rfl (p_lss rfl rfl) ?_)
        refine aops_nil ?_
        first | refine a_cond_d rfl (fun h5 => ?_) (fun h6 => ?_) | refine a_cond_n rfl (fun h5 => ?_) (fun h6 => ?_) | refine a_cond_nb rfl (fun h5 => ?_) (fun h6 => ?_) | refine a_cond rfl (fun h5 => ?_) (fun h6 => ?_)
        · (try simp only [Bool.not_eq_true', Bool.not_eq_false', Bool.not_eq_true, Bool.not_eq_false, decide_eq_true_eq, decide_eq_false_iff_not, List.length_map, List.length_range] at h5)
          refine a_seq ?_
          refine a_region ?_
          refine aops_cons rfl (w_pure rfl (p_assign rfl) ?_)
          refine aops_nil ?_
          refine a_ret ?_
          refine ret_ok (hands1 rfl (.tmp rfl)) (.nil _) ?_
          first | exact ⟨rfl, rfl⟩ | (exfalso; omega)
        · (try simp only [Bool.not_eq_true', Bool.not_eq_false', Bool.not_eq_true, Bool.not_eq_false, decide_eq_true_eq, decide_eq_false_iff_not, List.length_map, List.length_range] at h6)
          refine a_skip ?_
          refine a_seq ?_
          refine a_seq ?_
          refine a_region ?_
          refine aops_cons rfl (w_pure rfl (p_move rfl) ?_)
          refine aops_cons rfl (w_pure rfl (p_move rfl) ?_)
          refine aops_cons rfl (w_pure rfl (p_neq_same rfl rfl) ?_)
          refine aops_nil ?_
          refine a_cond_f rfl ?_
          refine a_skip ?_
          refine a_seq ?_
          refine a_region ?_
          refine aops_cons rfl (w_pure rfl (p_move rfl) ?_)
          refine aops_cons rfl (w_callR rfl rfl rfl cl_37 (c_laws_toMailS xs hl0) ?_)
          refine aops_cons rfl (w_callR rfl rfl rfl cl_25 (cn_impl_DeliverAll xs hl0 hA) ?_)
          refine aops_cons rfl (w_pure rfl (p_move rfl) ?_)
          refine aops_cons rfl (w_pure rfl (p_extract rfl rfl) ?_)
          refine aops_cons rfl (w_pure rfl (p_extract rfl rfl) ?_)
          refine aops_cons rfl (w_pure rfl (p_assign rfl) ?_)
          refine aops_cons rfl (w_pure rfl (p_assign rfl) ?_)
          refine aops_nil ?_
          refine a_seq ?_
          refine a_seq ?_
          refine a_region ?_
          refine aops_cons rfl (w_pure rfl (p_move rfl) ?_)
          refine aops_cons rfl (w_pure rfl (p_move rfl) ?_)
          refine aops_cons rfl (w_callLR rfl rfl rfl cl_38 (.cons .nil (.cons (.refl _) .nil)) (ce_laws_eqIntSS [] ([] : List (List Int)) ⟨Nat.zero_le _, fun j hj => absurd hj (Nat.not_lt_zero _)⟩ (by first | rfl | assumption)) (closed_bool _) ?_)
          refine aops_cons rfl (w_pure rfl (p_not rfl) ?_)
          refine aops_cons rfl (w_pure rfl (p_move rfl) ?_)
          refine aops_guard_t rfl rfl rfl (w_pure rfl (p_move rfl) ?_)
          refine aops_guard_t rfl rfl rfl (w_pure rfl (p_move rfl) ?_)
          refine aops_guard_t rfl rfl rfl (w_pure rfl (p_neq_bsame um_4 rfl rfl) ?_)
          refine aops_cons rfl (w_pure rfl (p_pick_f rfl rfl) ?_)
          refine aops_nil ?_
          refine a_cond_f rfl ?_
          refine a_skip ?_
          refine a_seq ?_
          refine a_region ?_
          refine aops_cons rfl (w_pure rfl (p_assign rfl) ?_)
          refine aops_nil ?_
          refine a_seq ?_
          refine a_region ?_
          refine aops_cons rfl (w_pure rfl (p_move rfl) ?_)
          refine aops_cons rfl (w_pure rfl (p_move rfl) ?_)
          refine aops_cons rfl (w_callLR rfl rfl rfl cl_42 (.cons .nil (.cons (.refl _) .nil)) (cn_laws_heldIntSS _ (by first | omega | (simp; done) | (simp; omega)) (by first | omega | (simp; done) | (simp; omega))) (closed_int _ _) ?_)
          refine aops_cons rfl (w_pure rfl (p_assign rfl) ?_)
          refine aops_nil ?_
          refine a_seq ?_
          refine a_seq ?_
          refine a_region ?_
          refine aops_cons rfl (w_pure rfl (p_move rfl) ?_)
          refine aops_cons rfl (w_pure rfl (p_lss rfl rfl) ?_)
          refine aops_nil ?_
          first | refine a_cond_d rfl (fun h7 => ?_) (fun h8 => ?_) | refine a_cond_n rfl (fun h7 => ?_) (fun h8 => ?_) | refine a_cond_nb rfl (fun h7 => ?_) (fun h8 => ?_) | refine a_cond rfl (fun h7 => ?_) (fun h8 => ?_)
          · (try simp only [Bool.not_eq_true', Bool.not_eq_false', Bool.not_eq_true, Bool.not_eq_false, decide_eq_true_eq, decide_eq_false_iff_not, List.length_map, List.length_range] at h7)
            refine a_seq ?_
            refine a_region ?_
            refine aops_cons rfl (w_pure rfl (p_assign rfl) ?_)
            refine aops_nil ?_
            refine a_ret ?_
            refine ret_ok (hands1 rfl (.tmp rfl)) (.nil _) ?_
            first | exact ⟨rfl, rfl⟩ | (exfalso; omega)
          · (try simp only [Bool.not_eq_true', Bool.not_eq_false', Bool.not_eq_true, Bool.not_eq_false, decide_eq_true_eq, decide_eq_false_iff_not, List.length_map, List.length_range] at h8)
            refine a_skip ?_
            refine a_seq ?_
            refine a_seq ?_
            refine a_region ?_
            refine aops_cons rfl (w_pure rfl (p_move rfl) ?_)
            refine aops_cons rfl (w_pure rfl (p_move rfl) ?_)
            refine aops_cons rfl (w_pure rfl (p_neq_same rfl rfl) ?_)
            refine aops_nil ?_
            refine a_cond_f rfl ?_
            refine a_skip ?_
            refine a_seq ?_
            refine a_region ?_
            refine aops_cons rfl (w_pure rfl (p_assign rfl) ?_)
            refine aops_nil ?_
            refine a_ret ?_
            refine ret_ok (hands1 rfl (.tmp rfl)) (.nil _) ?_
            first | exact ⟨rfl, rfl⟩ | (exfalso; omega)

end Go.Proofs.Ytmdhojgkhbihaaa
