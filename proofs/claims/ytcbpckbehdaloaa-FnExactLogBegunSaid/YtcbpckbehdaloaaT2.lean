/- FnExactLogBegun: its contract. The step scripts are printed by gen.py. Own work. -/
import Derived.Test.YtcbpckbehdaloaaT1
import Derived.Test.YtcbpckbehdaloaaD1
import Derived.Test.YtcbpckbehdaloaaD2
import Derived.Test.YtcbpckbehdaloaaD3
set_option maxRecDepth 100000
set_option linter.unusedSimpArgs false
set_option linter.unusedVariables false
namespace Go.Am
open Go Go.Proofs

theorem c_FnExactLogBegun (l : List GReq) (hl : l.length ≤ 9223372036854775807) (hls : ∀ y ∈ l, GReq.lens (· ≤ 9223372036854775807) y) : FnP Try.prog 3 [.c (.sl false 11 (l.map (GReq.cells false)))] [.c (cB true)] := by
 refine fnp_intro (n := 27) (rvs := [.tmp 2]) Try.func3 rfl rfl rfl (lb rfl) rfl ?_
 refine acode_seq ?_
 refine acode_region ?_
 refine st1 rfl (op_assign (lb rfl)) (so rfl sn) ?_
 refine rg_nil_seq ?_
 refine kseq_normal ?_
 refine acode_seq ?_
 refine acode_region ?_
 refine st1 rfl (op_assign (lb rfl)) (so rfl sn) ?_
 refine rg_nil_seq ?_
 refine kseq_normal ?_
 refine acode_seq ?_
 refine acode_region ?_
 refine st1 rfl (op_move (lb rfl)) (so rfl sn) ?_
 refine st1 rfl (op_move (lb rfl)) (so rfl sn) ?_
 refine st1 rfl ((op_call Try.func11 rfl rfl (c_szEngReqS l 1048576 (by omega) (by omega) hl hls) (by exact (.cons (by first | exact Shares.c rfl | exact Shares.nilc | exact Shares.ref rfl (rowGReq.rnobox true _) (rowGReq.rshare true _)) (.cons (by first | exact Shares.c rfl) .nil))) rfl (by first | exact .inl rfl | exact .inr (sol_cons rfl sol_nil)) rfl (lb rfl))) (sats_opds (.cons rfl (.cons rfl .nil)) (sats_app (sats_fresh_all (by exact rfl)) (sats_app (sats_needs (by first | exact all_nil | exact all_cons rfl all_nil | exact all_cons rfl (all_cons rfl all_nil) | exact all_cons rfl (all_cons rfl (all_cons rfl all_nil)) | exact all_cons rfl (all_cons rfl (all_cons rfl (all_cons rfl all_nil))))) (sats_lives rfl)))) ?_
 refine st1 rfl (op_assign (lb rfl)) (so rfl sn) ?_
 refine rg_nil_seq ?_
 refine kseq_normal ?_
 refine acode_seq ?_
 refine acode_seq ?_
 refine acode_region ?_
 refine st1 rfl (op_move (lb rfl)) (so rfl sn) ?_
 refine st1 rfl (op_lss (lb rfl)) (so rfl (so rfl sn)) ?_
 refine rg_nil_seq ?_
 refine kseq_normal ?_
 refine acode_cond rfl (fun hc0 => ?_) (fun hc0 => ?_)
 ·
  simp only [decide_eq_true_eq, decide_eq_false_iff_not, Bool.not_eq_true', Bool.not_eq_false', Bool.not_not, Bool.not_true, Bool.not_false] at hc0
  refine acode_seq ?_
  refine acode_region ?_
  refine st1 rfl (op_assign (lb rfl)) (so rfl sn) ?_
  refine rg_nil_seq ?_
  refine kseq_normal ?_
  refine acode_ret ?_
  exact kseq_ret (fin_retL (.cons (by first | exact .c rfl | exact .ref rfl rfl | exact .nilc rfl) .nil) (by rfl) (by rfl))
 ·
  simp only [decide_eq_true_eq, decide_eq_false_iff_not, Bool.not_eq_true', Bool.not_eq_false', Bool.not_not, Bool.not_true, Bool.not_false] at hc0
  have e0 := szR_ge hc0
  have hl2 : l.length ≤ 1048576 := by omega
  have hls2 : ∀ y ∈ l, GReq.lens (· ≤ 1048576) y := fun y hy => GReq.lens_of (by have := sumW_mem (f := GReq.W) hy; omega)
  refine acode_skip ?_
  refine kseq_normal ?_
  refine acode_seq ?_
  refine acode_region ?_
  refine st1 rfl (op_move (lb rfl)) (so rfl sn) ?_
  refine st1 rfl ((op_call Try.func13 rfl rfl (c_toEngReqS l hl2 hls2) (by exact (.cons (by first | exact Shares.c rfl | exact Shares.nilc | exact Shares.ref rfl (rowGReq.rnobox true _) (rowGReq.rshare true _)) .nil)) rfl (by first | exact .inl rfl | exact .inr (sol_cons (sl_solid rowGReq _) sol_nil)) rfl (lb rfl))) (sats_opds (.cons rfl .nil) (sats_app (sats_fresh_all (by exact rfl)) (sats_app (sats_needs (by first | exact all_nil | exact all_cons rfl all_nil | exact all_cons rfl (all_cons rfl all_nil) | exact all_cons rfl (all_cons rfl (all_cons rfl all_nil)) | exact all_cons rfl (all_cons rfl (all_cons rfl (all_cons rfl all_nil))))) (sats_lives rfl)))) ?_
  refine st1 rfl ((op_call Try.func12 rfl rfl (c_spec_LogBegun l hl2) (by exact (.cons (by first | exact Shares.c rfl | exact Shares.nilc | exact Shares.ref rfl (rowGReq.rnobox true _) (rowGReq.rshare true _)) .nil)) rfl (by first | exact .inl rfl | exact .inr (sol_cons rfl sol_nil)) rfl (lb rfl))) (sats_opds (.cons rfl .nil) (sats_app (sats_fresh_all (by exact rfl)) (sats_app (sats_needs (by first | exact all_nil | exact all_cons rfl all_nil | exact all_cons rfl (all_cons rfl all_nil) | exact all_cons rfl (all_cons rfl (all_cons rfl all_nil)) | exact all_cons rfl (all_cons rfl (all_cons rfl (all_cons rfl all_nil))))) (sats_lives rfl)))) ?_
  refine st1 rfl (op_assign (lb rfl)) (so rfl sn) ?_
  refine rg_nil_seq ?_
  refine kseq_normal ?_
  refine acode_seq ?_
  refine acode_region ?_
  refine st1 rfl (op_move (lb rfl)) (so rfl sn) ?_
  refine st1 rfl ((op_call Try.func13 rfl rfl (c_toEngReqS l hl2 hls2) (by exact (.cons (by first | exact Shares.c rfl | exact Shares.nilc | exact Shares.ref rfl (rowGReq.rnobox true _) (rowGReq.rshare true _)) .nil)) rfl (by first | exact .inl rfl | exact .inr (sol_cons (sl_solid rowGReq _) sol_nil)) rfl (lb rfl))) (sats_opds (.cons rfl .nil) (sats_app (sats_fresh_all (by exact rfl)) (sats_app (sats_needs (by first | exact all_nil | exact all_cons rfl all_nil | exact all_cons rfl (all_cons rfl all_nil) | exact all_cons rfl (all_cons rfl (all_cons rfl all_nil)) | exact all_cons rfl (all_cons rfl (all_cons rfl (all_cons rfl all_nil))))) (sats_lives rfl)))) ?_
  refine st1 rfl (op_assign (lb rfl)) (so rfl sn) ?_
  refine rg_nil_seq ?_
  refine kseq_normal ?_
  refine acode_seq ?_
  refine acode_region ?_
  refine st1 rfl (op_move (lb rfl)) (so rfl sn) ?_
  refine st1 rfl ((op_call Try.func14 rfl rfl (c_impl_LogBegun l hl2) (by exact (.cons (by first | exact Shares.c rfl | exact Shares.nilc | exact Shares.ref rfl (rowGReq.rnobox true _) (rowGReq.rshare true _)) .nil)) rfl (by first | exact .inl rfl | exact .inr (sol_cons rfl sol_nil)) rfl (lb rfl))) (sats_opds (.cons rfl .nil) (sats_app (sats_fresh_all (by exact rfl)) (sats_app (sats_needs (by first | exact all_nil | exact all_cons rfl all_nil | exact all_cons rfl (all_cons rfl all_nil) | exact all_cons rfl (all_cons rfl (all_cons rfl all_nil)) | exact all_cons rfl (all_cons rfl (all_cons rfl (all_cons rfl all_nil))))) (sats_lives rfl)))) ?_
  refine st1 rfl (op_assign (lb rfl)) (so rfl sn) ?_
  refine rg_nil_seq ?_
  refine kseq_normal ?_
  refine acode_seq ?_
  refine acode_seq ?_
  refine acode_region ?_
  refine st1 rfl (op_move (lb rfl)) (so rfl sn) ?_
  refine st1 rfl (op_move (lb rfl)) (so rfl sn) ?_
  refine st1 rfl (op_neq (lb rfl)) (so rfl (so rfl sn)) ?_
  refine rg_nil_seq ?_
  refine kseq_normal ?_
  refine acode_cond rfl (fun hc1 => ?_) (fun hc1 => ?_)
  ·
   simp only [decide_eq_true_eq, decide_eq_false_iff_not, Bool.not_eq_true', Bool.not_eq_false', Bool.not_not, Bool.not_true, Bool.not_false] at hc1
   exact absurd (by simp) hc1
  ·
   simp only [decide_eq_true_eq, decide_eq_false_iff_not, Bool.not_eq_true', Bool.not_eq_false', Bool.not_not, Bool.not_true, Bool.not_false] at hc1
   refine acode_skip ?_
   refine kseq_normal ?_
   refine acode_seq ?_
   refine acode_seq ?_
   refine acode_region ?_
   refine st1 rfl (op_move (lb rfl)) (so rfl sn) ?_
   refine st1 rfl (op_move (lb rfl)) (so rfl sn) ?_
   refine st1 rfl ((op_call Try.func13 rfl rfl (c_toEngReqS l hl2 hls2) (by exact (.cons (by first | exact Shares.c rfl | exact Shares.nilc | exact Shares.ref rfl (rowGReq.rnobox true _) (rowGReq.rshare true _)) .nil)) rfl (by first | exact .inl rfl | exact .inr (sol_cons (sl_solid rowGReq _) sol_nil)) rfl (lb rfl))) (sats_opds (.cons rfl .nil) (sats_app (sats_fresh_all (by exact rfl)) (sats_app (sats_needs (by first | exact all_nil | exact all_cons rfl all_nil | exact all_cons rfl (all_cons rfl all_nil) | exact all_cons rfl (all_cons rfl (all_cons rfl all_nil)) | exact all_cons rfl (all_cons rfl (all_cons rfl (all_cons rfl all_nil))))) (sats_lives rfl)))) ?_
   refine st1 rfl ((op_call Try.func15 rfl rfl (c_eqEngReqS l l hl2 hls2 hls2) (by exact (.cons (by first | exact Shares.c rfl | exact Shares.nilc | exact Shares.ref rfl (rowGReq.rnobox true _) (rowGReq.rshare true _)) (.cons (by first | exact Shares.c rfl | exact Shares.nilc | exact Shares.ref rfl (rowGReq.rnobox true _) (rowGReq.rshare true _)) .nil))) rfl (by first | exact .inl rfl | exact .inr (sol_cons rfl sol_nil)) rfl (lb rfl))) (sats_opds (.cons rfl (.cons rfl .nil)) (sats_app (sats_fresh_all (by exact rfl)) (sats_app (sats_needs (by first | exact all_nil | exact all_cons rfl all_nil | exact all_cons rfl (all_cons rfl all_nil) | exact all_cons rfl (all_cons rfl (all_cons rfl all_nil)) | exact all_cons rfl (all_cons rfl (all_cons rfl (all_cons rfl all_nil))))) (sats_lives rfl)))) ?_
   refine st1 rfl (op_not (lb rfl)) (so rfl sn) ?_
   refine rg_nil_seq ?_
   refine kseq_normal ?_
   refine acode_cond rfl (fun hc2 => ?_) (fun hc2 => ?_)
   ·
    simp only [decide_eq_true_eq, decide_eq_false_iff_not, Bool.not_eq_true', Bool.not_eq_false', Bool.not_not, Bool.not_true, Bool.not_false] at hc2
    exact absurd (by simp) hc2
   ·
    simp only [decide_eq_true_eq, decide_eq_false_iff_not, Bool.not_eq_true', Bool.not_eq_false', Bool.not_not, Bool.not_true, Bool.not_false] at hc2
    refine acode_skip ?_
    refine kseq_normal ?_
    refine acode_seq ?_
    refine acode_region ?_
    refine st1 rfl (op_assign (lb rfl)) (so rfl sn) ?_
    refine rg_nil_seq ?_
    refine kseq_normal ?_
    refine acode_ret ?_
    exact fin_retL (.cons (by first | exact .c rfl | exact .ref rfl rfl | exact .nilc rfl) .nil) (by rfl) (by rfl)
end Go.Am
