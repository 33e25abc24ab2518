/- The laws' own functions over data: what is equal. The step scripts are printed by gen.py. Own work. -/
import Derived.Test.YtcbpckbehdaloaaAmYm
import Derived.Test.YtcbpckbehdaloaaAmS
import Derived.Test.YtcbpckbehdaloaaAmV
set_option linter.unusedSimpArgs false
set_option linter.unusedVariables false
set_option maxRecDepth 100000
namespace Go.Am
open Go Go.Proofs

theorem take_ext {α : Type} {a b : List α} {k : Nat} (ha : k < a.length) (hb : k < b.length) (h : a.take k = b.take k) (e : a[k] = b[k]) : a.take (k + 1) = b.take (k + 1) := by
  rw [List.take_succ_eq_append_getElem ha, List.take_succ_eq_append_getElem hb, h, e]
theorem take_all {α : Type} {a b : List α} {k : Nat} (h : a.take k = b.take k) (ha : a.length ≤ k) (hb : b.length ≤ k) : a = b := by
  rwa [List.take_of_length_le ha, List.take_of_length_le hb] at h

theorem c_eqIntS (a b : List Int) (hl : a.length ≤ 1048576) : FnP Try.prog 26 [.c (cIs false a), .c (cIs false b)] [.c (cB (decide (a = b)))] := by
 refine fnp_intro (n := 26) (rvs := [.tmp 4]) Try.func26 rfl rfl rfl (lb rfl) rfl ?_
 refine sr ?_
 refine as_ (lb rfl) rfl ?_
 refine nk ?_
 refine acode_seq ?_
 refine sr ?_
 refine mv (lb rfl) rfl ?_
 refine st1 rfl (op_len_sh Try.underlying34 (lb rfl)) (so rfl sn) ?_
 refine mv (lb rfl) rfl ?_
 refine st1 rfl (op_len_sh Try.underlying34 (lb rfl)) (so rfl sn) ?_
 refine st1 rfl (op_neq (lb rfl)) (so rfl (so rfl sn)) ?_
 refine nk ?_
 refine acode_cond rfl (fun hc0 => ?_) (fun hc0 => ?_)
 ·
  simp only [dq] at hc0
  refine sr ?_
  refine as_ (lb rfl) rfl ?_
  refine nkt ?_
  exact kseq_ret (fin_retL (.cons (by first | exact .c rfl | exact .ref rfl rfl | exact .nilc rfl) .nil) (by rfl) (by exact resB (decide_eq_false (fun e => hc0 (by rw [e]))).symm))
 ·
  simp only [dq] at hc0
  refine pk ?_
  refine acode_seq ?_
  refine sr ?_
  refine as_ (lb rfl) rfl ?_
  refine nk ?_
  refine acode_block ?_
  refine acode_loopk (xs := [0, 1]) (ys := []) (S := Nat) (fun s => [(5, aInt (s : Int))]) (fun s => []) (fun s => s ≤ a.length ∧ a.take s = b.take s) (fun s => a.length - s) 0 (.cons rfl (.cons rfl .nil)) .nil ?em ?eo rfl ?ei ?round
  case em => exact .cons rfl (by first | rfl | simp) (.nil)
  case eo => exact .nil
  case ei => exact ⟨Nat.zero_le _, by simp⟩
  case round =>
   rintro k ⟨h2, h3⟩
   refine acode_seq ?_
   refine sr ?_
   refine mv (lb rfl) rfl ?_
   refine mv (lb rfl) rfl ?_
   refine st1 rfl (op_len_sh Try.underlying34 (lb rfl)) (so rfl sn) ?_
   refine st1 rfl (op_lss (lb rfl)) (so rfl (so rfl sn)) ?_
   refine nk ?_
   refine acode_cond rfl (fun hc1 => ?_) (fun hc1 => ?_)
   ·
    simp only [dq] at hc1
    refine pk ?_
    refine acode_seq ?_
    refine acode_block ?_
    refine acode_seq ?_
    refine acode_region_draw mixed rfl ?_
    refine mv (lb rfl) rfl ?_
    refine mv (lb rfl) rfl ?_
    refine st1 rfl (op_index_shN Try.underlying34 Try.sizeOf3 (lb rfl) (by omega)) (so rfl (so rfl sn)) ?_
    refine st1 rfl (op_load_pts Try.isAgg3 rfl (lb rfl)) (so rfl sn) ?_
    refine mv (lb rfl) rfl ?_
    refine mv (lb rfl) rfl ?_
    refine st1 rfl (op_index_shN Try.underlying34 Try.sizeOf3 (lb rfl) (by omega)) (so rfl (so rfl sn)) ?_
    refine st1 rfl (op_load_pts Try.isAgg3 rfl (lb rfl)) (so rfl sn) ?_
    refine st1 rfl (op_neq (lb rfl)) (so rfl (so rfl sn)) ?_
    refine rg_nil_draw rfl ?_
    refine kseq_normal ?_
    refine acode_cond rfl (fun hc2 => ?_) (fun hc2 => ?_)
    ·
     simp only [dq] at hc2
     refine sr ?_
     refine as_ (lb rfl) rfl ?_
     refine nkt ?_
     exact kblk_ret (kseq_ret (klg_ret (kblk_ret (kseq_ret (fin_retL (.cons (by first | exact .c rfl | exact .ref rfl rfl | exact .nilc rfl) .nil) (by rfl) (by exact resB (decide_eq_false (fun e => hc2 (by subst e; rfl))).symm))))))
    ·
     simp only [dq] at hc2
     refine acode_skip ?_
     refine kblk_normal (kseq_normal ?_)
     refine acode_region ?_
     refine mv (lb rfl) rfl ?_
     refine st1 rfl (op_add (lb rfl) (by omega)) (so rfl (so rfl sn)) ?_
     refine as_ (lb rfl) rfl ?_
     refine rg_nil_seq ?_
     refine klg_back (k + 1) ?bi ?bm ?bl
     case bi => exact ⟨by omega, take_ext (by omega) (by omega) h3 hc2⟩
     case bm => omega
     case bl => exact le_stU idn (.cons rfl (by first | rfl | simp) (.cons rfl (by first | rfl | simp) (.cons rfl (by first | rfl | simp) (.nil)))) (.nil) rfl
   ·
    simp only [dq] at hc1
    refine acode_exit ?_
    refine kseq_exit (klg_exit (kblk_hit (kseq_normal ?_)))
    refine sr ?_
    refine as_ (lb rfl) rfl ?_
    refine nkt ?_
    exact fin_retL (.cons (by first | exact .c rfl | exact .ref rfl rfl | exact .nilc rfl) .nil) (by rfl) (by exact resB (decide_eq_true (take_all h3 (by omega) (by omega))).symm)

theorem c_eqExpAsk (x y : GAsk) : FnP Try.prog 100 [.row (GAsk.cells false x), .row (GAsk.cells false y)] [.c (cB (decide (x = y)))] := by
 refine fnp_intro (n := 20) (rvs := [.tmp 4]) Try.func100 rfl rfl rfl (lb rfl) rfl ?_
 refine sr ?_
 refine st1 rfl (op_box rfl (lb rfl)) (so rfl (sf rfl (sats_lives rfl))) ?_
 refine st1 rfl (op_box rfl (lb rfl)) (so rfl (sf rfl (sats_lives rfl))) ?_
 refine as_ (lb rfl) rfl ?_
 refine nk ?_
 refine acode_seq ?_
 refine sr ?_
 refine fdb (off := 0) Try.underlying88 Try.sizeOf3 rfl rfl rfl (lb rfl) rfl rfl ?_
 refine ldb Try.isAgg3 rfl (lb rfl) rfl rfl ?_
 refine fdb (off := 0) Try.underlying88 Try.sizeOf3 rfl rfl rfl (lb rfl) rfl rfl ?_
 refine ldb Try.isAgg3 rfl (lb rfl) rfl rfl ?_
 refine st1 rfl (op_neq (lb rfl)) (so rfl (so rfl sn)) ?_
 refine nk ?_
 refine acode_cond rfl (fun hc0 => ?_) (fun hc0 => ?_)
 ·
  simp only [dq] at hc0
  refine sr ?_
  refine as_ (lb rfl) rfl ?_
  refine nkt ?_
  exact kseq_ret (fin_retL (.cons (by first | exact .c rfl | exact .ref rfl rfl | exact .nilc rfl) .nil) (by rfl) (by exact resB (decide_eq_false (fun e => hc0 (by rw [e]))).symm))
 ·
  simp only [dq] at hc0
  refine pk ?_
  refine acode_seq ?_
  refine sr ?_
  refine fdb (off := 1) Try.underlying88 Try.sizeOf3 rfl rfl rfl (lb rfl) rfl rfl ?_
  refine ldb Try.isAgg3 rfl (lb rfl) rfl rfl ?_
  refine fdb (off := 1) Try.underlying88 Try.sizeOf3 rfl rfl rfl (lb rfl) rfl rfl ?_
  refine ldb Try.isAgg3 rfl (lb rfl) rfl rfl ?_
  refine st1 rfl (op_neq (lb rfl)) (so rfl (so rfl sn)) ?_
  refine nk ?_
  refine acode_cond rfl (fun hc1 => ?_) (fun hc1 => ?_)
  ·
   simp only [dq] at hc1
   refine sr ?_
   refine as_ (lb rfl) rfl ?_
   refine nkt ?_
   exact kseq_ret (fin_retL (.cons (by first | exact .c rfl | exact .ref rfl rfl | exact .nilc rfl) .nil) (by rfl) (by exact resB (decide_eq_false (fun e => hc1 (by rw [e]))).symm))
  ·
   simp only [dq] at hc1
   refine pk ?_
   refine acode_seq ?_
   refine sr ?_
   refine fdb (off := 2) Try.underlying88 Try.sizeOf3 rfl rfl rfl (lb rfl) rfl rfl ?_
   refine ldb Try.isAgg3 rfl (lb rfl) rfl rfl ?_
   refine fdb (off := 2) Try.underlying88 Try.sizeOf3 rfl rfl rfl (lb rfl) rfl rfl ?_
   refine ldb Try.isAgg3 rfl (lb rfl) rfl rfl ?_
   refine st1 rfl (op_neq (lb rfl)) (so rfl (so rfl sn)) ?_
   refine nk ?_
   refine acode_cond rfl (fun hc2 => ?_) (fun hc2 => ?_)
   ·
    simp only [dq] at hc2
    refine sr ?_
    refine as_ (lb rfl) rfl ?_
    refine nkt ?_
    exact kseq_ret (fin_retL (.cons (by first | exact .c rfl | exact .ref rfl rfl | exact .nilc rfl) .nil) (by rfl) (by exact resB (decide_eq_false (fun e => hc2 (by rw [e]))).symm))
   ·
    simp only [dq] at hc2
    refine pk ?_
    refine sr ?_
    refine as_ (lb rfl) rfl ?_
    refine nkt ?_
    exact fin_retL (.cons (by first | exact .c rfl | exact .ref rfl rfl | exact .nilc rfl) .nil) (by rfl) (by exact resB (decide_eq_true (by cases x; cases y; simp_all)).symm)

theorem c_eqNetFlow (x y : GFlow) : FnP Try.prog 151 [.row (GFlow.cells false x), .row (GFlow.cells false y)] [.c (cB (decide (x = y)))] := by
 refine fnp_intro (n := 16) (rvs := [.tmp 4]) Try.func151 rfl rfl rfl (lb rfl) rfl ?_
 refine sr ?_
 refine st1 rfl (op_box rfl (lb rfl)) (so rfl (sf rfl (sats_lives rfl))) ?_
 refine st1 rfl (op_box rfl (lb rfl)) (so rfl (sf rfl (sats_lives rfl))) ?_
 refine as_ (lb rfl) rfl ?_
 refine nk ?_
 refine acode_seq ?_
 refine sr ?_
 refine fdb (off := 0) Try.underlying181 Try.sizeOf3 rfl rfl rfl (lb rfl) rfl rfl ?_
 refine ldb Try.isAgg3 rfl (lb rfl) rfl rfl ?_
 refine fdb (off := 0) Try.underlying181 Try.sizeOf3 rfl rfl rfl (lb rfl) rfl rfl ?_
 refine ldb Try.isAgg3 rfl (lb rfl) rfl rfl ?_
 refine st1 rfl (op_neq (lb rfl)) (so rfl (so rfl sn)) ?_
 refine nk ?_
 refine acode_cond rfl (fun hc0 => ?_) (fun hc0 => ?_)
 ·
  simp only [dq] at hc0
  refine sr ?_
  refine as_ (lb rfl) rfl ?_
  refine nkt ?_
  exact kseq_ret (fin_retL (.cons (by first | exact .c rfl | exact .ref rfl rfl | exact .nilc rfl) .nil) (by rfl) (by exact resB (decide_eq_false (fun e => hc0 (by rw [e]))).symm))
 ·
  simp only [dq] at hc0
  refine pk ?_
  refine acode_seq ?_
  refine sr ?_
  refine fdb (off := 1) Try.underlying181 Try.sizeOf88 rfl rfl rfl (lb rfl) rfl rfl ?_
  refine st1 rfl (op_load_bx_row Try.isAgg88 Try.sizeOf88 rfl rfl (lb rfl)) (so rfl (sb rfl sn)) ?_
  refine fdb (off := 1) Try.underlying181 Try.sizeOf88 rfl rfl rfl (lb rfl) rfl rfl ?_
  refine st1 rfl (op_load_bx_row Try.isAgg88 Try.sizeOf88 rfl rfl (lb rfl)) (so rfl (sb rfl sn)) ?_
  refine st1 rfl ((op_call Try.func100 rfl rfl (c_eqExpAsk x.if_ y.if_) (by exact (.cons (by first | exact Shares.row rfl | exact (Shares.aggCons (by first | exact Shares.c rfl) (Shares.aggCons (by first | exact Shares.c rfl) (Shares.aggCons (by first | exact Shares.c rfl) Shares.aggNil)))) (.cons (by first | exact Shares.row rfl | exact (Shares.aggCons (by first | exact Shares.c rfl) (Shares.aggCons (by first | exact Shares.c rfl) (Shares.aggCons (by first | exact Shares.c rfl) Shares.aggNil)))) .nil))) rfl (by first | exact .inl rfl | exact .inr (sol_cons rfl sol_nil)) rfl (lb rfl))) (sats_opds (.cons rfl (.cons rfl .nil)) (sats_app (sats_fresh_all (by exact rfl)) (sats_app (sats_needs (by first | exact all_nil | exact all_cons rfl all_nil | exact all_cons rfl (all_cons rfl all_nil) | exact all_cons rfl (all_cons rfl (all_cons rfl all_nil)) | exact all_cons rfl (all_cons rfl (all_cons rfl (all_cons rfl all_nil))))) (sats_lives rfl)))) ?_
  refine st1 rfl (op_not (lb rfl)) (so rfl sn) ?_
  refine nk ?_
  refine acode_cond rfl (fun hc1 => ?_) (fun hc1 => ?_)
  ·
   simp only [dq] at hc1
   refine sr ?_
   refine as_ (lb rfl) rfl ?_
   refine nkt ?_
   exact kseq_ret (fin_retL (.cons (by first | exact .c rfl | exact .ref rfl rfl | exact .nilc rfl) .nil) (by rfl) (by exact resB (decide_eq_false (fun e => hc1 (by rw [e]))).symm))
  ·
   simp only [dq] at hc1
   refine pk ?_
   refine sr ?_
   refine as_ (lb rfl) rfl ?_
   refine nkt ?_
   exact fin_retL (.cons (by first | exact .c rfl | exact .ref rfl rfl | exact .nilc rfl) .nil) (by rfl) (by exact resB (decide_eq_true (by cases x; cases y; simp_all)).symm)

theorem c_eqNetFlowS (a b : List GFlow) (hl : a.length ≤ 1048576) : FnP Try.prog 142 [.c (.sl false 4 (a.map (GFlow.cells false))), .c (.sl false 4 (b.map (GFlow.cells false)))] [.c (cB (decide (a = b)))] := by
 refine fnp_intro (n := 27) (rvs := [.tmp 4]) Try.func142 rfl rfl rfl (lb rfl) rfl ?_
 refine sr ?_
 refine as_ (lb rfl) rfl ?_
 refine nk ?_
 refine acode_seq ?_
 refine sr ?_
 refine mv (lb rfl) rfl ?_
 refine st1 rfl (op_len_sh Try.underlying117 (lb rfl)) (so rfl sn) ?_
 refine mv (lb rfl) rfl ?_
 refine st1 rfl (op_len_sh Try.underlying117 (lb rfl)) (so rfl sn) ?_
 refine st1 rfl (op_neq (lb rfl)) (so rfl (so rfl sn)) ?_
 refine nk ?_
 refine acode_cond rfl (fun hc0 => ?_) (fun hc0 => ?_)
 ·
  simp only [dq] at hc0
  refine sr ?_
  refine as_ (lb rfl) rfl ?_
  refine nkt ?_
  exact kseq_ret (fin_retL (.cons (by first | exact .c rfl | exact .ref rfl rfl | exact .nilc rfl) .nil) (by rfl) (by exact resB (decide_eq_false (fun e => hc0 (by rw [e]))).symm))
 ·
  simp only [dq] at hc0
  refine pk ?_
  refine acode_seq ?_
  refine sr ?_
  refine as_ (lb rfl) rfl ?_
  refine nk ?_
  refine acode_block ?_
  refine acode_loopk (xs := [0, 1]) (ys := []) (S := Nat) (fun s => [(5, aInt (s : Int))]) (fun s => []) (fun s => s ≤ a.length ∧ a.take s = b.take s) (fun s => a.length - s) 0 (.cons rfl (.cons rfl .nil)) .nil ?em ?eo rfl ?ei ?round
  case em => exact .cons rfl (by first | rfl | simp) (.nil)
  case eo => exact .nil
  case ei => exact ⟨Nat.zero_le _, by simp⟩
  case round =>
   rintro k ⟨h2, h3⟩
   refine acode_seq ?_
   refine sr ?_
   refine mv (lb rfl) rfl ?_
   refine mv (lb rfl) rfl ?_
   refine st1 rfl (op_len_sh Try.underlying117 (lb rfl)) (so rfl sn) ?_
   refine st1 rfl (op_lss (lb rfl)) (so rfl (so rfl sn)) ?_
   refine nk ?_
   refine acode_cond rfl (fun hc1 => ?_) (fun hc1 => ?_)
   ·
    simp only [dq] at hc1
    refine pk ?_
    refine acode_seq ?_
    refine acode_block ?_
    refine acode_seq ?_
    refine acode_region_draw mixed rfl ?_
    refine mv (lb rfl) rfl ?_
    refine mv (lb rfl) rfl ?_
    refine st1 rfl (op_index_shN Try.underlying117 Try.sizeOf181 (lb rfl) (by omega)) (so rfl (so rfl sn)) ?_
    refine st1 rfl (op_load_pts_all Try.isAgg181 Try.sizeOf181 rfl (lb rfl)) (so rfl sn) ?_
    refine mv (lb rfl) rfl ?_
    refine mv (lb rfl) rfl ?_
    refine st1 rfl (op_index_shN Try.underlying117 Try.sizeOf181 (lb rfl) (by omega)) (so rfl (so rfl sn)) ?_
    refine st1 rfl (op_load_pts_all Try.isAgg181 Try.sizeOf181 rfl (lb rfl)) (so rfl sn) ?_
    refine st1 rfl ((op_call Try.func151 rfl rfl (c_eqNetFlow (a[k]'(by omega)) (b[k]'(by omega))) (by exact (.cons (by first | exact Shares.row rfl | exact (Shares.aggCons (by first | exact Shares.c rfl) (Shares.aggCons (by first | exact Shares.c rfl) (Shares.aggCons (by first | exact Shares.c rfl) (Shares.aggCons (by first | exact Shares.c rfl) Shares.aggNil))))) (.cons (by first | exact Shares.row rfl | exact (Shares.aggCons (by first | exact Shares.c rfl) (Shares.aggCons (by first | exact Shares.c rfl) (Shares.aggCons (by first | exact Shares.c rfl) (Shares.aggCons (by first | exact Shares.c rfl) Shares.aggNil))))) .nil))) rfl (by first | exact .inl rfl | exact .inr (sol_cons rfl sol_nil)) rfl (lb rfl))) (sats_opds (.cons rfl (.cons rfl .nil)) (sats_app (sats_fresh_all (by exact rfl)) (sats_app (sats_needs (by first | exact all_nil | exact all_cons rfl all_nil | exact all_cons rfl (all_cons rfl all_nil) | exact all_cons rfl (all_cons rfl (all_cons rfl all_nil)) | exact all_cons rfl (all_cons rfl (all_cons rfl (all_cons rfl all_nil))))) (sats_lives rfl)))) ?_
    refine st1 rfl (op_not (lb rfl)) (so rfl sn) ?_
    refine rg_nil_draw rfl ?_
    refine kseq_normal ?_
    refine acode_cond rfl (fun hc2 => ?_) (fun hc2 => ?_)
    ·
     simp only [dq] at hc2
     refine sr ?_
     refine as_ (lb rfl) rfl ?_
     refine nkt ?_
     exact kblk_ret (kseq_ret (klg_ret (kblk_ret (kseq_ret (fin_retL (.cons (by first | exact .c rfl | exact .ref rfl rfl | exact .nilc rfl) .nil) (by rfl) (by exact resB (decide_eq_false (fun e => hc2 (by subst e; rfl))).symm))))))
    ·
     simp only [dq] at hc2
     refine acode_skip ?_
     refine kblk_normal (kseq_normal ?_)
     refine acode_region ?_
     refine mv (lb rfl) rfl ?_
     refine st1 rfl (op_add (lb rfl) (by omega)) (so rfl (so rfl sn)) ?_
     refine as_ (lb rfl) rfl ?_
     refine rg_nil_seq ?_
     refine klg_back (k + 1) ?bi ?bm ?bl
     case bi => exact ⟨by omega, take_ext (by omega) (by omega) h3 hc2⟩
     case bm => omega
     case bl => exact le_stU idn (.cons rfl (by first | rfl | simp) (.cons rfl (by first | rfl | simp) (.cons rfl (by first | rfl | simp) (.nil)))) (.nil) rfl
   ·
    simp only [dq] at hc1
    refine acode_exit ?_
    refine kseq_exit (klg_exit (kblk_hit (kseq_normal ?_)))
    refine sr ?_
    refine as_ (lb rfl) rfl ?_
    refine nkt ?_
    exact fin_retL (.cons (by first | exact .c rfl | exact .ref rfl rfl | exact .nilc rfl) .nil) (by rfl) (by exact resB (decide_eq_true (take_all h3 (by omega) (by omega))).symm)

theorem c_eqNetTask (x y : GTask) (hx : GTask.lens (· ≤ 1048576) x) (hy : GTask.lens (· ≤ 1048576) y) : FnP Try.prog 129 [.row (GTask.cells false x), .row (GTask.cells false y)] [.c (cB (decide (x = y)))] := by
 refine fnp_intro (n := 53) (rvs := [.tmp 4]) Try.func129 rfl rfl rfl (lb rfl) rfl ?_
 refine sr ?_
 refine st1 rfl (op_box rfl (lb rfl)) (so rfl (sf rfl (sats_lives rfl))) ?_
 refine st1 rfl (op_box rfl (lb rfl)) (so rfl (sf rfl (sats_lives rfl))) ?_
 refine as_ (lb rfl) rfl ?_
 refine nk ?_
 refine acode_seq ?_
 refine sr ?_
 refine fdb (off := 0) Try.underlying119 Try.sizeOf3 rfl rfl rfl (lb rfl) rfl rfl ?_
 refine ldb Try.isAgg3 rfl (lb rfl) rfl rfl ?_
 refine fdb (off := 0) Try.underlying119 Try.sizeOf3 rfl rfl rfl (lb rfl) rfl rfl ?_
 refine ldb Try.isAgg3 rfl (lb rfl) rfl rfl ?_
 refine st1 rfl (op_neq (lb rfl)) (so rfl (so rfl sn)) ?_
 refine nk ?_
 refine acode_cond rfl (fun hc0 => ?_) (fun hc0 => ?_)
 ·
  simp only [dq] at hc0
  refine sr ?_
  refine as_ (lb rfl) rfl ?_
  refine nkt ?_
  exact kseq_ret (fin_retL (.cons (by first | exact .c rfl | exact .ref rfl rfl | exact .nilc rfl) .nil) (by rfl) (by exact resB (decide_eq_false (fun e => hc0 (by rw [e]))).symm))
 ·
  simp only [dq] at hc0
  refine pk ?_
  refine acode_seq ?_
  refine sr ?_
  refine fdb (off := 1) Try.underlying119 Try.sizeOf3 rfl rfl rfl (lb rfl) rfl rfl ?_
  refine ldb Try.isAgg3 rfl (lb rfl) rfl rfl ?_
  refine fdb (off := 1) Try.underlying119 Try.sizeOf3 rfl rfl rfl (lb rfl) rfl rfl ?_
  refine ldb Try.isAgg3 rfl (lb rfl) rfl rfl ?_
  refine st1 rfl (op_neq (lb rfl)) (so rfl (so rfl sn)) ?_
  refine nk ?_
  refine acode_cond rfl (fun hc1 => ?_) (fun hc1 => ?_)
  ·
   simp only [dq] at hc1
   refine sr ?_
   refine as_ (lb rfl) rfl ?_
   refine nkt ?_
   exact kseq_ret (fin_retL (.cons (by first | exact .c rfl | exact .ref rfl rfl | exact .nilc rfl) .nil) (by rfl) (by exact resB (decide_eq_false (fun e => hc1 (by rw [e]))).symm))
  ·
   simp only [dq] at hc1
   refine pk ?_
   refine acode_seq ?_
   refine sr ?_
   refine fdb (off := 2) Try.underlying119 Try.sizeOf34 rfl rfl rfl (lb rfl) rfl rfl ?_
   refine ldb Try.isAgg34 rfl (lb rfl) rfl rfl ?_
   refine fdb (off := 2) Try.underlying119 Try.sizeOf34 rfl rfl rfl (lb rfl) rfl rfl ?_
   refine ldb Try.isAgg34 rfl (lb rfl) rfl rfl ?_
   refine st1 rfl ((op_call Try.func26 rfl rfl (c_eqIntS x.in_ y.in_ hx.1) (by exact (.cons (by first | exact Shares.c rfl | exact Shares.nilc | exact Shares.ref rfl (rowI.rnobox _ _) (rowI.rshare _ _)) (.cons (by first | exact Shares.c rfl | exact Shares.nilc | exact Shares.ref rfl (rowI.rnobox _ _) (rowI.rshare _ _)) .nil))) rfl (by first | exact .inl rfl | exact .inr (sol_cons rfl sol_nil)) rfl (lb rfl))) (sats_opds (.cons rfl (.cons rfl .nil)) (sats_app (sats_fresh_all (by exact rfl)) (sats_app (sats_needs (by first | exact all_nil | exact all_cons rfl all_nil | exact all_cons rfl (all_cons rfl all_nil) | exact all_cons rfl (all_cons rfl (all_cons rfl all_nil)) | exact all_cons rfl (all_cons rfl (all_cons rfl (all_cons rfl all_nil))))) (sats_lives rfl)))) ?_
   refine st1 rfl (op_not (lb rfl)) (so rfl sn) ?_
   refine nk ?_
   refine acode_cond rfl (fun hc2 => ?_) (fun hc2 => ?_)
   ·
    simp only [dq] at hc2
    refine sr ?_
    refine as_ (lb rfl) rfl ?_
    refine nkt ?_
    exact kseq_ret (fin_retL (.cons (by first | exact .c rfl | exact .ref rfl rfl | exact .nilc rfl) .nil) (by rfl) (by exact resB (decide_eq_false (fun e => hc2 (by rw [e]))).symm))
   ·
    simp only [dq] at hc2
    refine pk ?_
    refine acode_seq ?_
    refine sr ?_
    refine fdb (off := 3) Try.underlying119 Try.sizeOf117 rfl rfl rfl (lb rfl) rfl rfl ?_
    refine ldb Try.isAgg117 rfl (lb rfl) rfl rfl ?_
    refine fdb (off := 3) Try.underlying119 Try.sizeOf117 rfl rfl rfl (lb rfl) rfl rfl ?_
    refine ldb Try.isAgg117 rfl (lb rfl) rfl rfl ?_
    refine st1 rfl ((op_call Try.func142 rfl rfl (c_eqNetFlowS x.out y.out hx.2.1) (by exact (.cons (by first | exact Shares.c rfl | exact Shares.nilc | exact Shares.ref rfl (rowGFlow.rnobox _ _) (rowGFlow.rshare _ _)) (.cons (by first | exact Shares.c rfl | exact Shares.nilc | exact Shares.ref rfl (rowGFlow.rnobox _ _) (rowGFlow.rshare _ _)) .nil))) rfl (by first | exact .inl rfl | exact .inr (sol_cons rfl sol_nil)) rfl (lb rfl))) (sats_opds (.cons rfl (.cons rfl .nil)) (sats_app (sats_fresh_all (by exact rfl)) (sats_app (sats_needs (by first | exact all_nil | exact all_cons rfl all_nil | exact all_cons rfl (all_cons rfl all_nil) | exact all_cons rfl (all_cons rfl (all_cons rfl all_nil)) | exact all_cons rfl (all_cons rfl (all_cons rfl (all_cons rfl all_nil))))) (sats_lives rfl)))) ?_
    refine st1 rfl (op_not (lb rfl)) (so rfl sn) ?_
    refine nk ?_
    refine acode_cond rfl (fun hc3 => ?_) (fun hc3 => ?_)
    ·
     simp only [dq] at hc3
     refine sr ?_
     refine as_ (lb rfl) rfl ?_
     refine nkt ?_
     exact kseq_ret (fin_retL (.cons (by first | exact .c rfl | exact .ref rfl rfl | exact .nilc rfl) .nil) (by rfl) (by exact resB (decide_eq_false (fun e => hc3 (by rw [e]))).symm))
    ·
     simp only [dq] at hc3
     refine pk ?_
     refine acode_seq ?_
     refine sr ?_
     refine fdb (off := 4) Try.underlying119 Try.sizeOf34 rfl rfl rfl (lb rfl) rfl rfl ?_
     refine ldb Try.isAgg34 rfl (lb rfl) rfl rfl ?_
     refine fdb (off := 4) Try.underlying119 Try.sizeOf34 rfl rfl rfl (lb rfl) rfl rfl ?_
     refine ldb Try.isAgg34 rfl (lb rfl) rfl rfl ?_
     refine st1 rfl ((op_call Try.func26 rfl rfl (c_eqIntS x.clear y.clear hx.2.2) (by exact (.cons (by first | exact Shares.c rfl | exact Shares.nilc | exact Shares.ref rfl (rowI.rnobox _ _) (rowI.rshare _ _)) (.cons (by first | exact Shares.c rfl | exact Shares.nilc | exact Shares.ref rfl (rowI.rnobox _ _) (rowI.rshare _ _)) .nil))) rfl (by first | exact .inl rfl | exact .inr (sol_cons rfl sol_nil)) rfl (lb rfl))) (sats_opds (.cons rfl (.cons rfl .nil)) (sats_app (sats_fresh_all (by exact rfl)) (sats_app (sats_needs (by first | exact all_nil | exact all_cons rfl all_nil | exact all_cons rfl (all_cons rfl all_nil) | exact all_cons rfl (all_cons rfl (all_cons rfl all_nil)) | exact all_cons rfl (all_cons rfl (all_cons rfl (all_cons rfl all_nil))))) (sats_lives rfl)))) ?_
     refine st1 rfl (op_not (lb rfl)) (so rfl sn) ?_
     refine nk ?_
     refine acode_cond rfl (fun hc4 => ?_) (fun hc4 => ?_)
     ·
      simp only [dq] at hc4
      refine sr ?_
      refine as_ (lb rfl) rfl ?_
      refine nkt ?_
      exact kseq_ret (fin_retL (.cons (by first | exact .c rfl | exact .ref rfl rfl | exact .nilc rfl) .nil) (by rfl) (by exact resB (decide_eq_false (fun e => hc4 (by rw [e]))).symm))
     ·
      simp only [dq] at hc4
      refine pk ?_
      refine acode_seq ?_
      refine sr ?_
      refine fdb (off := 5) Try.underlying119 Try.sizeOf3 rfl rfl rfl (lb rfl) rfl rfl ?_
      refine ldb Try.isAgg3 rfl (lb rfl) rfl rfl ?_
      refine fdb (off := 5) Try.underlying119 Try.sizeOf3 rfl rfl rfl (lb rfl) rfl rfl ?_
      refine ldb Try.isAgg3 rfl (lb rfl) rfl rfl ?_
      refine st1 rfl (op_neq (lb rfl)) (so rfl (so rfl sn)) ?_
      refine nk ?_
      refine acode_cond rfl (fun hc5 => ?_) (fun hc5 => ?_)
      ·
       simp only [dq] at hc5
       refine sr ?_
       refine as_ (lb rfl) rfl ?_
       refine nkt ?_
       exact kseq_ret (fin_retL (.cons (by first | exact .c rfl | exact .ref rfl rfl | exact .nilc rfl) .nil) (by rfl) (by exact resB (decide_eq_false (fun e => hc5 (by rw [e]))).symm))
      ·
       simp only [dq] at hc5
       refine pk ?_
       refine acode_seq ?_
       refine sr ?_
       refine fdb (off := 6) Try.underlying119 Try.sizeOf3 rfl rfl rfl (lb rfl) rfl rfl ?_
       refine ldb Try.isAgg3 rfl (lb rfl) rfl rfl ?_
       refine fdb (off := 6) Try.underlying119 Try.sizeOf3 rfl rfl rfl (lb rfl) rfl rfl ?_
       refine ldb Try.isAgg3 rfl (lb rfl) rfl rfl ?_
       refine st1 rfl (op_neq (lb rfl)) (so rfl (so rfl sn)) ?_
       refine nk ?_
       refine acode_cond rfl (fun hc6 => ?_) (fun hc6 => ?_)
       ·
        simp only [dq] at hc6
        refine sr ?_
        refine as_ (lb rfl) rfl ?_
        refine nkt ?_
        exact kseq_ret (fin_retL (.cons (by first | exact .c rfl | exact .ref rfl rfl | exact .nilc rfl) .nil) (by rfl) (by exact resB (decide_eq_false (fun e => hc6 (by rw [e]))).symm))
       ·
        simp only [dq] at hc6
        refine pk ?_
        refine acode_seq ?_
        refine sr ?_
        refine fdb (off := 7) Try.underlying119 Try.sizeOf3 rfl rfl rfl (lb rfl) rfl rfl ?_
        refine ldb Try.isAgg3 rfl (lb rfl) rfl rfl ?_
        refine fdb (off := 7) Try.underlying119 Try.sizeOf3 rfl rfl rfl (lb rfl) rfl rfl ?_
        refine ldb Try.isAgg3 rfl (lb rfl) rfl rfl ?_
        refine st1 rfl (op_neq (lb rfl)) (so rfl (so rfl sn)) ?_
        refine nk ?_
        refine acode_cond rfl (fun hc7 => ?_) (fun hc7 => ?_)
        ·
         simp only [dq] at hc7
         refine sr ?_
         refine as_ (lb rfl) rfl ?_
         refine nkt ?_
         exact kseq_ret (fin_retL (.cons (by first | exact .c rfl | exact .ref rfl rfl | exact .nilc rfl) .nil) (by rfl) (by exact resB (decide_eq_false (fun e => hc7 (by rw [e]))).symm))
        ·
         simp only [dq] at hc7
         refine pk ?_
         refine acode_seq ?_
         refine sr ?_
         refine fdb (off := 8) Try.underlying119 Try.sizeOf3 rfl rfl rfl (lb rfl) rfl rfl ?_
         refine ldb Try.isAgg3 rfl (lb rfl) rfl rfl ?_
         refine fdb (off := 8) Try.underlying119 Try.sizeOf3 rfl rfl rfl (lb rfl) rfl rfl ?_
         refine ldb Try.isAgg3 rfl (lb rfl) rfl rfl ?_
         refine st1 rfl (op_neq (lb rfl)) (so rfl (so rfl sn)) ?_
         refine nk ?_
         refine acode_cond rfl (fun hc8 => ?_) (fun hc8 => ?_)
         ·
          simp only [dq] at hc8
          refine sr ?_
          refine as_ (lb rfl) rfl ?_
          refine nkt ?_
          exact kseq_ret (fin_retL (.cons (by first | exact .c rfl | exact .ref rfl rfl | exact .nilc rfl) .nil) (by rfl) (by exact resB (decide_eq_false (fun e => hc8 (by rw [e]))).symm))
         ·
          simp only [dq] at hc8
          refine pk ?_
          refine sr ?_
          refine as_ (lb rfl) rfl ?_
          refine nkt ?_
          exact fin_retL (.cons (by first | exact .c rfl | exact .ref rfl rfl | exact .nilc rfl) .nil) (by rfl) (by exact resB (decide_eq_true (by cases x; cases y; simp_all)).symm)

theorem c_eqNetTaskS (a b : List GTask) (hl : a.length ≤ 1048576) (ha : ∀ y ∈ a, GTask.lens (· ≤ 1048576) y) (hb : ∀ y ∈ b, GTask.lens (· ≤ 1048576) y) : FnP Try.prog 82 [.c (.sl false 9 (a.map (GTask.cells false))), .c (.sl false 9 (b.map (GTask.cells false)))] [.c (cB (decide (a = b)))] := by
 refine fnp_intro (n := 27) (rvs := [.tmp 4]) Try.func82 rfl rfl rfl (lb rfl) rfl ?_
 refine sr ?_
 refine as_ (lb rfl) rfl ?_
 refine nk ?_
 refine acode_seq ?_
 refine sr ?_
 refine mv (lb rfl) rfl ?_
 refine st1 rfl (op_len_sh Try.underlying63 (lb rfl)) (so rfl sn) ?_
 refine mv (lb rfl) rfl ?_
 refine st1 rfl (op_len_sh Try.underlying63 (lb rfl)) (so rfl sn) ?_
 refine st1 rfl (op_neq (lb rfl)) (so rfl (so rfl sn)) ?_
 refine nk ?_
 refine acode_cond rfl (fun hc0 => ?_) (fun hc0 => ?_)
 ·
  simp only [dq] at hc0
  refine sr ?_
  refine as_ (lb rfl) rfl ?_
  refine nkt ?_
  exact kseq_ret (fin_retL (.cons (by first | exact .c rfl | exact .ref rfl rfl | exact .nilc rfl) .nil) (by rfl) (by exact resB (decide_eq_false (fun e => hc0 (by rw [e]))).symm))
 ·
  simp only [dq] at hc0
  refine pk ?_
  refine acode_seq ?_
  refine sr ?_
  refine as_ (lb rfl) rfl ?_
  refine nk ?_
  refine acode_block ?_
  refine acode_loopk (xs := [0, 1]) (ys := []) (S := Nat) (fun s => [(5, aInt (s : Int))]) (fun s => []) (fun s => s ≤ a.length ∧ a.take s = b.take s) (fun s => a.length - s) 0 (.cons rfl (.cons rfl .nil)) .nil ?em ?eo rfl ?ei ?round
  case em => exact .cons rfl (by first | rfl | simp) (.nil)
  case eo => exact .nil
  case ei => exact ⟨Nat.zero_le _, by simp⟩
  case round =>
   rintro k ⟨h2, h3⟩
   refine acode_seq ?_
   refine sr ?_
   refine mv (lb rfl) rfl ?_
   refine mv (lb rfl) rfl ?_
   refine st1 rfl (op_len_sh Try.underlying63 (lb rfl)) (so rfl sn) ?_
   refine st1 rfl (op_lss (lb rfl)) (so rfl (so rfl sn)) ?_
   refine nk ?_
   refine acode_cond rfl (fun hc1 => ?_) (fun hc1 => ?_)
   ·
    simp only [dq] at hc1
    refine pk ?_
    refine acode_seq ?_
    refine acode_block ?_
    refine acode_seq ?_
    refine acode_region_draw mixed rfl ?_
    refine mv (lb rfl) rfl ?_
    refine mv (lb rfl) rfl ?_
    refine st1 rfl (op_index_shN Try.underlying63 Try.sizeOf119 (lb rfl) (by omega)) (so rfl (so rfl sn)) ?_
    refine st1 rfl (op_load_pts_all Try.isAgg119 Try.sizeOf119 rfl (lb rfl)) (so rfl sn) ?_
    refine mv (lb rfl) rfl ?_
    refine mv (lb rfl) rfl ?_
    refine st1 rfl (op_index_shN Try.underlying63 Try.sizeOf119 (lb rfl) (by omega)) (so rfl (so rfl sn)) ?_
    refine st1 rfl (op_load_pts_all Try.isAgg119 Try.sizeOf119 rfl (lb rfl)) (so rfl sn) ?_
    refine st1 rfl ((op_call Try.func129 rfl rfl (c_eqNetTask (a[k]'(by omega)) (b[k]'(by omega)) (ha _ (List.getElem_mem _)) (hb _ (List.getElem_mem _))) (by exact (.cons (by first | exact Shares.row rfl | exact (Shares.aggCons (by first | exact Shares.c rfl) (Shares.aggCons (by first | exact Shares.c rfl) (Shares.aggCons (by first | exact Shares.c rfl | exact Shares.nilc | exact Shares.ref rfl (rowI.rnobox _ _) (rowI.rshare _ _)) (Shares.aggCons (by first | exact Shares.c rfl | exact Shares.nilc | exact Shares.ref rfl (rowGFlow.rnobox _ _) (rowGFlow.rshare _ _)) (Shares.aggCons (by first | exact Shares.c rfl | exact Shares.nilc | exact Shares.ref rfl (rowI.rnobox _ _) (rowI.rshare _ _)) (Shares.aggCons (by first | exact Shares.c rfl) (Shares.aggCons (by first | exact Shares.c rfl) (Shares.aggCons (by first | exact Shares.c rfl) (Shares.aggCons (by first | exact Shares.c rfl) Shares.aggNil)))))))))) (.cons (by first | exact Shares.row rfl | exact (Shares.aggCons (by first | exact Shares.c rfl) (Shares.aggCons (by first | exact Shares.c rfl) (Shares.aggCons (by first | exact Shares.c rfl | exact Shares.nilc | exact Shares.ref rfl (rowI.rnobox _ _) (rowI.rshare _ _)) (Shares.aggCons (by first | exact Shares.c rfl | exact Shares.nilc | exact Shares.ref rfl (rowGFlow.rnobox _ _) (rowGFlow.rshare _ _)) (Shares.aggCons (by first | exact Shares.c rfl | exact Shares.nilc | exact Shares.ref rfl (rowI.rnobox _ _) (rowI.rshare _ _)) (Shares.aggCons (by first | exact Shares.c rfl) (Shares.aggCons (by first | exact Shares.c rfl) (Shares.aggCons (by first | exact Shares.c rfl) (Shares.aggCons (by first | exact Shares.c rfl) Shares.aggNil)))))))))) .nil))) rfl (by first | exact .inl rfl | exact .inr (sol_cons rfl sol_nil)) rfl (lb rfl))) (sats_opds (.cons rfl (.cons rfl .nil)) (sats_app (sats_fresh_all (by exact rfl)) (sats_app (sats_needs (by first | exact all_nil | exact all_cons rfl all_nil | exact all_cons rfl (all_cons rfl all_nil) | exact all_cons rfl (all_cons rfl (all_cons rfl all_nil)) | exact all_cons rfl (all_cons rfl (all_cons rfl (all_cons rfl all_nil))))) (sats_lives rfl)))) ?_
    refine st1 rfl (op_not (lb rfl)) (so rfl sn) ?_
    refine rg_nil_draw rfl ?_
    refine kseq_normal ?_
    refine acode_cond rfl (fun hc2 => ?_) (fun hc2 => ?_)
    ·
     simp only [dq] at hc2
     refine sr ?_
     refine as_ (lb rfl) rfl ?_
     refine nkt ?_
     exact kblk_ret (kseq_ret (klg_ret (kblk_ret (kseq_ret (fin_retL (.cons (by first | exact .c rfl | exact .ref rfl rfl | exact .nilc rfl) .nil) (by rfl) (by exact resB (decide_eq_false (fun e => hc2 (by subst e; rfl))).symm))))))
    ·
     simp only [dq] at hc2
     refine acode_skip ?_
     refine kblk_normal (kseq_normal ?_)
     refine acode_region ?_
     refine mv (lb rfl) rfl ?_
     refine st1 rfl (op_add (lb rfl) (by omega)) (so rfl (so rfl sn)) ?_
     refine as_ (lb rfl) rfl ?_
     refine rg_nil_seq ?_
     refine klg_back (k + 1) ?bi ?bm ?bl
     case bi => exact ⟨by omega, take_ext (by omega) (by omega) h3 hc2⟩
     case bm => omega
     case bl => exact le_stU idn (.cons rfl (by first | rfl | simp) (.cons rfl (by first | rfl | simp) (.cons rfl (by first | rfl | simp) (.nil)))) (.nil) rfl
   ·
    simp only [dq] at hc1
    refine acode_exit ?_
    refine kseq_exit (klg_exit (kblk_hit (kseq_normal ?_)))
    refine sr ?_
    refine as_ (lb rfl) rfl ?_
    refine nkt ?_
    exact fin_retL (.cons (by first | exact .c rfl | exact .ref rfl rfl | exact .nilc rfl) .nil) (by rfl) (by exact resB (decide_eq_true (take_all h3 (by omega) (by omega))).symm)

theorem c_eqNetNet (x y : GNet) (hx : GNet.lens (· ≤ 1048576) x) (hy : GNet.lens (· ≤ 1048576) y) : FnP Try.prog 37 [.row (GNet.cells false x), .row (GNet.cells false y)] [.c (cB (decide (x = y)))] := by
 refine fnp_intro (n := 16) (rvs := [.tmp 4]) Try.func37 rfl rfl rfl (lb rfl) rfl ?_
 refine sr ?_
 refine st1 rfl (op_box rfl (lb rfl)) (so rfl (sf rfl (sats_lives rfl))) ?_
 refine st1 rfl (op_box rfl (lb rfl)) (so rfl (sf rfl (sats_lives rfl))) ?_
 refine as_ (lb rfl) rfl ?_
 refine nk ?_
 refine acode_seq ?_
 refine sr ?_
 refine fdb (off := 0) Try.underlying65 Try.sizeOf3 rfl rfl rfl (lb rfl) rfl rfl ?_
 refine ldb Try.isAgg3 rfl (lb rfl) rfl rfl ?_
 refine fdb (off := 0) Try.underlying65 Try.sizeOf3 rfl rfl rfl (lb rfl) rfl rfl ?_
 refine ldb Try.isAgg3 rfl (lb rfl) rfl rfl ?_
 refine st1 rfl (op_neq (lb rfl)) (so rfl (so rfl sn)) ?_
 refine nk ?_
 refine acode_cond rfl (fun hc0 => ?_) (fun hc0 => ?_)
 ·
  simp only [dq] at hc0
  refine sr ?_
  refine as_ (lb rfl) rfl ?_
  refine nkt ?_
  exact kseq_ret (fin_retL (.cons (by first | exact .c rfl | exact .ref rfl rfl | exact .nilc rfl) .nil) (by rfl) (by exact resB (decide_eq_false (fun e => hc0 (by rw [e]))).symm))
 ·
  simp only [dq] at hc0
  refine pk ?_
  refine acode_seq ?_
  refine sr ?_
  refine fdb (off := 1) Try.underlying65 Try.sizeOf63 rfl rfl rfl (lb rfl) rfl rfl ?_
  refine ldb Try.isAgg63 rfl (lb rfl) rfl rfl ?_
  refine fdb (off := 1) Try.underlying65 Try.sizeOf63 rfl rfl rfl (lb rfl) rfl rfl ?_
  refine ldb Try.isAgg63 rfl (lb rfl) rfl rfl ?_
  refine st1 rfl ((op_call Try.func82 rfl rfl (c_eqNetTaskS x.tasks y.tasks hx.1 hx.2 hy.2) (by exact (.cons (by first | exact Shares.c rfl | exact Shares.nilc | exact Shares.ref rfl (rowGTask.rnobox _ _) (rowGTask.rshare _ _)) (.cons (by first | exact Shares.c rfl | exact Shares.nilc | exact Shares.ref rfl (rowGTask.rnobox _ _) (rowGTask.rshare _ _)) .nil))) rfl (by first | exact .inl rfl | exact .inr (sol_cons rfl sol_nil)) rfl (lb rfl))) (sats_opds (.cons rfl (.cons rfl .nil)) (sats_app (sats_fresh_all (by exact rfl)) (sats_app (sats_needs (by first | exact all_nil | exact all_cons rfl all_nil | exact all_cons rfl (all_cons rfl all_nil) | exact all_cons rfl (all_cons rfl (all_cons rfl all_nil)) | exact all_cons rfl (all_cons rfl (all_cons rfl (all_cons rfl all_nil))))) (sats_lives rfl)))) ?_
  refine st1 rfl (op_not (lb rfl)) (so rfl sn) ?_
  refine nk ?_
  refine acode_cond rfl (fun hc1 => ?_) (fun hc1 => ?_)
  ·
   simp only [dq] at hc1
   refine sr ?_
   refine as_ (lb rfl) rfl ?_
   refine nkt ?_
   exact kseq_ret (fin_retL (.cons (by first | exact .c rfl | exact .ref rfl rfl | exact .nilc rfl) .nil) (by rfl) (by exact resB (decide_eq_false (fun e => hc1 (by rw [e]))).symm))
  ·
   simp only [dq] at hc1
   refine pk ?_
   refine sr ?_
   refine as_ (lb rfl) rfl ?_
   refine nkt ?_
   exact fin_retL (.cons (by first | exact .c rfl | exact .ref rfl rfl | exact .nilc rfl) .nil) (by rfl) (by exact resB (decide_eq_true (by cases x; cases y; simp_all)).symm)

theorem c_eqCasItem (x y : GItem) : FnP Try.prog 130 [.row (GItem.cells false x), .row (GItem.cells false y)] [.c (cB (decide (x = y)))] := by
 refine fnp_intro (n := 20) (rvs := [.tmp 4]) Try.func130 rfl rfl rfl (lb rfl) rfl ?_
 refine sr ?_
 refine st1 rfl (op_box rfl (lb rfl)) (so rfl (sf rfl (sats_lives rfl))) ?_
 refine st1 rfl (op_box rfl (lb rfl)) (so rfl (sf rfl (sats_lives rfl))) ?_
 refine as_ (lb rfl) rfl ?_
 refine nk ?_
 refine acode_seq ?_
 refine sr ?_
 refine fdb (off := 0) Try.underlying121 Try.sizeOf3 rfl rfl rfl (lb rfl) rfl rfl ?_
 refine ldb Try.isAgg3 rfl (lb rfl) rfl rfl ?_
 refine fdb (off := 0) Try.underlying121 Try.sizeOf3 rfl rfl rfl (lb rfl) rfl rfl ?_
 refine ldb Try.isAgg3 rfl (lb rfl) rfl rfl ?_
 refine st1 rfl (op_neq (lb rfl)) (so rfl (so rfl sn)) ?_
 refine nk ?_
 refine acode_cond rfl (fun hc0 => ?_) (fun hc0 => ?_)
 ·
  simp only [dq] at hc0
  refine sr ?_
  refine as_ (lb rfl) rfl ?_
  refine nkt ?_
  exact kseq_ret (fin_retL (.cons (by first | exact .c rfl | exact .ref rfl rfl | exact .nilc rfl) .nil) (by rfl) (by exact resB (decide_eq_false (fun e => hc0 (by rw [e]))).symm))
 ·
  simp only [dq] at hc0
  refine pk ?_
  refine acode_seq ?_
  refine sr ?_
  refine fdb (off := 1) Try.underlying121 Try.sizeOf3 rfl rfl rfl (lb rfl) rfl rfl ?_
  refine ldb Try.isAgg3 rfl (lb rfl) rfl rfl ?_
  refine fdb (off := 1) Try.underlying121 Try.sizeOf3 rfl rfl rfl (lb rfl) rfl rfl ?_
  refine ldb Try.isAgg3 rfl (lb rfl) rfl rfl ?_
  refine st1 rfl (op_neq (lb rfl)) (so rfl (so rfl sn)) ?_
  refine nk ?_
  refine acode_cond rfl (fun hc1 => ?_) (fun hc1 => ?_)
  ·
   simp only [dq] at hc1
   refine sr ?_
   refine as_ (lb rfl) rfl ?_
   refine nkt ?_
   exact kseq_ret (fin_retL (.cons (by first | exact .c rfl | exact .ref rfl rfl | exact .nilc rfl) .nil) (by rfl) (by exact resB (decide_eq_false (fun e => hc1 (by rw [e]))).symm))
  ·
   simp only [dq] at hc1
   refine pk ?_
   refine acode_seq ?_
   refine sr ?_
   refine fdb (off := 2) Try.underlying121 Try.sizeOf3 rfl rfl rfl (lb rfl) rfl rfl ?_
   refine ldb Try.isAgg3 rfl (lb rfl) rfl rfl ?_
   refine fdb (off := 2) Try.underlying121 Try.sizeOf3 rfl rfl rfl (lb rfl) rfl rfl ?_
   refine ldb Try.isAgg3 rfl (lb rfl) rfl rfl ?_
   refine st1 rfl (op_neq (lb rfl)) (so rfl (so rfl sn)) ?_
   refine nk ?_
   refine acode_cond rfl (fun hc2 => ?_) (fun hc2 => ?_)
   ·
    simp only [dq] at hc2
    refine sr ?_
    refine as_ (lb rfl) rfl ?_
    refine nkt ?_
    exact kseq_ret (fin_retL (.cons (by first | exact .c rfl | exact .ref rfl rfl | exact .nilc rfl) .nil) (by rfl) (by exact resB (decide_eq_false (fun e => hc2 (by rw [e]))).symm))
   ·
    simp only [dq] at hc2
    refine pk ?_
    refine sr ?_
    refine as_ (lb rfl) rfl ?_
    refine nkt ?_
    exact fin_retL (.cons (by first | exact .c rfl | exact .ref rfl rfl | exact .nilc rfl) .nil) (by rfl) (by exact resB (decide_eq_true (by cases x; cases y; simp_all)).symm)

theorem c_eqCasItemS (a b : List GItem) (hl : a.length ≤ 1048576) : FnP Try.prog 83 [.c (.sl false 3 (a.map (GItem.cells false))), .c (.sl false 3 (b.map (GItem.cells false)))] [.c (cB (decide (a = b)))] := by
 refine fnp_intro (n := 27) (rvs := [.tmp 4]) Try.func83 rfl rfl rfl (lb rfl) rfl ?_
 refine sr ?_
 refine as_ (lb rfl) rfl ?_
 refine nk ?_
 refine acode_seq ?_
 refine sr ?_
 refine mv (lb rfl) rfl ?_
 refine st1 rfl (op_len_sh Try.underlying67 (lb rfl)) (so rfl sn) ?_
 refine mv (lb rfl) rfl ?_
 refine st1 rfl (op_len_sh Try.underlying67 (lb rfl)) (so rfl sn) ?_
 refine st1 rfl (op_neq (lb rfl)) (so rfl (so rfl sn)) ?_
 refine nk ?_
 refine acode_cond rfl (fun hc0 => ?_) (fun hc0 => ?_)
 ·
  simp only [dq] at hc0
  refine sr ?_
  refine as_ (lb rfl) rfl ?_
  refine nkt ?_
  exact kseq_ret (fin_retL (.cons (by first | exact .c rfl | exact .ref rfl rfl | exact .nilc rfl) .nil) (by rfl) (by exact resB (decide_eq_false (fun e => hc0 (by rw [e]))).symm))
 ·
  simp only [dq] at hc0
  refine pk ?_
  refine acode_seq ?_
  refine sr ?_
  refine as_ (lb rfl) rfl ?_
  refine nk ?_
  refine acode_block ?_
  refine acode_loopk (xs := [0, 1]) (ys := []) (S := Nat) (fun s => [(5, aInt (s : Int))]) (fun s => []) (fun s => s ≤ a.length ∧ a.take s = b.take s) (fun s => a.length - s) 0 (.cons rfl (.cons rfl .nil)) .nil ?em ?eo rfl ?ei ?round
  case em => exact .cons rfl (by first | rfl | simp) (.nil)
  case eo => exact .nil
  case ei => exact ⟨Nat.zero_le _, by simp⟩
  case round =>
   rintro k ⟨h2, h3⟩
   refine acode_seq ?_
   refine sr ?_
   refine mv (lb rfl) rfl ?_
   refine mv (lb rfl) rfl ?_
   refine st1 rfl (op_len_sh Try.underlying67 (lb rfl)) (so rfl sn) ?_
   refine st1 rfl (op_lss (lb rfl)) (so rfl (so rfl sn)) ?_
   refine nk ?_
   refine acode_cond rfl (fun hc1 => ?_) (fun hc1 => ?_)
   ·
    simp only [dq] at hc1
    refine pk ?_
    refine acode_seq ?_
    refine acode_block ?_
    refine acode_seq ?_
    refine acode_region_draw mixed rfl ?_
    refine mv (lb rfl) rfl ?_
    refine mv (lb rfl) rfl ?_
    refine st1 rfl (op_index_shN Try.underlying67 Try.sizeOf121 (lb rfl) (by omega)) (so rfl (so rfl sn)) ?_
    refine st1 rfl (op_load_pts_all Try.isAgg121 Try.sizeOf121 rfl (lb rfl)) (so rfl sn) ?_
    refine mv (lb rfl) rfl ?_
    refine mv (lb rfl) rfl ?_
    refine st1 rfl (op_index_shN Try.underlying67 Try.sizeOf121 (lb rfl) (by omega)) (so rfl (so rfl sn)) ?_
    refine st1 rfl (op_load_pts_all Try.isAgg121 Try.sizeOf121 rfl (lb rfl)) (so rfl sn) ?_
    refine st1 rfl ((op_call Try.func130 rfl rfl (c_eqCasItem (a[k]'(by omega)) (b[k]'(by omega))) (by exact (.cons (by first | exact Shares.row rfl | exact (Shares.aggCons (by first | exact Shares.c rfl) (Shares.aggCons (by first | exact Shares.c rfl) (Shares.aggCons (by first | exact Shares.c rfl) Shares.aggNil)))) (.cons (by first | exact Shares.row rfl | exact (Shares.aggCons (by first | exact Shares.c rfl) (Shares.aggCons (by first | exact Shares.c rfl) (Shares.aggCons (by first | exact Shares.c rfl) Shares.aggNil)))) .nil))) rfl (by first | exact .inl rfl | exact .inr (sol_cons rfl sol_nil)) rfl (lb rfl))) (sats_opds (.cons rfl (.cons rfl .nil)) (sats_app (sats_fresh_all (by exact rfl)) (sats_app (sats_needs (by first | exact all_nil | exact all_cons rfl all_nil | exact all_cons rfl (all_cons rfl all_nil) | exact all_cons rfl (all_cons rfl (all_cons rfl all_nil)) | exact all_cons rfl (all_cons rfl (all_cons rfl (all_cons rfl all_nil))))) (sats_lives rfl)))) ?_
    refine st1 rfl (op_not (lb rfl)) (so rfl sn) ?_
    refine rg_nil_draw rfl ?_
    refine kseq_normal ?_
    refine acode_cond rfl (fun hc2 => ?_) (fun hc2 => ?_)
    ·
     simp only [dq] at hc2
     refine sr ?_
     refine as_ (lb rfl) rfl ?_
     refine nkt ?_
     exact kblk_ret (kseq_ret (klg_ret (kblk_ret (kseq_ret (fin_retL (.cons (by first | exact .c rfl | exact .ref rfl rfl | exact .nilc rfl) .nil) (by rfl) (by exact resB (decide_eq_false (fun e => hc2 (by subst e; rfl))).symm))))))
    ·
     simp only [dq] at hc2
     refine acode_skip ?_
     refine kblk_normal (kseq_normal ?_)
     refine acode_region ?_
     refine mv (lb rfl) rfl ?_
     refine st1 rfl (op_add (lb rfl) (by omega)) (so rfl (so rfl sn)) ?_
     refine as_ (lb rfl) rfl ?_
     refine rg_nil_seq ?_
     refine klg_back (k + 1) ?bi ?bm ?bl
     case bi => exact ⟨by omega, take_ext (by omega) (by omega) h3 hc2⟩
     case bm => omega
     case bl => exact le_stU idn (.cons rfl (by first | rfl | simp) (.cons rfl (by first | rfl | simp) (.cons rfl (by first | rfl | simp) (.nil)))) (.nil) rfl
   ·
    simp only [dq] at hc1
    refine acode_exit ?_
    refine kseq_exit (klg_exit (kblk_hit (kseq_normal ?_)))
    refine sr ?_
    refine as_ (lb rfl) rfl ?_
    refine nkt ?_
    exact fin_retL (.cons (by first | exact .c rfl | exact .ref rfl rfl | exact .nilc rfl) .nil) (by rfl) (by exact resB (decide_eq_true (take_all h3 (by omega) (by omega))).symm)

theorem c_eqCasDid (x y : GDid) : FnP Try.prog 131 [.row (GDid.cells false x), .row (GDid.cells false y)] [.c (cB (decide (x = y)))] := by
 refine fnp_intro (n := 15) (rvs := [.tmp 4]) Try.func131 rfl rfl rfl (lb rfl) rfl ?_
 refine sr ?_
 refine st1 rfl (op_box rfl (lb rfl)) (so rfl (sf rfl (sats_lives rfl))) ?_
 refine st1 rfl (op_box rfl (lb rfl)) (so rfl (sf rfl (sats_lives rfl))) ?_
 refine as_ (lb rfl) rfl ?_
 refine nk ?_
 refine acode_seq ?_
 refine sr ?_
 refine fdb (off := 0) Try.underlying137 Try.sizeOf3 rfl rfl rfl (lb rfl) rfl rfl ?_
 refine ldb Try.isAgg3 rfl (lb rfl) rfl rfl ?_
 refine fdb (off := 0) Try.underlying137 Try.sizeOf3 rfl rfl rfl (lb rfl) rfl rfl ?_
 refine ldb Try.isAgg3 rfl (lb rfl) rfl rfl ?_
 refine st1 rfl (op_neq (lb rfl)) (so rfl (so rfl sn)) ?_
 refine nk ?_
 refine acode_cond rfl (fun hc0 => ?_) (fun hc0 => ?_)
 ·
  simp only [dq] at hc0
  refine sr ?_
  refine as_ (lb rfl) rfl ?_
  refine nkt ?_
  exact kseq_ret (fin_retL (.cons (by first | exact .c rfl | exact .ref rfl rfl | exact .nilc rfl) .nil) (by rfl) (by exact resB (decide_eq_false (fun e => hc0 (by rw [e]))).symm))
 ·
  simp only [dq] at hc0
  refine pk ?_
  refine acode_seq ?_
  refine sr ?_
  refine fdb (off := 1) Try.underlying137 Try.sizeOf3 rfl rfl rfl (lb rfl) rfl rfl ?_
  refine ldb Try.isAgg3 rfl (lb rfl) rfl rfl ?_
  refine fdb (off := 1) Try.underlying137 Try.sizeOf3 rfl rfl rfl (lb rfl) rfl rfl ?_
  refine ldb Try.isAgg3 rfl (lb rfl) rfl rfl ?_
  refine st1 rfl (op_neq (lb rfl)) (so rfl (so rfl sn)) ?_
  refine nk ?_
  refine acode_cond rfl (fun hc1 => ?_) (fun hc1 => ?_)
  ·
   simp only [dq] at hc1
   refine sr ?_
   refine as_ (lb rfl) rfl ?_
   refine nkt ?_
   exact kseq_ret (fin_retL (.cons (by first | exact .c rfl | exact .ref rfl rfl | exact .nilc rfl) .nil) (by rfl) (by exact resB (decide_eq_false (fun e => hc1 (by rw [e]))).symm))
  ·
   simp only [dq] at hc1
   refine pk ?_
   refine sr ?_
   refine as_ (lb rfl) rfl ?_
   refine nkt ?_
   exact fin_retL (.cons (by first | exact .c rfl | exact .ref rfl rfl | exact .nilc rfl) .nil) (by rfl) (by exact resB (decide_eq_true (by cases x; cases y; simp_all)).symm)

theorem c_eqCasDidS (a b : List GDid) (hl : a.length ≤ 1048576) : FnP Try.prog 84 [.c (.sl false 2 (a.map (GDid.cells false))), .c (.sl false 2 (b.map (GDid.cells false)))] [.c (cB (decide (a = b)))] := by
 refine fnp_intro (n := 27) (rvs := [.tmp 4]) Try.func84 rfl rfl rfl (lb rfl) rfl ?_
 refine sr ?_
 refine as_ (lb rfl) rfl ?_
 refine nk ?_
 refine acode_seq ?_
 refine sr ?_
 refine mv (lb rfl) rfl ?_
 refine st1 rfl (op_len_sh Try.underlying68 (lb rfl)) (so rfl sn) ?_
 refine mv (lb rfl) rfl ?_
 refine st1 rfl (op_len_sh Try.underlying68 (lb rfl)) (so rfl sn) ?_
 refine st1 rfl (op_neq (lb rfl)) (so rfl (so rfl sn)) ?_
 refine nk ?_
 refine acode_cond rfl (fun hc0 => ?_) (fun hc0 => ?_)
 ·
  simp only [dq] at hc0
  refine sr ?_
  refine as_ (lb rfl) rfl ?_
  refine nkt ?_
  exact kseq_ret (fin_retL (.cons (by first | exact .c rfl | exact .ref rfl rfl | exact .nilc rfl) .nil) (by rfl) (by exact resB (decide_eq_false (fun e => hc0 (by rw [e]))).symm))
 ·
  simp only [dq] at hc0
  refine pk ?_
  refine acode_seq ?_
  refine sr ?_
  refine as_ (lb rfl) rfl ?_
  refine nk ?_
  refine acode_block ?_
  refine acode_loopk (xs := [0, 1]) (ys := []) (S := Nat) (fun s => [(5, aInt (s : Int))]) (fun s => []) (fun s => s ≤ a.length ∧ a.take s = b.take s) (fun s => a.length - s) 0 (.cons rfl (.cons rfl .nil)) .nil ?em ?eo rfl ?ei ?round
  case em => exact .cons rfl (by first | rfl | simp) (.nil)
  case eo => exact .nil
  case ei => exact ⟨Nat.zero_le _, by simp⟩
  case round =>
   rintro k ⟨h2, h3⟩
   refine acode_seq ?_
   refine sr ?_
   refine mv (lb rfl) rfl ?_
   refine mv (lb rfl) rfl ?_
   refine st1 rfl (op_len_sh Try.underlying68 (lb rfl)) (so rfl sn) ?_
   refine st1 rfl (op_lss (lb rfl)) (so rfl (so rfl sn)) ?_
   refine nk ?_
   refine acode_cond rfl (fun hc1 => ?_) (fun hc1 => ?_)
   ·
    simp only [dq] at hc1
    refine pk ?_
    refine acode_seq ?_
    refine acode_block ?_
    refine acode_seq ?_
    refine acode_region_draw mixed rfl ?_
    refine mv (lb rfl) rfl ?_
    refine mv (lb rfl) rfl ?_
    refine st1 rfl (op_index_shN Try.underlying68 Try.sizeOf137 (lb rfl) (by omega)) (so rfl (so rfl sn)) ?_
    refine st1 rfl (op_load_pts_all Try.isAgg137 Try.sizeOf137 rfl (lb rfl)) (so rfl sn) ?_
    refine mv (lb rfl) rfl ?_
    refine mv (lb rfl) rfl ?_
    refine st1 rfl (op_index_shN Try.underlying68 Try.sizeOf137 (lb rfl) (by omega)) (so rfl (so rfl sn)) ?_
    refine st1 rfl (op_load_pts_all Try.isAgg137 Try.sizeOf137 rfl (lb rfl)) (so rfl sn) ?_
    refine st1 rfl ((op_call Try.func131 rfl rfl (c_eqCasDid (a[k]'(by omega)) (b[k]'(by omega))) (by exact (.cons (by first | exact Shares.row rfl | exact (Shares.aggCons (by first | exact Shares.c rfl) (Shares.aggCons (by first | exact Shares.c rfl) Shares.aggNil))) (.cons (by first | exact Shares.row rfl | exact (Shares.aggCons (by first | exact Shares.c rfl) (Shares.aggCons (by first | exact Shares.c rfl) Shares.aggNil))) .nil))) rfl (by first | exact .inl rfl | exact .inr (sol_cons rfl sol_nil)) rfl (lb rfl))) (sats_opds (.cons rfl (.cons rfl .nil)) (sats_app (sats_fresh_all (by exact rfl)) (sats_app (sats_needs (by first | exact all_nil | exact all_cons rfl all_nil | exact all_cons rfl (all_cons rfl all_nil) | exact all_cons rfl (all_cons rfl (all_cons rfl all_nil)) | exact all_cons rfl (all_cons rfl (all_cons rfl (all_cons rfl all_nil))))) (sats_lives rfl)))) ?_
    refine st1 rfl (op_not (lb rfl)) (so rfl sn) ?_
    refine rg_nil_draw rfl ?_
    refine kseq_normal ?_
    refine acode_cond rfl (fun hc2 => ?_) (fun hc2 => ?_)
    ·
     simp only [dq] at hc2
     refine sr ?_
     refine as_ (lb rfl) rfl ?_
     refine nkt ?_
     exact kblk_ret (kseq_ret (klg_ret (kblk_ret (kseq_ret (fin_retL (.cons (by first | exact .c rfl | exact .ref rfl rfl | exact .nilc rfl) .nil) (by rfl) (by exact resB (decide_eq_false (fun e => hc2 (by subst e; rfl))).symm))))))
    ·
     simp only [dq] at hc2
     refine acode_skip ?_
     refine kblk_normal (kseq_normal ?_)
     refine acode_region ?_
     refine mv (lb rfl) rfl ?_
     refine st1 rfl (op_add (lb rfl) (by omega)) (so rfl (so rfl sn)) ?_
     refine as_ (lb rfl) rfl ?_
     refine rg_nil_seq ?_
     refine klg_back (k + 1) ?bi ?bm ?bl
     case bi => exact ⟨by omega, take_ext (by omega) (by omega) h3 hc2⟩
     case bm => omega
     case bl => exact le_stU idn (.cons rfl (by first | rfl | simp) (.cons rfl (by first | rfl | simp) (.cons rfl (by first | rfl | simp) (.nil)))) (.nil) rfl
   ·
    simp only [dq] at hc1
    refine acode_exit ?_
    refine kseq_exit (klg_exit (kblk_hit (kseq_normal ?_)))
    refine sr ?_
    refine as_ (lb rfl) rfl ?_
    refine nkt ?_
    exact fin_retL (.cons (by first | exact .c rfl | exact .ref rfl rfl | exact .nilc rfl) .nil) (by rfl) (by exact resB (decide_eq_true (take_all h3 (by omega) (by omega))).symm)

theorem c_eqCasCase (x y : GCase) (hx : GCase.lens (· ≤ 1048576) x) (hy : GCase.lens (· ≤ 1048576) y) : FnP Try.prog 38 [.row (GCase.cells false x), .row (GCase.cells false y)] [.c (cB (decide (x = y)))] := by
 refine fnp_intro (n := 34) (rvs := [.tmp 4]) Try.func38 rfl rfl rfl (lb rfl) rfl ?_
 refine sr ?_
 refine st1 rfl (op_box rfl (lb rfl)) (so rfl (sf rfl (sats_lives rfl))) ?_
 refine st1 rfl (op_box rfl (lb rfl)) (so rfl (sf rfl (sats_lives rfl))) ?_
 refine as_ (lb rfl) rfl ?_
 refine nk ?_
 refine acode_seq ?_
 refine sr ?_
 refine fdb (off := 0) Try.underlying70 Try.sizeOf3 rfl rfl rfl (lb rfl) rfl rfl ?_
 refine ldb Try.isAgg3 rfl (lb rfl) rfl rfl ?_
 refine fdb (off := 0) Try.underlying70 Try.sizeOf3 rfl rfl rfl (lb rfl) rfl rfl ?_
 refine ldb Try.isAgg3 rfl (lb rfl) rfl rfl ?_
 refine st1 rfl (op_neq (lb rfl)) (so rfl (so rfl sn)) ?_
 refine nk ?_
 refine acode_cond rfl (fun hc0 => ?_) (fun hc0 => ?_)
 ·
  simp only [dq] at hc0
  refine sr ?_
  refine as_ (lb rfl) rfl ?_
  refine nkt ?_
  exact kseq_ret (fin_retL (.cons (by first | exact .c rfl | exact .ref rfl rfl | exact .nilc rfl) .nil) (by rfl) (by exact resB (decide_eq_false (fun e => hc0 (by rw [e]))).symm))
 ·
  simp only [dq] at hc0
  refine pk ?_
  refine acode_seq ?_
  refine sr ?_
  refine fdb (off := 1) Try.underlying70 Try.sizeOf34 rfl rfl rfl (lb rfl) rfl rfl ?_
  refine ldb Try.isAgg34 rfl (lb rfl) rfl rfl ?_
  refine fdb (off := 1) Try.underlying70 Try.sizeOf34 rfl rfl rfl (lb rfl) rfl rfl ?_
  refine ldb Try.isAgg34 rfl (lb rfl) rfl rfl ?_
  refine st1 rfl ((op_call Try.func26 rfl rfl (c_eqIntS x.marks y.marks hx.1) (by exact (.cons (by first | exact Shares.c rfl | exact Shares.nilc | exact Shares.ref rfl (rowI.rnobox _ _) (rowI.rshare _ _)) (.cons (by first | exact Shares.c rfl | exact Shares.nilc | exact Shares.ref rfl (rowI.rnobox _ _) (rowI.rshare _ _)) .nil))) rfl (by first | exact .inl rfl | exact .inr (sol_cons rfl sol_nil)) rfl (lb rfl))) (sats_opds (.cons rfl (.cons rfl .nil)) (sats_app (sats_fresh_all (by exact rfl)) (sats_app (sats_needs (by first | exact all_nil | exact all_cons rfl all_nil | exact all_cons rfl (all_cons rfl all_nil) | exact all_cons rfl (all_cons rfl (all_cons rfl all_nil)) | exact all_cons rfl (all_cons rfl (all_cons rfl (all_cons rfl all_nil))))) (sats_lives rfl)))) ?_
  refine st1 rfl (op_not (lb rfl)) (so rfl sn) ?_
  refine nk ?_
  refine acode_cond rfl (fun hc1 => ?_) (fun hc1 => ?_)
  ·
   simp only [dq] at hc1
   refine sr ?_
   refine as_ (lb rfl) rfl ?_
   refine nkt ?_
   exact kseq_ret (fin_retL (.cons (by first | exact .c rfl | exact .ref rfl rfl | exact .nilc rfl) .nil) (by rfl) (by exact resB (decide_eq_false (fun e => hc1 (by rw [e]))).symm))
  ·
   simp only [dq] at hc1
   refine pk ?_
   refine acode_seq ?_
   refine sr ?_
   refine fdb (off := 2) Try.underlying70 Try.sizeOf67 rfl rfl rfl (lb rfl) rfl rfl ?_
   refine ldb Try.isAgg67 rfl (lb rfl) rfl rfl ?_
   refine fdb (off := 2) Try.underlying70 Try.sizeOf67 rfl rfl rfl (lb rfl) rfl rfl ?_
   refine ldb Try.isAgg67 rfl (lb rfl) rfl rfl ?_
   refine st1 rfl ((op_call Try.func83 rfl rfl (c_eqCasItemS x.busy y.busy hx.2.1) (by exact (.cons (by first | exact Shares.c rfl | exact Shares.nilc | exact Shares.ref rfl (rowGItem.rnobox _ _) (rowGItem.rshare _ _)) (.cons (by first | exact Shares.c rfl | exact Shares.nilc | exact Shares.ref rfl (rowGItem.rnobox _ _) (rowGItem.rshare _ _)) .nil))) rfl (by first | exact .inl rfl | exact .inr (sol_cons rfl sol_nil)) rfl (lb rfl))) (sats_opds (.cons rfl (.cons rfl .nil)) (sats_app (sats_fresh_all (by exact rfl)) (sats_app (sats_needs (by first | exact all_nil | exact all_cons rfl all_nil | exact all_cons rfl (all_cons rfl all_nil) | exact all_cons rfl (all_cons rfl (all_cons rfl all_nil)) | exact all_cons rfl (all_cons rfl (all_cons rfl (all_cons rfl all_nil))))) (sats_lives rfl)))) ?_
   refine st1 rfl (op_not (lb rfl)) (so rfl sn) ?_
   refine nk ?_
   refine acode_cond rfl (fun hc2 => ?_) (fun hc2 => ?_)
   ·
    simp only [dq] at hc2
    refine sr ?_
    refine as_ (lb rfl) rfl ?_
    refine nkt ?_
    exact kseq_ret (fin_retL (.cons (by first | exact .c rfl | exact .ref rfl rfl | exact .nilc rfl) .nil) (by rfl) (by exact resB (decide_eq_false (fun e => hc2 (by rw [e]))).symm))
   ·
    simp only [dq] at hc2
    refine pk ?_
    refine acode_seq ?_
    refine sr ?_
    refine fdb (off := 3) Try.underlying70 Try.sizeOf34 rfl rfl rfl (lb rfl) rfl rfl ?_
    refine ldb Try.isAgg34 rfl (lb rfl) rfl rfl ?_
    refine fdb (off := 3) Try.underlying70 Try.sizeOf34 rfl rfl rfl (lb rfl) rfl rfl ?_
    refine ldb Try.isAgg34 rfl (lb rfl) rfl rfl ?_
    refine st1 rfl ((op_call Try.func26 rfl rfl (c_eqIntS x.data y.data hx.2.2.1) (by exact (.cons (by first | exact Shares.c rfl | exact Shares.nilc | exact Shares.ref rfl (rowI.rnobox _ _) (rowI.rshare _ _)) (.cons (by first | exact Shares.c rfl | exact Shares.nilc | exact Shares.ref rfl (rowI.rnobox _ _) (rowI.rshare _ _)) .nil))) rfl (by first | exact .inl rfl | exact .inr (sol_cons rfl sol_nil)) rfl (lb rfl))) (sats_opds (.cons rfl (.cons rfl .nil)) (sats_app (sats_fresh_all (by exact rfl)) (sats_app (sats_needs (by first | exact all_nil | exact all_cons rfl all_nil | exact all_cons rfl (all_cons rfl all_nil) | exact all_cons rfl (all_cons rfl (all_cons rfl all_nil)) | exact all_cons rfl (all_cons rfl (all_cons rfl (all_cons rfl all_nil))))) (sats_lives rfl)))) ?_
    refine st1 rfl (op_not (lb rfl)) (so rfl sn) ?_
    refine nk ?_
    refine acode_cond rfl (fun hc3 => ?_) (fun hc3 => ?_)
    ·
     simp only [dq] at hc3
     refine sr ?_
     refine as_ (lb rfl) rfl ?_
     refine nkt ?_
     exact kseq_ret (fin_retL (.cons (by first | exact .c rfl | exact .ref rfl rfl | exact .nilc rfl) .nil) (by rfl) (by exact resB (decide_eq_false (fun e => hc3 (by rw [e]))).symm))
    ·
     simp only [dq] at hc3
     refine pk ?_
     refine acode_seq ?_
     refine sr ?_
     refine fdb (off := 4) Try.underlying70 Try.sizeOf68 rfl rfl rfl (lb rfl) rfl rfl ?_
     refine ldb Try.isAgg68 rfl (lb rfl) rfl rfl ?_
     refine fdb (off := 4) Try.underlying70 Try.sizeOf68 rfl rfl rfl (lb rfl) rfl rfl ?_
     refine ldb Try.isAgg68 rfl (lb rfl) rfl rfl ?_
     refine st1 rfl ((op_call Try.func84 rfl rfl (c_eqCasDidS x.did y.did hx.2.2.2) (by exact (.cons (by first | exact Shares.c rfl | exact Shares.nilc | exact Shares.ref rfl (rowGDid.rnobox _ _) (rowGDid.rshare _ _)) (.cons (by first | exact Shares.c rfl | exact Shares.nilc | exact Shares.ref rfl (rowGDid.rnobox _ _) (rowGDid.rshare _ _)) .nil))) rfl (by first | exact .inl rfl | exact .inr (sol_cons rfl sol_nil)) rfl (lb rfl))) (sats_opds (.cons rfl (.cons rfl .nil)) (sats_app (sats_fresh_all (by exact rfl)) (sats_app (sats_needs (by first | exact all_nil | exact all_cons rfl all_nil | exact all_cons rfl (all_cons rfl all_nil) | exact all_cons rfl (all_cons rfl (all_cons rfl all_nil)) | exact all_cons rfl (all_cons rfl (all_cons rfl (all_cons rfl all_nil))))) (sats_lives rfl)))) ?_
     refine st1 rfl (op_not (lb rfl)) (so rfl sn) ?_
     refine nk ?_
     refine acode_cond rfl (fun hc4 => ?_) (fun hc4 => ?_)
     ·
      simp only [dq] at hc4
      refine sr ?_
      refine as_ (lb rfl) rfl ?_
      refine nkt ?_
      exact kseq_ret (fin_retL (.cons (by first | exact .c rfl | exact .ref rfl rfl | exact .nilc rfl) .nil) (by rfl) (by exact resB (decide_eq_false (fun e => hc4 (by rw [e]))).symm))
     ·
      simp only [dq] at hc4
      refine pk ?_
      refine sr ?_
      refine as_ (lb rfl) rfl ?_
      refine nkt ?_
      exact fin_retL (.cons (by first | exact .c rfl | exact .ref rfl rfl | exact .nilc rfl) .nil) (by rfl) (by exact resB (decide_eq_true (by cases x; cases y; simp_all)).symm)
end Go.Am
