/- The laws' own functions over data: what is equal. The step scripts are printed by gen.py. Own work. -/
import Derived.Test.YtcbpckbehdaloaaGreatAmYm
import Derived.Test.YtcbpckbehdaloaaGreatAmS
import Derived.Test.YtcbpckbehdaloaaGreatAmV
set_option linter.unusedSimpArgs false
set_option linter.unusedVariables false
set_option maxRecDepth 100000
namespace Go.Am
open Go Go.Proofs

theorem take_ext {α : Type} {a b : List α} {k : Nat} (ha : k < a.length) (hb : k < b.length) (h : a.take k = b.take k) (e : a[k] = b[k]) : a.take (k + 1) = b.take (k + 1) := by
  rw [List.take_succ_eq_append_getElem ha, List.take_succ_eq_append_getElem hb, h, e]
theorem take_all {α : Type} {a b : List α} {k : Nat} (h : a.take k = b.take k) (ha : a.length ≤ k) (hb : b.length ≤ k) : a = b := by
  rwa [List.take_of_length_le ha, List.take_of_length_le hb] at h

theorem c_eqIntS (a b : List Int) (hl : a.length ≤ 1048576) : FnP Tryz.prog 42 [.c (cIs false a), .c (cIs false b)] [.c (cB (decide (a = b)))] := by
 refine fnp_intro (n := 26) (rvs := [.tmp 4]) Tryz.func42 rfl rfl rfl (lb rfl) rfl ?_
 refine sr ?_
 refine as_ (lb rfl) rfl ?_
 refine nk ?_
 refine acode_seq ?_
 refine sr ?_
 refine mv (lb rfl) rfl ?_
 refine st1 rfl (op_len_sh Tryz.underlying23 (lb rfl)) (so rfl sn) ?_
 refine mv (lb rfl) rfl ?_
 refine st1 rfl (op_len_sh Tryz.underlying23 (lb rfl)) (so rfl sn) ?_
 refine st1 rfl (op_neq (lb rfl)) (so rfl (so rfl sn)) ?_
 refine nk ?_
 refine acode_cond rfl (fun hc0 => ?_) (fun hc0 => ?_)
 ·
  simp only [dq] at hc0
  refine sr ?_
  refine as_ (lb rfl) rfl ?_
  refine nkt ?_
  exact kseq_ret (fin_retL (.cons (by first | exact .c rfl | exact .ref rfl rfl | exact .nilc rfl) .nil) (by rfl) (by exact resB (decide_eq_false (fun e => hc0 (by rw [e]))).symm))
 ·
  simp only [dq] at hc0
  refine pk ?_
  refine acode_seq ?_
  refine sr ?_
  refine as_ (lb rfl) rfl ?_
  refine nk ?_
  refine acode_block ?_
  refine acode_loopk (xs := [0, 1]) (ys := []) (S := Nat) (fun s => [(5, aInt (s : Int))]) (fun s => []) (fun s => s ≤ a.length ∧ a.take s = b.take s) (fun s => a.length - s) 0 (.cons rfl (.cons rfl .nil)) .nil ?em ?eo rfl ?ei ?round
  case em => exact .cons rfl (by first | rfl | simp) (.nil)
  case eo => exact .nil
  case ei => exact ⟨Nat.zero_le _, by simp⟩
  case round =>
   rintro k ⟨h2, h3⟩
   refine acode_seq ?_
   refine sr ?_
   refine mv (lb rfl) rfl ?_
   refine mv (lb rfl) rfl ?_
   refine st1 rfl (op_len_sh Tryz.underlying23 (lb rfl)) (so rfl sn) ?_
   refine st1 rfl (op_lss (lb rfl)) (so rfl (so rfl sn)) ?_
   refine nk ?_
   refine acode_cond rfl (fun hc1 => ?_) (fun hc1 => ?_)
   ·
    simp only [dq] at hc1
    refine pk ?_
    refine acode_seq ?_
    refine acode_block ?_
    refine acode_seq ?_
    refine acode_region_draw mixed rfl ?_
    refine mv (lb rfl) rfl ?_
    refine mv (lb rfl) rfl ?_
    refine st1 rfl (op_index_shN Tryz.underlying23 Tryz.sizeOf3 (lb rfl) (by omega)) (so rfl (so rfl sn)) ?_
    refine st1 rfl (op_load_pts Tryz.isAgg3 rfl (lb rfl)) (so rfl sn) ?_
    refine mv (lb rfl) rfl ?_
    refine mv (lb rfl) rfl ?_
    refine st1 rfl (op_index_shN Tryz.underlying23 Tryz.sizeOf3 (lb rfl) (by omega)) (so rfl (so rfl sn)) ?_
    refine st1 rfl (op_load_pts Tryz.isAgg3 rfl (lb rfl)) (so rfl sn) ?_
    refine st1 rfl (op_neq (lb rfl)) (so rfl (so rfl sn)) ?_
    refine rg_nil_draw rfl ?_
    refine kseq_normal ?_
    refine acode_cond rfl (fun hc2 => ?_) (fun hc2 => ?_)
    ·
     simp only [dq] at hc2
     refine sr ?_
     refine as_ (lb rfl) rfl ?_
     refine nkt ?_
     exact kblk_ret (kseq_ret (klg_ret (kblk_ret (kseq_ret (fin_retL (.cons (by first | exact .c rfl | exact .ref rfl rfl | exact .nilc rfl) .nil) (by rfl) (by exact resB (decide_eq_false (fun e => hc2 (by subst e; rfl))).symm))))))
    ·
     simp only [dq] at hc2
     refine acode_skip ?_
     refine kblk_normal (kseq_normal ?_)
     refine acode_region ?_
     refine mv (lb rfl) rfl ?_
     refine st1 rfl (op_add (lb rfl) (by omega)) (so rfl (so rfl sn)) ?_
     refine as_ (lb rfl) rfl ?_
     refine rg_nil_seq ?_
     refine klg_back (k + 1) ?bi ?bm ?bl
     case bi => exact ⟨by omega, take_ext (by omega) (by omega) h3 hc2⟩
     case bm => omega
     case bl => exact le_stU idn (.cons rfl (by first | rfl | simp) (.cons rfl (by first | rfl | simp) (.cons rfl (by first | rfl | simp) (.nil)))) (.nil) rfl
   ·
    simp only [dq] at hc1
    refine acode_exit ?_
    refine kseq_exit (klg_exit (kblk_hit (kseq_normal ?_)))
    refine sr ?_
    refine as_ (lb rfl) rfl ?_
    refine nkt ?_
    exact fin_retL (.cons (by first | exact .c rfl | exact .ref rfl rfl | exact .nilc rfl) .nil) (by rfl) (by exact resB (decide_eq_true (take_all h3 (by omega) (by omega))).symm)

theorem c_eqExpAsk (x y : GAsk) : FnP Tryz.prog 71 [.row (GAsk.cells false x), .row (GAsk.cells false y)] [.c (cB (decide (x = y)))] := by
 refine fnp_intro (n := 20) (rvs := [.tmp 4]) Tryz.func71 rfl rfl rfl (lb rfl) rfl ?_
 refine sr ?_
 refine st1 rfl (op_box rfl (lb rfl)) (so rfl (sf rfl (sats_lives rfl))) ?_
 refine st1 rfl (op_box rfl (lb rfl)) (so rfl (sf rfl (sats_lives rfl))) ?_
 refine as_ (lb rfl) rfl ?_
 refine nk ?_
 refine acode_seq ?_
 refine sr ?_
 refine fdb (off := 0) Tryz.underlying42 Tryz.sizeOf3 rfl rfl rfl (lb rfl) rfl rfl ?_
 refine ldb Tryz.isAgg3 rfl (lb rfl) rfl rfl ?_
 refine fdb (off := 0) Tryz.underlying42 Tryz.sizeOf3 rfl rfl rfl (lb rfl) rfl rfl ?_
 refine ldb Tryz.isAgg3 rfl (lb rfl) rfl rfl ?_
 refine st1 rfl (op_neq (lb rfl)) (so rfl (so rfl sn)) ?_
 refine nk ?_
 refine acode_cond rfl (fun hc0 => ?_) (fun hc0 => ?_)
 ·
  simp only [dq] at hc0
  refine sr ?_
  refine as_ (lb rfl) rfl ?_
  refine nkt ?_
  exact kseq_ret (fin_retL (.cons (by first | exact .c rfl | exact .ref rfl rfl | exact .nilc rfl) .nil) (by rfl) (by exact resB (decide_eq_false (fun e => hc0 (by rw [e]))).symm))
 ·
  simp only [dq] at hc0
  refine pk ?_
  refine acode_seq ?_
  refine sr ?_
  refine fdb (off := 1) Tryz.underlying42 Tryz.sizeOf3 rfl rfl rfl (lb rfl) rfl rfl ?_
  refine ldb Tryz.isAgg3 rfl (lb rfl) rfl rfl ?_
  refine fdb (off := 1) Tryz.underlying42 Tryz.sizeOf3 rfl rfl rfl (lb rfl) rfl rfl ?_
  refine ldb Tryz.isAgg3 rfl (lb rfl) rfl rfl ?_
  refine st1 rfl (op_neq (lb rfl)) (so rfl (so rfl sn)) ?_
  refine nk ?_
  refine acode_cond rfl (fun hc1 => ?_) (fun hc1 => ?_)
  ·
   simp only [dq] at hc1
   refine sr ?_
   refine as_ (lb rfl) rfl ?_
   refine nkt ?_
   exact kseq_ret (fin_retL (.cons (by first | exact .c rfl | exact .ref rfl rfl | exact .nilc rfl) .nil) (by rfl) (by exact resB (decide_eq_false (fun e => hc1 (by rw [e]))).symm))
  ·
   simp only [dq] at hc1
   refine pk ?_
   refine acode_seq ?_
   refine sr ?_
   refine fdb (off := 2) Tryz.underlying42 Tryz.sizeOf3 rfl rfl rfl (lb rfl) rfl rfl ?_
   refine ldb Tryz.isAgg3 rfl (lb rfl) rfl rfl ?_
   refine fdb (off := 2) Tryz.underlying42 Tryz.sizeOf3 rfl rfl rfl (lb rfl) rfl rfl ?_
   refine ldb Tryz.isAgg3 rfl (lb rfl) rfl rfl ?_
   refine st1 rfl (op_neq (lb rfl)) (so rfl (so rfl sn)) ?_
   refine nk ?_
   refine acode_cond rfl (fun hc2 => ?_) (fun hc2 => ?_)
   ·
    simp only [dq] at hc2
    refine sr ?_
    refine as_ (lb rfl) rfl ?_
    refine nkt ?_
    exact kseq_ret (fin_retL (.cons (by first | exact .c rfl | exact .ref rfl rfl | exact .nilc rfl) .nil) (by rfl) (by exact resB (decide_eq_false (fun e => hc2 (by rw [e]))).symm))
   ·
    simp only [dq] at hc2
    refine pk ?_
    refine sr ?_
    refine as_ (lb rfl) rfl ?_
    refine nkt ?_
    exact fin_retL (.cons (by first | exact .c rfl | exact .ref rfl rfl | exact .nilc rfl) .nil) (by rfl) (by exact resB (decide_eq_true (by cases x; cases y; simp_all)).symm)

theorem c_eqNetFlow (x y : GFlow) : FnP Tryz.prog 233 [.row (GFlow.cells false x), .row (GFlow.cells false y)] [.c (cB (decide (x = y)))] := by
 refine fnp_intro (n := 16) (rvs := [.tmp 4]) Tryz.func233 rfl rfl rfl (lb rfl) rfl ?_
 refine sr ?_
 refine st1 rfl (op_box rfl (lb rfl)) (so rfl (sf rfl (sats_lives rfl))) ?_
 refine st1 rfl (op_box rfl (lb rfl)) (so rfl (sf rfl (sats_lives rfl))) ?_
 refine as_ (lb rfl) rfl ?_
 refine nk ?_
 refine acode_seq ?_
 refine sr ?_
 refine fdb (off := 0) Tryz.underlying234 Tryz.sizeOf3 rfl rfl rfl (lb rfl) rfl rfl ?_
 refine ldb Tryz.isAgg3 rfl (lb rfl) rfl rfl ?_
 refine fdb (off := 0) Tryz.underlying234 Tryz.sizeOf3 rfl rfl rfl (lb rfl) rfl rfl ?_
 refine ldb Tryz.isAgg3 rfl (lb rfl) rfl rfl ?_
 refine st1 rfl (op_neq (lb rfl)) (so rfl (so rfl sn)) ?_
 refine nk ?_
 refine acode_cond rfl (fun hc0 => ?_) (fun hc0 => ?_)
 ·
  simp only [dq] at hc0
  refine sr ?_
  refine as_ (lb rfl) rfl ?_
  refine nkt ?_
  exact kseq_ret (fin_retL (.cons (by first | exact .c rfl | exact .ref rfl rfl | exact .nilc rfl) .nil) (by rfl) (by exact resB (decide_eq_false (fun e => hc0 (by rw [e]))).symm))
 ·
  simp only [dq] at hc0
  refine pk ?_
  refine acode_seq ?_
  refine sr ?_
  refine fdb (off := 1) Tryz.underlying234 Tryz.sizeOf42 rfl rfl rfl (lb rfl) rfl rfl ?_
  refine st1 rfl (op_load_bx_row Tryz.isAgg42 Tryz.sizeOf42 rfl rfl (lb rfl)) (so rfl (sb rfl sn)) ?_
  refine fdb (off := 1) Tryz.underlying234 Tryz.sizeOf42 rfl rfl rfl (lb rfl) rfl rfl ?_
  refine st1 rfl (op_load_bx_row Tryz.isAgg42 Tryz.sizeOf42 rfl rfl (lb rfl)) (so rfl (sb rfl sn)) ?_
  refine st1 rfl ((op_call Tryz.func71 rfl rfl (c_eqExpAsk x.if_ y.if_) (by exact (.cons (by first | exact Shares.row rfl | exact (Shares.aggCons (by first | exact Shares.c rfl) (Shares.aggCons (by first | exact Shares.c rfl) (Shares.aggCons (by first | exact Shares.c rfl) Shares.aggNil)))) (.cons (by first | exact Shares.row rfl | exact (Shares.aggCons (by first | exact Shares.c rfl) (Shares.aggCons (by first | exact Shares.c rfl) (Shares.aggCons (by first | exact Shares.c rfl) Shares.aggNil)))) .nil))) rfl (by first | exact .inl rfl | exact .inr (sol_cons rfl sol_nil)) rfl (lb rfl))) (sats_opds (.cons rfl (.cons rfl .nil)) (sats_app (sats_fresh_all (by exact rfl)) (sats_app (sats_needs (by first | exact all_nil | exact all_cons rfl all_nil | exact all_cons rfl (all_cons rfl all_nil) | exact all_cons rfl (all_cons rfl (all_cons rfl all_nil)) | exact all_cons rfl (all_cons rfl (all_cons rfl (all_cons rfl all_nil))))) (sats_lives rfl)))) ?_
  refine st1 rfl (op_not (lb rfl)) (so rfl sn) ?_
  refine nk ?_
  refine acode_cond rfl (fun hc1 => ?_) (fun hc1 => ?_)
  ·
   simp only [dq] at hc1
   refine sr ?_
   refine as_ (lb rfl) rfl ?_
   refine nkt ?_
   exact kseq_ret (fin_retL (.cons (by first | exact .c rfl | exact .ref rfl rfl | exact .nilc rfl) .nil) (by rfl) (by exact resB (decide_eq_false (fun e => hc1 (by rw [e]))).symm))
  ·
   simp only [dq] at hc1
   refine pk ?_
   refine sr ?_
   refine as_ (lb rfl) rfl ?_
   refine nkt ?_
   exact fin_retL (.cons (by first | exact .c rfl | exact .ref rfl rfl | exact .nilc rfl) .nil) (by rfl) (by exact resB (decide_eq_true (by cases x; cases y; simp_all)).symm)

theorem c_eqNetFlowS (a b : List GFlow) (hl : a.length ≤ 1048576) : FnP Tryz.prog 220 [.c (.sl false 4 (a.map (GFlow.cells false))), .c (.sl false 4 (b.map (GFlow.cells false)))] [.c (cB (decide (a = b)))] := by
 refine fnp_intro (n := 27) (rvs := [.tmp 4]) Tryz.func220 rfl rfl rfl (lb rfl) rfl ?_
 refine sr ?_
 refine as_ (lb rfl) rfl ?_
 refine nk ?_
 refine acode_seq ?_
 refine sr ?_
 refine mv (lb rfl) rfl ?_
 refine st1 rfl (op_len_sh Tryz.underlying185 (lb rfl)) (so rfl sn) ?_
 refine mv (lb rfl) rfl ?_
 refine st1 rfl (op_len_sh Tryz.underlying185 (lb rfl)) (so rfl sn) ?_
 refine st1 rfl (op_neq (lb rfl)) (so rfl (so rfl sn)) ?_
 refine nk ?_
 refine acode_cond rfl (fun hc0 => ?_) (fun hc0 => ?_)
 ·
  simp only [dq] at hc0
  refine sr ?_
  refine as_ (lb rfl) rfl ?_
  refine nkt ?_
  exact kseq_ret (fin_retL (.cons (by first | exact .c rfl | exact .ref rfl rfl | exact .nilc rfl) .nil) (by rfl) (by exact resB (decide_eq_false (fun e => hc0 (by rw [e]))).symm))
 ·
  simp only [dq] at hc0
  refine pk ?_
  refine acode_seq ?_
  refine sr ?_
  refine as_ (lb rfl) rfl ?_
  refine nk ?_
  refine acode_block ?_
  refine acode_loopk (xs := [0, 1]) (ys := []) (S := Nat) (fun s => [(5, aInt (s : Int))]) (fun s => []) (fun s => s ≤ a.length ∧ a.take s = b.take s) (fun s => a.length - s) 0 (.cons rfl (.cons rfl .nil)) .nil ?em ?eo rfl ?ei ?round
  case em => exact .cons rfl (by first | rfl | simp) (.nil)
  case eo => exact .nil
  case ei => exact ⟨Nat.zero_le _, by simp⟩
  case round =>
   rintro k ⟨h2, h3⟩
   refine acode_seq ?_
   refine sr ?_
   refine mv (lb rfl) rfl ?_
   refine mv (lb rfl) rfl ?_
   refine st1 rfl (op_len_sh Tryz.underlying185 (lb rfl)) (so rfl sn) ?_
   refine st1 rfl (op_lss (lb rfl)) (so rfl (so rfl sn)) ?_
   refine nk ?_
   refine acode_cond rfl (fun hc1 => ?_) (fun hc1 => ?_)
   ·
    simp only [dq] at hc1
    refine pk ?_
    refine acode_seq ?_
    refine acode_block ?_
    refine acode_seq ?_
    refine acode_region_draw mixed rfl ?_
    refine mv (lb rfl) rfl ?_
    refine mv (lb rfl) rfl ?_
    refine st1 rfl (op_index_shN Tryz.underlying185 Tryz.sizeOf234 (lb rfl) (by omega)) (so rfl (so rfl sn)) ?_
    refine st1 rfl (op_load_pts_all Tryz.isAgg234 Tryz.sizeOf234 rfl (lb rfl)) (so rfl sn) ?_
    refine mv (lb rfl) rfl ?_
    refine mv (lb rfl) rfl ?_
    refine st1 rfl (op_index_shN Tryz.underlying185 Tryz.sizeOf234 (lb rfl) (by omega)) (so rfl (so rfl sn)) ?_
    refine st1 rfl (op_load_pts_all Tryz.isAgg234 Tryz.sizeOf234 rfl (lb rfl)) (so rfl sn) ?_
    refine st1 rfl ((op_call Tryz.func233 rfl rfl (c_eqNetFlow (a[k]'(by omega)) (b[k]'(by omega))) (by exact (.cons (by first | exact Shares.row rfl | exact (Shares.aggCons (by first | exact Shares.c rfl) (Shares.aggCons (by first | exact Shares.c rfl) (Shares.aggCons (by first | exact Shares.c rfl) (Shares.aggCons (by first | exact Shares.c rfl) Shares.aggNil))))) (.cons (by first | exact Shares.row rfl | exact (Shares.aggCons (by first | exact Shares.c rfl) (Shares.aggCons (by first | exact Shares.c rfl) (Shares.aggCons (by first | exact Shares.c rfl) (Shares.aggCons (by first | exact Shares.c rfl) Shares.aggNil))))) .nil))) rfl (by first | exact .inl rfl | exact .inr (sol_cons rfl sol_nil)) rfl (lb rfl))) (sats_opds (.cons rfl (.cons rfl .nil)) (sats_app (sats_fresh_all (by exact rfl)) (sats_app (sats_needs (by first | exact all_nil | exact all_cons rfl all_nil | exact all_cons rfl (all_cons rfl all_nil) | exact all_cons rfl (all_cons rfl (all_cons rfl all_nil)) | exact all_cons rfl (all_cons rfl (all_cons rfl (all_cons rfl all_nil))))) (sats_lives rfl)))) ?_
    refine st1 rfl (op_not (lb rfl)) (so rfl sn) ?_
    refine rg_nil_draw rfl ?_
    refine kseq_normal ?_
    refine acode_cond rfl (fun hc2 => ?_) (fun hc2 => ?_)
    ·
     simp only [dq] at hc2
     refine sr ?_
     refine as_ (lb rfl) rfl ?_
     refine nkt ?_
     exact kblk_ret (kseq_ret (klg_ret (kblk_ret (kseq_ret (fin_retL (.cons (by first | exact .c rfl | exact .ref rfl rfl | exact .nilc rfl) .nil) (by rfl) (by exact resB (decide_eq_false (fun e => hc2 (by subst e; rfl))).symm))))))
    ·
     simp only [dq] at hc2
     refine acode_skip ?_
     refine kblk_normal (kseq_normal ?_)
     refine acode_region ?_
     refine mv (lb rfl) rfl ?_
     refine st1 rfl (op_add (lb rfl) (by omega)) (so rfl (so rfl sn)) ?_
     refine as_ (lb rfl) rfl ?_
     refine rg_nil_seq ?_
     refine klg_back (k + 1) ?bi ?bm ?bl
     case bi => exact ⟨by omega, take_ext (by omega) (by omega) h3 hc2⟩
     case bm => omega
     case bl => exact le_stU idn (.cons rfl (by first | rfl | simp) (.cons rfl (by first | rfl | simp) (.cons rfl (by first | rfl | simp) (.nil)))) (.nil) rfl
   ·
    simp only [dq] at hc1
    refine acode_exit ?_
    refine kseq_exit (klg_exit (kblk_hit (kseq_normal ?_)))
    refine sr ?_
    refine as_ (lb rfl) rfl ?_
    refine nkt ?_
    exact fin_retL (.cons (by first | exact .c rfl | exact .ref rfl rfl | exact .nilc rfl) .nil) (by rfl) (by exact resB (decide_eq_true (take_all h3 (by omega) (by omega))).symm)

theorem c_eqNetTask (x y : GTask) (hx : GTask.lens (· ≤ 1048576) x) (hy : GTask.lens (· ≤ 1048576) y) : FnP Tryz.prog 188 [.row (GTask.cells false x), .row (GTask.cells false y)] [.c (cB (decide (x = y)))] := by
 refine fnp_intro (n := 53) (rvs := [.tmp 4]) Tryz.func188 rfl rfl rfl (lb rfl) rfl ?_
 refine sr ?_
 refine st1 rfl (op_box rfl (lb rfl)) (so rfl (sf rfl (sats_lives rfl))) ?_
 refine st1 rfl (op_box rfl (lb rfl)) (so rfl (sf rfl (sats_lives rfl))) ?_
 refine as_ (lb rfl) rfl ?_
 refine nk ?_
 refine acode_seq ?_
 refine sr ?_
 refine fdb (off := 0) Tryz.underlying187 Tryz.sizeOf3 rfl rfl rfl (lb rfl) rfl rfl ?_
 refine ldb Tryz.isAgg3 rfl (lb rfl) rfl rfl ?_
 refine fdb (off := 0) Tryz.underlying187 Tryz.sizeOf3 rfl rfl rfl (lb rfl) rfl rfl ?_
 refine ldb Tryz.isAgg3 rfl (lb rfl) rfl rfl ?_
 refine st1 rfl (op_neq (lb rfl)) (so rfl (so rfl sn)) ?_
 refine nk ?_
 refine acode_cond rfl (fun hc0 => ?_) (fun hc0 => ?_)
 ·
  simp only [dq] at hc0
  refine sr ?_
  refine as_ (lb rfl) rfl ?_
  refine nkt ?_
  exact kseq_ret (fin_retL (.cons (by first | exact .c rfl | exact .ref rfl rfl | exact .nilc rfl) .nil) (by rfl) (by exact resB (decide_eq_false (fun e => hc0 (by rw [e]))).symm))
 ·
  simp only [dq] at hc0
  refine pk ?_
  refine acode_seq ?_
  refine sr ?_
  refine fdb (off := 1) Tryz.underlying187 Tryz.sizeOf3 rfl rfl rfl (lb rfl) rfl rfl ?_
  refine ldb Tryz.isAgg3 rfl (lb rfl) rfl rfl ?_
  refine fdb (off := 1) Tryz.underlying187 Tryz.sizeOf3 rfl rfl rfl (lb rfl) rfl rfl ?_
  refine ldb Tryz.isAgg3 rfl (lb rfl) rfl rfl ?_
  refine st1 rfl (op_neq (lb rfl)) (so rfl (so rfl sn)) ?_
  refine nk ?_
  refine acode_cond rfl (fun hc1 => ?_) (fun hc1 => ?_)
  ·
   simp only [dq] at hc1
   refine sr ?_
   refine as_ (lb rfl) rfl ?_
   refine nkt ?_
   exact kseq_ret (fin_retL (.cons (by first | exact .c rfl | exact .ref rfl rfl | exact .nilc rfl) .nil) (by rfl) (by exact resB (decide_eq_false (fun e => hc1 (by rw [e]))).symm))
  ·
   simp only [dq] at hc1
   refine pk ?_
   refine acode_seq ?_
   refine sr ?_
   refine fdb (off := 2) Tryz.underlying187 Tryz.sizeOf23 rfl rfl rfl (lb rfl) rfl rfl ?_
   refine ldb Tryz.isAgg23 rfl (lb rfl) rfl rfl ?_
   refine fdb (off := 2) Tryz.underlying187 Tryz.sizeOf23 rfl rfl rfl (lb rfl) rfl rfl ?_
   refine ldb Tryz.isAgg23 rfl (lb rfl) rfl rfl ?_
   refine st1 rfl ((op_call Tryz.func42 rfl rfl (c_eqIntS x.in_ y.in_ hx.1) (by exact (.cons (by first | exact Shares.c rfl | exact Shares.nilc | exact Shares.ref rfl (rowI.rnobox _ _) (rowI.rshare _ _)) (.cons (by first | exact Shares.c rfl | exact Shares.nilc | exact Shares.ref rfl (rowI.rnobox _ _) (rowI.rshare _ _)) .nil))) rfl (by first | exact .inl rfl | exact .inr (sol_cons rfl sol_nil)) rfl (lb rfl))) (sats_opds (.cons rfl (.cons rfl .nil)) (sats_app (sats_fresh_all (by exact rfl)) (sats_app (sats_needs (by first | exact all_nil | exact all_cons rfl all_nil | exact all_cons rfl (all_cons rfl all_nil) | exact all_cons rfl (all_cons rfl (all_cons rfl all_nil)) | exact all_cons rfl (all_cons rfl (all_cons rfl (all_cons rfl all_nil))))) (sats_lives rfl)))) ?_
   refine st1 rfl (op_not (lb rfl)) (so rfl sn) ?_
   refine nk ?_
   refine acode_cond rfl (fun hc2 => ?_) (fun hc2 => ?_)
   ·
    simp only [dq] at hc2
    refine sr ?_
    refine as_ (lb rfl) rfl ?_
    refine nkt ?_
    exact kseq_ret (fin_retL (.cons (by first | exact .c rfl | exact .ref rfl rfl | exact .nilc rfl) .nil) (by rfl) (by exact resB (decide_eq_false (fun e => hc2 (by rw [e]))).symm))
   ·
    simp only [dq] at hc2
    refine pk ?_
    refine acode_seq ?_
    refine sr ?_
    refine fdb (off := 3) Tryz.underlying187 Tryz.sizeOf185 rfl rfl rfl (lb rfl) rfl rfl ?_
    refine ldb Tryz.isAgg185 rfl (lb rfl) rfl rfl ?_
    refine fdb (off := 3) Tryz.underlying187 Tryz.sizeOf185 rfl rfl rfl (lb rfl) rfl rfl ?_
    refine ldb Tryz.isAgg185 rfl (lb rfl) rfl rfl ?_
    refine st1 rfl ((op_call Tryz.func220 rfl rfl (c_eqNetFlowS x.out y.out hx.2.1) (by exact (.cons (by first | exact Shares.c rfl | exact Shares.nilc | exact Shares.ref rfl (rowGFlow.rnobox _ _) (rowGFlow.rshare _ _)) (.cons (by first | exact Shares.c rfl | exact Shares.nilc | exact Shares.ref rfl (rowGFlow.rnobox _ _) (rowGFlow.rshare _ _)) .nil))) rfl (by first | exact .inl rfl | exact .inr (sol_cons rfl sol_nil)) rfl (lb rfl))) (sats_opds (.cons rfl (.cons rfl .nil)) (sats_app (sats_fresh_all (by exact rfl)) (sats_app (sats_needs (by first | exact all_nil | exact all_cons rfl all_nil | exact all_cons rfl (all_cons rfl all_nil) | exact all_cons rfl (all_cons rfl (all_cons rfl all_nil)) | exact all_cons rfl (all_cons rfl (all_cons rfl (all_cons rfl all_nil))))) (sats_lives rfl)))) ?_
    refine st1 rfl (op_not (lb rfl)) (so rfl sn) ?_
    refine nk ?_
    refine acode_cond rfl (fun hc3 => ?_) (fun hc3 => ?_)
    ·
     simp only [dq] at hc3
     refine sr ?_
     refine as_ (lb rfl) rfl ?_
     refine nkt ?_
     exact kseq_ret (fin_retL (.cons (by first | exact .c rfl | exact .ref rfl rfl | exact .nilc rfl) .nil) (by rfl) (by exact resB (decide_eq_false (fun e => hc3 (by rw [e]))).symm))
    ·
     simp only [dq] at hc3
     refine pk ?_
     refine acode_seq ?_
     refine sr ?_
     refine fdb (off := 4) Tryz.underlying187 Tryz.sizeOf23 rfl rfl rfl (lb rfl) rfl rfl ?_
     refine ldb Tryz.isAgg23 rfl (lb rfl) rfl rfl ?_
     refine fdb (off := 4) Tryz.underlying187 Tryz.sizeOf23 rfl rfl rfl (lb rfl) rfl rfl ?_
     refine ldb Tryz.isAgg23 rfl (lb rfl) rfl rfl ?_
     refine st1 rfl ((op_call Tryz.func42 rfl rfl (c_eqIntS x.clear y.clear hx.2.2) (by exact (.cons (by first | exact Shares.c rfl | exact Shares.nilc | exact Shares.ref rfl (rowI.rnobox _ _) (rowI.rshare _ _)) (.cons (by first | exact Shares.c rfl | exact Shares.nilc | exact Shares.ref rfl (rowI.rnobox _ _) (rowI.rshare _ _)) .nil))) rfl (by first | exact .inl rfl | exact .inr (sol_cons rfl sol_nil)) rfl (lb rfl))) (sats_opds (.cons rfl (.cons rfl .nil)) (sats_app (sats_fresh_all (by exact rfl)) (sats_app (sats_needs (by first | exact all_nil | exact all_cons rfl all_nil | exact all_cons rfl (all_cons rfl all_nil) | exact all_cons rfl (all_cons rfl (all_cons rfl all_nil)) | exact all_cons rfl (all_cons rfl (all_cons rfl (all_cons rfl all_nil))))) (sats_lives rfl)))) ?_
     refine st1 rfl (op_not (lb rfl)) (so rfl sn) ?_
     refine nk ?_
     refine acode_cond rfl (fun hc4 => ?_) (fun hc4 => ?_)
     ·
      simp only [dq] at hc4
      refine sr ?_
      refine as_ (lb rfl) rfl ?_
      refine nkt ?_
      exact kseq_ret (fin_retL (.cons (by first | exact .c rfl | exact .ref rfl rfl | exact .nilc rfl) .nil) (by rfl) (by exact resB (decide_eq_false (fun e => hc4 (by rw [e]))).symm))
     ·
      simp only [dq] at hc4
      refine pk ?_
      refine acode_seq ?_
      refine sr ?_
      refine fdb (off := 5) Tryz.underlying187 Tryz.sizeOf3 rfl rfl rfl (lb rfl) rfl rfl ?_
      refine ldb Tryz.isAgg3 rfl (lb rfl) rfl rfl ?_
      refine fdb (off := 5) Tryz.underlying187 Tryz.sizeOf3 rfl rfl rfl (lb rfl) rfl rfl ?_
      refine ldb Tryz.isAgg3 rfl (lb rfl) rfl rfl ?_
      refine st1 rfl (op_neq (lb rfl)) (so rfl (so rfl sn)) ?_
      refine nk ?_
      refine acode_cond rfl (fun hc5 => ?_) (fun hc5 => ?_)
      ·
       simp only [dq] at hc5
       refine sr ?_
       refine as_ (lb rfl) rfl ?_
       refine nkt ?_
       exact kseq_ret (fin_retL (.cons (by first | exact .c rfl | exact .ref rfl rfl | exact .nilc rfl) .nil) (by rfl) (by exact resB (decide_eq_false (fun e => hc5 (by rw [e]))).symm))
      ·
       simp only [dq] at hc5
       refine pk ?_
       refine acode_seq ?_
       refine sr ?_
       refine fdb (off := 6) Tryz.underlying187 Tryz.sizeOf3 rfl rfl rfl (lb rfl) rfl rfl ?_
       refine ldb Tryz.isAgg3 rfl (lb rfl) rfl rfl ?_
       refine fdb (off := 6) Tryz.underlying187 Tryz.sizeOf3 rfl rfl rfl (lb rfl) rfl rfl ?_
       refine ldb Tryz.isAgg3 rfl (lb rfl) rfl rfl ?_
       refine st1 rfl (op_neq (lb rfl)) (so rfl (so rfl sn)) ?_
       refine nk ?_
       refine acode_cond rfl (fun hc6 => ?_) (fun hc6 => ?_)
       ·
        simp only [dq] at hc6
        refine sr ?_
        refine as_ (lb rfl) rfl ?_
        refine nkt ?_
        exact kseq_ret (fin_retL (.cons (by first | exact .c rfl | exact .ref rfl rfl | exact .nilc rfl) .nil) (by rfl) (by exact resB (decide_eq_false (fun e => hc6 (by rw [e]))).symm))
       ·
        simp only [dq] at hc6
        refine pk ?_
        refine acode_seq ?_
        refine sr ?_
        refine fdb (off := 7) Tryz.underlying187 Tryz.sizeOf3 rfl rfl rfl (lb rfl) rfl rfl ?_
        refine ldb Tryz.isAgg3 rfl (lb rfl) rfl rfl ?_
        refine fdb (off := 7) Tryz.underlying187 Tryz.sizeOf3 rfl rfl rfl (lb rfl) rfl rfl ?_
        refine ldb Tryz.isAgg3 rfl (lb rfl) rfl rfl ?_
        refine st1 rfl (op_neq (lb rfl)) (so rfl (so rfl sn)) ?_
        refine nk ?_
        refine acode_cond rfl (fun hc7 => ?_) (fun hc7 => ?_)
        ·
         simp only [dq] at hc7
         refine sr ?_
         refine as_ (lb rfl) rfl ?_
         refine nkt ?_
         exact kseq_ret (fin_retL (.cons (by first | exact .c rfl | exact .ref rfl rfl | exact .nilc rfl) .nil) (by rfl) (by exact resB (decide_eq_false (fun e => hc7 (by rw [e]))).symm))
        ·
         simp only [dq] at hc7
         refine pk ?_
         refine acode_seq ?_
         refine sr ?_
         refine fdb (off := 8) Tryz.underlying187 Tryz.sizeOf3 rfl rfl rfl (lb rfl) rfl rfl ?_
         refine ldb Tryz.isAgg3 rfl (lb rfl) rfl rfl ?_
         refine fdb (off := 8) Tryz.underlying187 Tryz.sizeOf3 rfl rfl rfl (lb rfl) rfl rfl ?_
         refine ldb Tryz.isAgg3 rfl (lb rfl) rfl rfl ?_
         refine st1 rfl (op_neq (lb rfl)) (so rfl (so rfl sn)) ?_
         refine nk ?_
         refine acode_cond rfl (fun hc8 => ?_) (fun hc8 => ?_)
         ·
          simp only [dq] at hc8
          refine sr ?_
          refine as_ (lb rfl) rfl ?_
          refine nkt ?_
          exact kseq_ret (fin_retL (.cons (by first | exact .c rfl | exact .ref rfl rfl | exact .nilc rfl) .nil) (by rfl) (by exact resB (decide_eq_false (fun e => hc8 (by rw [e]))).symm))
         ·
          simp only [dq] at hc8
          refine pk ?_
          refine sr ?_
          refine as_ (lb rfl) rfl ?_
          refine nkt ?_
          exact fin_retL (.cons (by first | exact .c rfl | exact .ref rfl rfl | exact .nilc rfl) .nil) (by rfl) (by exact resB (decide_eq_true (by cases x; cases y; simp_all)).symm)

theorem c_eqNetTaskS (a b : List GTask) (hl : a.length ≤ 1048576) (ha : ∀ y ∈ a, GTask.lens (· ≤ 1048576) y) (hb : ∀ y ∈ b, GTask.lens (· ≤ 1048576) y) : FnP Tryz.prog 113 [.c (.sl false 9 (a.map (GTask.cells false))), .c (.sl false 9 (b.map (GTask.cells false)))] [.c (cB (decide (a = b)))] := by
 refine fnp_intro (n := 27) (rvs := [.tmp 4]) Tryz.func113 rfl rfl rfl (lb rfl) rfl ?_
 refine sr ?_
 refine as_ (lb rfl) rfl ?_
 refine nk ?_
 refine acode_seq ?_
 refine sr ?_
 refine mv (lb rfl) rfl ?_
 refine st1 rfl (op_len_sh Tryz.underlying79 (lb rfl)) (so rfl sn) ?_
 refine mv (lb rfl) rfl ?_
 refine st1 rfl (op_len_sh Tryz.underlying79 (lb rfl)) (so rfl sn) ?_
 refine st1 rfl (op_neq (lb rfl)) (so rfl (so rfl sn)) ?_
 refine nk ?_
 refine acode_cond rfl (fun hc0 => ?_) (fun hc0 => ?_)
 ·
  simp only [dq] at hc0
  refine sr ?_
  refine as_ (lb rfl) rfl ?_
  refine nkt ?_
  exact kseq_ret (fin_retL (.cons (by first | exact .c rfl | exact .ref rfl rfl | exact .nilc rfl) .nil) (by rfl) (by exact resB (decide_eq_false (fun e => hc0 (by rw [e]))).symm))
 ·
  simp only [dq] at hc0
  refine pk ?_
  refine acode_seq ?_
  refine sr ?_
  refine as_ (lb rfl) rfl ?_
  refine nk ?_
  refine acode_block ?_
  refine acode_loopk (xs := [0, 1]) (ys := []) (S := Nat) (fun s => [(5, aInt (s : Int))]) (fun s => []) (fun s => s ≤ a.length ∧ a.take s = b.take s) (fun s => a.length - s) 0 (.cons rfl (.cons rfl .nil)) .nil ?em ?eo rfl ?ei ?round
  case em => exact .cons rfl (by first | rfl | simp) (.nil)
  case eo => exact .nil
  case ei => exact ⟨Nat.zero_le _, by simp⟩
  case round =>
   rintro k ⟨h2, h3⟩
   refine acode_seq ?_
   refine sr ?_
   refine mv (lb rfl) rfl ?_
   refine mv (lb rfl) rfl ?_
   refine st1 rfl (op_len_sh Tryz.underlying79 (lb rfl)) (so rfl sn) ?_
   refine st1 rfl (op_lss (lb rfl)) (so rfl (so rfl sn)) ?_
   refine nk ?_
   refine acode_cond rfl (fun hc1 => ?_) (fun hc1 => ?_)
   ·
    simp only [dq] at hc1
    refine pk ?_
    refine acode_seq ?_
    refine acode_block ?_
    refine acode_seq ?_
    refine acode_region_draw mixed rfl ?_
    refine mv (lb rfl) rfl ?_
    refine mv (lb rfl) rfl ?_
    refine st1 rfl (op_index_shN Tryz.underlying79 Tryz.sizeOf187 (lb rfl) (by omega)) (so rfl (so rfl sn)) ?_
    refine st1 rfl (op_load_pts_all Tryz.isAgg187 Tryz.sizeOf187 rfl (lb rfl)) (so rfl sn) ?_
    refine mv (lb rfl) rfl ?_
    refine mv (lb rfl) rfl ?_
    refine st1 rfl (op_index_shN Tryz.underlying79 Tryz.sizeOf187 (lb rfl) (by omega)) (so rfl (so rfl sn)) ?_
    refine st1 rfl (op_load_pts_all Tryz.isAgg187 Tryz.sizeOf187 rfl (lb rfl)) (so rfl sn) ?_
    refine st1 rfl ((op_call Tryz.func188 rfl rfl (c_eqNetTask (a[k]'(by omega)) (b[k]'(by omega)) (ha _ (List.getElem_mem _)) (hb _ (List.getElem_mem _))) (by exact (.cons (by first | exact Shares.row rfl | exact (Shares.aggCons (by first | exact Shares.c rfl) (Shares.aggCons (by first | exact Shares.c rfl) (Shares.aggCons (by first | exact Shares.c rfl | exact Shares.nilc | exact Shares.ref rfl (rowI.rnobox _ _) (rowI.rshare _ _)) (Shares.aggCons (by first | exact Shares.c rfl | exact Shares.nilc | exact Shares.ref rfl (rowGFlow.rnobox _ _) (rowGFlow.rshare _ _)) (Shares.aggCons (by first | exact Shares.c rfl | exact Shares.nilc | exact Shares.ref rfl (rowI.rnobox _ _) (rowI.rshare _ _)) (Shares.aggCons (by first | exact Shares.c rfl) (Shares.aggCons (by first | exact Shares.c rfl) (Shares.aggCons (by first | exact Shares.c rfl) (Shares.aggCons (by first | exact Shares.c rfl) Shares.aggNil)))))))))) (.cons (by first | exact Shares.row rfl | exact (Shares.aggCons (by first | exact Shares.c rfl) (Shares.aggCons (by first | exact Shares.c rfl) (Shares.aggCons (by first | exact Shares.c rfl | exact Shares.nilc | exact Shares.ref rfl (rowI.rnobox _ _) (rowI.rshare _ _)) (Shares.aggCons (by first | exact Shares.c rfl | exact Shares.nilc | exact Shares.ref rfl (rowGFlow.rnobox _ _) (rowGFlow.rshare _ _)) (Shares.aggCons (by first | exact Shares.c rfl | exact Shares.nilc | exact Shares.ref rfl (rowI.rnobox _ _) (rowI.rshare _ _)) (Shares.aggCons (by first | exact Shares.c rfl) (Shares.aggCons (by first | exact Shares.c rfl) (Shares.aggCons (by first | exact Shares.c rfl) (Shares.aggCons (by first | exact Shares.c rfl) Shares.aggNil)))))))))) .nil))) rfl (by first | exact .inl rfl | exact .inr (sol_cons rfl sol_nil)) rfl (lb rfl))) (sats_opds (.cons rfl (.cons rfl .nil)) (sats_app (sats_fresh_all (by exact rfl)) (sats_app (sats_needs (by first | exact all_nil | exact all_cons rfl all_nil | exact all_cons rfl (all_cons rfl all_nil) | exact all_cons rfl (all_cons rfl (all_cons rfl all_nil)) | exact all_cons rfl (all_cons rfl (all_cons rfl (all_cons rfl all_nil))))) (sats_lives rfl)))) ?_
    refine st1 rfl (op_not (lb rfl)) (so rfl sn) ?_
    refine rg_nil_draw rfl ?_
    refine kseq_normal ?_
    refine acode_cond rfl (fun hc2 => ?_) (fun hc2 => ?_)
    ·
     simp only [dq] at hc2
     refine sr ?_
     refine as_ (lb rfl) rfl ?_
     refine nkt ?_
     exact kblk_ret (kseq_ret (klg_ret (kblk_ret (kseq_ret (fin_retL (.cons (by first | exact .c rfl | exact .ref rfl rfl | exact .nilc rfl) .nil) (by rfl) (by exact resB (decide_eq_false (fun e => hc2 (by subst e; rfl))).symm))))))
    ·
     simp only [dq] at hc2
     refine acode_skip ?_
     refine kblk_normal (kseq_normal ?_)
     refine acode_region ?_
     refine mv (lb rfl) rfl ?_
     refine st1 rfl (op_add (lb rfl) (by omega)) (so rfl (so rfl sn)) ?_
     refine as_ (lb rfl) rfl ?_
     refine rg_nil_seq ?_
     refine klg_back (k + 1) ?bi ?bm ?bl
     case bi => exact ⟨by omega, take_ext (by omega) (by omega) h3 hc2⟩
     case bm => omega
     case bl => exact le_stU idn (.cons rfl (by first | rfl | simp) (.cons rfl (by first | rfl | simp) (.cons rfl (by first | rfl | simp) (.nil)))) (.nil) rfl
   ·
    simp only [dq] at hc1
    refine acode_exit ?_
    refine kseq_exit (klg_exit (kblk_hit (kseq_normal ?_)))
    refine sr ?_
    refine as_ (lb rfl) rfl ?_
    refine nkt ?_
    exact fin_retL (.cons (by first | exact .c rfl | exact .ref rfl rfl | exact .nilc rfl) .nil) (by rfl) (by exact resB (decide_eq_true (take_all h3 (by omega) (by omega))).symm)

theorem c_eqNetNet (x y : GNet) (hx : GNet.lens (· ≤ 1048576) x) (hy : GNet.lens (· ≤ 1048576) y) : FnP Tryz.prog 41 [.row (GNet.cells false x), .row (GNet.cells false y)] [.c (cB (decide (x = y)))] := by
 refine fnp_intro (n := 16) (rvs := [.tmp 4]) Tryz.func41 rfl rfl rfl (lb rfl) rfl ?_
 refine sr ?_
 refine st1 rfl (op_box rfl (lb rfl)) (so rfl (sf rfl (sats_lives rfl))) ?_
 refine st1 rfl (op_box rfl (lb rfl)) (so rfl (sf rfl (sats_lives rfl))) ?_
 refine as_ (lb rfl) rfl ?_
 refine nk ?_
 refine acode_seq ?_
 refine sr ?_
 refine fdb (off := 0) Tryz.underlying81 Tryz.sizeOf3 rfl rfl rfl (lb rfl) rfl rfl ?_
 refine ldb Tryz.isAgg3 rfl (lb rfl) rfl rfl ?_
 refine fdb (off := 0) Tryz.underlying81 Tryz.sizeOf3 rfl rfl rfl (lb rfl) rfl rfl ?_
 refine ldb Tryz.isAgg3 rfl (lb rfl) rfl rfl ?_
 refine st1 rfl (op_neq (lb rfl)) (so rfl (so rfl sn)) ?_
 refine nk ?_
 refine acode_cond rfl (fun hc0 => ?_) (fun hc0 => ?_)
 ·
  simp only [dq] at hc0
  refine sr ?_
  refine as_ (lb rfl) rfl ?_
  refine nkt ?_
  exact kseq_ret (fin_retL (.cons (by first | exact .c rfl | exact .ref rfl rfl | exact .nilc rfl) .nil) (by rfl) (by exact resB (decide_eq_false (fun e => hc0 (by rw [e]))).symm))
 ·
  simp only [dq] at hc0
  refine pk ?_
  refine acode_seq ?_
  refine sr ?_
  refine fdb (off := 1) Tryz.underlying81 Tryz.sizeOf79 rfl rfl rfl (lb rfl) rfl rfl ?_
  refine ldb Tryz.isAgg79 rfl (lb rfl) rfl rfl ?_
  refine fdb (off := 1) Tryz.underlying81 Tryz.sizeOf79 rfl rfl rfl (lb rfl) rfl rfl ?_
  refine ldb Tryz.isAgg79 rfl (lb rfl) rfl rfl ?_
  refine st1 rfl ((op_call Tryz.func113 rfl rfl (c_eqNetTaskS x.tasks y.tasks hx.1 hx.2 hy.2) (by exact (.cons (by first | exact Shares.c rfl | exact Shares.nilc | exact Shares.ref rfl (rowGTask.rnobox _ _) (rowGTask.rshare _ _)) (.cons (by first | exact Shares.c rfl | exact Shares.nilc | exact Shares.ref rfl (rowGTask.rnobox _ _) (rowGTask.rshare _ _)) .nil))) rfl (by first | exact .inl rfl | exact .inr (sol_cons rfl sol_nil)) rfl (lb rfl))) (sats_opds (.cons rfl (.cons rfl .nil)) (sats_app (sats_fresh_all (by exact rfl)) (sats_app (sats_needs (by first | exact all_nil | exact all_cons rfl all_nil | exact all_cons rfl (all_cons rfl all_nil) | exact all_cons rfl (all_cons rfl (all_cons rfl all_nil)) | exact all_cons rfl (all_cons rfl (all_cons rfl (all_cons rfl all_nil))))) (sats_lives rfl)))) ?_
  refine st1 rfl (op_not (lb rfl)) (so rfl sn) ?_
  refine nk ?_
  refine acode_cond rfl (fun hc1 => ?_) (fun hc1 => ?_)
  ·
   simp only [dq] at hc1
   refine sr ?_
   refine as_ (lb rfl) rfl ?_
   refine nkt ?_
   exact kseq_ret (fin_retL (.cons (by first | exact .c rfl | exact .ref rfl rfl | exact .nilc rfl) .nil) (by rfl) (by exact resB (decide_eq_false (fun e => hc1 (by rw [e]))).symm))
  ·
   simp only [dq] at hc1
   refine pk ?_
   refine sr ?_
   refine as_ (lb rfl) rfl ?_
   refine nkt ?_
   exact fin_retL (.cons (by first | exact .c rfl | exact .ref rfl rfl | exact .nilc rfl) .nil) (by rfl) (by exact resB (decide_eq_true (by cases x; cases y; simp_all)).symm)

theorem c_eqNetNetS (a b : List GNet) (hl : a.length ≤ 1048576) (ha : ∀ y ∈ a, GNet.lens (· ≤ 1048576) y) (hb : ∀ y ∈ b, GNet.lens (· ≤ 1048576) y) : FnP Tryz.prog 51 [.c (.sl false 2 (a.map (GNet.cells false))), .c (.sl false 2 (b.map (GNet.cells false)))] [.c (cB (decide (a = b)))] := by
 refine fnp_intro (n := 27) (rvs := [.tmp 4]) Tryz.func51 rfl rfl rfl (lb rfl) rfl ?_
 refine sr ?_
 refine as_ (lb rfl) rfl ?_
 refine nk ?_
 refine acode_seq ?_
 refine sr ?_
 refine mv (lb rfl) rfl ?_
 refine st1 rfl (op_len_sh Tryz.underlying34 (lb rfl)) (so rfl sn) ?_
 refine mv (lb rfl) rfl ?_
 refine st1 rfl (op_len_sh Tryz.underlying34 (lb rfl)) (so rfl sn) ?_
 refine st1 rfl (op_neq (lb rfl)) (so rfl (so rfl sn)) ?_
 refine nk ?_
 refine acode_cond rfl (fun hc0 => ?_) (fun hc0 => ?_)
 ·
  simp only [dq] at hc0
  refine sr ?_
  refine as_ (lb rfl) rfl ?_
  refine nkt ?_
  exact kseq_ret (fin_retL (.cons (by first | exact .c rfl | exact .ref rfl rfl | exact .nilc rfl) .nil) (by rfl) (by exact resB (decide_eq_false (fun e => hc0 (by rw [e]))).symm))
 ·
  simp only [dq] at hc0
  refine pk ?_
  refine acode_seq ?_
  refine sr ?_
  refine as_ (lb rfl) rfl ?_
  refine nk ?_
  refine acode_block ?_
  refine acode_loopk (xs := [0, 1]) (ys := []) (S := Nat) (fun s => [(5, aInt (s : Int))]) (fun s => []) (fun s => s ≤ a.length ∧ a.take s = b.take s) (fun s => a.length - s) 0 (.cons rfl (.cons rfl .nil)) .nil ?em ?eo rfl ?ei ?round
  case em => exact .cons rfl (by first | rfl | simp) (.nil)
  case eo => exact .nil
  case ei => exact ⟨Nat.zero_le _, by simp⟩
  case round =>
   rintro k ⟨h2, h3⟩
   refine acode_seq ?_
   refine sr ?_
   refine mv (lb rfl) rfl ?_
   refine mv (lb rfl) rfl ?_
   refine st1 rfl (op_len_sh Tryz.underlying34 (lb rfl)) (so rfl sn) ?_
   refine st1 rfl (op_lss (lb rfl)) (so rfl (so rfl sn)) ?_
   refine nk ?_
   refine acode_cond rfl (fun hc1 => ?_) (fun hc1 => ?_)
   ·
    simp only [dq] at hc1
    refine pk ?_
    refine acode_seq ?_
    refine acode_block ?_
    refine acode_seq ?_
    refine acode_region_draw mixed rfl ?_
    refine mv (lb rfl) rfl ?_
    refine mv (lb rfl) rfl ?_
    refine st1 rfl (op_index_shN Tryz.underlying34 Tryz.sizeOf81 (lb rfl) (by omega)) (so rfl (so rfl sn)) ?_
    refine st1 rfl (op_load_pts_all Tryz.isAgg81 Tryz.sizeOf81 rfl (lb rfl)) (so rfl sn) ?_
    refine mv (lb rfl) rfl ?_
    refine mv (lb rfl) rfl ?_
    refine st1 rfl (op_index_shN Tryz.underlying34 Tryz.sizeOf81 (lb rfl) (by omega)) (so rfl (so rfl sn)) ?_
    refine st1 rfl (op_load_pts_all Tryz.isAgg81 Tryz.sizeOf81 rfl (lb rfl)) (so rfl sn) ?_
    refine st1 rfl ((op_call Tryz.func41 rfl rfl (c_eqNetNet (a[k]'(by omega)) (b[k]'(by omega)) (ha _ (List.getElem_mem _)) (hb _ (List.getElem_mem _))) (by exact (.cons (by first | exact Shares.row rfl | exact (Shares.aggCons (by first | exact Shares.c rfl) (Shares.aggCons (by first | exact Shares.c rfl | exact Shares.nilc | exact Shares.ref rfl (rowGTask.rnobox _ _) (rowGTask.rshare _ _)) Shares.aggNil))) (.cons (by first | exact Shares.row rfl | exact (Shares.aggCons (by first | exact Shares.c rfl) (Shares.aggCons (by first | exact Shares.c rfl | exact Shares.nilc | exact Shares.ref rfl (rowGTask.rnobox _ _) (rowGTask.rshare _ _)) Shares.aggNil))) .nil))) rfl (by first | exact .inl rfl | exact .inr (sol_cons rfl sol_nil)) rfl (lb rfl))) (sats_opds (.cons rfl (.cons rfl .nil)) (sats_app (sats_fresh_all (by exact rfl)) (sats_app (sats_needs (by first | exact all_nil | exact all_cons rfl all_nil | exact all_cons rfl (all_cons rfl all_nil) | exact all_cons rfl (all_cons rfl (all_cons rfl all_nil)) | exact all_cons rfl (all_cons rfl (all_cons rfl (all_cons rfl all_nil))))) (sats_lives rfl)))) ?_
    refine st1 rfl (op_not (lb rfl)) (so rfl sn) ?_
    refine rg_nil_draw rfl ?_
    refine kseq_normal ?_
    refine acode_cond rfl (fun hc2 => ?_) (fun hc2 => ?_)
    ·
     simp only [dq] at hc2
     refine sr ?_
     refine as_ (lb rfl) rfl ?_
     refine nkt ?_
     exact kblk_ret (kseq_ret (klg_ret (kblk_ret (kseq_ret (fin_retL (.cons (by first | exact .c rfl | exact .ref rfl rfl | exact .nilc rfl) .nil) (by rfl) (by exact resB (decide_eq_false (fun e => hc2 (by subst e; rfl))).symm))))))
    ·
     simp only [dq] at hc2
     refine acode_skip ?_
     refine kblk_normal (kseq_normal ?_)
     refine acode_region ?_
     refine mv (lb rfl) rfl ?_
     refine st1 rfl (op_add (lb rfl) (by omega)) (so rfl (so rfl sn)) ?_
     refine as_ (lb rfl) rfl ?_
     refine rg_nil_seq ?_
     refine klg_back (k + 1) ?bi ?bm ?bl
     case bi => exact ⟨by omega, take_ext (by omega) (by omega) h3 hc2⟩
     case bm => omega
     case bl => exact le_stU idn (.cons rfl (by first | rfl | simp) (.cons rfl (by first | rfl | simp) (.cons rfl (by first | rfl | simp) (.nil)))) (.nil) rfl
   ·
    simp only [dq] at hc1
    refine acode_exit ?_
    refine kseq_exit (klg_exit (kblk_hit (kseq_normal ?_)))
    refine sr ?_
    refine as_ (lb rfl) rfl ?_
    refine nkt ?_
    exact fin_retL (.cons (by first | exact .c rfl | exact .ref rfl rfl | exact .nilc rfl) .nil) (by rfl) (by exact resB (decide_eq_true (take_all h3 (by omega) (by omega))).symm)

theorem c_eqRdrNode (x y : GNode) (hx : GNode.lens (· ≤ 1048576) x) (hy : GNode.lens (· ≤ 1048576) y) : FnP Tryz.prog 150 [.row (GNode.cells false x), .row (GNode.cells false y)] [.c (cB (decide (x = y)))] := by
 refine fnp_intro (n := 32) (rvs := [.tmp 4]) Tryz.func150 rfl rfl rfl (lb rfl) rfl ?_
 refine sr ?_
 refine st1 rfl (op_box rfl (lb rfl)) (so rfl (sf rfl (sats_lives rfl))) ?_
 refine st1 rfl (op_box rfl (lb rfl)) (so rfl (sf rfl (sats_lives rfl))) ?_
 refine as_ (lb rfl) rfl ?_
 refine nk ?_
 refine acode_seq ?_
 refine sr ?_
 refine fdb (off := 0) Tryz.underlying168 Tryz.sizeOf42 rfl rfl rfl (lb rfl) rfl rfl ?_
 refine st1 rfl (op_load_bx_row Tryz.isAgg42 Tryz.sizeOf42 rfl rfl (lb rfl)) (so rfl (sb rfl sn)) ?_
 refine fdb (off := 0) Tryz.underlying168 Tryz.sizeOf42 rfl rfl rfl (lb rfl) rfl rfl ?_
 refine st1 rfl (op_load_bx_row Tryz.isAgg42 Tryz.sizeOf42 rfl rfl (lb rfl)) (so rfl (sb rfl sn)) ?_
 refine st1 rfl ((op_call Tryz.func71 rfl rfl (c_eqExpAsk x.if_ y.if_) (by exact (.cons (by first | exact Shares.row rfl | exact (Shares.aggCons (by first | exact Shares.c rfl) (Shares.aggCons (by first | exact Shares.c rfl) (Shares.aggCons (by first | exact Shares.c rfl) Shares.aggNil)))) (.cons (by first | exact Shares.row rfl | exact (Shares.aggCons (by first | exact Shares.c rfl) (Shares.aggCons (by first | exact Shares.c rfl) (Shares.aggCons (by first | exact Shares.c rfl) Shares.aggNil)))) .nil))) rfl (by first | exact .inl rfl | exact .inr (sol_cons rfl sol_nil)) rfl (lb rfl))) (sats_opds (.cons rfl (.cons rfl .nil)) (sats_app (sats_fresh_all (by exact rfl)) (sats_app (sats_needs (by first | exact all_nil | exact all_cons rfl all_nil | exact all_cons rfl (all_cons rfl all_nil) | exact all_cons rfl (all_cons rfl (all_cons rfl all_nil)) | exact all_cons rfl (all_cons rfl (all_cons rfl (all_cons rfl all_nil))))) (sats_lives rfl)))) ?_
 refine st1 rfl (op_not (lb rfl)) (so rfl sn) ?_
 refine nk ?_
 refine acode_cond rfl (fun hc0 => ?_) (fun hc0 => ?_)
 ·
  simp only [dq] at hc0
  refine sr ?_
  refine as_ (lb rfl) rfl ?_
  refine nkt ?_
  exact kseq_ret (fin_retL (.cons (by first | exact .c rfl | exact .ref rfl rfl | exact .nilc rfl) .nil) (by rfl) (by exact resB (decide_eq_false (fun e => hc0 (by rw [e]))).symm))
 ·
  simp only [dq] at hc0
  refine pk ?_
  refine acode_seq ?_
  refine sr ?_
  refine fdb (off := 3) Tryz.underlying168 Tryz.sizeOf3 rfl rfl rfl (lb rfl) rfl rfl ?_
  refine ldb Tryz.isAgg3 rfl (lb rfl) rfl rfl ?_
  refine fdb (off := 3) Tryz.underlying168 Tryz.sizeOf3 rfl rfl rfl (lb rfl) rfl rfl ?_
  refine ldb Tryz.isAgg3 rfl (lb rfl) rfl rfl ?_
  refine st1 rfl (op_neq (lb rfl)) (so rfl (so rfl sn)) ?_
  refine nk ?_
  refine acode_cond rfl (fun hc1 => ?_) (fun hc1 => ?_)
  ·
   simp only [dq] at hc1
   refine sr ?_
   refine as_ (lb rfl) rfl ?_
   refine nkt ?_
   exact kseq_ret (fin_retL (.cons (by first | exact .c rfl | exact .ref rfl rfl | exact .nilc rfl) .nil) (by rfl) (by exact resB (decide_eq_false (fun e => hc1 (by rw [e]))).symm))
  ·
   simp only [dq] at hc1
   refine pk ?_
   refine acode_seq ?_
   refine sr ?_
   refine fdb (off := 4) Tryz.underlying168 Tryz.sizeOf3 rfl rfl rfl (lb rfl) rfl rfl ?_
   refine ldb Tryz.isAgg3 rfl (lb rfl) rfl rfl ?_
   refine fdb (off := 4) Tryz.underlying168 Tryz.sizeOf3 rfl rfl rfl (lb rfl) rfl rfl ?_
   refine ldb Tryz.isAgg3 rfl (lb rfl) rfl rfl ?_
   refine st1 rfl (op_neq (lb rfl)) (so rfl (so rfl sn)) ?_
   refine nk ?_
   refine acode_cond rfl (fun hc2 => ?_) (fun hc2 => ?_)
   ·
    simp only [dq] at hc2
    refine sr ?_
    refine as_ (lb rfl) rfl ?_
    refine nkt ?_
    exact kseq_ret (fin_retL (.cons (by first | exact .c rfl | exact .ref rfl rfl | exact .nilc rfl) .nil) (by rfl) (by exact resB (decide_eq_false (fun e => hc2 (by rw [e]))).symm))
   ·
    simp only [dq] at hc2
    refine pk ?_
    refine acode_seq ?_
    refine sr ?_
    refine fdb (off := 5) Tryz.underlying168 Tryz.sizeOf3 rfl rfl rfl (lb rfl) rfl rfl ?_
    refine ldb Tryz.isAgg3 rfl (lb rfl) rfl rfl ?_
    refine fdb (off := 5) Tryz.underlying168 Tryz.sizeOf3 rfl rfl rfl (lb rfl) rfl rfl ?_
    refine ldb Tryz.isAgg3 rfl (lb rfl) rfl rfl ?_
    refine st1 rfl (op_neq (lb rfl)) (so rfl (so rfl sn)) ?_
    refine nk ?_
    refine acode_cond rfl (fun hc3 => ?_) (fun hc3 => ?_)
    ·
     simp only [dq] at hc3
     refine sr ?_
     refine as_ (lb rfl) rfl ?_
     refine nkt ?_
     exact kseq_ret (fin_retL (.cons (by first | exact .c rfl | exact .ref rfl rfl | exact .nilc rfl) .nil) (by rfl) (by exact resB (decide_eq_false (fun e => hc3 (by rw [e]))).symm))
    ·
     simp only [dq] at hc3
     refine pk ?_
     refine acode_seq ?_
     refine sr ?_
     refine fdb (off := 6) Tryz.underlying168 Tryz.sizeOf23 rfl rfl rfl (lb rfl) rfl rfl ?_
     refine ldb Tryz.isAgg23 rfl (lb rfl) rfl rfl ?_
     refine fdb (off := 6) Tryz.underlying168 Tryz.sizeOf23 rfl rfl rfl (lb rfl) rfl rfl ?_
     refine ldb Tryz.isAgg23 rfl (lb rfl) rfl rfl ?_
     refine st1 rfl ((op_call Tryz.func42 rfl rfl (c_eqIntS x.stone y.stone hx) (by exact (.cons (by first | exact Shares.c rfl | exact Shares.nilc | exact Shares.ref rfl (rowI.rnobox _ _) (rowI.rshare _ _)) (.cons (by first | exact Shares.c rfl | exact Shares.nilc | exact Shares.ref rfl (rowI.rnobox _ _) (rowI.rshare _ _)) .nil))) rfl (by first | exact .inl rfl | exact .inr (sol_cons rfl sol_nil)) rfl (lb rfl))) (sats_opds (.cons rfl (.cons rfl .nil)) (sats_app (sats_fresh_all (by exact rfl)) (sats_app (sats_needs (by first | exact all_nil | exact all_cons rfl all_nil | exact all_cons rfl (all_cons rfl all_nil) | exact all_cons rfl (all_cons rfl (all_cons rfl all_nil)) | exact all_cons rfl (all_cons rfl (all_cons rfl (all_cons rfl all_nil))))) (sats_lives rfl)))) ?_
     refine st1 rfl (op_not (lb rfl)) (so rfl sn) ?_
     refine nk ?_
     refine acode_cond rfl (fun hc4 => ?_) (fun hc4 => ?_)
     ·
      simp only [dq] at hc4
      refine sr ?_
      refine as_ (lb rfl) rfl ?_
      refine nkt ?_
      exact kseq_ret (fin_retL (.cons (by first | exact .c rfl | exact .ref rfl rfl | exact .nilc rfl) .nil) (by rfl) (by exact resB (decide_eq_false (fun e => hc4 (by rw [e]))).symm))
     ·
      simp only [dq] at hc4
      refine pk ?_
      refine sr ?_
      refine as_ (lb rfl) rfl ?_
      refine nkt ?_
      exact fin_retL (.cons (by first | exact .c rfl | exact .ref rfl rfl | exact .nilc rfl) .nil) (by rfl) (by exact resB (decide_eq_true (by cases x; cases y; simp_all)).symm)

theorem c_eqRdrNodeS (a b : List GNode) (hl : a.length ≤ 1048576) (ha : ∀ y ∈ a, GNode.lens (· ≤ 1048576) y) (hb : ∀ y ∈ b, GNode.lens (· ≤ 1048576) y) : FnP Tryz.prog 69 [.c (.sl false 7 (a.map (GNode.cells false))), .c (.sl false 7 (b.map (GNode.cells false)))] [.c (cB (decide (a = b)))] := by
 refine fnp_intro (n := 27) (rvs := [.tmp 4]) Tryz.func69 rfl rfl rfl (lb rfl) rfl ?_
 refine sr ?_
 refine as_ (lb rfl) rfl ?_
 refine nk ?_
 refine acode_seq ?_
 refine sr ?_
 refine mv (lb rfl) rfl ?_
 refine st1 rfl (op_len_sh Tryz.underlying35 (lb rfl)) (so rfl sn) ?_
 refine mv (lb rfl) rfl ?_
 refine st1 rfl (op_len_sh Tryz.underlying35 (lb rfl)) (so rfl sn) ?_
 refine st1 rfl (op_neq (lb rfl)) (so rfl (so rfl sn)) ?_
 refine nk ?_
 refine acode_cond rfl (fun hc0 => ?_) (fun hc0 => ?_)
 ·
  simp only [dq] at hc0
  refine sr ?_
  refine as_ (lb rfl) rfl ?_
  refine nkt ?_
  exact kseq_ret (fin_retL (.cons (by first | exact .c rfl | exact .ref rfl rfl | exact .nilc rfl) .nil) (by rfl) (by exact resB (decide_eq_false (fun e => hc0 (by rw [e]))).symm))
 ·
  simp only [dq] at hc0
  refine pk ?_
  refine acode_seq ?_
  refine sr ?_
  refine as_ (lb rfl) rfl ?_
  refine nk ?_
  refine acode_block ?_
  refine acode_loopk (xs := [0, 1]) (ys := []) (S := Nat) (fun s => [(5, aInt (s : Int))]) (fun s => []) (fun s => s ≤ a.length ∧ a.take s = b.take s) (fun s => a.length - s) 0 (.cons rfl (.cons rfl .nil)) .nil ?em ?eo rfl ?ei ?round
  case em => exact .cons rfl (by first | rfl | simp) (.nil)
  case eo => exact .nil
  case ei => exact ⟨Nat.zero_le _, by simp⟩
  case round =>
   rintro k ⟨h2, h3⟩
   refine acode_seq ?_
   refine sr ?_
   refine mv (lb rfl) rfl ?_
   refine mv (lb rfl) rfl ?_
   refine st1 rfl (op_len_sh Tryz.underlying35 (lb rfl)) (so rfl sn) ?_
   refine st1 rfl (op_lss (lb rfl)) (so rfl (so rfl sn)) ?_
   refine nk ?_
   refine acode_cond rfl (fun hc1 => ?_) (fun hc1 => ?_)
   ·
    simp only [dq] at hc1
    refine pk ?_
    refine acode_seq ?_
    refine acode_block ?_
    refine acode_seq ?_
    refine acode_region_draw mixed rfl ?_
    refine mv (lb rfl) rfl ?_
    refine mv (lb rfl) rfl ?_
    refine st1 rfl (op_index_shN Tryz.underlying35 Tryz.sizeOf168 (lb rfl) (by omega)) (so rfl (so rfl sn)) ?_
    refine st1 rfl (op_load_pts_all Tryz.isAgg168 Tryz.sizeOf168 rfl (lb rfl)) (so rfl sn) ?_
    refine mv (lb rfl) rfl ?_
    refine mv (lb rfl) rfl ?_
    refine st1 rfl (op_index_shN Tryz.underlying35 Tryz.sizeOf168 (lb rfl) (by omega)) (so rfl (so rfl sn)) ?_
    refine st1 rfl (op_load_pts_all Tryz.isAgg168 Tryz.sizeOf168 rfl (lb rfl)) (so rfl sn) ?_
    refine st1 rfl ((op_call Tryz.func150 rfl rfl (c_eqRdrNode (a[k]'(by omega)) (b[k]'(by omega)) (ha _ (List.getElem_mem _)) (hb _ (List.getElem_mem _))) (by exact (.cons (by first | exact Shares.row rfl | exact (Shares.aggCons (by first | exact Shares.c rfl) (Shares.aggCons (by first | exact Shares.c rfl) (Shares.aggCons (by first | exact Shares.c rfl) (Shares.aggCons (by first | exact Shares.c rfl) (Shares.aggCons (by first | exact Shares.c rfl) (Shares.aggCons (by first | exact Shares.c rfl) (Shares.aggCons (by first | exact Shares.c rfl | exact Shares.nilc | exact Shares.ref rfl (rowI.rnobox _ _) (rowI.rshare _ _)) Shares.aggNil)))))))) (.cons (by first | exact Shares.row rfl | exact (Shares.aggCons (by first | exact Shares.c rfl) (Shares.aggCons (by first | exact Shares.c rfl) (Shares.aggCons (by first | exact Shares.c rfl) (Shares.aggCons (by first | exact Shares.c rfl) (Shares.aggCons (by first | exact Shares.c rfl) (Shares.aggCons (by first | exact Shares.c rfl) (Shares.aggCons (by first | exact Shares.c rfl | exact Shares.nilc | exact Shares.ref rfl (rowI.rnobox _ _) (rowI.rshare _ _)) Shares.aggNil)))))))) .nil))) rfl (by first | exact .inl rfl | exact .inr (sol_cons rfl sol_nil)) rfl (lb rfl))) (sats_opds (.cons rfl (.cons rfl .nil)) (sats_app (sats_fresh_all (by exact rfl)) (sats_app (sats_needs (by first | exact all_nil | exact all_cons rfl all_nil | exact all_cons rfl (all_cons rfl all_nil) | exact all_cons rfl (all_cons rfl (all_cons rfl all_nil)) | exact all_cons rfl (all_cons rfl (all_cons rfl (all_cons rfl all_nil))))) (sats_lives rfl)))) ?_
    refine st1 rfl (op_not (lb rfl)) (so rfl sn) ?_
    refine rg_nil_draw rfl ?_
    refine kseq_normal ?_
    refine acode_cond rfl (fun hc2 => ?_) (fun hc2 => ?_)
    ·
     simp only [dq] at hc2
     refine sr ?_
     refine as_ (lb rfl) rfl ?_
     refine nkt ?_
     exact kblk_ret (kseq_ret (klg_ret (kblk_ret (kseq_ret (fin_retL (.cons (by first | exact .c rfl | exact .ref rfl rfl | exact .nilc rfl) .nil) (by rfl) (by exact resB (decide_eq_false (fun e => hc2 (by subst e; rfl))).symm))))))
    ·
     simp only [dq] at hc2
     refine acode_skip ?_
     refine kblk_normal (kseq_normal ?_)
     refine acode_region ?_
     refine mv (lb rfl) rfl ?_
     refine st1 rfl (op_add (lb rfl) (by omega)) (so rfl (so rfl sn)) ?_
     refine as_ (lb rfl) rfl ?_
     refine rg_nil_seq ?_
     refine klg_back (k + 1) ?bi ?bm ?bl
     case bi => exact ⟨by omega, take_ext (by omega) (by omega) h3 hc2⟩
     case bm => omega
     case bl => exact le_stU idn (.cons rfl (by first | rfl | simp) (.cons rfl (by first | rfl | simp) (.cons rfl (by first | rfl | simp) (.nil)))) (.nil) rfl
   ·
    simp only [dq] at hc1
    refine acode_exit ?_
    refine kseq_exit (klg_exit (kblk_hit (kseq_normal ?_)))
    refine sr ?_
    refine as_ (lb rfl) rfl ?_
    refine nkt ?_
    exact fin_retL (.cons (by first | exact .c rfl | exact .ref rfl rfl | exact .nilc rfl) .nil) (by rfl) (by exact resB (decide_eq_true (take_all h3 (by omega) (by omega))).symm)

theorem c_eqCasItem (x y : GItem) : FnP Tryz.prog 186 [.row (GItem.cells false x), .row (GItem.cells false y)] [.c (cB (decide (x = y)))] := by
 refine fnp_intro (n := 20) (rvs := [.tmp 4]) Tryz.func186 rfl rfl rfl (lb rfl) rfl ?_
 refine sr ?_
 refine st1 rfl (op_box rfl (lb rfl)) (so rfl (sf rfl (sats_lives rfl))) ?_
 refine st1 rfl (op_box rfl (lb rfl)) (so rfl (sf rfl (sats_lives rfl))) ?_
 refine as_ (lb rfl) rfl ?_
 refine nk ?_
 refine acode_seq ?_
 refine sr ?_
 refine fdb (off := 0) Tryz.underlying137 Tryz.sizeOf3 rfl rfl rfl (lb rfl) rfl rfl ?_
 refine ldb Tryz.isAgg3 rfl (lb rfl) rfl rfl ?_
 refine fdb (off := 0) Tryz.underlying137 Tryz.sizeOf3 rfl rfl rfl (lb rfl) rfl rfl ?_
 refine ldb Tryz.isAgg3 rfl (lb rfl) rfl rfl ?_
 refine st1 rfl (op_neq (lb rfl)) (so rfl (so rfl sn)) ?_
 refine nk ?_
 refine acode_cond rfl (fun hc0 => ?_) (fun hc0 => ?_)
 ·
  simp only [dq] at hc0
  refine sr ?_
  refine as_ (lb rfl) rfl ?_
  refine nkt ?_
  exact kseq_ret (fin_retL (.cons (by first | exact .c rfl | exact .ref rfl rfl | exact .nilc rfl) .nil) (by rfl) (by exact resB (decide_eq_false (fun e => hc0 (by rw [e]))).symm))
 ·
  simp only [dq] at hc0
  refine pk ?_
  refine acode_seq ?_
  refine sr ?_
  refine fdb (off := 1) Tryz.underlying137 Tryz.sizeOf3 rfl rfl rfl (lb rfl) rfl rfl ?_
  refine ldb Tryz.isAgg3 rfl (lb rfl) rfl rfl ?_
  refine fdb (off := 1) Tryz.underlying137 Tryz.sizeOf3 rfl rfl rfl (lb rfl) rfl rfl ?_
  refine ldb Tryz.isAgg3 rfl (lb rfl) rfl rfl ?_
  refine st1 rfl (op_neq (lb rfl)) (so rfl (so rfl sn)) ?_
  refine nk ?_
  refine acode_cond rfl (fun hc1 => ?_) (fun hc1 => ?_)
  ·
   simp only [dq] at hc1
   refine sr ?_
   refine as_ (lb rfl) rfl ?_
   refine nkt ?_
   exact kseq_ret (fin_retL (.cons (by first | exact .c rfl | exact .ref rfl rfl | exact .nilc rfl) .nil) (by rfl) (by exact resB (decide_eq_false (fun e => hc1 (by rw [e]))).symm))
  ·
   simp only [dq] at hc1
   refine pk ?_
   refine acode_seq ?_
   refine sr ?_
   refine fdb (off := 2) Tryz.underlying137 Tryz.sizeOf3 rfl rfl rfl (lb rfl) rfl rfl ?_
   refine ldb Tryz.isAgg3 rfl (lb rfl) rfl rfl ?_
   refine fdb (off := 2) Tryz.underlying137 Tryz.sizeOf3 rfl rfl rfl (lb rfl) rfl rfl ?_
   refine ldb Tryz.isAgg3 rfl (lb rfl) rfl rfl ?_
   refine st1 rfl (op_neq (lb rfl)) (so rfl (so rfl sn)) ?_
   refine nk ?_
   refine acode_cond rfl (fun hc2 => ?_) (fun hc2 => ?_)
   ·
    simp only [dq] at hc2
    refine sr ?_
    refine as_ (lb rfl) rfl ?_
    refine nkt ?_
    exact kseq_ret (fin_retL (.cons (by first | exact .c rfl | exact .ref rfl rfl | exact .nilc rfl) .nil) (by rfl) (by exact resB (decide_eq_false (fun e => hc2 (by rw [e]))).symm))
   ·
    simp only [dq] at hc2
    refine pk ?_
    refine sr ?_
    refine as_ (lb rfl) rfl ?_
    refine nkt ?_
    exact fin_retL (.cons (by first | exact .c rfl | exact .ref rfl rfl | exact .nilc rfl) .nil) (by rfl) (by exact resB (decide_eq_true (by cases x; cases y; simp_all)).symm)

theorem c_eqCasItemS (a b : List GItem) (hl : a.length ≤ 1048576) : FnP Tryz.prog 111 [.c (.sl false 3 (a.map (GItem.cells false))), .c (.sl false 3 (b.map (GItem.cells false)))] [.c (cB (decide (a = b)))] := by
 refine fnp_intro (n := 27) (rvs := [.tmp 4]) Tryz.func111 rfl rfl rfl (lb rfl) rfl ?_
 refine sr ?_
 refine as_ (lb rfl) rfl ?_
 refine nk ?_
 refine acode_seq ?_
 refine sr ?_
 refine mv (lb rfl) rfl ?_
 refine st1 rfl (op_len_sh Tryz.underlying73 (lb rfl)) (so rfl sn) ?_
 refine mv (lb rfl) rfl ?_
 refine st1 rfl (op_len_sh Tryz.underlying73 (lb rfl)) (so rfl sn) ?_
 refine st1 rfl (op_neq (lb rfl)) (so rfl (so rfl sn)) ?_
 refine nk ?_
 refine acode_cond rfl (fun hc0 => ?_) (fun hc0 => ?_)
 ·
  simp only [dq] at hc0
  refine sr ?_
  refine as_ (lb rfl) rfl ?_
  refine nkt ?_
  exact kseq_ret (fin_retL (.cons (by first | exact .c rfl | exact .ref rfl rfl | exact .nilc rfl) .nil) (by rfl) (by exact resB (decide_eq_false (fun e => hc0 (by rw [e]))).symm))
 ·
  simp only [dq] at hc0
  refine pk ?_
  refine acode_seq ?_
  refine sr ?_
  refine as_ (lb rfl) rfl ?_
  refine nk ?_
  refine acode_block ?_
  refine acode_loopk (xs := [0, 1]) (ys := []) (S := Nat) (fun s => [(5, aInt (s : Int))]) (fun s => []) (fun s => s ≤ a.length ∧ a.take s = b.take s) (fun s => a.length - s) 0 (.cons rfl (.cons rfl .nil)) .nil ?em ?eo rfl ?ei ?round
  case em => exact .cons rfl (by first | rfl | simp) (.nil)
  case eo => exact .nil
  case ei => exact ⟨Nat.zero_le _, by simp⟩
  case round =>
   rintro k ⟨h2, h3⟩
   refine acode_seq ?_
   refine sr ?_
   refine mv (lb rfl) rfl ?_
   refine mv (lb rfl) rfl ?_
   refine st1 rfl (op_len_sh Tryz.underlying73 (lb rfl)) (so rfl sn) ?_
   refine st1 rfl (op_lss (lb rfl)) (so rfl (so rfl sn)) ?_
   refine nk ?_
   refine acode_cond rfl (fun hc1 => ?_) (fun hc1 => ?_)
   ·
    simp only [dq] at hc1
    refine pk ?_
    refine acode_seq ?_
    refine acode_block ?_
    refine acode_seq ?_
    refine acode_region_draw mixed rfl ?_
    refine mv (lb rfl) rfl ?_
    refine mv (lb rfl) rfl ?_
    refine st1 rfl (op_index_shN Tryz.underlying73 Tryz.sizeOf137 (lb rfl) (by omega)) (so rfl (so rfl sn)) ?_
    refine st1 rfl (op_load_pts_all Tryz.isAgg137 Tryz.sizeOf137 rfl (lb rfl)) (so rfl sn) ?_
    refine mv (lb rfl) rfl ?_
    refine mv (lb rfl) rfl ?_
    refine st1 rfl (op_index_shN Tryz.underlying73 Tryz.sizeOf137 (lb rfl) (by omega)) (so rfl (so rfl sn)) ?_
    refine st1 rfl (op_load_pts_all Tryz.isAgg137 Tryz.sizeOf137 rfl (lb rfl)) (so rfl sn) ?_
    refine st1 rfl ((op_call Tryz.func186 rfl rfl (c_eqCasItem (a[k]'(by omega)) (b[k]'(by omega))) (by exact (.cons (by first | exact Shares.row rfl | exact (Shares.aggCons (by first | exact Shares.c rfl) (Shares.aggCons (by first | exact Shares.c rfl) (Shares.aggCons (by first | exact Shares.c rfl) Shares.aggNil)))) (.cons (by first | exact Shares.row rfl | exact (Shares.aggCons (by first | exact Shares.c rfl) (Shares.aggCons (by first | exact Shares.c rfl) (Shares.aggCons (by first | exact Shares.c rfl) Shares.aggNil)))) .nil))) rfl (by first | exact .inl rfl | exact .inr (sol_cons rfl sol_nil)) rfl (lb rfl))) (sats_opds (.cons rfl (.cons rfl .nil)) (sats_app (sats_fresh_all (by exact rfl)) (sats_app (sats_needs (by first | exact all_nil | exact all_cons rfl all_nil | exact all_cons rfl (all_cons rfl all_nil) | exact all_cons rfl (all_cons rfl (all_cons rfl all_nil)) | exact all_cons rfl (all_cons rfl (all_cons rfl (all_cons rfl all_nil))))) (sats_lives rfl)))) ?_
    refine st1 rfl (op_not (lb rfl)) (so rfl sn) ?_
    refine rg_nil_draw rfl ?_
    refine kseq_normal ?_
    refine acode_cond rfl (fun hc2 => ?_) (fun hc2 => ?_)
    ·
     simp only [dq] at hc2
     refine sr ?_
     refine as_ (lb rfl) rfl ?_
     refine nkt ?_
     exact kblk_ret (kseq_ret (klg_ret (kblk_ret (kseq_ret (fin_retL (.cons (by first | exact .c rfl | exact .ref rfl rfl | exact .nilc rfl) .nil) (by rfl) (by exact resB (decide_eq_false (fun e => hc2 (by subst e; rfl))).symm))))))
    ·
     simp only [dq] at hc2
     refine acode_skip ?_
     refine kblk_normal (kseq_normal ?_)
     refine acode_region ?_
     refine mv (lb rfl) rfl ?_
     refine st1 rfl (op_add (lb rfl) (by omega)) (so rfl (so rfl sn)) ?_
     refine as_ (lb rfl) rfl ?_
     refine rg_nil_seq ?_
     refine klg_back (k + 1) ?bi ?bm ?bl
     case bi => exact ⟨by omega, take_ext (by omega) (by omega) h3 hc2⟩
     case bm => omega
     case bl => exact le_stU idn (.cons rfl (by first | rfl | simp) (.cons rfl (by first | rfl | simp) (.cons rfl (by first | rfl | simp) (.nil)))) (.nil) rfl
   ·
    simp only [dq] at hc1
    refine acode_exit ?_
    refine kseq_exit (klg_exit (kblk_hit (kseq_normal ?_)))
    refine sr ?_
    refine as_ (lb rfl) rfl ?_
    refine nkt ?_
    exact fin_retL (.cons (by first | exact .c rfl | exact .ref rfl rfl | exact .nilc rfl) .nil) (by rfl) (by exact resB (decide_eq_true (take_all h3 (by omega) (by omega))).symm)

theorem c_eqCasDid (x y : GDid) : FnP Tryz.prog 187 [.row (GDid.cells false x), .row (GDid.cells false y)] [.c (cB (decide (x = y)))] := by
 refine fnp_intro (n := 15) (rvs := [.tmp 4]) Tryz.func187 rfl rfl rfl (lb rfl) rfl ?_
 refine sr ?_
 refine st1 rfl (op_box rfl (lb rfl)) (so rfl (sf rfl (sats_lives rfl))) ?_
 refine st1 rfl (op_box rfl (lb rfl)) (so rfl (sf rfl (sats_lives rfl))) ?_
 refine as_ (lb rfl) rfl ?_
 refine nk ?_
 refine acode_seq ?_
 refine sr ?_
 refine fdb (off := 0) Tryz.underlying154 Tryz.sizeOf3 rfl rfl rfl (lb rfl) rfl rfl ?_
 refine ldb Tryz.isAgg3 rfl (lb rfl) rfl rfl ?_
 refine fdb (off := 0) Tryz.underlying154 Tryz.sizeOf3 rfl rfl rfl (lb rfl) rfl rfl ?_
 refine ldb Tryz.isAgg3 rfl (lb rfl) rfl rfl ?_
 refine st1 rfl (op_neq (lb rfl)) (so rfl (so rfl sn)) ?_
 refine nk ?_
 refine acode_cond rfl (fun hc0 => ?_) (fun hc0 => ?_)
 ·
  simp only [dq] at hc0
  refine sr ?_
  refine as_ (lb rfl) rfl ?_
  refine nkt ?_
  exact kseq_ret (fin_retL (.cons (by first | exact .c rfl | exact .ref rfl rfl | exact .nilc rfl) .nil) (by rfl) (by exact resB (decide_eq_false (fun e => hc0 (by rw [e]))).symm))
 ·
  simp only [dq] at hc0
  refine pk ?_
  refine acode_seq ?_
  refine sr ?_
  refine fdb (off := 1) Tryz.underlying154 Tryz.sizeOf3 rfl rfl rfl (lb rfl) rfl rfl ?_
  refine ldb Tryz.isAgg3 rfl (lb rfl) rfl rfl ?_
  refine fdb (off := 1) Tryz.underlying154 Tryz.sizeOf3 rfl rfl rfl (lb rfl) rfl rfl ?_
  refine ldb Tryz.isAgg3 rfl (lb rfl) rfl rfl ?_
  refine st1 rfl (op_neq (lb rfl)) (so rfl (so rfl sn)) ?_
  refine nk ?_
  refine acode_cond rfl (fun hc1 => ?_) (fun hc1 => ?_)
  ·
   simp only [dq] at hc1
   refine sr ?_
   refine as_ (lb rfl) rfl ?_
   refine nkt ?_
   exact kseq_ret (fin_retL (.cons (by first | exact .c rfl | exact .ref rfl rfl | exact .nilc rfl) .nil) (by rfl) (by exact resB (decide_eq_false (fun e => hc1 (by rw [e]))).symm))
  ·
   simp only [dq] at hc1
   refine pk ?_
   refine sr ?_
   refine as_ (lb rfl) rfl ?_
   refine nkt ?_
   exact fin_retL (.cons (by first | exact .c rfl | exact .ref rfl rfl | exact .nilc rfl) .nil) (by rfl) (by exact resB (decide_eq_true (by cases x; cases y; simp_all)).symm)

theorem c_eqCasDidS (a b : List GDid) (hl : a.length ≤ 1048576) : FnP Tryz.prog 112 [.c (.sl false 2 (a.map (GDid.cells false))), .c (.sl false 2 (b.map (GDid.cells false)))] [.c (cB (decide (a = b)))] := by
 refine fnp_intro (n := 27) (rvs := [.tmp 4]) Tryz.func112 rfl rfl rfl (lb rfl) rfl ?_
 refine sr ?_
 refine as_ (lb rfl) rfl ?_
 refine nk ?_
 refine acode_seq ?_
 refine sr ?_
 refine mv (lb rfl) rfl ?_
 refine st1 rfl (op_len_sh Tryz.underlying74 (lb rfl)) (so rfl sn) ?_
 refine mv (lb rfl) rfl ?_
 refine st1 rfl (op_len_sh Tryz.underlying74 (lb rfl)) (so rfl sn) ?_
 refine st1 rfl (op_neq (lb rfl)) (so rfl (so rfl sn)) ?_
 refine nk ?_
 refine acode_cond rfl (fun hc0 => ?_) (fun hc0 => ?_)
 ·
  simp only [dq] at hc0
  refine sr ?_
  refine as_ (lb rfl) rfl ?_
  refine nkt ?_
  exact kseq_ret (fin_retL (.cons (by first | exact .c rfl | exact .ref rfl rfl | exact .nilc rfl) .nil) (by rfl) (by exact resB (decide_eq_false (fun e => hc0 (by rw [e]))).symm))
 ·
  simp only [dq] at hc0
  refine pk ?_
  refine acode_seq ?_
  refine sr ?_
  refine as_ (lb rfl) rfl ?_
  refine nk ?_
  refine acode_block ?_
  refine acode_loopk (xs := [0, 1]) (ys := []) (S := Nat) (fun s => [(5, aInt (s : Int))]) (fun s => []) (fun s => s ≤ a.length ∧ a.take s = b.take s) (fun s => a.length - s) 0 (.cons rfl (.cons rfl .nil)) .nil ?em ?eo rfl ?ei ?round
  case em => exact .cons rfl (by first | rfl | simp) (.nil)
  case eo => exact .nil
  case ei => exact ⟨Nat.zero_le _, by simp⟩
  case round =>
   rintro k ⟨h2, h3⟩
   refine acode_seq ?_
   refine sr ?_
   refine mv (lb rfl) rfl ?_
   refine mv (lb rfl) rfl ?_
   refine st1 rfl (op_len_sh Tryz.underlying74 (lb rfl)) (so rfl sn) ?_
   refine st1 rfl (op_lss (lb rfl)) (so rfl (so rfl sn)) ?_
   refine nk ?_
   refine acode_cond rfl (fun hc1 => ?_) (fun hc1 => ?_)
   ·
    simp only [dq] at hc1
    refine pk ?_
    refine acode_seq ?_
    refine acode_block ?_
    refine acode_seq ?_
    refine acode_region_draw mixed rfl ?_
    refine mv (lb rfl) rfl ?_
    refine mv (lb rfl) rfl ?_
    refine st1 rfl (op_index_shN Tryz.underlying74 Tryz.sizeOf154 (lb rfl) (by omega)) (so rfl (so rfl sn)) ?_
    refine st1 rfl (op_load_pts_all Tryz.isAgg154 Tryz.sizeOf154 rfl (lb rfl)) (so rfl sn) ?_
    refine mv (lb rfl) rfl ?_
    refine mv (lb rfl) rfl ?_
    refine st1 rfl (op_index_shN Tryz.underlying74 Tryz.sizeOf154 (lb rfl) (by omega)) (so rfl (so rfl sn)) ?_
    refine st1 rfl (op_load_pts_all Tryz.isAgg154 Tryz.sizeOf154 rfl (lb rfl)) (so rfl sn) ?_
    refine st1 rfl ((op_call Tryz.func187 rfl rfl (c_eqCasDid (a[k]'(by omega)) (b[k]'(by omega))) (by exact (.cons (by first | exact Shares.row rfl | exact (Shares.aggCons (by first | exact Shares.c rfl) (Shares.aggCons (by first | exact Shares.c rfl) Shares.aggNil))) (.cons (by first | exact Shares.row rfl | exact (Shares.aggCons (by first | exact Shares.c rfl) (Shares.aggCons (by first | exact Shares.c rfl) Shares.aggNil))) .nil))) rfl (by first | exact .inl rfl | exact .inr (sol_cons rfl sol_nil)) rfl (lb rfl))) (sats_opds (.cons rfl (.cons rfl .nil)) (sats_app (sats_fresh_all (by exact rfl)) (sats_app (sats_needs (by first | exact all_nil | exact all_cons rfl all_nil | exact all_cons rfl (all_cons rfl all_nil) | exact all_cons rfl (all_cons rfl (all_cons rfl all_nil)) | exact all_cons rfl (all_cons rfl (all_cons rfl (all_cons rfl all_nil))))) (sats_lives rfl)))) ?_
    refine st1 rfl (op_not (lb rfl)) (so rfl sn) ?_
    refine rg_nil_draw rfl ?_
    refine kseq_normal ?_
    refine acode_cond rfl (fun hc2 => ?_) (fun hc2 => ?_)
    ·
     simp only [dq] at hc2
     refine sr ?_
     refine as_ (lb rfl) rfl ?_
     refine nkt ?_
     exact kblk_ret (kseq_ret (klg_ret (kblk_ret (kseq_ret (fin_retL (.cons (by first | exact .c rfl | exact .ref rfl rfl | exact .nilc rfl) .nil) (by rfl) (by exact resB (decide_eq_false (fun e => hc2 (by subst e; rfl))).symm))))))
    ·
     simp only [dq] at hc2
     refine acode_skip ?_
     refine kblk_normal (kseq_normal ?_)
     refine acode_region ?_
     refine mv (lb rfl) rfl ?_
     refine st1 rfl (op_add (lb rfl) (by omega)) (so rfl (so rfl sn)) ?_
     refine as_ (lb rfl) rfl ?_
     refine rg_nil_seq ?_
     refine klg_back (k + 1) ?bi ?bm ?bl
     case bi => exact ⟨by omega, take_ext (by omega) (by omega) h3 hc2⟩
     case bm => omega
     case bl => exact le_stU idn (.cons rfl (by first | rfl | simp) (.cons rfl (by first | rfl | simp) (.cons rfl (by first | rfl | simp) (.nil)))) (.nil) rfl
   ·
    simp only [dq] at hc1
    refine acode_exit ?_
    refine kseq_exit (klg_exit (kblk_hit (kseq_normal ?_)))
    refine sr ?_
    refine as_ (lb rfl) rfl ?_
    refine nkt ?_
    exact fin_retL (.cons (by first | exact .c rfl | exact .ref rfl rfl | exact .nilc rfl) .nil) (by rfl) (by exact resB (decide_eq_true (take_all h3 (by omega) (by omega))).symm)

theorem c_eqCasCase (x y : GCase) (hx : GCase.lens (· ≤ 1048576) x) (hy : GCase.lens (· ≤ 1048576) y) : FnP Tryz.prog 40 [.row (GCase.cells false x), .row (GCase.cells false y)] [.c (cB (decide (x = y)))] := by
 refine fnp_intro (n := 34) (rvs := [.tmp 4]) Tryz.func40 rfl rfl rfl (lb rfl) rfl ?_
 refine sr ?_
 refine st1 rfl (op_box rfl (lb rfl)) (so rfl (sf rfl (sats_lives rfl))) ?_
 refine st1 rfl (op_box rfl (lb rfl)) (so rfl (sf rfl (sats_lives rfl))) ?_
 refine as_ (lb rfl) rfl ?_
 refine nk ?_
 refine acode_seq ?_
 refine sr ?_
 refine fdb (off := 0) Tryz.underlying76 Tryz.sizeOf3 rfl rfl rfl (lb rfl) rfl rfl ?_
 refine ldb Tryz.isAgg3 rfl (lb rfl) rfl rfl ?_
 refine fdb (off := 0) Tryz.underlying76 Tryz.sizeOf3 rfl rfl rfl (lb rfl) rfl rfl ?_
 refine ldb Tryz.isAgg3 rfl (lb rfl) rfl rfl ?_
 refine st1 rfl (op_neq (lb rfl)) (so rfl (so rfl sn)) ?_
 refine nk ?_
 refine acode_cond rfl (fun hc0 => ?_) (fun hc0 => ?_)
 ·
  simp only [dq] at hc0
  refine sr ?_
  refine as_ (lb rfl) rfl ?_
  refine nkt ?_
  exact kseq_ret (fin_retL (.cons (by first | exact .c rfl | exact .ref rfl rfl | exact .nilc rfl) .nil) (by rfl) (by exact resB (decide_eq_false (fun e => hc0 (by rw [e]))).symm))
 ·
  simp only [dq] at hc0
  refine pk ?_
  refine acode_seq ?_
  refine sr ?_
  refine fdb (off := 1) Tryz.underlying76 Tryz.sizeOf23 rfl rfl rfl (lb rfl) rfl rfl ?_
  refine ldb Tryz.isAgg23 rfl (lb rfl) rfl rfl ?_
  refine fdb (off := 1) Tryz.underlying76 Tryz.sizeOf23 rfl rfl rfl (lb rfl) rfl rfl ?_
  refine ldb Tryz.isAgg23 rfl (lb rfl) rfl rfl ?_
  refine st1 rfl ((op_call Tryz.func42 rfl rfl (c_eqIntS x.marks y.marks hx.1) (by exact (.cons (by first | exact Shares.c rfl | exact Shares.nilc | exact Shares.ref rfl (rowI.rnobox _ _) (rowI.rshare _ _)) (.cons (by first | exact Shares.c rfl | exact Shares.nilc | exact Shares.ref rfl (rowI.rnobox _ _) (rowI.rshare _ _)) .nil))) rfl (by first | exact .inl rfl | exact .inr (sol_cons rfl sol_nil)) rfl (lb rfl))) (sats_opds (.cons rfl (.cons rfl .nil)) (sats_app (sats_fresh_all (by exact rfl)) (sats_app (sats_needs (by first | exact all_nil | exact all_cons rfl all_nil | exact all_cons rfl (all_cons rfl all_nil) | exact all_cons rfl (all_cons rfl (all_cons rfl all_nil)) | exact all_cons rfl (all_cons rfl (all_cons rfl (all_cons rfl all_nil))))) (sats_lives rfl)))) ?_
  refine st1 rfl (op_not (lb rfl)) (so rfl sn) ?_
  refine nk ?_
  refine acode_cond rfl (fun hc1 => ?_) (fun hc1 => ?_)
  ·
   simp only [dq] at hc1
   refine sr ?_
   refine as_ (lb rfl) rfl ?_
   refine nkt ?_
   exact kseq_ret (fin_retL (.cons (by first | exact .c rfl | exact .ref rfl rfl | exact .nilc rfl) .nil) (by rfl) (by exact resB (decide_eq_false (fun e => hc1 (by rw [e]))).symm))
  ·
   simp only [dq] at hc1
   refine pk ?_
   refine acode_seq ?_
   refine sr ?_
   refine fdb (off := 2) Tryz.underlying76 Tryz.sizeOf73 rfl rfl rfl (lb rfl) rfl rfl ?_
   refine ldb Tryz.isAgg73 rfl (lb rfl) rfl rfl ?_
   refine fdb (off := 2) Tryz.underlying76 Tryz.sizeOf73 rfl rfl rfl (lb rfl) rfl rfl ?_
   refine ldb Tryz.isAgg73 rfl (lb rfl) rfl rfl ?_
   refine st1 rfl ((op_call Tryz.func111 rfl rfl (c_eqCasItemS x.busy y.busy hx.2.1) (by exact (.cons (by first | exact Shares.c rfl | exact Shares.nilc | exact Shares.ref rfl (rowGItem.rnobox _ _) (rowGItem.rshare _ _)) (.cons (by first | exact Shares.c rfl | exact Shares.nilc | exact Shares.ref rfl (rowGItem.rnobox _ _) (rowGItem.rshare _ _)) .nil))) rfl (by first | exact .inl rfl | exact .inr (sol_cons rfl sol_nil)) rfl (lb rfl))) (sats_opds (.cons rfl (.cons rfl .nil)) (sats_app (sats_fresh_all (by exact rfl)) (sats_app (sats_needs (by first | exact all_nil | exact all_cons rfl all_nil | exact all_cons rfl (all_cons rfl all_nil) | exact all_cons rfl (all_cons rfl (all_cons rfl all_nil)) | exact all_cons rfl (all_cons rfl (all_cons rfl (all_cons rfl all_nil))))) (sats_lives rfl)))) ?_
   refine st1 rfl (op_not (lb rfl)) (so rfl sn) ?_
   refine nk ?_
   refine acode_cond rfl (fun hc2 => ?_) (fun hc2 => ?_)
   ·
    simp only [dq] at hc2
    refine sr ?_
    refine as_ (lb rfl) rfl ?_
    refine nkt ?_
    exact kseq_ret (fin_retL (.cons (by first | exact .c rfl | exact .ref rfl rfl | exact .nilc rfl) .nil) (by rfl) (by exact resB (decide_eq_false (fun e => hc2 (by rw [e]))).symm))
   ·
    simp only [dq] at hc2
    refine pk ?_
    refine acode_seq ?_
    refine sr ?_
    refine fdb (off := 3) Tryz.underlying76 Tryz.sizeOf23 rfl rfl rfl (lb rfl) rfl rfl ?_
    refine ldb Tryz.isAgg23 rfl (lb rfl) rfl rfl ?_
    refine fdb (off := 3) Tryz.underlying76 Tryz.sizeOf23 rfl rfl rfl (lb rfl) rfl rfl ?_
    refine ldb Tryz.isAgg23 rfl (lb rfl) rfl rfl ?_
    refine st1 rfl ((op_call Tryz.func42 rfl rfl (c_eqIntS x.data y.data hx.2.2.1) (by exact (.cons (by first | exact Shares.c rfl | exact Shares.nilc | exact Shares.ref rfl (rowI.rnobox _ _) (rowI.rshare _ _)) (.cons (by first | exact Shares.c rfl | exact Shares.nilc | exact Shares.ref rfl (rowI.rnobox _ _) (rowI.rshare _ _)) .nil))) rfl (by first | exact .inl rfl | exact .inr (sol_cons rfl sol_nil)) rfl (lb rfl))) (sats_opds (.cons rfl (.cons rfl .nil)) (sats_app (sats_fresh_all (by exact rfl)) (sats_app (sats_needs (by first | exact all_nil | exact all_cons rfl all_nil | exact all_cons rfl (all_cons rfl all_nil) | exact all_cons rfl (all_cons rfl (all_cons rfl all_nil)) | exact all_cons rfl (all_cons rfl (all_cons rfl (all_cons rfl all_nil))))) (sats_lives rfl)))) ?_
    refine st1 rfl (op_not (lb rfl)) (so rfl sn) ?_
    refine nk ?_
    refine acode_cond rfl (fun hc3 => ?_) (fun hc3 => ?_)
    ·
     simp only [dq] at hc3
     refine sr ?_
     refine as_ (lb rfl) rfl ?_
     refine nkt ?_
     exact kseq_ret (fin_retL (.cons (by first | exact .c rfl | exact .ref rfl rfl | exact .nilc rfl) .nil) (by rfl) (by exact resB (decide_eq_false (fun e => hc3 (by rw [e]))).symm))
    ·
     simp only [dq] at hc3
     refine pk ?_
     refine acode_seq ?_
     refine sr ?_
     refine fdb (off := 4) Tryz.underlying76 Tryz.sizeOf74 rfl rfl rfl (lb rfl) rfl rfl ?_
     refine ldb Tryz.isAgg74 rfl (lb rfl) rfl rfl ?_
     refine fdb (off := 4) Tryz.underlying76 Tryz.sizeOf74 rfl rfl rfl (lb rfl) rfl rfl ?_
     refine ldb Tryz.isAgg74 rfl (lb rfl) rfl rfl ?_
     refine st1 rfl ((op_call Tryz.func112 rfl rfl (c_eqCasDidS x.did y.did hx.2.2.2) (by exact (.cons (by first | exact Shares.c rfl | exact Shares.nilc | exact Shares.ref rfl (rowGDid.rnobox _ _) (rowGDid.rshare _ _)) (.cons (by first | exact Shares.c rfl | exact Shares.nilc | exact Shares.ref rfl (rowGDid.rnobox _ _) (rowGDid.rshare _ _)) .nil))) rfl (by first | exact .inl rfl | exact .inr (sol_cons rfl sol_nil)) rfl (lb rfl))) (sats_opds (.cons rfl (.cons rfl .nil)) (sats_app (sats_fresh_all (by exact rfl)) (sats_app (sats_needs (by first | exact all_nil | exact all_cons rfl all_nil | exact all_cons rfl (all_cons rfl all_nil) | exact all_cons rfl (all_cons rfl (all_cons rfl all_nil)) | exact all_cons rfl (all_cons rfl (all_cons rfl (all_cons rfl all_nil))))) (sats_lives rfl)))) ?_
     refine st1 rfl (op_not (lb rfl)) (so rfl sn) ?_
     refine nk ?_
     refine acode_cond rfl (fun hc4 => ?_) (fun hc4 => ?_)
     ·
      simp only [dq] at hc4
      refine sr ?_
      refine as_ (lb rfl) rfl ?_
      refine nkt ?_
      exact kseq_ret (fin_retL (.cons (by first | exact .c rfl | exact .ref rfl rfl | exact .nilc rfl) .nil) (by rfl) (by exact resB (decide_eq_false (fun e => hc4 (by rw [e]))).symm))
     ·
      simp only [dq] at hc4
      refine pk ?_
      refine sr ?_
      refine as_ (lb rfl) rfl ?_
      refine nkt ?_
      exact fin_retL (.cons (by first | exact .c rfl | exact .ref rfl rfl | exact .nilc rfl) .nil) (by rfl) (by exact resB (decide_eq_true (by cases x; cases y; simp_all)).symm)

theorem c_eqEngRun (x y : GRun) (hx : GRun.lens (· ≤ 1048576) x) (hy : GRun.lens (· ≤ 1048576) y) : FnP Tryz.prog 151 [.row (GRun.cells false x), .row (GRun.cells false y)] [.c (cB (decide (x = y)))] := by
 refine fnp_intro (n := 16) (rvs := [.tmp 4]) Tryz.func151 rfl rfl rfl (lb rfl) rfl ?_
 refine sr ?_
 refine st1 rfl (op_box rfl (lb rfl)) (so rfl (sf rfl (sats_lives rfl))) ?_
 refine st1 rfl (op_box rfl (lb rfl)) (so rfl (sf rfl (sats_lives rfl))) ?_
 refine as_ (lb rfl) rfl ?_
 refine nk ?_
 refine acode_seq ?_
 refine sr ?_
 refine fdb (off := 0) Tryz.underlying124 Tryz.sizeOf3 rfl rfl rfl (lb rfl) rfl rfl ?_
 refine ldb Tryz.isAgg3 rfl (lb rfl) rfl rfl ?_
 refine fdb (off := 0) Tryz.underlying124 Tryz.sizeOf3 rfl rfl rfl (lb rfl) rfl rfl ?_
 refine ldb Tryz.isAgg3 rfl (lb rfl) rfl rfl ?_
 refine st1 rfl (op_neq (lb rfl)) (so rfl (so rfl sn)) ?_
 refine nk ?_
 refine acode_cond rfl (fun hc0 => ?_) (fun hc0 => ?_)
 ·
  simp only [dq] at hc0
  refine sr ?_
  refine as_ (lb rfl) rfl ?_
  refine nkt ?_
  exact kseq_ret (fin_retL (.cons (by first | exact .c rfl | exact .ref rfl rfl | exact .nilc rfl) .nil) (by rfl) (by exact resB (decide_eq_false (fun e => hc0 (by rw [e]))).symm))
 ·
  simp only [dq] at hc0
  refine pk ?_
  refine acode_seq ?_
  refine sr ?_
  refine fdb (off := 1) Tryz.underlying124 Tryz.sizeOf76 rfl rfl rfl (lb rfl) rfl rfl ?_
  refine st1 rfl (op_load_bx_row Tryz.isAgg76 Tryz.sizeOf76 rfl rfl (lb rfl)) (so rfl (sb rfl sn)) ?_
  refine fdb (off := 1) Tryz.underlying124 Tryz.sizeOf76 rfl rfl rfl (lb rfl) rfl rfl ?_
  refine st1 rfl (op_load_bx_row Tryz.isAgg76 Tryz.sizeOf76 rfl rfl (lb rfl)) (so rfl (sb rfl sn)) ?_
  refine st1 rfl ((op_call Tryz.func40 rfl rfl (c_eqCasCase x.case y.case hx hy) (by exact (.cons (by first | exact Shares.row rfl | exact (Shares.aggCons (by first | exact Shares.c rfl) (Shares.aggCons (by first | exact Shares.c rfl | exact Shares.nilc | exact Shares.ref rfl (rowI.rnobox _ _) (rowI.rshare _ _)) (Shares.aggCons (by first | exact Shares.c rfl | exact Shares.nilc | exact Shares.ref rfl (rowGItem.rnobox _ _) (rowGItem.rshare _ _)) (Shares.aggCons (by first | exact Shares.c rfl | exact Shares.nilc | exact Shares.ref rfl (rowI.rnobox _ _) (rowI.rshare _ _)) (Shares.aggCons (by first | exact Shares.c rfl | exact Shares.nilc | exact Shares.ref rfl (rowGDid.rnobox _ _) (rowGDid.rshare _ _)) Shares.aggNil)))))) (.cons (by first | exact Shares.row rfl | exact (Shares.aggCons (by first | exact Shares.c rfl) (Shares.aggCons (by first | exact Shares.c rfl | exact Shares.nilc | exact Shares.ref rfl (rowI.rnobox _ _) (rowI.rshare _ _)) (Shares.aggCons (by first | exact Shares.c rfl | exact Shares.nilc | exact Shares.ref rfl (rowGItem.rnobox _ _) (rowGItem.rshare _ _)) (Shares.aggCons (by first | exact Shares.c rfl | exact Shares.nilc | exact Shares.ref rfl (rowI.rnobox _ _) (rowI.rshare _ _)) (Shares.aggCons (by first | exact Shares.c rfl | exact Shares.nilc | exact Shares.ref rfl (rowGDid.rnobox _ _) (rowGDid.rshare _ _)) Shares.aggNil)))))) .nil))) rfl (by first | exact .inl rfl | exact .inr (sol_cons rfl sol_nil)) rfl (lb rfl))) (sats_opds (.cons rfl (.cons rfl .nil)) (sats_app (sats_fresh_all (by exact rfl)) (sats_app (sats_needs (by first | exact all_nil | exact all_cons rfl all_nil | exact all_cons rfl (all_cons rfl all_nil) | exact all_cons rfl (all_cons rfl (all_cons rfl all_nil)) | exact all_cons rfl (all_cons rfl (all_cons rfl (all_cons rfl all_nil))))) (sats_lives rfl)))) ?_
  refine st1 rfl (op_not (lb rfl)) (so rfl sn) ?_
  refine nk ?_
  refine acode_cond rfl (fun hc1 => ?_) (fun hc1 => ?_)
  ·
   simp only [dq] at hc1
   refine sr ?_
   refine as_ (lb rfl) rfl ?_
   refine nkt ?_
   exact kseq_ret (fin_retL (.cons (by first | exact .c rfl | exact .ref rfl rfl | exact .nilc rfl) .nil) (by rfl) (by exact resB (decide_eq_false (fun e => hc1 (by rw [e]))).symm))
  ·
   simp only [dq] at hc1
   refine pk ?_
   refine sr ?_
   refine as_ (lb rfl) rfl ?_
   refine nkt ?_
   exact fin_retL (.cons (by first | exact .c rfl | exact .ref rfl rfl | exact .nilc rfl) .nil) (by rfl) (by exact resB (decide_eq_true (by cases x; cases y; simp_all)).symm)

theorem c_eqEngRunS (a b : List GRun) (hl : a.length ≤ 1048576) (ha : ∀ y ∈ a, GRun.lens (· ≤ 1048576) y) (hb : ∀ y ∈ b, GRun.lens (· ≤ 1048576) y) : FnP Tryz.prog 70 [.c (.sl false 6 (a.map (GRun.cells false))), .c (.sl false 6 (b.map (GRun.cells false)))] [.c (cB (decide (a = b)))] := by
 refine fnp_intro (n := 27) (rvs := [.tmp 4]) Tryz.func70 rfl rfl rfl (lb rfl) rfl ?_
 refine sr ?_
 refine as_ (lb rfl) rfl ?_
 refine nk ?_
 refine acode_seq ?_
 refine sr ?_
 refine mv (lb rfl) rfl ?_
 refine st1 rfl (op_len_sh Tryz.underlying36 (lb rfl)) (so rfl sn) ?_
 refine mv (lb rfl) rfl ?_
 refine st1 rfl (op_len_sh Tryz.underlying36 (lb rfl)) (so rfl sn) ?_
 refine st1 rfl (op_neq (lb rfl)) (so rfl (so rfl sn)) ?_
 refine nk ?_
 refine acode_cond rfl (fun hc0 => ?_) (fun hc0 => ?_)
 ·
  simp only [dq] at hc0
  refine sr ?_
  refine as_ (lb rfl) rfl ?_
  refine nkt ?_
  exact kseq_ret (fin_retL (.cons (by first | exact .c rfl | exact .ref rfl rfl | exact .nilc rfl) .nil) (by rfl) (by exact resB (decide_eq_false (fun e => hc0 (by rw [e]))).symm))
 ·
  simp only [dq] at hc0
  refine pk ?_
  refine acode_seq ?_
  refine sr ?_
  refine as_ (lb rfl) rfl ?_
  refine nk ?_
  refine acode_block ?_
  refine acode_loopk (xs := [0, 1]) (ys := []) (S := Nat) (fun s => [(5, aInt (s : Int))]) (fun s => []) (fun s => s ≤ a.length ∧ a.take s = b.take s) (fun s => a.length - s) 0 (.cons rfl (.cons rfl .nil)) .nil ?em ?eo rfl ?ei ?round
  case em => exact .cons rfl (by first | rfl | simp) (.nil)
  case eo => exact .nil
  case ei => exact ⟨Nat.zero_le _, by simp⟩
  case round =>
   rintro k ⟨h2, h3⟩
   refine acode_seq ?_
   refine sr ?_
   refine mv (lb rfl) rfl ?_
   refine mv (lb rfl) rfl ?_
   refine st1 rfl (op_len_sh Tryz.underlying36 (lb rfl)) (so rfl sn) ?_
   refine st1 rfl (op_lss (lb rfl)) (so rfl (so rfl sn)) ?_
   refine nk ?_
   refine acode_cond rfl (fun hc1 => ?_) (fun hc1 => ?_)
   ·
    simp only [dq] at hc1
    refine pk ?_
    refine acode_seq ?_
    refine acode_block ?_
    refine acode_seq ?_
    refine acode_region_draw mixed rfl ?_
    refine mv (lb rfl) rfl ?_
    refine mv (lb rfl) rfl ?_
    refine st1 rfl (op_index_shN Tryz.underlying36 Tryz.sizeOf124 (lb rfl) (by omega)) (so rfl (so rfl sn)) ?_
    refine st1 rfl (op_load_pts_all Tryz.isAgg124 Tryz.sizeOf124 rfl (lb rfl)) (so rfl sn) ?_
    refine mv (lb rfl) rfl ?_
    refine mv (lb rfl) rfl ?_
    refine st1 rfl (op_index_shN Tryz.underlying36 Tryz.sizeOf124 (lb rfl) (by omega)) (so rfl (so rfl sn)) ?_
    refine st1 rfl (op_load_pts_all Tryz.isAgg124 Tryz.sizeOf124 rfl (lb rfl)) (so rfl sn) ?_
    refine st1 rfl ((op_call Tryz.func151 rfl rfl (c_eqEngRun (a[k]'(by omega)) (b[k]'(by omega)) (ha _ (List.getElem_mem _)) (hb _ (List.getElem_mem _))) (by exact (.cons (by first | exact Shares.row rfl | exact (Shares.aggCons (by first | exact Shares.c rfl) (Shares.aggCons (by first | exact Shares.c rfl) (Shares.aggCons (by first | exact Shares.c rfl | exact Shares.nilc | exact Shares.ref rfl (rowI.rnobox _ _) (rowI.rshare _ _)) (Shares.aggCons (by first | exact Shares.c rfl | exact Shares.nilc | exact Shares.ref rfl (rowGItem.rnobox _ _) (rowGItem.rshare _ _)) (Shares.aggCons (by first | exact Shares.c rfl | exact Shares.nilc | exact Shares.ref rfl (rowI.rnobox _ _) (rowI.rshare _ _)) (Shares.aggCons (by first | exact Shares.c rfl | exact Shares.nilc | exact Shares.ref rfl (rowGDid.rnobox _ _) (rowGDid.rshare _ _)) Shares.aggNil))))))) (.cons (by first | exact Shares.row rfl | exact (Shares.aggCons (by first | exact Shares.c rfl) (Shares.aggCons (by first | exact Shares.c rfl) (Shares.aggCons (by first | exact Shares.c rfl | exact Shares.nilc | exact Shares.ref rfl (rowI.rnobox _ _) (rowI.rshare _ _)) (Shares.aggCons (by first | exact Shares.c rfl | exact Shares.nilc | exact Shares.ref rfl (rowGItem.rnobox _ _) (rowGItem.rshare _ _)) (Shares.aggCons (by first | exact Shares.c rfl | exact Shares.nilc | exact Shares.ref rfl (rowI.rnobox _ _) (rowI.rshare _ _)) (Shares.aggCons (by first | exact Shares.c rfl | exact Shares.nilc | exact Shares.ref rfl (rowGDid.rnobox _ _) (rowGDid.rshare _ _)) Shares.aggNil))))))) .nil))) rfl (by first | exact .inl rfl | exact .inr (sol_cons rfl sol_nil)) rfl (lb rfl))) (sats_opds (.cons rfl (.cons rfl .nil)) (sats_app (sats_fresh_all (by exact rfl)) (sats_app (sats_needs (by first | exact all_nil | exact all_cons rfl all_nil | exact all_cons rfl (all_cons rfl all_nil) | exact all_cons rfl (all_cons rfl (all_cons rfl all_nil)) | exact all_cons rfl (all_cons rfl (all_cons rfl (all_cons rfl all_nil))))) (sats_lives rfl)))) ?_
    refine st1 rfl (op_not (lb rfl)) (so rfl sn) ?_
    refine rg_nil_draw rfl ?_
    refine kseq_normal ?_
    refine acode_cond rfl (fun hc2 => ?_) (fun hc2 => ?_)
    ·
     simp only [dq] at hc2
     refine sr ?_
     refine as_ (lb rfl) rfl ?_
     refine nkt ?_
     exact kblk_ret (kseq_ret (klg_ret (kblk_ret (kseq_ret (fin_retL (.cons (by first | exact .c rfl | exact .ref rfl rfl | exact .nilc rfl) .nil) (by rfl) (by exact resB (decide_eq_false (fun e => hc2 (by subst e; rfl))).symm))))))
    ·
     simp only [dq] at hc2
     refine acode_skip ?_
     refine kblk_normal (kseq_normal ?_)
     refine acode_region ?_
     refine mv (lb rfl) rfl ?_
     refine st1 rfl (op_add (lb rfl) (by omega)) (so rfl (so rfl sn)) ?_
     refine as_ (lb rfl) rfl ?_
     refine rg_nil_seq ?_
     refine klg_back (k + 1) ?bi ?bm ?bl
     case bi => exact ⟨by omega, take_ext (by omega) (by omega) h3 hc2⟩
     case bm => omega
     case bl => exact le_stU idn (.cons rfl (by first | rfl | simp) (.cons rfl (by first | rfl | simp) (.cons rfl (by first | rfl | simp) (.nil)))) (.nil) rfl
   ·
    simp only [dq] at hc1
    refine acode_exit ?_
    refine kseq_exit (klg_exit (kblk_hit (kseq_normal ?_)))
    refine sr ?_
    refine as_ (lb rfl) rfl ?_
    refine nkt ?_
    exact fin_retL (.cons (by first | exact .c rfl | exact .ref rfl rfl | exact .nilc rfl) .nil) (by rfl) (by exact resB (decide_eq_true (take_all h3 (by omega) (by omega))).symm)

theorem c_eqEngHouse (x y : GHouse) (hx : GHouse.lens (· ≤ 1048576) x) (hy : GHouse.lens (· ≤ 1048576) y) : FnP Tryz.prog 17 [.row (GHouse.cells false x), .row (GHouse.cells false y)] [.c (cB (decide (x = y)))] := by
 refine fnp_intro (n := 29) (rvs := [.tmp 4]) Tryz.func17 rfl rfl rfl (lb rfl) rfl ?_
 refine sr ?_
 refine st1 rfl (op_box rfl (lb rfl)) (so rfl (sf rfl (sats_lives rfl))) ?_
 refine st1 rfl (op_box rfl (lb rfl)) (so rfl (sf rfl (sats_lives rfl))) ?_
 refine as_ (lb rfl) rfl ?_
 refine nk ?_
 refine acode_seq ?_
 refine sr ?_
 refine fdb (off := 0) Tryz.underlying38 Tryz.sizeOf34 rfl rfl rfl (lb rfl) rfl rfl ?_
 refine ldb Tryz.isAgg34 rfl (lb rfl) rfl rfl ?_
 refine fdb (off := 0) Tryz.underlying38 Tryz.sizeOf34 rfl rfl rfl (lb rfl) rfl rfl ?_
 refine ldb Tryz.isAgg34 rfl (lb rfl) rfl rfl ?_
 refine st1 rfl ((op_call Tryz.func51 rfl rfl (c_eqNetNetS x.nets y.nets hx.1.1 hx.1.2 hy.1.2) (by exact (.cons (by first | exact Shares.c rfl | exact Shares.nilc | exact Shares.ref rfl (rowGNet.rnobox _ _) (rowGNet.rshare _ _)) (.cons (by first | exact Shares.c rfl | exact Shares.nilc | exact Shares.ref rfl (rowGNet.rnobox _ _) (rowGNet.rshare _ _)) .nil))) rfl (by first | exact .inl rfl | exact .inr (sol_cons rfl sol_nil)) rfl (lb rfl))) (sats_opds (.cons rfl (.cons rfl .nil)) (sats_app (sats_fresh_all (by exact rfl)) (sats_app (sats_needs (by first | exact all_nil | exact all_cons rfl all_nil | exact all_cons rfl (all_cons rfl all_nil) | exact all_cons rfl (all_cons rfl (all_cons rfl all_nil)) | exact all_cons rfl (all_cons rfl (all_cons rfl (all_cons rfl all_nil))))) (sats_lives rfl)))) ?_
 refine st1 rfl (op_not (lb rfl)) (so rfl sn) ?_
 refine nk ?_
 refine acode_cond rfl (fun hc0 => ?_) (fun hc0 => ?_)
 ·
  simp only [dq] at hc0
  refine sr ?_
  refine as_ (lb rfl) rfl ?_
  refine nkt ?_
  exact kseq_ret (fin_retL (.cons (by first | exact .c rfl | exact .ref rfl rfl | exact .nilc rfl) .nil) (by rfl) (by exact resB (decide_eq_false (fun e => hc0 (by rw [e]))).symm))
 ·
  simp only [dq] at hc0
  refine pk ?_
  refine acode_seq ?_
  refine sr ?_
  refine fdb (off := 1) Tryz.underlying38 Tryz.sizeOf23 rfl rfl rfl (lb rfl) rfl rfl ?_
  refine ldb Tryz.isAgg23 rfl (lb rfl) rfl rfl ?_
  refine fdb (off := 1) Tryz.underlying38 Tryz.sizeOf23 rfl rfl rfl (lb rfl) rfl rfl ?_
  refine ldb Tryz.isAgg23 rfl (lb rfl) rfl rfl ?_
  refine st1 rfl ((op_call Tryz.func42 rfl rfl (c_eqIntS x.people y.people hx.2.1) (by exact (.cons (by first | exact Shares.c rfl | exact Shares.nilc | exact Shares.ref rfl (rowI.rnobox _ _) (rowI.rshare _ _)) (.cons (by first | exact Shares.c rfl | exact Shares.nilc | exact Shares.ref rfl (rowI.rnobox _ _) (rowI.rshare _ _)) .nil))) rfl (by first | exact .inl rfl | exact .inr (sol_cons rfl sol_nil)) rfl (lb rfl))) (sats_opds (.cons rfl (.cons rfl .nil)) (sats_app (sats_fresh_all (by exact rfl)) (sats_app (sats_needs (by first | exact all_nil | exact all_cons rfl all_nil | exact all_cons rfl (all_cons rfl all_nil) | exact all_cons rfl (all_cons rfl (all_cons rfl all_nil)) | exact all_cons rfl (all_cons rfl (all_cons rfl (all_cons rfl all_nil))))) (sats_lives rfl)))) ?_
  refine st1 rfl (op_not (lb rfl)) (so rfl sn) ?_
  refine nk ?_
  refine acode_cond rfl (fun hc1 => ?_) (fun hc1 => ?_)
  ·
   simp only [dq] at hc1
   refine sr ?_
   refine as_ (lb rfl) rfl ?_
   refine nkt ?_
   exact kseq_ret (fin_retL (.cons (by first | exact .c rfl | exact .ref rfl rfl | exact .nilc rfl) .nil) (by rfl) (by exact resB (decide_eq_false (fun e => hc1 (by rw [e]))).symm))
  ·
   simp only [dq] at hc1
   refine pk ?_
   refine acode_seq ?_
   refine sr ?_
   refine fdb (off := 2) Tryz.underlying38 Tryz.sizeOf35 rfl rfl rfl (lb rfl) rfl rfl ?_
   refine ldb Tryz.isAgg35 rfl (lb rfl) rfl rfl ?_
   refine fdb (off := 2) Tryz.underlying38 Tryz.sizeOf35 rfl rfl rfl (lb rfl) rfl rfl ?_
   refine ldb Tryz.isAgg35 rfl (lb rfl) rfl rfl ?_
   refine st1 rfl ((op_call Tryz.func69 rfl rfl (c_eqRdrNodeS x.tree y.tree hx.2.2.1.1 hx.2.2.1.2 hy.2.2.1.2) (by exact (.cons (by first | exact Shares.c rfl | exact Shares.nilc | exact Shares.ref rfl (rowGNode.rnobox _ _) (rowGNode.rshare _ _)) (.cons (by first | exact Shares.c rfl | exact Shares.nilc | exact Shares.ref rfl (rowGNode.rnobox _ _) (rowGNode.rshare _ _)) .nil))) rfl (by first | exact .inl rfl | exact .inr (sol_cons rfl sol_nil)) rfl (lb rfl))) (sats_opds (.cons rfl (.cons rfl .nil)) (sats_app (sats_fresh_all (by exact rfl)) (sats_app (sats_needs (by first | exact all_nil | exact all_cons rfl all_nil | exact all_cons rfl (all_cons rfl all_nil) | exact all_cons rfl (all_cons rfl (all_cons rfl all_nil)) | exact all_cons rfl (all_cons rfl (all_cons rfl (all_cons rfl all_nil))))) (sats_lives rfl)))) ?_
   refine st1 rfl (op_not (lb rfl)) (so rfl sn) ?_
   refine nk ?_
   refine acode_cond rfl (fun hc2 => ?_) (fun hc2 => ?_)
   ·
    simp only [dq] at hc2
    refine sr ?_
    refine as_ (lb rfl) rfl ?_
    refine nkt ?_
    exact kseq_ret (fin_retL (.cons (by first | exact .c rfl | exact .ref rfl rfl | exact .nilc rfl) .nil) (by rfl) (by exact resB (decide_eq_false (fun e => hc2 (by rw [e]))).symm))
   ·
    simp only [dq] at hc2
    refine pk ?_
    refine acode_seq ?_
    refine sr ?_
    refine fdb (off := 3) Tryz.underlying38 Tryz.sizeOf36 rfl rfl rfl (lb rfl) rfl rfl ?_
    refine ldb Tryz.isAgg36 rfl (lb rfl) rfl rfl ?_
    refine fdb (off := 3) Tryz.underlying38 Tryz.sizeOf36 rfl rfl rfl (lb rfl) rfl rfl ?_
    refine ldb Tryz.isAgg36 rfl (lb rfl) rfl rfl ?_
    refine st1 rfl ((op_call Tryz.func70 rfl rfl (c_eqEngRunS x.runs y.runs hx.2.2.2.1 hx.2.2.2.2 hy.2.2.2.2) (by exact (.cons (by first | exact Shares.c rfl | exact Shares.nilc | exact Shares.ref rfl (rowGRun.rnobox _ _) (rowGRun.rshare _ _)) (.cons (by first | exact Shares.c rfl | exact Shares.nilc | exact Shares.ref rfl (rowGRun.rnobox _ _) (rowGRun.rshare _ _)) .nil))) rfl (by first | exact .inl rfl | exact .inr (sol_cons rfl sol_nil)) rfl (lb rfl))) (sats_opds (.cons rfl (.cons rfl .nil)) (sats_app (sats_fresh_all (by exact rfl)) (sats_app (sats_needs (by first | exact all_nil | exact all_cons rfl all_nil | exact all_cons rfl (all_cons rfl all_nil) | exact all_cons rfl (all_cons rfl (all_cons rfl all_nil)) | exact all_cons rfl (all_cons rfl (all_cons rfl (all_cons rfl all_nil))))) (sats_lives rfl)))) ?_
    refine st1 rfl (op_not (lb rfl)) (so rfl sn) ?_
    refine nk ?_
    refine acode_cond rfl (fun hc3 => ?_) (fun hc3 => ?_)
    ·
     simp only [dq] at hc3
     refine sr ?_
     refine as_ (lb rfl) rfl ?_
     refine nkt ?_
     exact kseq_ret (fin_retL (.cons (by first | exact .c rfl | exact .ref rfl rfl | exact .nilc rfl) .nil) (by rfl) (by exact resB (decide_eq_false (fun e => hc3 (by rw [e]))).symm))
    ·
     simp only [dq] at hc3
     refine pk ?_
     refine sr ?_
     refine as_ (lb rfl) rfl ?_
     refine nkt ?_
     exact fin_retL (.cons (by first | exact .c rfl | exact .ref rfl rfl | exact .nilc rfl) .nil) (by rfl) (by exact resB (decide_eq_true (by cases x; cases y; simp_all)).symm)
end Go.Am
