/- The laws' own functions over data: what is equal. The step scripts are printed by gen.py. Own work. -/
import Derived.Test.YtcbpckbehdaloaaAmS
import Derived.Test.YtcbpckbehdaloaaAmV
set_option maxRecDepth 100000
set_option linter.unusedSimpArgs false
set_option linter.unusedVariables false
namespace Go.Am
open Go Go.Proofs

theorem take_ext {α : Type} {a b : List α} {k : Nat} (ha : k < a.length) (hb : k < b.length) (h : a.take k = b.take k) (e : a[k] = b[k]) : a.take (k + 1) = b.take (k + 1) := by
  rw [List.take_succ_eq_append_getElem ha, List.take_succ_eq_append_getElem hb, h, e]
theorem take_all {α : Type} {a b : List α} {k : Nat} (h : a.take k = b.take k) (ha : a.length ≤ k) (hb : b.length ≤ k) : a = b := by
  rwa [List.take_of_length_le ha, List.take_of_length_le hb] at h

theorem c_eqIntS (a b : List Int) (hl : a.length ≤ 1048576) : FnP Try.prog 26 [.c (cIs false a), .c (cIs false b)] [.c (cB (decide (a = b)))] := by
 refine fnp_intro (n := 26) (rvs := [.tmp 4]) Try.func26 rfl rfl rfl (lb rfl) rfl ?_
 refine acode_seq ?_
 refine acode_region ?_
 refine st1 rfl (op_assign (lb rfl)) (so rfl sn) ?_
 refine rg_nil_seq ?_
 refine kseq_normal ?_
 refine acode_seq ?_
 refine acode_seq ?_
 refine acode_region ?_
 refine st1 rfl (op_move (lb rfl)) (so rfl sn) ?_
 first
  | (refine st1 rfl (op_len_sh Try.underlying34 (lb rfl)) (so rfl sn) ?_)
  | (refine st1 rfl (op_len_refN Try.underlying34 (lb rfl)) (so rfl (sb rfl sn)) ?_)
  | (refine st1 rfl (op_len_nil Try.underlying34 (lb rfl)) (so rfl sn) ?_)
  | (refine st1 rfl (op_len Try.underlying34 (lb rfl)) (so rfl sn) ?_)
  | (refine st1 rfl (op_len_ref Try.underlying34 (lb rfl) rfl) (so rfl (sb rfl sn)) ?_)
 refine st1 rfl (op_move (lb rfl)) (so rfl sn) ?_
 first
  | (refine st1 rfl (op_len_sh Try.underlying34 (lb rfl)) (so rfl sn) ?_)
  | (refine st1 rfl (op_len_refN Try.underlying34 (lb rfl)) (so rfl (sb rfl sn)) ?_)
  | (refine st1 rfl (op_len_nil Try.underlying34 (lb rfl)) (so rfl sn) ?_)
  | (refine st1 rfl (op_len Try.underlying34 (lb rfl)) (so rfl sn) ?_)
  | (refine st1 rfl (op_len_ref Try.underlying34 (lb rfl) rfl) (so rfl (sb rfl sn)) ?_)
 refine st1 rfl (op_neq (lb rfl)) (so rfl (so rfl sn)) ?_
 refine rg_nil_seq ?_
 refine kseq_normal ?_
 refine acode_cond rfl (fun hc0 => ?_) (fun hc0 => ?_)
 ·
  simp only [decide_eq_true_eq, decide_eq_false_iff_not, Bool.not_eq_true', Bool.not_eq_false', Bool.not_not, Bool.not_true, Bool.not_false] at hc0
  refine acode_seq ?_
  refine acode_region ?_
  refine st1 rfl (op_assign (lb rfl)) (so rfl sn) ?_
  refine rg_nil_seq ?_
  refine kseq_normal ?_
  refine acode_ret ?_
  exact kseq_ret (fin_retL (.cons (by first | exact .c rfl | exact .ref rfl rfl | exact .nilc rfl) .nil) (by rfl) (by exact resB (decide_eq_false (fun e => hc0 (by rw [e]))).symm))
 ·
  simp only [decide_eq_true_eq, decide_eq_false_iff_not, Bool.not_eq_true', Bool.not_eq_false', Bool.not_not, Bool.not_true, Bool.not_false] at hc0
  refine acode_skip ?_
  refine kseq_normal ?_
  refine acode_seq ?_
  refine acode_seq ?_
  refine acode_region ?_
  refine st1 rfl (op_assign (lb rfl)) (so rfl sn) ?_
  refine rg_nil_seq ?_
  refine kseq_normal ?_
  refine acode_block ?_
  refine acode_loopk (xs := [0, 1]) (ys := []) (S := Nat) (fun s => [(5, aInt (s : Int))]) (fun s => []) (fun s => s ≤ a.length ∧ a.take s = b.take s) (fun s => a.length - s) 0 (.cons rfl (.cons rfl .nil)) .nil ?em ?eo rfl ?ei ?round
  case em => exact .cons rfl (by first | rfl | simp) (.nil)
  case eo => exact .nil
  case ei => exact ⟨Nat.zero_le _, by simp⟩
  case round =>
   rintro k ⟨h2, h3⟩
   refine acode_seq ?_
   refine acode_seq ?_
   refine acode_region ?_
   refine st1 rfl (op_move (lb rfl)) (so rfl sn) ?_
   refine st1 rfl (op_move (lb rfl)) (so rfl sn) ?_
   first
    | (refine st1 rfl (op_len_sh Try.underlying34 (lb rfl)) (so rfl sn) ?_)
    | (refine st1 rfl (op_len_refN Try.underlying34 (lb rfl)) (so rfl (sb rfl sn)) ?_)
    | (refine st1 rfl (op_len_nil Try.underlying34 (lb rfl)) (so rfl sn) ?_)
    | (refine st1 rfl (op_len Try.underlying34 (lb rfl)) (so rfl sn) ?_)
    | (refine st1 rfl (op_len_ref Try.underlying34 (lb rfl) rfl) (so rfl (sb rfl sn)) ?_)
   refine st1 rfl (op_lss (lb rfl)) (so rfl (so rfl sn)) ?_
   refine rg_nil_seq ?_
   refine kseq_normal ?_
   refine acode_cond rfl (fun hc1 => ?_) (fun hc1 => ?_)
   ·
    simp only [decide_eq_true_eq, decide_eq_false_iff_not, Bool.not_eq_true', Bool.not_eq_false', Bool.not_not, Bool.not_true, Bool.not_false] at hc1
    refine acode_skip ?_
    refine kseq_normal ?_
    refine acode_seq ?_
    refine acode_block ?_
    refine acode_seq ?_
    refine acode_region_draw mixed rfl ?_
    refine st1 rfl (op_move (lb rfl)) (so rfl sn) ?_
    refine st1 rfl (op_move (lb rfl)) (so rfl sn) ?_
    first
     | (refine st1 rfl (op_index_shN Try.underlying34 Try.sizeOf3 (lb rfl) (by omega)) (so rfl (so rfl sn)) ?_)
     | (refine st1 rfl (op_index_refN Try.underlying34 Try.sizeOf3 (lb rfl) (by omega)) (so rfl (so rfl (sb rfl sn))) ?_)
    first
     | (refine st1 rfl (op_load_pts Try.isAgg3 rfl (lb rfl)) (so rfl sn) ?_)
     | (refine st1 rfl (op_load_bx Try.isAgg3 rfl (lb rfl)) (so rfl (sb rfl sn)) ?_)
     | (refine st1 rfl (op_load_ptrN Try.isAgg3 (by omega) rfl rfl (lb rfl)) (so rfl (sb rfl sn)) ?_)
     | (refine st1 rfl (op_load_ptr_refN Try.isAgg3 (by omega) rfl (lb rfl)) (so rfl (sb rfl sn)) ?_)
    refine st1 rfl (op_move (lb rfl)) (so rfl sn) ?_
    refine st1 rfl (op_move (lb rfl)) (so rfl sn) ?_
    first
     | (refine st1 rfl (op_index_shN Try.underlying34 Try.sizeOf3 (lb rfl) (by omega)) (so rfl (so rfl sn)) ?_)
     | (refine st1 rfl (op_index_refN Try.underlying34 Try.sizeOf3 (lb rfl) (by omega)) (so rfl (so rfl (sb rfl sn))) ?_)
    first
     | (refine st1 rfl (op_load_pts Try.isAgg3 rfl (lb rfl)) (so rfl sn) ?_)
     | (refine st1 rfl (op_load_bx Try.isAgg3 rfl (lb rfl)) (so rfl (sb rfl sn)) ?_)
     | (refine st1 rfl (op_load_ptrN Try.isAgg3 (by omega) rfl rfl (lb rfl)) (so rfl (sb rfl sn)) ?_)
     | (refine st1 rfl (op_load_ptr_refN Try.isAgg3 (by omega) rfl (lb rfl)) (so rfl (sb rfl sn)) ?_)
    refine st1 rfl (op_neq (lb rfl)) (so rfl (so rfl sn)) ?_
    refine rg_nil_draw rfl ?_
    refine kseq_normal ?_
    refine acode_cond rfl (fun hc2 => ?_) (fun hc2 => ?_)
    ·
     simp only [decide_eq_true_eq, decide_eq_false_iff_not, Bool.not_eq_true', Bool.not_eq_false', Bool.not_not, Bool.not_true, Bool.not_false] at hc2
     refine acode_seq ?_
     refine acode_region ?_
     refine st1 rfl (op_assign (lb rfl)) (so rfl sn) ?_
     refine rg_nil_seq ?_
     refine kseq_normal ?_
     refine acode_ret ?_
     exact kblk_ret (kseq_ret (klg_ret (kblk_ret (kseq_ret (fin_retL (.cons (by first | exact .c rfl | exact .ref rfl rfl | exact .nilc rfl) .nil) (by rfl) (by exact resB (decide_eq_false (fun e => hc2 (by subst e; rfl))).symm))))))
    ·
     simp only [decide_eq_true_eq, decide_eq_false_iff_not, Bool.not_eq_true', Bool.not_eq_false', Bool.not_not, Bool.not_true, Bool.not_false] at hc2
     refine acode_skip ?_
     refine kblk_normal (kseq_normal ?_)
     refine acode_region ?_
     refine st1 rfl (op_move (lb rfl)) (so rfl sn) ?_
     refine st1 rfl (op_add (lb rfl) (by omega)) (so rfl (so rfl sn)) ?_
     refine st1 rfl (op_assign (lb rfl)) (so rfl sn) ?_
     refine rg_nil_seq ?_
     refine klg_back (k + 1) ?bi ?bm ?bl
     case bi => exact ⟨by omega, take_ext (by omega) (by omega) h3 hc2⟩
     case bm => omega
     case bl => exact le_stU idn (.cons rfl (by first | rfl | simp) (.cons rfl (by first | rfl | simp) (.cons rfl (by first | rfl | simp) (.nil)))) (.nil) rfl
   ·
    simp only [decide_eq_true_eq, decide_eq_false_iff_not, Bool.not_eq_true', Bool.not_eq_false', Bool.not_not, Bool.not_true, Bool.not_false] at hc1
    refine acode_exit ?_
    refine kseq_exit (klg_exit (kblk_hit (kseq_normal ?_)))
    refine acode_seq ?_
    refine acode_region ?_
    refine st1 rfl (op_assign (lb rfl)) (so rfl sn) ?_
    refine rg_nil_seq ?_
    refine kseq_normal ?_
    refine acode_ret ?_
    exact fin_retL (.cons (by first | exact .c rfl | exact .ref rfl rfl | exact .nilc rfl) .nil) (by rfl) (by exact resB (decide_eq_true (take_all h3 (by omega) (by omega))).symm)

theorem c_eqExpAsk (x y : GAsk) : FnP Try.prog 100 [.row (GAsk.cells false x), .row (GAsk.cells false y)] [.c (cB (decide (x = y)))] := by
 refine fnp_intro (n := 20) (rvs := [.tmp 4]) Try.func100 rfl rfl rfl (lb rfl) rfl ?_
 refine acode_seq ?_
 refine acode_region ?_
 refine st1 rfl (op_box rfl (lb rfl)) (so rfl (sf rfl (sats_lives rfl))) ?_
 refine st1 rfl (op_box rfl (lb rfl)) (so rfl (sf rfl (sats_lives rfl))) ?_
 refine st1 rfl (op_assign (lb rfl)) (so rfl sn) ?_
 refine rg_nil_seq ?_
 refine kseq_normal ?_
 refine acode_seq ?_
 refine acode_seq ?_
 refine acode_region ?_
 first
  | (refine st1 rfl (op_field_pts (off := 0) Try.underlying88 Try.sizeOf3 rfl rfl rfl rfl (lb rfl)) (so rfl sn) ?_)
  | (refine st1 rfl (op_field_bx (off := 0) Try.underlying88 Try.sizeOf3 rfl rfl rfl (lb rfl)) (so rfl (sb rfl sn)) ?_)
  | (refine st1 rfl (op_field_ptr (off := 0) Try.underlying88 Try.sizeOf3 rfl rfl rfl (lb rfl)) (so rfl (sb rfl sn)) ?_)
 first
  | (refine st1 rfl (op_load_pts Try.isAgg3 rfl (lb rfl)) (so rfl sn) ?_)
  | (refine st1 rfl (op_load_bx Try.isAgg3 rfl (lb rfl)) (so rfl (sb rfl sn)) ?_)
  | (refine st1 rfl (op_load_ptrN Try.isAgg3 (by omega) rfl rfl (lb rfl)) (so rfl (sb rfl sn)) ?_)
  | (refine st1 rfl (op_load_ptr_refN Try.isAgg3 (by omega) rfl (lb rfl)) (so rfl (sb rfl sn)) ?_)
 first
  | (refine st1 rfl (op_field_pts (off := 0) Try.underlying88 Try.sizeOf3 rfl rfl rfl rfl (lb rfl)) (so rfl sn) ?_)
  | (refine st1 rfl (op_field_bx (off := 0) Try.underlying88 Try.sizeOf3 rfl rfl rfl (lb rfl)) (so rfl (sb rfl sn)) ?_)
  | (refine st1 rfl (op_field_ptr (off := 0) Try.underlying88 Try.sizeOf3 rfl rfl rfl (lb rfl)) (so rfl (sb rfl sn)) ?_)
 first
  | (refine st1 rfl (op_load_pts Try.isAgg3 rfl (lb rfl)) (so rfl sn) ?_)
  | (refine st1 rfl (op_load_bx Try.isAgg3 rfl (lb rfl)) (so rfl (sb rfl sn)) ?_)
  | (refine st1 rfl (op_load_ptrN Try.isAgg3 (by omega) rfl rfl (lb rfl)) (so rfl (sb rfl sn)) ?_)
  | (refine st1 rfl (op_load_ptr_refN Try.isAgg3 (by omega) rfl (lb rfl)) (so rfl (sb rfl sn)) ?_)
 refine st1 rfl (op_neq (lb rfl)) (so rfl (so rfl sn)) ?_
 refine rg_nil_seq ?_
 refine kseq_normal ?_
 refine acode_cond rfl (fun hc0 => ?_) (fun hc0 => ?_)
 ·
  simp only [decide_eq_true_eq, decide_eq_false_iff_not, Bool.not_eq_true', Bool.not_eq_false', Bool.not_not, Bool.not_true, Bool.not_false] at hc0
  refine acode_seq ?_
  refine acode_region ?_
  refine st1 rfl (op_assign (lb rfl)) (so rfl sn) ?_
  refine rg_nil_seq ?_
  refine kseq_normal ?_
  refine acode_ret ?_
  exact kseq_ret (fin_retL (.cons (by first | exact .c rfl | exact .ref rfl rfl | exact .nilc rfl) .nil) (by rfl) (by exact resB (decide_eq_false (fun e => hc0 (by rw [e]))).symm))
 ·
  simp only [decide_eq_true_eq, decide_eq_false_iff_not, Bool.not_eq_true', Bool.not_eq_false', Bool.not_not, Bool.not_true, Bool.not_false] at hc0
  refine acode_skip ?_
  refine kseq_normal ?_
  refine acode_seq ?_
  refine acode_seq ?_
  refine acode_region ?_
  first
   | (refine st1 rfl (op_field_pts (off := 1) Try.underlying88 Try.sizeOf3 rfl rfl rfl rfl (lb rfl)) (so rfl sn) ?_)
   | (refine st1 rfl (op_field_bx (off := 1) Try.underlying88 Try.sizeOf3 rfl rfl rfl (lb rfl)) (so rfl (sb rfl sn)) ?_)
   | (refine st1 rfl (op_field_ptr (off := 1) Try.underlying88 Try.sizeOf3 rfl rfl rfl (lb rfl)) (so rfl (sb rfl sn)) ?_)
  first
   | (refine st1 rfl (op_load_pts Try.isAgg3 rfl (lb rfl)) (so rfl sn) ?_)
   | (refine st1 rfl (op_load_bx Try.isAgg3 rfl (lb rfl)) (so rfl (sb rfl sn)) ?_)
   | (refine st1 rfl (op_load_ptrN Try.isAgg3 (by omega) rfl rfl (lb rfl)) (so rfl (sb rfl sn)) ?_)
   | (refine st1 rfl (op_load_ptr_refN Try.isAgg3 (by omega) rfl (lb rfl)) (so rfl (sb rfl sn)) ?_)
  first
   | (refine st1 rfl (op_field_pts (off := 1) Try.underlying88 Try.sizeOf3 rfl rfl rfl rfl (lb rfl)) (so rfl sn) ?_)
   | (refine st1 rfl (op_field_bx (off := 1) Try.underlying88 Try.sizeOf3 rfl rfl rfl (lb rfl)) (so rfl (sb rfl sn)) ?_)
   | (refine st1 rfl (op_field_ptr (off := 1) Try.underlying88 Try.sizeOf3 rfl rfl rfl (lb rfl)) (so rfl (sb rfl sn)) ?_)
  first
   | (refine st1 rfl (op_load_pts Try.isAgg3 rfl (lb rfl)) (so rfl sn) ?_)
   | (refine st1 rfl (op_load_bx Try.isAgg3 rfl (lb rfl)) (so rfl (sb rfl sn)) ?_)
   | (refine st1 rfl (op_load_ptrN Try.isAgg3 (by omega) rfl rfl (lb rfl)) (so rfl (sb rfl sn)) ?_)
   | (refine st1 rfl (op_load_ptr_refN Try.isAgg3 (by omega) rfl (lb rfl)) (so rfl (sb rfl sn)) ?_)
  refine st1 rfl (op_neq (lb rfl)) (so rfl (so rfl sn)) ?_
  refine rg_nil_seq ?_
  refine kseq_normal ?_
  refine acode_cond rfl (fun hc1 => ?_) (fun hc1 => ?_)
  ·
   simp only [decide_eq_true_eq, decide_eq_false_iff_not, Bool.not_eq_true', Bool.not_eq_false', Bool.not_not, Bool.not_true, Bool.not_false] at hc1
   refine acode_seq ?_
   refine acode_region ?_
   refine st1 rfl (op_assign (lb rfl)) (so rfl sn) ?_
   refine rg_nil_seq ?_
   refine kseq_normal ?_
   refine acode_ret ?_
   exact kseq_ret (fin_retL (.cons (by first | exact .c rfl | exact .ref rfl rfl | exact .nilc rfl) .nil) (by rfl) (by exact resB (decide_eq_false (fun e => hc1 (by rw [e]))).symm))
  ·
   simp only [decide_eq_true_eq, decide_eq_false_iff_not, Bool.not_eq_true', Bool.not_eq_false', Bool.not_not, Bool.not_true, Bool.not_false] at hc1
   refine acode_skip ?_
   refine kseq_normal ?_
   refine acode_seq ?_
   refine acode_seq ?_
   refine acode_region ?_
   first
    | (refine st1 rfl (op_field_pts (off := 2) Try.underlying88 Try.sizeOf3 rfl rfl rfl rfl (lb rfl)) (so rfl sn) ?_)
    | (refine st1 rfl (op_field_bx (off := 2) Try.underlying88 Try.sizeOf3 rfl rfl rfl (lb rfl)) (so rfl (sb rfl sn)) ?_)
    | (refine st1 rfl (op_field_ptr (off := 2) Try.underlying88 Try.sizeOf3 rfl rfl rfl (lb rfl)) (so rfl (sb rfl sn)) ?_)
   first
    | (refine st1 rfl (op_load_pts Try.isAgg3 rfl (lb rfl)) (so rfl sn) ?_)
    | (refine st1 rfl (op_load_bx Try.isAgg3 rfl (lb rfl)) (so rfl (sb rfl sn)) ?_)
    | (refine st1 rfl (op_load_ptrN Try.isAgg3 (by omega) rfl rfl (lb rfl)) (so rfl (sb rfl sn)) ?_)
    | (refine st1 rfl (op_load_ptr_refN Try.isAgg3 (by omega) rfl (lb rfl)) (so rfl (sb rfl sn)) ?_)
   first
    | (refine st1 rfl (op_field_pts (off := 2) Try.underlying88 Try.sizeOf3 rfl rfl rfl rfl (lb rfl)) (so rfl sn) ?_)
    | (refine st1 rfl (op_field_bx (off := 2) Try.underlying88 Try.sizeOf3 rfl rfl rfl (lb rfl)) (so rfl (sb rfl sn)) ?_)
    | (refine st1 rfl (op_field_ptr (off := 2) Try.underlying88 Try.sizeOf3 rfl rfl rfl (lb rfl)) (so rfl (sb rfl sn)) ?_)
   first
    | (refine st1 rfl (op_load_pts Try.isAgg3 rfl (lb rfl)) (so rfl sn) ?_)
    | (refine st1 rfl (op_load_bx Try.isAgg3 rfl (lb rfl)) (so rfl (sb rfl sn)) ?_)
    | (refine st1 rfl (op_load_ptrN Try.isAgg3 (by omega) rfl rfl (lb rfl)) (so rfl (sb rfl sn)) ?_)
    | (refine st1 rfl (op_load_ptr_refN Try.isAgg3 (by omega) rfl (lb rfl)) (so rfl (sb rfl sn)) ?_)
   refine st1 rfl (op_neq (lb rfl)) (so rfl (so rfl sn)) ?_
   refine rg_nil_seq ?_
   refine kseq_normal ?_
   refine acode_cond rfl (fun hc2 => ?_) (fun hc2 => ?_)
   ·
    simp only [decide_eq_true_eq, decide_eq_false_iff_not, Bool.not_eq_true', Bool.not_eq_false', Bool.not_not, Bool.not_true, Bool.not_false] at hc2
    refine acode_seq ?_
    refine acode_region ?_
    refine st1 rfl (op_assign (lb rfl)) (so rfl sn) ?_
    refine rg_nil_seq ?_
    refine kseq_normal ?_
    refine acode_ret ?_
    exact kseq_ret (fin_retL (.cons (by first | exact .c rfl | exact .ref rfl rfl | exact .nilc rfl) .nil) (by rfl) (by exact resB (decide_eq_false (fun e => hc2 (by rw [e]))).symm))
   ·
    simp only [decide_eq_true_eq, decide_eq_false_iff_not, Bool.not_eq_true', Bool.not_eq_false', Bool.not_not, Bool.not_true, Bool.not_false] at hc2
    refine acode_skip ?_
    refine kseq_normal ?_
    refine acode_seq ?_
    refine acode_region ?_
    refine st1 rfl (op_assign (lb rfl)) (so rfl sn) ?_
    refine rg_nil_seq ?_
    refine kseq_normal ?_
    refine acode_ret ?_
    exact fin_retL (.cons (by first | exact .c rfl | exact .ref rfl rfl | exact .nilc rfl) .nil) (by rfl) (by exact resB (decide_eq_true (by cases x; cases y; simp_all)).symm)

theorem c_eqEngReq (x y : GReq) (hx : GReq.lens (· ≤ 1048576) x) (hy : GReq.lens (· ≤ 1048576) y) : FnP Try.prog 50 [.row (GReq.cells false x), .row (GReq.cells false y)] [.c (cB (decide (x = y)))] := by
 refine fnp_intro (n := 52) (rvs := [.tmp 4]) Try.func50 rfl rfl rfl (lb rfl) rfl ?_
 refine acode_seq ?_
 refine acode_region ?_
 refine st1 rfl (op_box rfl (lb rfl)) (so rfl (sf rfl (sats_lives rfl))) ?_
 refine st1 rfl (op_box rfl (lb rfl)) (so rfl (sf rfl (sats_lives rfl))) ?_
 refine st1 rfl (op_assign (lb rfl)) (so rfl sn) ?_
 refine rg_nil_seq ?_
 refine kseq_normal ?_
 refine acode_seq ?_
 refine acode_seq ?_
 refine acode_region ?_
 first
  | (refine st1 rfl (op_field_pts (off := 0) Try.underlying90 Try.sizeOf3 rfl rfl rfl rfl (lb rfl)) (so rfl sn) ?_)
  | (refine st1 rfl (op_field_bx (off := 0) Try.underlying90 Try.sizeOf3 rfl rfl rfl (lb rfl)) (so rfl (sb rfl sn)) ?_)
  | (refine st1 rfl (op_field_ptr (off := 0) Try.underlying90 Try.sizeOf3 rfl rfl rfl (lb rfl)) (so rfl (sb rfl sn)) ?_)
 first
  | (refine st1 rfl (op_load_pts Try.isAgg3 rfl (lb rfl)) (so rfl sn) ?_)
  | (refine st1 rfl (op_load_bx Try.isAgg3 rfl (lb rfl)) (so rfl (sb rfl sn)) ?_)
  | (refine st1 rfl (op_load_ptrN Try.isAgg3 (by omega) rfl rfl (lb rfl)) (so rfl (sb rfl sn)) ?_)
  | (refine st1 rfl (op_load_ptr_refN Try.isAgg3 (by omega) rfl (lb rfl)) (so rfl (sb rfl sn)) ?_)
 first
  | (refine st1 rfl (op_field_pts (off := 0) Try.underlying90 Try.sizeOf3 rfl rfl rfl rfl (lb rfl)) (so rfl sn) ?_)
  | (refine st1 rfl (op_field_bx (off := 0) Try.underlying90 Try.sizeOf3 rfl rfl rfl (lb rfl)) (so rfl (sb rfl sn)) ?_)
  | (refine st1 rfl (op_field_ptr (off := 0) Try.underlying90 Try.sizeOf3 rfl rfl rfl (lb rfl)) (so rfl (sb rfl sn)) ?_)
 first
  | (refine st1 rfl (op_load_pts Try.isAgg3 rfl (lb rfl)) (so rfl sn) ?_)
  | (refine st1 rfl (op_load_bx Try.isAgg3 rfl (lb rfl)) (so rfl (sb rfl sn)) ?_)
  | (refine st1 rfl (op_load_ptrN Try.isAgg3 (by omega) rfl rfl (lb rfl)) (so rfl (sb rfl sn)) ?_)
  | (refine st1 rfl (op_load_ptr_refN Try.isAgg3 (by omega) rfl (lb rfl)) (so rfl (sb rfl sn)) ?_)
 refine st1 rfl (op_neq (lb rfl)) (so rfl (so rfl sn)) ?_
 refine rg_nil_seq ?_
 refine kseq_normal ?_
 refine acode_cond rfl (fun hc0 => ?_) (fun hc0 => ?_)
 ·
  simp only [decide_eq_true_eq, decide_eq_false_iff_not, Bool.not_eq_true', Bool.not_eq_false', Bool.not_not, Bool.not_true, Bool.not_false] at hc0
  refine acode_seq ?_
  refine acode_region ?_
  refine st1 rfl (op_assign (lb rfl)) (so rfl sn) ?_
  refine rg_nil_seq ?_
  refine kseq_normal ?_
  refine acode_ret ?_
  exact kseq_ret (fin_retL (.cons (by first | exact .c rfl | exact .ref rfl rfl | exact .nilc rfl) .nil) (by rfl) (by exact resB (decide_eq_false (fun e => hc0 (by rw [e]))).symm))
 ·
  simp only [decide_eq_true_eq, decide_eq_false_iff_not, Bool.not_eq_true', Bool.not_eq_false', Bool.not_not, Bool.not_true, Bool.not_false] at hc0
  refine acode_skip ?_
  refine kseq_normal ?_
  refine acode_seq ?_
  refine acode_seq ?_
  refine acode_region ?_
  first
   | (refine st1 rfl (op_field_pts (off := 1) Try.underlying90 Try.sizeOf3 rfl rfl rfl rfl (lb rfl)) (so rfl sn) ?_)
   | (refine st1 rfl (op_field_bx (off := 1) Try.underlying90 Try.sizeOf3 rfl rfl rfl (lb rfl)) (so rfl (sb rfl sn)) ?_)
   | (refine st1 rfl (op_field_ptr (off := 1) Try.underlying90 Try.sizeOf3 rfl rfl rfl (lb rfl)) (so rfl (sb rfl sn)) ?_)
  first
   | (refine st1 rfl (op_load_pts Try.isAgg3 rfl (lb rfl)) (so rfl sn) ?_)
   | (refine st1 rfl (op_load_bx Try.isAgg3 rfl (lb rfl)) (so rfl (sb rfl sn)) ?_)
   | (refine st1 rfl (op_load_ptrN Try.isAgg3 (by omega) rfl rfl (lb rfl)) (so rfl (sb rfl sn)) ?_)
   | (refine st1 rfl (op_load_ptr_refN Try.isAgg3 (by omega) rfl (lb rfl)) (so rfl (sb rfl sn)) ?_)
  first
   | (refine st1 rfl (op_field_pts (off := 1) Try.underlying90 Try.sizeOf3 rfl rfl rfl rfl (lb rfl)) (so rfl sn) ?_)
   | (refine st1 rfl (op_field_bx (off := 1) Try.underlying90 Try.sizeOf3 rfl rfl rfl (lb rfl)) (so rfl (sb rfl sn)) ?_)
   | (refine st1 rfl (op_field_ptr (off := 1) Try.underlying90 Try.sizeOf3 rfl rfl rfl (lb rfl)) (so rfl (sb rfl sn)) ?_)
  first
   | (refine st1 rfl (op_load_pts Try.isAgg3 rfl (lb rfl)) (so rfl sn) ?_)
   | (refine st1 rfl (op_load_bx Try.isAgg3 rfl (lb rfl)) (so rfl (sb rfl sn)) ?_)
   | (refine st1 rfl (op_load_ptrN Try.isAgg3 (by omega) rfl rfl (lb rfl)) (so rfl (sb rfl sn)) ?_)
   | (refine st1 rfl (op_load_ptr_refN Try.isAgg3 (by omega) rfl (lb rfl)) (so rfl (sb rfl sn)) ?_)
  refine st1 rfl (op_neq (lb rfl)) (so rfl (so rfl sn)) ?_
  refine rg_nil_seq ?_
  refine kseq_normal ?_
  refine acode_cond rfl (fun hc1 => ?_) (fun hc1 => ?_)
  ·
   simp only [decide_eq_true_eq, decide_eq_false_iff_not, Bool.not_eq_true', Bool.not_eq_false', Bool.not_not, Bool.not_true, Bool.not_false] at hc1
   refine acode_seq ?_
   refine acode_region ?_
   refine st1 rfl (op_assign (lb rfl)) (so rfl sn) ?_
   refine rg_nil_seq ?_
   refine kseq_normal ?_
   refine acode_ret ?_
   exact kseq_ret (fin_retL (.cons (by first | exact .c rfl | exact .ref rfl rfl | exact .nilc rfl) .nil) (by rfl) (by exact resB (decide_eq_false (fun e => hc1 (by rw [e]))).symm))
  ·
   simp only [decide_eq_true_eq, decide_eq_false_iff_not, Bool.not_eq_true', Bool.not_eq_false', Bool.not_not, Bool.not_true, Bool.not_false] at hc1
   refine acode_skip ?_
   refine kseq_normal ?_
   refine acode_seq ?_
   refine acode_seq ?_
   refine acode_region ?_
   first
    | (refine st1 rfl (op_field_pts (off := 2) Try.underlying90 Try.sizeOf3 rfl rfl rfl rfl (lb rfl)) (so rfl sn) ?_)
    | (refine st1 rfl (op_field_bx (off := 2) Try.underlying90 Try.sizeOf3 rfl rfl rfl (lb rfl)) (so rfl (sb rfl sn)) ?_)
    | (refine st1 rfl (op_field_ptr (off := 2) Try.underlying90 Try.sizeOf3 rfl rfl rfl (lb rfl)) (so rfl (sb rfl sn)) ?_)
   first
    | (refine st1 rfl (op_load_pts Try.isAgg3 rfl (lb rfl)) (so rfl sn) ?_)
    | (refine st1 rfl (op_load_bx Try.isAgg3 rfl (lb rfl)) (so rfl (sb rfl sn)) ?_)
    | (refine st1 rfl (op_load_ptrN Try.isAgg3 (by omega) rfl rfl (lb rfl)) (so rfl (sb rfl sn)) ?_)
    | (refine st1 rfl (op_load_ptr_refN Try.isAgg3 (by omega) rfl (lb rfl)) (so rfl (sb rfl sn)) ?_)
   first
    | (refine st1 rfl (op_field_pts (off := 2) Try.underlying90 Try.sizeOf3 rfl rfl rfl rfl (lb rfl)) (so rfl sn) ?_)
    | (refine st1 rfl (op_field_bx (off := 2) Try.underlying90 Try.sizeOf3 rfl rfl rfl (lb rfl)) (so rfl (sb rfl sn)) ?_)
    | (refine st1 rfl (op_field_ptr (off := 2) Try.underlying90 Try.sizeOf3 rfl rfl rfl (lb rfl)) (so rfl (sb rfl sn)) ?_)
   first
    | (refine st1 rfl (op_load_pts Try.isAgg3 rfl (lb rfl)) (so rfl sn) ?_)
    | (refine st1 rfl (op_load_bx Try.isAgg3 rfl (lb rfl)) (so rfl (sb rfl sn)) ?_)
    | (refine st1 rfl (op_load_ptrN Try.isAgg3 (by omega) rfl rfl (lb rfl)) (so rfl (sb rfl sn)) ?_)
    | (refine st1 rfl (op_load_ptr_refN Try.isAgg3 (by omega) rfl (lb rfl)) (so rfl (sb rfl sn)) ?_)
   refine st1 rfl (op_neq (lb rfl)) (so rfl (so rfl sn)) ?_
   refine rg_nil_seq ?_
   refine kseq_normal ?_
   refine acode_cond rfl (fun hc2 => ?_) (fun hc2 => ?_)
   ·
    simp only [decide_eq_true_eq, decide_eq_false_iff_not, Bool.not_eq_true', Bool.not_eq_false', Bool.not_not, Bool.not_true, Bool.not_false] at hc2
    refine acode_seq ?_
    refine acode_region ?_
    refine st1 rfl (op_assign (lb rfl)) (so rfl sn) ?_
    refine rg_nil_seq ?_
    refine kseq_normal ?_
    refine acode_ret ?_
    exact kseq_ret (fin_retL (.cons (by first | exact .c rfl | exact .ref rfl rfl | exact .nilc rfl) .nil) (by rfl) (by exact resB (decide_eq_false (fun e => hc2 (by rw [e]))).symm))
   ·
    simp only [decide_eq_true_eq, decide_eq_false_iff_not, Bool.not_eq_true', Bool.not_eq_false', Bool.not_not, Bool.not_true, Bool.not_false] at hc2
    refine acode_skip ?_
    refine kseq_normal ?_
    refine acode_seq ?_
    refine acode_seq ?_
    refine acode_region ?_
    first
     | (refine st1 rfl (op_field_pts (off := 3) Try.underlying90 Try.sizeOf3 rfl rfl rfl rfl (lb rfl)) (so rfl sn) ?_)
     | (refine st1 rfl (op_field_bx (off := 3) Try.underlying90 Try.sizeOf3 rfl rfl rfl (lb rfl)) (so rfl (sb rfl sn)) ?_)
     | (refine st1 rfl (op_field_ptr (off := 3) Try.underlying90 Try.sizeOf3 rfl rfl rfl (lb rfl)) (so rfl (sb rfl sn)) ?_)
    first
     | (refine st1 rfl (op_load_pts Try.isAgg3 rfl (lb rfl)) (so rfl sn) ?_)
     | (refine st1 rfl (op_load_bx Try.isAgg3 rfl (lb rfl)) (so rfl (sb rfl sn)) ?_)
     | (refine st1 rfl (op_load_ptrN Try.isAgg3 (by omega) rfl rfl (lb rfl)) (so rfl (sb rfl sn)) ?_)
     | (refine st1 rfl (op_load_ptr_refN Try.isAgg3 (by omega) rfl (lb rfl)) (so rfl (sb rfl sn)) ?_)
    first
     | (refine st1 rfl (op_field_pts (off := 3) Try.underlying90 Try.sizeOf3 rfl rfl rfl rfl (lb rfl)) (so rfl sn) ?_)
     | (refine st1 rfl (op_field_bx (off := 3) Try.underlying90 Try.sizeOf3 rfl rfl rfl (lb rfl)) (so rfl (sb rfl sn)) ?_)
     | (refine st1 rfl (op_field_ptr (off := 3) Try.underlying90 Try.sizeOf3 rfl rfl rfl (lb rfl)) (so rfl (sb rfl sn)) ?_)
    first
     | (refine st1 rfl (op_load_pts Try.isAgg3 rfl (lb rfl)) (so rfl sn) ?_)
     | (refine st1 rfl (op_load_bx Try.isAgg3 rfl (lb rfl)) (so rfl (sb rfl sn)) ?_)
     | (refine st1 rfl (op_load_ptrN Try.isAgg3 (by omega) rfl rfl (lb rfl)) (so rfl (sb rfl sn)) ?_)
     | (refine st1 rfl (op_load_ptr_refN Try.isAgg3 (by omega) rfl (lb rfl)) (so rfl (sb rfl sn)) ?_)
    refine st1 rfl (op_neq (lb rfl)) (so rfl (so rfl sn)) ?_
    refine rg_nil_seq ?_
    refine kseq_normal ?_
    refine acode_cond rfl (fun hc3 => ?_) (fun hc3 => ?_)
    ·
     simp only [decide_eq_true_eq, decide_eq_false_iff_not, Bool.not_eq_true', Bool.not_eq_false', Bool.not_not, Bool.not_true, Bool.not_false] at hc3
     refine acode_seq ?_
     refine acode_region ?_
     refine st1 rfl (op_assign (lb rfl)) (so rfl sn) ?_
     refine rg_nil_seq ?_
     refine kseq_normal ?_
     refine acode_ret ?_
     exact kseq_ret (fin_retL (.cons (by first | exact .c rfl | exact .ref rfl rfl | exact .nilc rfl) .nil) (by rfl) (by exact resB (decide_eq_false (fun e => hc3 (by rw [e]))).symm))
    ·
     simp only [decide_eq_true_eq, decide_eq_false_iff_not, Bool.not_eq_true', Bool.not_eq_false', Bool.not_not, Bool.not_true, Bool.not_false] at hc3
     refine acode_skip ?_
     refine kseq_normal ?_
     refine acode_seq ?_
     refine acode_seq ?_
     refine acode_region ?_
     first
      | (refine st1 rfl (op_field_pts (off := 4) Try.underlying90 Try.sizeOf3 rfl rfl rfl rfl (lb rfl)) (so rfl sn) ?_)
      | (refine st1 rfl (op_field_bx (off := 4) Try.underlying90 Try.sizeOf3 rfl rfl rfl (lb rfl)) (so rfl (sb rfl sn)) ?_)
      | (refine st1 rfl (op_field_ptr (off := 4) Try.underlying90 Try.sizeOf3 rfl rfl rfl (lb rfl)) (so rfl (sb rfl sn)) ?_)
     first
      | (refine st1 rfl (op_load_pts Try.isAgg3 rfl (lb rfl)) (so rfl sn) ?_)
      | (refine st1 rfl (op_load_bx Try.isAgg3 rfl (lb rfl)) (so rfl (sb rfl sn)) ?_)
      | (refine st1 rfl (op_load_ptrN Try.isAgg3 (by omega) rfl rfl (lb rfl)) (so rfl (sb rfl sn)) ?_)
      | (refine st1 rfl (op_load_ptr_refN Try.isAgg3 (by omega) rfl (lb rfl)) (so rfl (sb rfl sn)) ?_)
     first
      | (refine st1 rfl (op_field_pts (off := 4) Try.underlying90 Try.sizeOf3 rfl rfl rfl rfl (lb rfl)) (so rfl sn) ?_)
      | (refine st1 rfl (op_field_bx (off := 4) Try.underlying90 Try.sizeOf3 rfl rfl rfl (lb rfl)) (so rfl (sb rfl sn)) ?_)
      | (refine st1 rfl (op_field_ptr (off := 4) Try.underlying90 Try.sizeOf3 rfl rfl rfl (lb rfl)) (so rfl (sb rfl sn)) ?_)
     first
      | (refine st1 rfl (op_load_pts Try.isAgg3 rfl (lb rfl)) (so rfl sn) ?_)
      | (refine st1 rfl (op_load_bx Try.isAgg3 rfl (lb rfl)) (so rfl (sb rfl sn)) ?_)
      | (refine st1 rfl (op_load_ptrN Try.isAgg3 (by omega) rfl rfl (lb rfl)) (so rfl (sb rfl sn)) ?_)
      | (refine st1 rfl (op_load_ptr_refN Try.isAgg3 (by omega) rfl (lb rfl)) (so rfl (sb rfl sn)) ?_)
     refine st1 rfl (op_neq (lb rfl)) (so rfl (so rfl sn)) ?_
     refine rg_nil_seq ?_
     refine kseq_normal ?_
     refine acode_cond rfl (fun hc4 => ?_) (fun hc4 => ?_)
     ·
      simp only [decide_eq_true_eq, decide_eq_false_iff_not, Bool.not_eq_true', Bool.not_eq_false', Bool.not_not, Bool.not_true, Bool.not_false] at hc4
      refine acode_seq ?_
      refine acode_region ?_
      refine st1 rfl (op_assign (lb rfl)) (so rfl sn) ?_
      refine rg_nil_seq ?_
      refine kseq_normal ?_
      refine acode_ret ?_
      exact kseq_ret (fin_retL (.cons (by first | exact .c rfl | exact .ref rfl rfl | exact .nilc rfl) .nil) (by rfl) (by exact resB (decide_eq_false (fun e => hc4 (by rw [e]))).symm))
     ·
      simp only [decide_eq_true_eq, decide_eq_false_iff_not, Bool.not_eq_true', Bool.not_eq_false', Bool.not_not, Bool.not_true, Bool.not_false] at hc4
      refine acode_skip ?_
      refine kseq_normal ?_
      refine acode_seq ?_
      refine acode_seq ?_
      refine acode_region ?_
      first
       | (refine st1 rfl (op_field_pts (off := 5) Try.underlying90 Try.sizeOf3 rfl rfl rfl rfl (lb rfl)) (so rfl sn) ?_)
       | (refine st1 rfl (op_field_bx (off := 5) Try.underlying90 Try.sizeOf3 rfl rfl rfl (lb rfl)) (so rfl (sb rfl sn)) ?_)
       | (refine st1 rfl (op_field_ptr (off := 5) Try.underlying90 Try.sizeOf3 rfl rfl rfl (lb rfl)) (so rfl (sb rfl sn)) ?_)
      first
       | (refine st1 rfl (op_load_pts Try.isAgg3 rfl (lb rfl)) (so rfl sn) ?_)
       | (refine st1 rfl (op_load_bx Try.isAgg3 rfl (lb rfl)) (so rfl (sb rfl sn)) ?_)
       | (refine st1 rfl (op_load_ptrN Try.isAgg3 (by omega) rfl rfl (lb rfl)) (so rfl (sb rfl sn)) ?_)
       | (refine st1 rfl (op_load_ptr_refN Try.isAgg3 (by omega) rfl (lb rfl)) (so rfl (sb rfl sn)) ?_)
      first
       | (refine st1 rfl (op_field_pts (off := 5) Try.underlying90 Try.sizeOf3 rfl rfl rfl rfl (lb rfl)) (so rfl sn) ?_)
       | (refine st1 rfl (op_field_bx (off := 5) Try.underlying90 Try.sizeOf3 rfl rfl rfl (lb rfl)) (so rfl (sb rfl sn)) ?_)
       | (refine st1 rfl (op_field_ptr (off := 5) Try.underlying90 Try.sizeOf3 rfl rfl rfl (lb rfl)) (so rfl (sb rfl sn)) ?_)
      first
       | (refine st1 rfl (op_load_pts Try.isAgg3 rfl (lb rfl)) (so rfl sn) ?_)
       | (refine st1 rfl (op_load_bx Try.isAgg3 rfl (lb rfl)) (so rfl (sb rfl sn)) ?_)
       | (refine st1 rfl (op_load_ptrN Try.isAgg3 (by omega) rfl rfl (lb rfl)) (so rfl (sb rfl sn)) ?_)
       | (refine st1 rfl (op_load_ptr_refN Try.isAgg3 (by omega) rfl (lb rfl)) (so rfl (sb rfl sn)) ?_)
      refine st1 rfl (op_neq (lb rfl)) (so rfl (so rfl sn)) ?_
      refine rg_nil_seq ?_
      refine kseq_normal ?_
      refine acode_cond rfl (fun hc5 => ?_) (fun hc5 => ?_)
      ·
       simp only [decide_eq_true_eq, decide_eq_false_iff_not, Bool.not_eq_true', Bool.not_eq_false', Bool.not_not, Bool.not_true, Bool.not_false] at hc5
       refine acode_seq ?_
       refine acode_region ?_
       refine st1 rfl (op_assign (lb rfl)) (so rfl sn) ?_
       refine rg_nil_seq ?_
       refine kseq_normal ?_
       refine acode_ret ?_
       exact kseq_ret (fin_retL (.cons (by first | exact .c rfl | exact .ref rfl rfl | exact .nilc rfl) .nil) (by rfl) (by exact resB (decide_eq_false (fun e => hc5 (by rw [e]))).symm))
      ·
       simp only [decide_eq_true_eq, decide_eq_false_iff_not, Bool.not_eq_true', Bool.not_eq_false', Bool.not_not, Bool.not_true, Bool.not_false] at hc5
       refine acode_skip ?_
       refine kseq_normal ?_
       refine acode_seq ?_
       refine acode_seq ?_
       refine acode_region ?_
       first
        | (refine st1 rfl (op_field_pts (off := 6) Try.underlying90 Try.sizeOf34 rfl rfl rfl rfl (lb rfl)) (so rfl sn) ?_)
        | (refine st1 rfl (op_field_bx (off := 6) Try.underlying90 Try.sizeOf34 rfl rfl rfl (lb rfl)) (so rfl (sb rfl sn)) ?_)
        | (refine st1 rfl (op_field_ptr (off := 6) Try.underlying90 Try.sizeOf34 rfl rfl rfl (lb rfl)) (so rfl (sb rfl sn)) ?_)
       first
        | (refine st1 rfl (op_load_pts Try.isAgg34 rfl (lb rfl)) (so rfl sn) ?_)
        | (refine st1 rfl (op_load_bx Try.isAgg34 rfl (lb rfl)) (so rfl (sb rfl sn)) ?_)
        | (refine st1 rfl (op_load_ptrN Try.isAgg34 (by omega) rfl rfl (lb rfl)) (so rfl (sb rfl sn)) ?_)
        | (refine st1 rfl (op_load_ptr_refN Try.isAgg34 (by omega) rfl (lb rfl)) (so rfl (sb rfl sn)) ?_)
       first
        | (refine st1 rfl (op_field_pts (off := 6) Try.underlying90 Try.sizeOf34 rfl rfl rfl rfl (lb rfl)) (so rfl sn) ?_)
        | (refine st1 rfl (op_field_bx (off := 6) Try.underlying90 Try.sizeOf34 rfl rfl rfl (lb rfl)) (so rfl (sb rfl sn)) ?_)
        | (refine st1 rfl (op_field_ptr (off := 6) Try.underlying90 Try.sizeOf34 rfl rfl rfl (lb rfl)) (so rfl (sb rfl sn)) ?_)
       first
        | (refine st1 rfl (op_load_pts Try.isAgg34 rfl (lb rfl)) (so rfl sn) ?_)
        | (refine st1 rfl (op_load_bx Try.isAgg34 rfl (lb rfl)) (so rfl (sb rfl sn)) ?_)
        | (refine st1 rfl (op_load_ptrN Try.isAgg34 (by omega) rfl rfl (lb rfl)) (so rfl (sb rfl sn)) ?_)
        | (refine st1 rfl (op_load_ptr_refN Try.isAgg34 (by omega) rfl (lb rfl)) (so rfl (sb rfl sn)) ?_)
       refine st1 rfl ((op_call Try.func26 rfl rfl (c_eqIntS x.data y.data hx) (by exact (.cons (by first | exact Shares.c rfl | exact Shares.nilc | exact Shares.ref rfl (rowI.rnobox true _) (rowI.rshare true _)) (.cons (by first | exact Shares.c rfl | exact Shares.nilc | exact Shares.ref rfl (rowI.rnobox true _) (rowI.rshare true _)) .nil))) rfl (by first | exact .inl rfl | exact .inr (sol_cons rfl sol_nil)) rfl (lb rfl))) (sats_opds (.cons rfl (.cons rfl .nil)) (sats_app (sats_fresh_all (by exact rfl)) (sats_app (sats_needs (by first | exact all_nil | exact all_cons rfl all_nil | exact all_cons rfl (all_cons rfl all_nil) | exact all_cons rfl (all_cons rfl (all_cons rfl all_nil)) | exact all_cons rfl (all_cons rfl (all_cons rfl (all_cons rfl all_nil))))) (sats_lives rfl)))) ?_
       refine st1 rfl (op_not (lb rfl)) (so rfl sn) ?_
       refine rg_nil_seq ?_
       refine kseq_normal ?_
       refine acode_cond rfl (fun hc6 => ?_) (fun hc6 => ?_)
       ·
        simp only [decide_eq_true_eq, decide_eq_false_iff_not, Bool.not_eq_true', Bool.not_eq_false', Bool.not_not, Bool.not_true, Bool.not_false] at hc6
        refine acode_seq ?_
        refine acode_region ?_
        refine st1 rfl (op_assign (lb rfl)) (so rfl sn) ?_
        refine rg_nil_seq ?_
        refine kseq_normal ?_
        refine acode_ret ?_
        exact kseq_ret (fin_retL (.cons (by first | exact .c rfl | exact .ref rfl rfl | exact .nilc rfl) .nil) (by rfl) (by exact resB (decide_eq_false (fun e => hc6 (by rw [e]))).symm))
       ·
        simp only [decide_eq_true_eq, decide_eq_false_iff_not, Bool.not_eq_true', Bool.not_eq_false', Bool.not_not, Bool.not_true, Bool.not_false] at hc6
        refine acode_skip ?_
        refine kseq_normal ?_
        refine acode_seq ?_
        refine acode_seq ?_
        refine acode_region ?_
        first
         | (refine st1 rfl (op_field_pts (off := 7) Try.underlying90 Try.sizeOf88 rfl rfl rfl rfl (lb rfl)) (so rfl sn) ?_)
         | (refine st1 rfl (op_field_bx (off := 7) Try.underlying90 Try.sizeOf88 rfl rfl rfl (lb rfl)) (so rfl (sb rfl sn)) ?_)
         | (refine st1 rfl (op_field_ptr (off := 7) Try.underlying90 Try.sizeOf88 rfl rfl rfl (lb rfl)) (so rfl (sb rfl sn)) ?_)
        first
         | (refine st1 rfl (op_load_pts_all Try.isAgg88 Try.sizeOf88 rfl (lb rfl)) (so rfl sn) ?_)
         | (refine st1 rfl (op_load_pts_row Try.isAgg88 Try.sizeOf88 rfl rfl (lb rfl)) (so rfl sn) ?_)
         | (refine st1 rfl (op_load_bx_all Try.isAgg88 Try.sizeOf88 rfl (lb rfl)) (so rfl (sb rfl sn)) ?_)
         | (refine st1 rfl (op_load_bx_row Try.isAgg88 Try.sizeOf88 rfl rfl (lb rfl)) (so rfl (sb rfl sn)) ?_)
         | (refine st1 rfl (op_load_bx_agg Try.isAgg88 Try.sizeOf88 rfl rfl (lb rfl)) (so rfl (sb rfl sn)) ?_)
         | (refine st1 rfl (op_load_ptr_rowN Try.isAgg88 Try.sizeOf88 (by omega) rfl rfl rfl (lb rfl)) (so rfl (sb rfl sn)) ?_)
         | (refine st1 rfl (op_load_ptr_aggN Try.isAgg88 Try.sizeOf88 (by omega) rfl rfl (lb rfl)) (so rfl (sb rfl sn)) ?_)
        first
         | (refine st1 rfl (op_field_pts (off := 7) Try.underlying90 Try.sizeOf88 rfl rfl rfl rfl (lb rfl)) (so rfl sn) ?_)
         | (refine st1 rfl (op_field_bx (off := 7) Try.underlying90 Try.sizeOf88 rfl rfl rfl (lb rfl)) (so rfl (sb rfl sn)) ?_)
         | (refine st1 rfl (op_field_ptr (off := 7) Try.underlying90 Try.sizeOf88 rfl rfl rfl (lb rfl)) (so rfl (sb rfl sn)) ?_)
        first
         | (refine st1 rfl (op_load_pts_all Try.isAgg88 Try.sizeOf88 rfl (lb rfl)) (so rfl sn) ?_)
         | (refine st1 rfl (op_load_pts_row Try.isAgg88 Try.sizeOf88 rfl rfl (lb rfl)) (so rfl sn) ?_)
         | (refine st1 rfl (op_load_bx_all Try.isAgg88 Try.sizeOf88 rfl (lb rfl)) (so rfl (sb rfl sn)) ?_)
         | (refine st1 rfl (op_load_bx_row Try.isAgg88 Try.sizeOf88 rfl rfl (lb rfl)) (so rfl (sb rfl sn)) ?_)
         | (refine st1 rfl (op_load_bx_agg Try.isAgg88 Try.sizeOf88 rfl rfl (lb rfl)) (so rfl (sb rfl sn)) ?_)
         | (refine st1 rfl (op_load_ptr_rowN Try.isAgg88 Try.sizeOf88 (by omega) rfl rfl rfl (lb rfl)) (so rfl (sb rfl sn)) ?_)
         | (refine st1 rfl (op_load_ptr_aggN Try.isAgg88 Try.sizeOf88 (by omega) rfl rfl (lb rfl)) (so rfl (sb rfl sn)) ?_)
        refine st1 rfl ((op_call Try.func100 rfl rfl (c_eqExpAsk x.if_ y.if_) (by exact (.cons (by first | exact Shares.row rfl | exact (Shares.aggCons (by first | exact Shares.c rfl) (Shares.aggCons (by first | exact Shares.c rfl) (Shares.aggCons (by first | exact Shares.c rfl) Shares.aggNil)))) (.cons (by first | exact Shares.row rfl | exact (Shares.aggCons (by first | exact Shares.c rfl) (Shares.aggCons (by first | exact Shares.c rfl) (Shares.aggCons (by first | exact Shares.c rfl) Shares.aggNil)))) .nil))) rfl (by first | exact .inl rfl | exact .inr (sol_cons rfl sol_nil)) rfl (lb rfl))) (sats_opds (.cons rfl (.cons rfl .nil)) (sats_app (sats_fresh_all (by exact rfl)) (sats_app (sats_needs (by first | exact all_nil | exact all_cons rfl all_nil | exact all_cons rfl (all_cons rfl all_nil) | exact all_cons rfl (all_cons rfl (all_cons rfl all_nil)) | exact all_cons rfl (all_cons rfl (all_cons rfl (all_cons rfl all_nil))))) (sats_lives rfl)))) ?_
        refine st1 rfl (op_not (lb rfl)) (so rfl sn) ?_
        refine rg_nil_seq ?_
        refine kseq_normal ?_
        refine acode_cond rfl (fun hc7 => ?_) (fun hc7 => ?_)
        ·
         simp only [decide_eq_true_eq, decide_eq_false_iff_not, Bool.not_eq_true', Bool.not_eq_false', Bool.not_not, Bool.not_true, Bool.not_false] at hc7
         refine acode_seq ?_
         refine acode_region ?_
         refine st1 rfl (op_assign (lb rfl)) (so rfl sn) ?_
         refine rg_nil_seq ?_
         refine kseq_normal ?_
         refine acode_ret ?_
         exact kseq_ret (fin_retL (.cons (by first | exact .c rfl | exact .ref rfl rfl | exact .nilc rfl) .nil) (by rfl) (by exact resB (decide_eq_false (fun e => hc7 (by rw [e]))).symm))
        ·
         simp only [decide_eq_true_eq, decide_eq_false_iff_not, Bool.not_eq_true', Bool.not_eq_false', Bool.not_not, Bool.not_true, Bool.not_false] at hc7
         refine acode_skip ?_
         refine kseq_normal ?_
         refine acode_seq ?_
         refine acode_seq ?_
         refine acode_region ?_
         first
          | (refine st1 rfl (op_field_pts (off := 10) Try.underlying90 Try.sizeOf3 rfl rfl rfl rfl (lb rfl)) (so rfl sn) ?_)
          | (refine st1 rfl (op_field_bx (off := 10) Try.underlying90 Try.sizeOf3 rfl rfl rfl (lb rfl)) (so rfl (sb rfl sn)) ?_)
          | (refine st1 rfl (op_field_ptr (off := 10) Try.underlying90 Try.sizeOf3 rfl rfl rfl (lb rfl)) (so rfl (sb rfl sn)) ?_)
         first
          | (refine st1 rfl (op_load_pts Try.isAgg3 rfl (lb rfl)) (so rfl sn) ?_)
          | (refine st1 rfl (op_load_bx Try.isAgg3 rfl (lb rfl)) (so rfl (sb rfl sn)) ?_)
          | (refine st1 rfl (op_load_ptrN Try.isAgg3 (by omega) rfl rfl (lb rfl)) (so rfl (sb rfl sn)) ?_)
          | (refine st1 rfl (op_load_ptr_refN Try.isAgg3 (by omega) rfl (lb rfl)) (so rfl (sb rfl sn)) ?_)
         first
          | (refine st1 rfl (op_field_pts (off := 10) Try.underlying90 Try.sizeOf3 rfl rfl rfl rfl (lb rfl)) (so rfl sn) ?_)
          | (refine st1 rfl (op_field_bx (off := 10) Try.underlying90 Try.sizeOf3 rfl rfl rfl (lb rfl)) (so rfl (sb rfl sn)) ?_)
          | (refine st1 rfl (op_field_ptr (off := 10) Try.underlying90 Try.sizeOf3 rfl rfl rfl (lb rfl)) (so rfl (sb rfl sn)) ?_)
         first
          | (refine st1 rfl (op_load_pts Try.isAgg3 rfl (lb rfl)) (so rfl sn) ?_)
          | (refine st1 rfl (op_load_bx Try.isAgg3 rfl (lb rfl)) (so rfl (sb rfl sn)) ?_)
          | (refine st1 rfl (op_load_ptrN Try.isAgg3 (by omega) rfl rfl (lb rfl)) (so rfl (sb rfl sn)) ?_)
          | (refine st1 rfl (op_load_ptr_refN Try.isAgg3 (by omega) rfl (lb rfl)) (so rfl (sb rfl sn)) ?_)
         refine st1 rfl (op_neq (lb rfl)) (so rfl (so rfl sn)) ?_
         refine rg_nil_seq ?_
         refine kseq_normal ?_
         refine acode_cond rfl (fun hc8 => ?_) (fun hc8 => ?_)
         ·
          simp only [decide_eq_true_eq, decide_eq_false_iff_not, Bool.not_eq_true', Bool.not_eq_false', Bool.not_not, Bool.not_true, Bool.not_false] at hc8
          refine acode_seq ?_
          refine acode_region ?_
          refine st1 rfl (op_assign (lb rfl)) (so rfl sn) ?_
          refine rg_nil_seq ?_
          refine kseq_normal ?_
          refine acode_ret ?_
          exact kseq_ret (fin_retL (.cons (by first | exact .c rfl | exact .ref rfl rfl | exact .nilc rfl) .nil) (by rfl) (by exact resB (decide_eq_false (fun e => hc8 (by rw [e]))).symm))
         ·
          simp only [decide_eq_true_eq, decide_eq_false_iff_not, Bool.not_eq_true', Bool.not_eq_false', Bool.not_not, Bool.not_true, Bool.not_false] at hc8
          refine acode_skip ?_
          refine kseq_normal ?_
          refine acode_seq ?_
          refine acode_region ?_
          refine st1 rfl (op_assign (lb rfl)) (so rfl sn) ?_
          refine rg_nil_seq ?_
          refine kseq_normal ?_
          refine acode_ret ?_
          exact fin_retL (.cons (by first | exact .c rfl | exact .ref rfl rfl | exact .nilc rfl) .nil) (by rfl) (by exact resB (decide_eq_true (by cases x; cases y; simp_all)).symm)

theorem c_eqEngReqS (a b : List GReq) (hl : a.length ≤ 1048576) (ha : ∀ y ∈ a, GReq.lens (· ≤ 1048576) y) (hb : ∀ y ∈ b, GReq.lens (· ≤ 1048576) y) : FnP Try.prog 15 [.c (.sl false 11 (a.map (GReq.cells false))), .c (.sl false 11 (b.map (GReq.cells false)))] [.c (cB (decide (a = b)))] := by
 refine fnp_intro (n := 27) (rvs := [.tmp 4]) Try.func15 rfl rfl rfl (lb rfl) rfl ?_
 refine acode_seq ?_
 refine acode_region ?_
 refine st1 rfl (op_assign (lb rfl)) (so rfl sn) ?_
 refine rg_nil_seq ?_
 refine kseq_normal ?_
 refine acode_seq ?_
 refine acode_seq ?_
 refine acode_region ?_
 refine st1 rfl (op_move (lb rfl)) (so rfl sn) ?_
 first
  | (refine st1 rfl (op_len_sh Try.underlying25 (lb rfl)) (so rfl sn) ?_)
  | (refine st1 rfl (op_len_refN Try.underlying25 (lb rfl)) (so rfl (sb rfl sn)) ?_)
  | (refine st1 rfl (op_len_nil Try.underlying25 (lb rfl)) (so rfl sn) ?_)
  | (refine st1 rfl (op_len Try.underlying25 (lb rfl)) (so rfl sn) ?_)
  | (refine st1 rfl (op_len_ref Try.underlying25 (lb rfl) rfl) (so rfl (sb rfl sn)) ?_)
 refine st1 rfl (op_move (lb rfl)) (so rfl sn) ?_
 first
  | (refine st1 rfl (op_len_sh Try.underlying25 (lb rfl)) (so rfl sn) ?_)
  | (refine st1 rfl (op_len_refN Try.underlying25 (lb rfl)) (so rfl (sb rfl sn)) ?_)
  | (refine st1 rfl (op_len_nil Try.underlying25 (lb rfl)) (so rfl sn) ?_)
  | (refine st1 rfl (op_len Try.underlying25 (lb rfl)) (so rfl sn) ?_)
  | (refine st1 rfl (op_len_ref Try.underlying25 (lb rfl) rfl) (so rfl (sb rfl sn)) ?_)
 refine st1 rfl (op_neq (lb rfl)) (so rfl (so rfl sn)) ?_
 refine rg_nil_seq ?_
 refine kseq_normal ?_
 refine acode_cond rfl (fun hc0 => ?_) (fun hc0 => ?_)
 ·
  simp only [decide_eq_true_eq, decide_eq_false_iff_not, Bool.not_eq_true', Bool.not_eq_false', Bool.not_not, Bool.not_true, Bool.not_false] at hc0
  refine acode_seq ?_
  refine acode_region ?_
  refine st1 rfl (op_assign (lb rfl)) (so rfl sn) ?_
  refine rg_nil_seq ?_
  refine kseq_normal ?_
  refine acode_ret ?_
  exact kseq_ret (fin_retL (.cons (by first | exact .c rfl | exact .ref rfl rfl | exact .nilc rfl) .nil) (by rfl) (by exact resB (decide_eq_false (fun e => hc0 (by rw [e]))).symm))
 ·
  simp only [decide_eq_true_eq, decide_eq_false_iff_not, Bool.not_eq_true', Bool.not_eq_false', Bool.not_not, Bool.not_true, Bool.not_false] at hc0
  refine acode_skip ?_
  refine kseq_normal ?_
  refine acode_seq ?_
  refine acode_seq ?_
  refine acode_region ?_
  refine st1 rfl (op_assign (lb rfl)) (so rfl sn) ?_
  refine rg_nil_seq ?_
  refine kseq_normal ?_
  refine acode_block ?_
  refine acode_loopk (xs := [0, 1]) (ys := []) (S := Nat) (fun s => [(5, aInt (s : Int))]) (fun s => []) (fun s => s ≤ a.length ∧ a.take s = b.take s) (fun s => a.length - s) 0 (.cons rfl (.cons rfl .nil)) .nil ?em ?eo rfl ?ei ?round
  case em => exact .cons rfl (by first | rfl | simp) (.nil)
  case eo => exact .nil
  case ei => exact ⟨Nat.zero_le _, by simp⟩
  case round =>
   rintro k ⟨h2, h3⟩
   refine acode_seq ?_
   refine acode_seq ?_
   refine acode_region ?_
   refine st1 rfl (op_move (lb rfl)) (so rfl sn) ?_
   refine st1 rfl (op_move (lb rfl)) (so rfl sn) ?_
   first
    | (refine st1 rfl (op_len_sh Try.underlying25 (lb rfl)) (so rfl sn) ?_)
    | (refine st1 rfl (op_len_refN Try.underlying25 (lb rfl)) (so rfl (sb rfl sn)) ?_)
    | (refine st1 rfl (op_len_nil Try.underlying25 (lb rfl)) (so rfl sn) ?_)
    | (refine st1 rfl (op_len Try.underlying25 (lb rfl)) (so rfl sn) ?_)
    | (refine st1 rfl (op_len_ref Try.underlying25 (lb rfl) rfl) (so rfl (sb rfl sn)) ?_)
   refine st1 rfl (op_lss (lb rfl)) (so rfl (so rfl sn)) ?_
   refine rg_nil_seq ?_
   refine kseq_normal ?_
   refine acode_cond rfl (fun hc1 => ?_) (fun hc1 => ?_)
   ·
    simp only [decide_eq_true_eq, decide_eq_false_iff_not, Bool.not_eq_true', Bool.not_eq_false', Bool.not_not, Bool.not_true, Bool.not_false] at hc1
    refine acode_skip ?_
    refine kseq_normal ?_
    refine acode_seq ?_
    refine acode_block ?_
    refine acode_seq ?_
    refine acode_region_draw mixed rfl ?_
    refine st1 rfl (op_move (lb rfl)) (so rfl sn) ?_
    refine st1 rfl (op_move (lb rfl)) (so rfl sn) ?_
    first
     | (refine st1 rfl (op_index_shN Try.underlying25 Try.sizeOf90 (lb rfl) (by omega)) (so rfl (so rfl sn)) ?_)
     | (refine st1 rfl (op_index_refN Try.underlying25 Try.sizeOf90 (lb rfl) (by omega)) (so rfl (so rfl (sb rfl sn))) ?_)
    first
     | (refine st1 rfl (op_load_pts_all Try.isAgg90 Try.sizeOf90 rfl (lb rfl)) (so rfl sn) ?_)
     | (refine st1 rfl (op_load_pts_row Try.isAgg90 Try.sizeOf90 rfl rfl (lb rfl)) (so rfl sn) ?_)
     | (refine st1 rfl (op_load_bx_all Try.isAgg90 Try.sizeOf90 rfl (lb rfl)) (so rfl (sb rfl sn)) ?_)
     | (refine st1 rfl (op_load_bx_row Try.isAgg90 Try.sizeOf90 rfl rfl (lb rfl)) (so rfl (sb rfl sn)) ?_)
     | (refine st1 rfl (op_load_bx_agg Try.isAgg90 Try.sizeOf90 rfl rfl (lb rfl)) (so rfl (sb rfl sn)) ?_)
     | (refine st1 rfl (op_load_ptr_rowN Try.isAgg90 Try.sizeOf90 (by omega) rfl rfl rfl (lb rfl)) (so rfl (sb rfl sn)) ?_)
     | (refine st1 rfl (op_load_ptr_aggN Try.isAgg90 Try.sizeOf90 (by omega) rfl rfl (lb rfl)) (so rfl (sb rfl sn)) ?_)
    refine st1 rfl (op_move (lb rfl)) (so rfl sn) ?_
    refine st1 rfl (op_move (lb rfl)) (so rfl sn) ?_
    first
     | (refine st1 rfl (op_index_shN Try.underlying25 Try.sizeOf90 (lb rfl) (by omega)) (so rfl (so rfl sn)) ?_)
     | (refine st1 rfl (op_index_refN Try.underlying25 Try.sizeOf90 (lb rfl) (by omega)) (so rfl (so rfl (sb rfl sn))) ?_)
    first
     | (refine st1 rfl (op_load_pts_all Try.isAgg90 Try.sizeOf90 rfl (lb rfl)) (so rfl sn) ?_)
     | (refine st1 rfl (op_load_pts_row Try.isAgg90 Try.sizeOf90 rfl rfl (lb rfl)) (so rfl sn) ?_)
     | (refine st1 rfl (op_load_bx_all Try.isAgg90 Try.sizeOf90 rfl (lb rfl)) (so rfl (sb rfl sn)) ?_)
     | (refine st1 rfl (op_load_bx_row Try.isAgg90 Try.sizeOf90 rfl rfl (lb rfl)) (so rfl (sb rfl sn)) ?_)
     | (refine st1 rfl (op_load_bx_agg Try.isAgg90 Try.sizeOf90 rfl rfl (lb rfl)) (so rfl (sb rfl sn)) ?_)
     | (refine st1 rfl (op_load_ptr_rowN Try.isAgg90 Try.sizeOf90 (by omega) rfl rfl rfl (lb rfl)) (so rfl (sb rfl sn)) ?_)
     | (refine st1 rfl (op_load_ptr_aggN Try.isAgg90 Try.sizeOf90 (by omega) rfl rfl (lb rfl)) (so rfl (sb rfl sn)) ?_)
    refine st1 rfl ((op_call Try.func50 rfl rfl (c_eqEngReq (a[k]'(by omega)) (b[k]'(by omega)) (ha _ (List.getElem_mem _)) (hb _ (List.getElem_mem _))) (by exact (.cons (by first | exact Shares.row rfl | exact (Shares.aggCons (by first | exact Shares.c rfl) (Shares.aggCons (by first | exact Shares.c rfl) (Shares.aggCons (by first | exact Shares.c rfl) (Shares.aggCons (by first | exact Shares.c rfl) (Shares.aggCons (by first | exact Shares.c rfl) (Shares.aggCons (by first | exact Shares.c rfl) (Shares.aggCons (by first | exact Shares.c rfl | exact Shares.nilc | exact Shares.ref rfl (rowI.rnobox true _) (rowI.rshare true _)) (Shares.aggCons (by first | exact Shares.c rfl) (Shares.aggCons (by first | exact Shares.c rfl) (Shares.aggCons (by first | exact Shares.c rfl) (Shares.aggCons (by first | exact Shares.c rfl) Shares.aggNil)))))))))))) (.cons (by first | exact Shares.row rfl | exact (Shares.aggCons (by first | exact Shares.c rfl) (Shares.aggCons (by first | exact Shares.c rfl) (Shares.aggCons (by first | exact Shares.c rfl) (Shares.aggCons (by first | exact Shares.c rfl) (Shares.aggCons (by first | exact Shares.c rfl) (Shares.aggCons (by first | exact Shares.c rfl) (Shares.aggCons (by first | exact Shares.c rfl | exact Shares.nilc | exact Shares.ref rfl (rowI.rnobox true _) (rowI.rshare true _)) (Shares.aggCons (by first | exact Shares.c rfl) (Shares.aggCons (by first | exact Shares.c rfl) (Shares.aggCons (by first | exact Shares.c rfl) (Shares.aggCons (by first | exact Shares.c rfl) Shares.aggNil)))))))))))) .nil))) rfl (by first | exact .inl rfl | exact .inr (sol_cons rfl sol_nil)) rfl (lb rfl))) (sats_opds (.cons rfl (.cons rfl .nil)) (sats_app (sats_fresh_all (by exact rfl)) (sats_app (sats_needs (by first | exact all_nil | exact all_cons rfl all_nil | exact all_cons rfl (all_cons rfl all_nil) | exact all_cons rfl (all_cons rfl (all_cons rfl all_nil)) | exact all_cons rfl (all_cons rfl (all_cons rfl (all_cons rfl all_nil))))) (sats_lives rfl)))) ?_
    refine st1 rfl (op_not (lb rfl)) (so rfl sn) ?_
    refine rg_nil_draw rfl ?_
    refine kseq_normal ?_
    refine acode_cond rfl (fun hc2 => ?_) (fun hc2 => ?_)
    ·
     simp only [decide_eq_true_eq, decide_eq_false_iff_not, Bool.not_eq_true', Bool.not_eq_false', Bool.not_not, Bool.not_true, Bool.not_false] at hc2
     refine acode_seq ?_
     refine acode_region ?_
     refine st1 rfl (op_assign (lb rfl)) (so rfl sn) ?_
     refine rg_nil_seq ?_
     refine kseq_normal ?_
     refine acode_ret ?_
     exact kblk_ret (kseq_ret (klg_ret (kblk_ret (kseq_ret (fin_retL (.cons (by first | exact .c rfl | exact .ref rfl rfl | exact .nilc rfl) .nil) (by rfl) (by exact resB (decide_eq_false (fun e => hc2 (by subst e; rfl))).symm))))))
    ·
     simp only [decide_eq_true_eq, decide_eq_false_iff_not, Bool.not_eq_true', Bool.not_eq_false', Bool.not_not, Bool.not_true, Bool.not_false] at hc2
     refine acode_skip ?_
     refine kblk_normal (kseq_normal ?_)
     refine acode_region ?_
     refine st1 rfl (op_move (lb rfl)) (so rfl sn) ?_
     refine st1 rfl (op_add (lb rfl) (by omega)) (so rfl (so rfl sn)) ?_
     refine st1 rfl (op_assign (lb rfl)) (so rfl sn) ?_
     refine rg_nil_seq ?_
     refine klg_back (k + 1) ?bi ?bm ?bl
     case bi => exact ⟨by omega, take_ext (by omega) (by omega) h3 hc2⟩
     case bm => omega
     case bl => exact le_stU idn (.cons rfl (by first | rfl | simp) (.cons rfl (by first | rfl | simp) (.cons rfl (by first | rfl | simp) (.nil)))) (.nil) rfl
   ·
    simp only [decide_eq_true_eq, decide_eq_false_iff_not, Bool.not_eq_true', Bool.not_eq_false', Bool.not_not, Bool.not_true, Bool.not_false] at hc1
    refine acode_exit ?_
    refine kseq_exit (klg_exit (kblk_hit (kseq_normal ?_)))
    refine acode_seq ?_
    refine acode_region ?_
    refine st1 rfl (op_assign (lb rfl)) (so rfl sn) ?_
    refine rg_nil_seq ?_
    refine kseq_normal ?_
    refine acode_ret ?_
    exact fin_retL (.cons (by first | exact .c rfl | exact .ref rfl rfl | exact .nilc rfl) .nil) (by rfl) (by exact resB (decide_eq_true (take_all h3 (by omega) (by omega))).symm)
end Go.Am
