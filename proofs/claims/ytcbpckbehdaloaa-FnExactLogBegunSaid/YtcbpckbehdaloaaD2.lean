/- The laws' own functions over data: copies made. The step scripts are printed by gen.py. Own work. -/
import Derived.Test.YtcbpckbehdaloaaAmS
import Derived.Test.YtcbpckbehdaloaaAmV
set_option maxRecDepth 100000
set_option linter.unusedSimpArgs false
set_option linter.unusedVariables false
namespace Go.Am
open Go Go.Proofs

theorem c_toIntS (l : List Int) (hl : l.length ≤ 1048576) : FnP Try.prog 63 [.c (cIs false l)] [.c (cIs true l)] := by
 refine fnp_intro (n := 22) (rvs := [.tmp 2]) Try.func63 rfl rfl rfl (lb rfl) rfl ?_
 refine acode_seq ?_
 refine acode_region ?_
 refine st1 rfl (op_assign (lb rfl)) (so rfl sn) ?_
 refine rg_nil_seq ?_
 refine kseq_normal ?_
 refine acode_seq ?_
 refine acode_region ?_
 refine st1 rfl (op_move (lb rfl)) (so rfl sn) ?_
 first
  | (refine st1 rfl (op_len_sh Try.underlying34 (lb rfl)) (so rfl sn) ?_)
  | (refine st1 rfl (op_len_refN Try.underlying34 (lb rfl)) (so rfl (sb rfl sn)) ?_)
  | (refine st1 rfl (op_len_nil Try.underlying34 (lb rfl)) (so rfl sn) ?_)
  | (refine st1 rfl (op_len Try.underlying34 (lb rfl)) (so rfl sn) ?_)
  | (refine st1 rfl (op_len_ref Try.underlying34 (lb rfl) rfl) (so rfl (sb rfl sn)) ?_)
 refine st1 rfl (op_makeSlice (elem34) (zero34) (zr := [cI 0]) (by repeat' (first | exact Zeros.nil | refine Zeros.sl ?_ | refine Zeros.lit ?_)) (by omega) (by exact makeB (lb rfl) (by omega) (by omega)) (by omega) (lb rfl)) (so rfl (so rfl (sf rfl sn))) ?_
 refine st1 rfl (op_assign (lb rfl)) (so rfl sn) ?_
 refine rg_nil_seq ?_
 refine kseq_normal ?_
 refine acode_seq ?_
 refine acode_seq ?_
 refine acode_region ?_
 refine st1 rfl (op_assign (lb rfl)) (so rfl sn) ?_
 refine rg_nil_seq ?_
 refine kseq_normal ?_
 refine acode_block ?_
 refine acode_loopk (xs := [0]) (ys := []) (S := Nat) (fun s => [(4, aInt (s : Int)), (3, .ref 7 [])]) (fun s => [(7, .arr 1 ((half (0 : Int) l s).map (fun n => [cI n])))]) (fun s => s ≤ l.length) (fun s => l.length - s) 0 (.cons rfl .nil) .nil ?em ?eo rfl ?ei ?round
 case em => exact .cons rfl (by first | rfl | simp) (.cons rfl (by first | rfl | simp) (.nil))
 case eo => exact .cons rfl (congrArg (Obj.arr 1) (half_make (f := (fun n => [cI n])) (z := (0 : Int)))) (.nil)
 case ei => exact Nat.zero_le _
 case round =>
  rintro k h2
  refine acode_seq ?_
  refine acode_seq ?_
  refine acode_region ?_
  refine st1 rfl (op_move (lb rfl)) (so rfl sn) ?_
  refine st1 rfl (op_move (lb rfl)) (so rfl sn) ?_
  first
   | (refine st1 rfl (op_len_sh Try.underlying34 (lb rfl)) (so rfl sn) ?_)
   | (refine st1 rfl (op_len_refN Try.underlying34 (lb rfl)) (so rfl (sb rfl sn)) ?_)
   | (refine st1 rfl (op_len_nil Try.underlying34 (lb rfl)) (so rfl sn) ?_)
   | (refine st1 rfl (op_len Try.underlying34 (lb rfl)) (so rfl sn) ?_)
   | (refine st1 rfl (op_len_ref Try.underlying34 (lb rfl) rfl) (so rfl (sb rfl sn)) ?_)
  refine st1 rfl (op_lss (lb rfl)) (so rfl (so rfl sn)) ?_
  refine rg_nil_seq ?_
  refine kseq_normal ?_
  refine acode_cond rfl (fun hc0 => ?_) (fun hc0 => ?_)
  ·
   simp only [decide_eq_true_eq, decide_eq_false_iff_not, Bool.not_eq_true', Bool.not_eq_false', Bool.not_not, Bool.not_true, Bool.not_false] at hc0
   refine acode_skip ?_
   refine kseq_normal ?_
   refine acode_seq ?_
   refine acode_block ?_
   refine acode_region ?_
   refine st1 rfl (op_move (lb rfl)) (so rfl sn) ?_
   refine st1 rfl (op_move (lb rfl)) (so rfl sn) ?_
   refine st1 rfl (op_move (lb rfl)) (so rfl sn) ?_
   refine st1 rfl (op_move (lb rfl)) (so rfl sn) ?_
   first
    | (refine st1 rfl (op_index_shN Try.underlying34 Try.sizeOf3 (lb rfl) (by first | omega | (rw [half_length (by omega)]; omega))) (so rfl (so rfl sn)) ?_)
    | (refine st1 rfl (op_index_refN Try.underlying34 Try.sizeOf3 (lb rfl) (by first | omega | (rw [half_length (by omega)]; omega))) (so rfl (so rfl (sb rfl sn))) ?_)
   first
    | (refine st1 rfl (op_load_pts Try.isAgg3 rfl (lb rfl)) (so rfl sn) ?_)
    | (refine st1 rfl (op_load_bx Try.isAgg3 rfl (lb rfl)) (so rfl (sb rfl sn)) ?_)
    | (refine st1 rfl (op_load_ptrN Try.isAgg3 (by omega) rfl rfl (lb rfl)) (so rfl (sb rfl sn)) ?_)
    | (refine st1 rfl (op_load_ptr_refN Try.isAgg3 (by omega) rfl (lb rfl)) (so rfl (sb rfl sn)) ?_)
   first
    | (refine st1 rfl (op_index_shN Try.underlying34 Try.sizeOf3 (lb rfl) (by first | omega | (rw [half_length (by omega)]; omega))) (so rfl (so rfl sn)) ?_)
    | (refine st1 rfl (op_index_refN Try.underlying34 Try.sizeOf3 (lb rfl) (by first | omega | (rw [half_length (by omega)]; omega))) (so rfl (so rfl (sb rfl sn))) ?_)
   first
    | (refine st1 rfl (op_store_bxS Try.sizeOf3 rfl rfl rfl rfl) (so rfl (so rfl (sb rfl (sats_lives rfl)))) ?_)
    | (refine st1 rfl (op_store_arrS Try.sizeOf3 (by exact row_get (by first | omega | (rw [half_length (by omega)]; omega))) rfl (by (repeat' (first | exact Absorb.nil | apply Absorb.nilc | apply Absorb.c rfl | apply Absorb.ref)); all_goals rfl) (by rfl) rfl rfl rfl (by rfl)) (so rfl (so rfl (sb rfl (sats_objs (by first | exact all_nil | exact all_cons rfl all_nil | exact all_cons rfl (all_cons rfl all_nil) | exact all_cons rfl (all_cons rfl (all_cons rfl all_nil)) | exact all_cons rfl (all_cons rfl (all_cons rfl (all_cons rfl all_nil)))) (sats_lives rfl))))) ?_)
   refine rg_nil_seq ?_
   refine kblk_normal (kseq_normal ?_)
   refine acode_region ?_
   refine st1 rfl (op_move (lb rfl)) (so rfl sn) ?_
   refine st1 rfl (op_add (lb rfl) (by omega)) (so rfl (so rfl sn)) ?_
   refine st1 rfl (op_assign (lb rfl)) (so rfl sn) ?_
   refine rg_nil_seq ?_
   refine klg_back (k + 1) ?bi ?bm ?bl
   case bi => omega
   case bm => omega
   case bl => exact le_stU idn (.cons rfl (by first | rfl | simp) (.cons rfl (by first | rfl | simp) (.cons rfl (by first | rfl | simp) (.nil)))) (.cons rfl (congrArg (Obj.arr 1) (half_store (by omega) rfl)) (.inl rfl) (.nil)) rfl
  ·
   simp only [decide_eq_true_eq, decide_eq_false_iff_not, Bool.not_eq_true', Bool.not_eq_false', Bool.not_not, Bool.not_true, Bool.not_false] at hc0
   refine acode_exit ?_
   refine kseq_exit (klg_exit (kblk_hit (kseq_normal ?_)))
   refine acode_seq ?_
   refine acode_region ?_
   refine st1 rfl (op_move (lb rfl)) (so rfl sn) ?_
   refine st1 rfl (op_assign (lb rfl)) (so rfl sn) ?_
   refine rg_nil_seq ?_
   refine kseq_normal ?_
   refine acode_ret ?_
   exact fin_retL (res := [.c (.sl true 1 ((half (0 : Int) l k).map (fun n => [cI n])))]) (.cons (by first | exact .c rfl | exact .ref rfl rfl | exact .nilc rfl) .nil) (by rfl) (by rw [half_end (by omega)] <;> rfl)

theorem c_toExpAsk (x : GAsk) : FnP Try.prog 99 [.row (GAsk.cells false x)] [.row (GAsk.cells true x)] := by
 refine fnp_intro (n := 14) (rvs := [.cell 2 88]) Try.func99 rfl rfl rfl (lb rfl) rfl ?_
 refine acode_seq ?_
 refine acode_region ?_
 refine st1 rfl (op_box rfl (lb rfl)) (so rfl (sf rfl (sats_lives rfl))) ?_
 refine st1 rfl (op_alloc Try.zeroValue88 rfl (lb rfl)) (sf rfl sn) ?_
 refine rg_nil_seq ?_
 refine kseq_normal ?_
 refine acode_seq ?_
 refine acode_region ?_
 refine st1 rfl (op_alloc Try.zeroValue88 rfl (lb rfl)) (sf rfl sn) ?_
 refine rg_nil_seq ?_
 refine kseq_normal ?_
 refine acode_seq ?_
 refine acode_region ?_
 first
  | (refine st1 rfl (op_field_pts (off := 0) Try.underlying85 Try.sizeOf3 rfl rfl rfl rfl (lb rfl)) (so rfl sn) ?_)
  | (refine st1 rfl (op_field_bx (off := 0) Try.underlying85 Try.sizeOf3 rfl rfl rfl (lb rfl)) (so rfl (sb rfl sn)) ?_)
  | (refine st1 rfl (op_field_ptr (off := 0) Try.underlying85 Try.sizeOf3 rfl rfl rfl (lb rfl)) (so rfl (sb rfl sn)) ?_)
 first
  | (refine st1 rfl (op_load_pts Try.isAgg3 rfl (lb rfl)) (so rfl sn) ?_)
  | (refine st1 rfl (op_load_bx Try.isAgg3 rfl (lb rfl)) (so rfl (sb rfl sn)) ?_)
  | (refine st1 rfl (op_load_ptrN Try.isAgg3 (by omega) rfl rfl (lb rfl)) (so rfl (sb rfl sn)) ?_)
  | (refine st1 rfl (op_load_ptr_refN Try.isAgg3 (by omega) rfl (lb rfl)) (so rfl (sb rfl sn)) ?_)
 first
  | (refine st1 rfl (op_field_pts (off := 0) Try.underlying88 Try.sizeOf3 rfl rfl rfl rfl (lb rfl)) (so rfl sn) ?_)
  | (refine st1 rfl (op_field_bx (off := 0) Try.underlying88 Try.sizeOf3 rfl rfl rfl (lb rfl)) (so rfl (sb rfl sn)) ?_)
  | (refine st1 rfl (op_field_ptr (off := 0) Try.underlying88 Try.sizeOf3 rfl rfl rfl (lb rfl)) (so rfl (sb rfl sn)) ?_)
 first
  | (refine st1 rfl (op_store_bxS Try.sizeOf3 rfl rfl rfl rfl) (so rfl (so rfl (sb rfl (sats_lives rfl)))) ?_)
  | (refine st1 rfl (op_store_arrS Try.sizeOf3 (by exact row_get (by omega)) rfl (by (repeat' (first | exact Absorb.nil | apply Absorb.nilc | apply Absorb.c rfl | apply Absorb.ref)); all_goals rfl) (by rfl) rfl rfl rfl (by rfl)) (so rfl (so rfl (sb rfl (sats_objs (by first | exact all_nil | exact all_cons rfl all_nil | exact all_cons rfl (all_cons rfl all_nil) | exact all_cons rfl (all_cons rfl (all_cons rfl all_nil)) | exact all_cons rfl (all_cons rfl (all_cons rfl (all_cons rfl all_nil)))) (sats_lives rfl))))) ?_)
 refine rg_nil_seq ?_
 refine kseq_normal ?_
 refine acode_seq ?_
 refine acode_region ?_
 first
  | (refine st1 rfl (op_field_pts (off := 1) Try.underlying85 Try.sizeOf3 rfl rfl rfl rfl (lb rfl)) (so rfl sn) ?_)
  | (refine st1 rfl (op_field_bx (off := 1) Try.underlying85 Try.sizeOf3 rfl rfl rfl (lb rfl)) (so rfl (sb rfl sn)) ?_)
  | (refine st1 rfl (op_field_ptr (off := 1) Try.underlying85 Try.sizeOf3 rfl rfl rfl (lb rfl)) (so rfl (sb rfl sn)) ?_)
 first
  | (refine st1 rfl (op_load_pts Try.isAgg3 rfl (lb rfl)) (so rfl sn) ?_)
  | (refine st1 rfl (op_load_bx Try.isAgg3 rfl (lb rfl)) (so rfl (sb rfl sn)) ?_)
  | (refine st1 rfl (op_load_ptrN Try.isAgg3 (by omega) rfl rfl (lb rfl)) (so rfl (sb rfl sn)) ?_)
  | (refine st1 rfl (op_load_ptr_refN Try.isAgg3 (by omega) rfl (lb rfl)) (so rfl (sb rfl sn)) ?_)
 first
  | (refine st1 rfl (op_field_pts (off := 1) Try.underlying88 Try.sizeOf3 rfl rfl rfl rfl (lb rfl)) (so rfl sn) ?_)
  | (refine st1 rfl (op_field_bx (off := 1) Try.underlying88 Try.sizeOf3 rfl rfl rfl (lb rfl)) (so rfl (sb rfl sn)) ?_)
  | (refine st1 rfl (op_field_ptr (off := 1) Try.underlying88 Try.sizeOf3 rfl rfl rfl (lb rfl)) (so rfl (sb rfl sn)) ?_)
 first
  | (refine st1 rfl (op_store_bxS Try.sizeOf3 rfl rfl rfl rfl) (so rfl (so rfl (sb rfl (sats_lives rfl)))) ?_)
  | (refine st1 rfl (op_store_arrS Try.sizeOf3 (by exact row_get (by omega)) rfl (by (repeat' (first | exact Absorb.nil | apply Absorb.nilc | apply Absorb.c rfl | apply Absorb.ref)); all_goals rfl) (by rfl) rfl rfl rfl (by rfl)) (so rfl (so rfl (sb rfl (sats_objs (by first | exact all_nil | exact all_cons rfl all_nil | exact all_cons rfl (all_cons rfl all_nil) | exact all_cons rfl (all_cons rfl (all_cons rfl all_nil)) | exact all_cons rfl (all_cons rfl (all_cons rfl (all_cons rfl all_nil)))) (sats_lives rfl))))) ?_)
 refine rg_nil_seq ?_
 refine kseq_normal ?_
 refine acode_seq ?_
 refine acode_region ?_
 first
  | (refine st1 rfl (op_field_pts (off := 2) Try.underlying85 Try.sizeOf3 rfl rfl rfl rfl (lb rfl)) (so rfl sn) ?_)
  | (refine st1 rfl (op_field_bx (off := 2) Try.underlying85 Try.sizeOf3 rfl rfl rfl (lb rfl)) (so rfl (sb rfl sn)) ?_)
  | (refine st1 rfl (op_field_ptr (off := 2) Try.underlying85 Try.sizeOf3 rfl rfl rfl (lb rfl)) (so rfl (sb rfl sn)) ?_)
 first
  | (refine st1 rfl (op_load_pts Try.isAgg3 rfl (lb rfl)) (so rfl sn) ?_)
  | (refine st1 rfl (op_load_bx Try.isAgg3 rfl (lb rfl)) (so rfl (sb rfl sn)) ?_)
  | (refine st1 rfl (op_load_ptrN Try.isAgg3 (by omega) rfl rfl (lb rfl)) (so rfl (sb rfl sn)) ?_)
  | (refine st1 rfl (op_load_ptr_refN Try.isAgg3 (by omega) rfl (lb rfl)) (so rfl (sb rfl sn)) ?_)
 first
  | (refine st1 rfl (op_field_pts (off := 2) Try.underlying88 Try.sizeOf3 rfl rfl rfl rfl (lb rfl)) (so rfl sn) ?_)
  | (refine st1 rfl (op_field_bx (off := 2) Try.underlying88 Try.sizeOf3 rfl rfl rfl (lb rfl)) (so rfl (sb rfl sn)) ?_)
  | (refine st1 rfl (op_field_ptr (off := 2) Try.underlying88 Try.sizeOf3 rfl rfl rfl (lb rfl)) (so rfl (sb rfl sn)) ?_)
 first
  | (refine st1 rfl (op_store_bxS Try.sizeOf3 rfl rfl rfl rfl) (so rfl (so rfl (sb rfl (sats_lives rfl)))) ?_)
  | (refine st1 rfl (op_store_arrS Try.sizeOf3 (by exact row_get (by omega)) rfl (by (repeat' (first | exact Absorb.nil | apply Absorb.nilc | apply Absorb.c rfl | apply Absorb.ref)); all_goals rfl) (by rfl) rfl rfl rfl (by rfl)) (so rfl (so rfl (sb rfl (sats_objs (by first | exact all_nil | exact all_cons rfl all_nil | exact all_cons rfl (all_cons rfl all_nil) | exact all_cons rfl (all_cons rfl (all_cons rfl all_nil)) | exact all_cons rfl (all_cons rfl (all_cons rfl (all_cons rfl all_nil)))) (sats_lives rfl))))) ?_)
 refine rg_nil_seq ?_
 refine kseq_normal ?_
 refine acode_seq ?_
 refine acode_region ?_
 first
  | (refine st1 rfl (op_load_pts_all Try.isAgg88 Try.sizeOf88 rfl (lb rfl)) (so rfl sn) ?_)
  | (refine st1 rfl (op_load_pts_row Try.isAgg88 Try.sizeOf88 rfl rfl (lb rfl)) (so rfl sn) ?_)
  | (refine st1 rfl (op_load_bx_all Try.isAgg88 Try.sizeOf88 rfl (lb rfl)) (so rfl (sb rfl sn)) ?_)
  | (refine st1 rfl (op_load_bx_row Try.isAgg88 Try.sizeOf88 rfl rfl (lb rfl)) (so rfl (sb rfl sn)) ?_)
  | (refine st1 rfl (op_load_bx_agg Try.isAgg88 Try.sizeOf88 rfl rfl (lb rfl)) (so rfl (sb rfl sn)) ?_)
  | (refine st1 rfl (op_load_ptr_rowN Try.isAgg88 Try.sizeOf88 (by omega) rfl rfl rfl (lb rfl)) (so rfl (sb rfl sn)) ?_)
  | (refine st1 rfl (op_load_ptr_aggN Try.isAgg88 Try.sizeOf88 (by omega) rfl rfl (lb rfl)) (so rfl (sb rfl sn)) ?_)
 first
  | (refine st1 rfl (op_store_bxS Try.sizeOf88 rfl rfl rfl rfl) (so rfl (so rfl (sb rfl (sats_lives rfl)))) ?_)
  | (refine st1 rfl (op_store_arrS Try.sizeOf88 (by exact row_get (by omega)) rfl (by (repeat' (first | exact Absorb.nil | apply Absorb.nilc | apply Absorb.c rfl | apply Absorb.ref)); all_goals rfl) (by rfl) rfl rfl rfl (by rfl)) (so rfl (so rfl (sb rfl (sats_objs (by first | exact all_nil | exact all_cons rfl all_nil | exact all_cons rfl (all_cons rfl all_nil) | exact all_cons rfl (all_cons rfl (all_cons rfl all_nil)) | exact all_cons rfl (all_cons rfl (all_cons rfl (all_cons rfl all_nil)))) (sats_lives rfl))))) ?_)
 refine rg_nil_seq ?_
 refine kseq_normal ?_
 refine acode_ret ?_
 exact fin_retL (res := [.row (GAsk.cells true x)]) (.cons (.agg rfl rfl Try.isAgg88 Try.sizeOf88 rfl (by repeat' (first | exact Abs.nil | apply Abs.nilc | apply Abs.c rfl | apply Abs.ref rfl)) (by rfl)) .nil) (by rfl) (by rfl)

theorem c_toEngReq (x : GReq) (hx : GReq.lens (· ≤ 1048576) x) : FnP Try.prog 49 [.row (GReq.cells false x)] [.row (GReq.cells true x)] := by
 refine fnp_intro (n := 34) (rvs := [.cell 2 90]) Try.func49 rfl rfl rfl (lb rfl) rfl ?_
 refine acode_seq ?_
 refine acode_region ?_
 refine st1 rfl (op_box rfl (lb rfl)) (so rfl (sf rfl (sats_lives rfl))) ?_
 refine st1 rfl (op_alloc Try.zeroValue90 rfl (lb rfl)) (sf rfl sn) ?_
 refine rg_nil_seq ?_
 refine kseq_normal ?_
 refine acode_seq ?_
 refine acode_region ?_
 refine st1 rfl (op_alloc Try.zeroValue90 rfl (lb rfl)) (sf rfl sn) ?_
 refine rg_nil_seq ?_
 refine kseq_normal ?_
 refine acode_seq ?_
 refine acode_region ?_
 first
  | (refine st1 rfl (op_field_pts (off := 0) Try.underlying87 Try.sizeOf3 rfl rfl rfl rfl (lb rfl)) (so rfl sn) ?_)
  | (refine st1 rfl (op_field_bx (off := 0) Try.underlying87 Try.sizeOf3 rfl rfl rfl (lb rfl)) (so rfl (sb rfl sn)) ?_)
  | (refine st1 rfl (op_field_ptr (off := 0) Try.underlying87 Try.sizeOf3 rfl rfl rfl (lb rfl)) (so rfl (sb rfl sn)) ?_)
 first
  | (refine st1 rfl (op_load_pts Try.isAgg3 rfl (lb rfl)) (so rfl sn) ?_)
  | (refine st1 rfl (op_load_bx Try.isAgg3 rfl (lb rfl)) (so rfl (sb rfl sn)) ?_)
  | (refine st1 rfl (op_load_ptrN Try.isAgg3 (by omega) rfl rfl (lb rfl)) (so rfl (sb rfl sn)) ?_)
  | (refine st1 rfl (op_load_ptr_refN Try.isAgg3 (by omega) rfl (lb rfl)) (so rfl (sb rfl sn)) ?_)
 first
  | (refine st1 rfl (op_field_pts (off := 0) Try.underlying90 Try.sizeOf3 rfl rfl rfl rfl (lb rfl)) (so rfl sn) ?_)
  | (refine st1 rfl (op_field_bx (off := 0) Try.underlying90 Try.sizeOf3 rfl rfl rfl (lb rfl)) (so rfl (sb rfl sn)) ?_)
  | (refine st1 rfl (op_field_ptr (off := 0) Try.underlying90 Try.sizeOf3 rfl rfl rfl (lb rfl)) (so rfl (sb rfl sn)) ?_)
 first
  | (refine st1 rfl (op_store_bxS Try.sizeOf3 rfl rfl rfl rfl) (so rfl (so rfl (sb rfl (sats_lives rfl)))) ?_)
  | (refine st1 rfl (op_store_arrS Try.sizeOf3 (by exact row_get (by omega)) rfl (by (repeat' (first | exact Absorb.nil | apply Absorb.nilc | apply Absorb.c rfl | apply Absorb.ref)); all_goals rfl) (by rfl) rfl rfl rfl (by rfl)) (so rfl (so rfl (sb rfl (sats_objs (by first | exact all_nil | exact all_cons rfl all_nil | exact all_cons rfl (all_cons rfl all_nil) | exact all_cons rfl (all_cons rfl (all_cons rfl all_nil)) | exact all_cons rfl (all_cons rfl (all_cons rfl (all_cons rfl all_nil)))) (sats_lives rfl))))) ?_)
 refine rg_nil_seq ?_
 refine kseq_normal ?_
 refine acode_seq ?_
 refine acode_region ?_
 first
  | (refine st1 rfl (op_field_pts (off := 1) Try.underlying87 Try.sizeOf3 rfl rfl rfl rfl (lb rfl)) (so rfl sn) ?_)
  | (refine st1 rfl (op_field_bx (off := 1) Try.underlying87 Try.sizeOf3 rfl rfl rfl (lb rfl)) (so rfl (sb rfl sn)) ?_)
  | (refine st1 rfl (op_field_ptr (off := 1) Try.underlying87 Try.sizeOf3 rfl rfl rfl (lb rfl)) (so rfl (sb rfl sn)) ?_)
 first
  | (refine st1 rfl (op_load_pts Try.isAgg3 rfl (lb rfl)) (so rfl sn) ?_)
  | (refine st1 rfl (op_load_bx Try.isAgg3 rfl (lb rfl)) (so rfl (sb rfl sn)) ?_)
  | (refine st1 rfl (op_load_ptrN Try.isAgg3 (by omega) rfl rfl (lb rfl)) (so rfl (sb rfl sn)) ?_)
  | (refine st1 rfl (op_load_ptr_refN Try.isAgg3 (by omega) rfl (lb rfl)) (so rfl (sb rfl sn)) ?_)
 first
  | (refine st1 rfl (op_field_pts (off := 1) Try.underlying90 Try.sizeOf3 rfl rfl rfl rfl (lb rfl)) (so rfl sn) ?_)
  | (refine st1 rfl (op_field_bx (off := 1) Try.underlying90 Try.sizeOf3 rfl rfl rfl (lb rfl)) (so rfl (sb rfl sn)) ?_)
  | (refine st1 rfl (op_field_ptr (off := 1) Try.underlying90 Try.sizeOf3 rfl rfl rfl (lb rfl)) (so rfl (sb rfl sn)) ?_)
 first
  | (refine st1 rfl (op_store_bxS Try.sizeOf3 rfl rfl rfl rfl) (so rfl (so rfl (sb rfl (sats_lives rfl)))) ?_)
  | (refine st1 rfl (op_store_arrS Try.sizeOf3 (by exact row_get (by omega)) rfl (by (repeat' (first | exact Absorb.nil | apply Absorb.nilc | apply Absorb.c rfl | apply Absorb.ref)); all_goals rfl) (by rfl) rfl rfl rfl (by rfl)) (so rfl (so rfl (sb rfl (sats_objs (by first | exact all_nil | exact all_cons rfl all_nil | exact all_cons rfl (all_cons rfl all_nil) | exact all_cons rfl (all_cons rfl (all_cons rfl all_nil)) | exact all_cons rfl (all_cons rfl (all_cons rfl (all_cons rfl all_nil)))) (sats_lives rfl))))) ?_)
 refine rg_nil_seq ?_
 refine kseq_normal ?_
 refine acode_seq ?_
 refine acode_region ?_
 first
  | (refine st1 rfl (op_field_pts (off := 2) Try.underlying87 Try.sizeOf3 rfl rfl rfl rfl (lb rfl)) (so rfl sn) ?_)
  | (refine st1 rfl (op_field_bx (off := 2) Try.underlying87 Try.sizeOf3 rfl rfl rfl (lb rfl)) (so rfl (sb rfl sn)) ?_)
  | (refine st1 rfl (op_field_ptr (off := 2) Try.underlying87 Try.sizeOf3 rfl rfl rfl (lb rfl)) (so rfl (sb rfl sn)) ?_)
 first
  | (refine st1 rfl (op_load_pts Try.isAgg3 rfl (lb rfl)) (so rfl sn) ?_)
  | (refine st1 rfl (op_load_bx Try.isAgg3 rfl (lb rfl)) (so rfl (sb rfl sn)) ?_)
  | (refine st1 rfl (op_load_ptrN Try.isAgg3 (by omega) rfl rfl (lb rfl)) (so rfl (sb rfl sn)) ?_)
  | (refine st1 rfl (op_load_ptr_refN Try.isAgg3 (by omega) rfl (lb rfl)) (so rfl (sb rfl sn)) ?_)
 first
  | (refine st1 rfl (op_field_pts (off := 2) Try.underlying90 Try.sizeOf3 rfl rfl rfl rfl (lb rfl)) (so rfl sn) ?_)
  | (refine st1 rfl (op_field_bx (off := 2) Try.underlying90 Try.sizeOf3 rfl rfl rfl (lb rfl)) (so rfl (sb rfl sn)) ?_)
  | (refine st1 rfl (op_field_ptr (off := 2) Try.underlying90 Try.sizeOf3 rfl rfl rfl (lb rfl)) (so rfl (sb rfl sn)) ?_)
 first
  | (refine st1 rfl (op_store_bxS Try.sizeOf3 rfl rfl rfl rfl) (so rfl (so rfl (sb rfl (sats_lives rfl)))) ?_)
  | (refine st1 rfl (op_store_arrS Try.sizeOf3 (by exact row_get (by omega)) rfl (by (repeat' (first | exact Absorb.nil | apply Absorb.nilc | apply Absorb.c rfl | apply Absorb.ref)); all_goals rfl) (by rfl) rfl rfl rfl (by rfl)) (so rfl (so rfl (sb rfl (sats_objs (by first | exact all_nil | exact all_cons rfl all_nil | exact all_cons rfl (all_cons rfl all_nil) | exact all_cons rfl (all_cons rfl (all_cons rfl all_nil)) | exact all_cons rfl (all_cons rfl (all_cons rfl (all_cons rfl all_nil)))) (sats_lives rfl))))) ?_)
 refine rg_nil_seq ?_
 refine kseq_normal ?_
 refine acode_seq ?_
 refine acode_region ?_
 first
  | (refine st1 rfl (op_field_pts (off := 3) Try.underlying87 Try.sizeOf3 rfl rfl rfl rfl (lb rfl)) (so rfl sn) ?_)
  | (refine st1 rfl (op_field_bx (off := 3) Try.underlying87 Try.sizeOf3 rfl rfl rfl (lb rfl)) (so rfl (sb rfl sn)) ?_)
  | (refine st1 rfl (op_field_ptr (off := 3) Try.underlying87 Try.sizeOf3 rfl rfl rfl (lb rfl)) (so rfl (sb rfl sn)) ?_)
 first
  | (refine st1 rfl (op_load_pts Try.isAgg3 rfl (lb rfl)) (so rfl sn) ?_)
  | (refine st1 rfl (op_load_bx Try.isAgg3 rfl (lb rfl)) (so rfl (sb rfl sn)) ?_)
  | (refine st1 rfl (op_load_ptrN Try.isAgg3 (by omega) rfl rfl (lb rfl)) (so rfl (sb rfl sn)) ?_)
  | (refine st1 rfl (op_load_ptr_refN Try.isAgg3 (by omega) rfl (lb rfl)) (so rfl (sb rfl sn)) ?_)
 first
  | (refine st1 rfl (op_field_pts (off := 3) Try.underlying90 Try.sizeOf3 rfl rfl rfl rfl (lb rfl)) (so rfl sn) ?_)
  | (refine st1 rfl (op_field_bx (off := 3) Try.underlying90 Try.sizeOf3 rfl rfl rfl (lb rfl)) (so rfl (sb rfl sn)) ?_)
  | (refine st1 rfl (op_field_ptr (off := 3) Try.underlying90 Try.sizeOf3 rfl rfl rfl (lb rfl)) (so rfl (sb rfl sn)) ?_)
 first
  | (refine st1 rfl (op_store_bxS Try.sizeOf3 rfl rfl rfl rfl) (so rfl (so rfl (sb rfl (sats_lives rfl)))) ?_)
  | (refine st1 rfl (op_store_arrS Try.sizeOf3 (by exact row_get (by omega)) rfl (by (repeat' (first | exact Absorb.nil | apply Absorb.nilc | apply Absorb.c rfl | apply Absorb.ref)); all_goals rfl) (by rfl) rfl rfl rfl (by rfl)) (so rfl (so rfl (sb rfl (sats_objs (by first | exact all_nil | exact all_cons rfl all_nil | exact all_cons rfl (all_cons rfl all_nil) | exact all_cons rfl (all_cons rfl (all_cons rfl all_nil)) | exact all_cons rfl (all_cons rfl (all_cons rfl (all_cons rfl all_nil)))) (sats_lives rfl))))) ?_)
 refine rg_nil_seq ?_
 refine kseq_normal ?_
 refine acode_seq ?_
 refine acode_region ?_
 first
  | (refine st1 rfl (op_field_pts (off := 4) Try.underlying87 Try.sizeOf3 rfl rfl rfl rfl (lb rfl)) (so rfl sn) ?_)
  | (refine st1 rfl (op_field_bx (off := 4) Try.underlying87 Try.sizeOf3 rfl rfl rfl (lb rfl)) (so rfl (sb rfl sn)) ?_)
  | (refine st1 rfl (op_field_ptr (off := 4) Try.underlying87 Try.sizeOf3 rfl rfl rfl (lb rfl)) (so rfl (sb rfl sn)) ?_)
 first
  | (refine st1 rfl (op_load_pts Try.isAgg3 rfl (lb rfl)) (so rfl sn) ?_)
  | (refine st1 rfl (op_load_bx Try.isAgg3 rfl (lb rfl)) (so rfl (sb rfl sn)) ?_)
  | (refine st1 rfl (op_load_ptrN Try.isAgg3 (by omega) rfl rfl (lb rfl)) (so rfl (sb rfl sn)) ?_)
  | (refine st1 rfl (op_load_ptr_refN Try.isAgg3 (by omega) rfl (lb rfl)) (so rfl (sb rfl sn)) ?_)
 first
  | (refine st1 rfl (op_field_pts (off := 4) Try.underlying90 Try.sizeOf3 rfl rfl rfl rfl (lb rfl)) (so rfl sn) ?_)
  | (refine st1 rfl (op_field_bx (off := 4) Try.underlying90 Try.sizeOf3 rfl rfl rfl (lb rfl)) (so rfl (sb rfl sn)) ?_)
  | (refine st1 rfl (op_field_ptr (off := 4) Try.underlying90 Try.sizeOf3 rfl rfl rfl (lb rfl)) (so rfl (sb rfl sn)) ?_)
 first
  | (refine st1 rfl (op_store_bxS Try.sizeOf3 rfl rfl rfl rfl) (so rfl (so rfl (sb rfl (sats_lives rfl)))) ?_)
  | (refine st1 rfl (op_store_arrS Try.sizeOf3 (by exact row_get (by omega)) rfl (by (repeat' (first | exact Absorb.nil | apply Absorb.nilc | apply Absorb.c rfl | apply Absorb.ref)); all_goals rfl) (by rfl) rfl rfl rfl (by rfl)) (so rfl (so rfl (sb rfl (sats_objs (by first | exact all_nil | exact all_cons rfl all_nil | exact all_cons rfl (all_cons rfl all_nil) | exact all_cons rfl (all_cons rfl (all_cons rfl all_nil)) | exact all_cons rfl (all_cons rfl (all_cons rfl (all_cons rfl all_nil)))) (sats_lives rfl))))) ?_)
 refine rg_nil_seq ?_
 refine kseq_normal ?_
 refine acode_seq ?_
 refine acode_region ?_
 first
  | (refine st1 rfl (op_field_pts (off := 5) Try.underlying87 Try.sizeOf3 rfl rfl rfl rfl (lb rfl)) (so rfl sn) ?_)
  | (refine st1 rfl (op_field_bx (off := 5) Try.underlying87 Try.sizeOf3 rfl rfl rfl (lb rfl)) (so rfl (sb rfl sn)) ?_)
  | (refine st1 rfl (op_field_ptr (off := 5) Try.underlying87 Try.sizeOf3 rfl rfl rfl (lb rfl)) (so rfl (sb rfl sn)) ?_)
 first
  | (refine st1 rfl (op_load_pts Try.isAgg3 rfl (lb rfl)) (so rfl sn) ?_)
  | (refine st1 rfl (op_load_bx Try.isAgg3 rfl (lb rfl)) (so rfl (sb rfl sn)) ?_)
  | (refine st1 rfl (op_load_ptrN Try.isAgg3 (by omega) rfl rfl (lb rfl)) (so rfl (sb rfl sn)) ?_)
  | (refine st1 rfl (op_load_ptr_refN Try.isAgg3 (by omega) rfl (lb rfl)) (so rfl (sb rfl sn)) ?_)
 first
  | (refine st1 rfl (op_field_pts (off := 5) Try.underlying90 Try.sizeOf3 rfl rfl rfl rfl (lb rfl)) (so rfl sn) ?_)
  | (refine st1 rfl (op_field_bx (off := 5) Try.underlying90 Try.sizeOf3 rfl rfl rfl (lb rfl)) (so rfl (sb rfl sn)) ?_)
  | (refine st1 rfl (op_field_ptr (off := 5) Try.underlying90 Try.sizeOf3 rfl rfl rfl (lb rfl)) (so rfl (sb rfl sn)) ?_)
 first
  | (refine st1 rfl (op_store_bxS Try.sizeOf3 rfl rfl rfl rfl) (so rfl (so rfl (sb rfl (sats_lives rfl)))) ?_)
  | (refine st1 rfl (op_store_arrS Try.sizeOf3 (by exact row_get (by omega)) rfl (by (repeat' (first | exact Absorb.nil | apply Absorb.nilc | apply Absorb.c rfl | apply Absorb.ref)); all_goals rfl) (by rfl) rfl rfl rfl (by rfl)) (so rfl (so rfl (sb rfl (sats_objs (by first | exact all_nil | exact all_cons rfl all_nil | exact all_cons rfl (all_cons rfl all_nil) | exact all_cons rfl (all_cons rfl (all_cons rfl all_nil)) | exact all_cons rfl (all_cons rfl (all_cons rfl (all_cons rfl all_nil)))) (sats_lives rfl))))) ?_)
 refine rg_nil_seq ?_
 refine kseq_normal ?_
 refine acode_seq ?_
 refine acode_region ?_
 first
  | (refine st1 rfl (op_field_pts (off := 6) Try.underlying87 Try.sizeOf34 rfl rfl rfl rfl (lb rfl)) (so rfl sn) ?_)
  | (refine st1 rfl (op_field_bx (off := 6) Try.underlying87 Try.sizeOf34 rfl rfl rfl (lb rfl)) (so rfl (sb rfl sn)) ?_)
  | (refine st1 rfl (op_field_ptr (off := 6) Try.underlying87 Try.sizeOf34 rfl rfl rfl (lb rfl)) (so rfl (sb rfl sn)) ?_)
 first
  | (refine st1 rfl (op_load_pts Try.isAgg34 rfl (lb rfl)) (so rfl sn) ?_)
  | (refine st1 rfl (op_load_bx Try.isAgg34 rfl (lb rfl)) (so rfl (sb rfl sn)) ?_)
  | (refine st1 rfl (op_load_ptrN Try.isAgg34 (by omega) rfl rfl (lb rfl)) (so rfl (sb rfl sn)) ?_)
  | (refine st1 rfl (op_load_ptr_refN Try.isAgg34 (by omega) rfl (lb rfl)) (so rfl (sb rfl sn)) ?_)
 refine st1 rfl ((op_call Try.func63 rfl rfl (c_toIntS x.data hx) (by exact (.cons (by first | exact Shares.c rfl | exact Shares.nilc | exact Shares.ref rfl (rowI.rnobox true _) (rowI.rshare true _)) .nil)) rfl (by first | exact .inl rfl | exact .inr (sol_cons (sl_solid rowI _) sol_nil)) rfl (lb rfl))) (sats_opds (.cons rfl .nil) (sats_app (sats_fresh_all (by exact rfl)) (sats_app (sats_needs (by first | exact all_nil | exact all_cons rfl all_nil | exact all_cons rfl (all_cons rfl all_nil) | exact all_cons rfl (all_cons rfl (all_cons rfl all_nil)) | exact all_cons rfl (all_cons rfl (all_cons rfl (all_cons rfl all_nil))))) (sats_lives rfl)))) ?_
 first
  | (refine st1 rfl (op_field_pts (off := 6) Try.underlying90 Try.sizeOf34 rfl rfl rfl rfl (lb rfl)) (so rfl sn) ?_)
  | (refine st1 rfl (op_field_bx (off := 6) Try.underlying90 Try.sizeOf34 rfl rfl rfl (lb rfl)) (so rfl (sb rfl sn)) ?_)
  | (refine st1 rfl (op_field_ptr (off := 6) Try.underlying90 Try.sizeOf34 rfl rfl rfl (lb rfl)) (so rfl (sb rfl sn)) ?_)
 first
  | (refine st1 rfl (op_store_bxS Try.sizeOf34 rfl rfl rfl rfl) (so rfl (so rfl (sb rfl (sats_lives rfl)))) ?_)
  | (refine st1 rfl (op_store_arrS Try.sizeOf34 (by exact row_get (by omega)) rfl (by (repeat' (first | exact Absorb.nil | apply Absorb.nilc | apply Absorb.c rfl | apply Absorb.ref)); all_goals rfl) (by rfl) rfl rfl rfl (by rfl)) (so rfl (so rfl (sb rfl (sats_objs (by first | exact all_nil | exact all_cons rfl all_nil | exact all_cons rfl (all_cons rfl all_nil) | exact all_cons rfl (all_cons rfl (all_cons rfl all_nil)) | exact all_cons rfl (all_cons rfl (all_cons rfl (all_cons rfl all_nil)))) (sats_lives rfl))))) ?_)
 refine rg_nil_seq ?_
 refine kseq_normal ?_
 refine acode_seq ?_
 refine acode_region ?_
 first
  | (refine st1 rfl (op_field_pts (off := 7) Try.underlying87 Try.sizeOf85 rfl rfl rfl rfl (lb rfl)) (so rfl sn) ?_)
  | (refine st1 rfl (op_field_bx (off := 7) Try.underlying87 Try.sizeOf85 rfl rfl rfl (lb rfl)) (so rfl (sb rfl sn)) ?_)
  | (refine st1 rfl (op_field_ptr (off := 7) Try.underlying87 Try.sizeOf85 rfl rfl rfl (lb rfl)) (so rfl (sb rfl sn)) ?_)
 first
  | (refine st1 rfl (op_load_pts_all Try.isAgg85 Try.sizeOf85 rfl (lb rfl)) (so rfl sn) ?_)
  | (refine st1 rfl (op_load_pts_row Try.isAgg85 Try.sizeOf85 rfl rfl (lb rfl)) (so rfl sn) ?_)
  | (refine st1 rfl (op_load_bx_all Try.isAgg85 Try.sizeOf85 rfl (lb rfl)) (so rfl (sb rfl sn)) ?_)
  | (refine st1 rfl (op_load_bx_row Try.isAgg85 Try.sizeOf85 rfl rfl (lb rfl)) (so rfl (sb rfl sn)) ?_)
  | (refine st1 rfl (op_load_bx_agg Try.isAgg85 Try.sizeOf85 rfl rfl (lb rfl)) (so rfl (sb rfl sn)) ?_)
  | (refine st1 rfl (op_load_ptr_rowN Try.isAgg85 Try.sizeOf85 (by omega) rfl rfl rfl (lb rfl)) (so rfl (sb rfl sn)) ?_)
  | (refine st1 rfl (op_load_ptr_aggN Try.isAgg85 Try.sizeOf85 (by omega) rfl rfl (lb rfl)) (so rfl (sb rfl sn)) ?_)
 refine st1 rfl ((op_call Try.func99 rfl rfl (c_toExpAsk x.if_) (by exact (.cons (by first | exact Shares.row rfl | exact (Shares.aggCons (by first | exact Shares.c rfl) (Shares.aggCons (by first | exact Shares.c rfl) (Shares.aggCons (by first | exact Shares.c rfl) Shares.aggNil)))) .nil)) rfl (by first | exact .inl rfl | exact .inr (sol_cons (rowGAsk.solid _) sol_nil)) rfl (lb rfl))) (sats_opds (.cons rfl .nil) (sats_app (sats_fresh_all (by exact rfl)) (sats_app (sats_needs (by first | exact all_nil | exact all_cons rfl all_nil | exact all_cons rfl (all_cons rfl all_nil) | exact all_cons rfl (all_cons rfl (all_cons rfl all_nil)) | exact all_cons rfl (all_cons rfl (all_cons rfl (all_cons rfl all_nil))))) (sats_lives rfl)))) ?_
 first
  | (refine st1 rfl (op_field_pts (off := 7) Try.underlying90 Try.sizeOf88 rfl rfl rfl rfl (lb rfl)) (so rfl sn) ?_)
  | (refine st1 rfl (op_field_bx (off := 7) Try.underlying90 Try.sizeOf88 rfl rfl rfl (lb rfl)) (so rfl (sb rfl sn)) ?_)
  | (refine st1 rfl (op_field_ptr (off := 7) Try.underlying90 Try.sizeOf88 rfl rfl rfl (lb rfl)) (so rfl (sb rfl sn)) ?_)
 first
  | (refine st1 rfl (op_store_bxS Try.sizeOf88 rfl rfl rfl rfl) (so rfl (so rfl (sb rfl (sats_lives rfl)))) ?_)
  | (refine st1 rfl (op_store_arrS Try.sizeOf88 (by exact row_get (by omega)) rfl (by (repeat' (first | exact Absorb.nil | apply Absorb.nilc | apply Absorb.c rfl | apply Absorb.ref)); all_goals rfl) (by rfl) rfl rfl rfl (by rfl)) (so rfl (so rfl (sb rfl (sats_objs (by first | exact all_nil | exact all_cons rfl all_nil | exact all_cons rfl (all_cons rfl all_nil) | exact all_cons rfl (all_cons rfl (all_cons rfl all_nil)) | exact all_cons rfl (all_cons rfl (all_cons rfl (all_cons rfl all_nil)))) (sats_lives rfl))))) ?_)
 refine rg_nil_seq ?_
 refine kseq_normal ?_
 refine acode_seq ?_
 refine acode_region ?_
 first
  | (refine st1 rfl (op_field_pts (off := 10) Try.underlying87 Try.sizeOf3 rfl rfl rfl rfl (lb rfl)) (so rfl sn) ?_)
  | (refine st1 rfl (op_field_bx (off := 10) Try.underlying87 Try.sizeOf3 rfl rfl rfl (lb rfl)) (so rfl (sb rfl sn)) ?_)
  | (refine st1 rfl (op_field_ptr (off := 10) Try.underlying87 Try.sizeOf3 rfl rfl rfl (lb rfl)) (so rfl (sb rfl sn)) ?_)
 first
  | (refine st1 rfl (op_load_pts Try.isAgg3 rfl (lb rfl)) (so rfl sn) ?_)
  | (refine st1 rfl (op_load_bx Try.isAgg3 rfl (lb rfl)) (so rfl (sb rfl sn)) ?_)
  | (refine st1 rfl (op_load_ptrN Try.isAgg3 (by omega) rfl rfl (lb rfl)) (so rfl (sb rfl sn)) ?_)
  | (refine st1 rfl (op_load_ptr_refN Try.isAgg3 (by omega) rfl (lb rfl)) (so rfl (sb rfl sn)) ?_)
 first
  | (refine st1 rfl (op_field_pts (off := 10) Try.underlying90 Try.sizeOf3 rfl rfl rfl rfl (lb rfl)) (so rfl sn) ?_)
  | (refine st1 rfl (op_field_bx (off := 10) Try.underlying90 Try.sizeOf3 rfl rfl rfl (lb rfl)) (so rfl (sb rfl sn)) ?_)
  | (refine st1 rfl (op_field_ptr (off := 10) Try.underlying90 Try.sizeOf3 rfl rfl rfl (lb rfl)) (so rfl (sb rfl sn)) ?_)
 first
  | (refine st1 rfl (op_store_bxS Try.sizeOf3 rfl rfl rfl rfl) (so rfl (so rfl (sb rfl (sats_lives rfl)))) ?_)
  | (refine st1 rfl (op_store_arrS Try.sizeOf3 (by exact row_get (by omega)) rfl (by (repeat' (first | exact Absorb.nil | apply Absorb.nilc | apply Absorb.c rfl | apply Absorb.ref)); all_goals rfl) (by rfl) rfl rfl rfl (by rfl)) (so rfl (so rfl (sb rfl (sats_objs (by first | exact all_nil | exact all_cons rfl all_nil | exact all_cons rfl (all_cons rfl all_nil) | exact all_cons rfl (all_cons rfl (all_cons rfl all_nil)) | exact all_cons rfl (all_cons rfl (all_cons rfl (all_cons rfl all_nil)))) (sats_lives rfl))))) ?_)
 refine rg_nil_seq ?_
 refine kseq_normal ?_
 refine acode_seq ?_
 refine acode_region ?_
 first
  | (refine st1 rfl (op_load_pts_all Try.isAgg90 Try.sizeOf90 rfl (lb rfl)) (so rfl sn) ?_)
  | (refine st1 rfl (op_load_pts_row Try.isAgg90 Try.sizeOf90 rfl rfl (lb rfl)) (so rfl sn) ?_)
  | (refine st1 rfl (op_load_bx_all Try.isAgg90 Try.sizeOf90 rfl (lb rfl)) (so rfl (sb rfl sn)) ?_)
  | (refine st1 rfl (op_load_bx_row Try.isAgg90 Try.sizeOf90 rfl rfl (lb rfl)) (so rfl (sb rfl sn)) ?_)
  | (refine st1 rfl (op_load_bx_agg Try.isAgg90 Try.sizeOf90 rfl rfl (lb rfl)) (so rfl (sb rfl sn)) ?_)
  | (refine st1 rfl (op_load_ptr_rowN Try.isAgg90 Try.sizeOf90 (by omega) rfl rfl rfl (lb rfl)) (so rfl (sb rfl sn)) ?_)
  | (refine st1 rfl (op_load_ptr_aggN Try.isAgg90 Try.sizeOf90 (by omega) rfl rfl (lb rfl)) (so rfl (sb rfl sn)) ?_)
 first
  | (refine st1 rfl (op_store_bxS Try.sizeOf90 rfl rfl rfl rfl) (so rfl (so rfl (sb rfl (sats_lives rfl)))) ?_)
  | (refine st1 rfl (op_store_arrS Try.sizeOf90 (by exact row_get (by omega)) rfl (by (repeat' (first | exact Absorb.nil | apply Absorb.nilc | apply Absorb.c rfl | apply Absorb.ref)); all_goals rfl) (by rfl) rfl rfl rfl (by rfl)) (so rfl (so rfl (sb rfl (sats_objs (by first | exact all_nil | exact all_cons rfl all_nil | exact all_cons rfl (all_cons rfl all_nil) | exact all_cons rfl (all_cons rfl (all_cons rfl all_nil)) | exact all_cons rfl (all_cons rfl (all_cons rfl (all_cons rfl all_nil)))) (sats_lives rfl))))) ?_)
 refine rg_nil_seq ?_
 refine kseq_normal ?_
 refine acode_ret ?_
 exact fin_retL (res := [.row (GReq.cells true x)]) (.cons (.agg rfl rfl Try.isAgg90 Try.sizeOf90 rfl (by repeat' (first | exact Abs.nil | apply Abs.nilc | apply Abs.c rfl | apply Abs.ref rfl)) (by rfl)) .nil) (by rfl) (by rfl)

theorem c_toEngReqS (l : List GReq) (hl : l.length ≤ 1048576) (hls : ∀ y ∈ l, GReq.lens (· ≤ 1048576) y) : FnP Try.prog 13 [.c (.sl false 11 (l.map (GReq.cells false)))] [.c (.sl true 11 (l.map (GReq.cells true)))] := by
 refine fnp_intro (n := 23) (rvs := [.tmp 2]) Try.func13 rfl rfl rfl (lb rfl) rfl ?_
 refine acode_seq ?_
 refine acode_region ?_
 refine st1 rfl (op_assign (lb rfl)) (so rfl sn) ?_
 refine rg_nil_seq ?_
 refine kseq_normal ?_
 refine acode_seq ?_
 refine acode_region ?_
 refine st1 rfl (op_move (lb rfl)) (so rfl sn) ?_
 first
  | (refine st1 rfl (op_len_sh Try.underlying22 (lb rfl)) (so rfl sn) ?_)
  | (refine st1 rfl (op_len_refN Try.underlying22 (lb rfl)) (so rfl (sb rfl sn)) ?_)
  | (refine st1 rfl (op_len_nil Try.underlying22 (lb rfl)) (so rfl sn) ?_)
  | (refine st1 rfl (op_len Try.underlying22 (lb rfl)) (so rfl sn) ?_)
  | (refine st1 rfl (op_len_ref Try.underlying22 (lb rfl) rfl) (so rfl (sb rfl sn)) ?_)
 refine st1 rfl (op_makeSlice (elem25) (zero25) (zr := (GReq.cells true) GReq.zero) (by repeat' (first | exact Zeros.nil | refine Zeros.sl ?_ | refine Zeros.lit ?_)) (by omega) (by exact makeB (lb rfl) (by omega) (by omega)) (by omega) (lb rfl)) (so rfl (so rfl (sf rfl sn))) ?_
 refine st1 rfl (op_assign (lb rfl)) (so rfl sn) ?_
 refine rg_nil_seq ?_
 refine kseq_normal ?_
 refine acode_seq ?_
 refine acode_seq ?_
 refine acode_region ?_
 refine st1 rfl (op_assign (lb rfl)) (so rfl sn) ?_
 refine rg_nil_seq ?_
 refine kseq_normal ?_
 refine acode_block ?_
 refine acode_loopk (xs := [0]) (ys := []) (S := Nat) (fun s => [(4, aInt (s : Int)), (3, .ref 7 [])]) (fun s => [(7, .arr 11 ((half GReq.zero l s).map (GReq.cells true)))]) (fun s => s ≤ l.length) (fun s => l.length - s) 0 (.cons rfl .nil) .nil ?em ?eo rfl ?ei ?round
 case em => exact .cons rfl (by first | rfl | simp) (.cons rfl (by first | rfl | simp) (.nil))
 case eo => exact .cons rfl (congrArg (Obj.arr 11) (half_make (f := (GReq.cells true)) (z := GReq.zero))) (.nil)
 case ei => exact Nat.zero_le _
 case round =>
  rintro k h2
  refine acode_seq ?_
  refine acode_seq ?_
  refine acode_region ?_
  refine st1 rfl (op_move (lb rfl)) (so rfl sn) ?_
  refine st1 rfl (op_move (lb rfl)) (so rfl sn) ?_
  first
   | (refine st1 rfl (op_len_sh Try.underlying22 (lb rfl)) (so rfl sn) ?_)
   | (refine st1 rfl (op_len_refN Try.underlying22 (lb rfl)) (so rfl (sb rfl sn)) ?_)
   | (refine st1 rfl (op_len_nil Try.underlying22 (lb rfl)) (so rfl sn) ?_)
   | (refine st1 rfl (op_len Try.underlying22 (lb rfl)) (so rfl sn) ?_)
   | (refine st1 rfl (op_len_ref Try.underlying22 (lb rfl) rfl) (so rfl (sb rfl sn)) ?_)
  refine st1 rfl (op_lss (lb rfl)) (so rfl (so rfl sn)) ?_
  refine rg_nil_seq ?_
  refine kseq_normal ?_
  refine acode_cond rfl (fun hc0 => ?_) (fun hc0 => ?_)
  ·
   simp only [decide_eq_true_eq, decide_eq_false_iff_not, Bool.not_eq_true', Bool.not_eq_false', Bool.not_not, Bool.not_true, Bool.not_false] at hc0
   refine acode_skip ?_
   refine kseq_normal ?_
   refine acode_seq ?_
   refine acode_block ?_
   refine acode_region ?_
   refine st1 rfl (op_move (lb rfl)) (so rfl sn) ?_
   refine st1 rfl (op_move (lb rfl)) (so rfl sn) ?_
   refine st1 rfl (op_move (lb rfl)) (so rfl sn) ?_
   refine st1 rfl (op_move (lb rfl)) (so rfl sn) ?_
   first
    | (refine st1 rfl (op_index_shN Try.underlying22 Try.sizeOf87 (lb rfl) (by first | omega | (rw [half_length (by omega)]; omega))) (so rfl (so rfl sn)) ?_)
    | (refine st1 rfl (op_index_refN Try.underlying22 Try.sizeOf87 (lb rfl) (by first | omega | (rw [half_length (by omega)]; omega))) (so rfl (so rfl (sb rfl sn))) ?_)
   first
    | (refine st1 rfl (op_load_pts_all Try.isAgg87 Try.sizeOf87 rfl (lb rfl)) (so rfl sn) ?_)
    | (refine st1 rfl (op_load_pts_row Try.isAgg87 Try.sizeOf87 rfl rfl (lb rfl)) (so rfl sn) ?_)
    | (refine st1 rfl (op_load_bx_all Try.isAgg87 Try.sizeOf87 rfl (lb rfl)) (so rfl (sb rfl sn)) ?_)
    | (refine st1 rfl (op_load_bx_row Try.isAgg87 Try.sizeOf87 rfl rfl (lb rfl)) (so rfl (sb rfl sn)) ?_)
    | (refine st1 rfl (op_load_bx_agg Try.isAgg87 Try.sizeOf87 rfl rfl (lb rfl)) (so rfl (sb rfl sn)) ?_)
    | (refine st1 rfl (op_load_ptr_rowN Try.isAgg87 Try.sizeOf87 (by omega) rfl rfl rfl (lb rfl)) (so rfl (sb rfl sn)) ?_)
    | (refine st1 rfl (op_load_ptr_aggN Try.isAgg87 Try.sizeOf87 (by omega) rfl rfl (lb rfl)) (so rfl (sb rfl sn)) ?_)
   refine st1 rfl ((op_call Try.func49 rfl rfl (c_toEngReq (l[k]'(by omega)) (hls _ (List.getElem_mem _))) (by exact (.cons (by first | exact Shares.row rfl | exact (Shares.aggCons (by first | exact Shares.c rfl) (Shares.aggCons (by first | exact Shares.c rfl) (Shares.aggCons (by first | exact Shares.c rfl) (Shares.aggCons (by first | exact Shares.c rfl) (Shares.aggCons (by first | exact Shares.c rfl) (Shares.aggCons (by first | exact Shares.c rfl) (Shares.aggCons (by first | exact Shares.c rfl | exact Shares.nilc | exact Shares.ref rfl (rowI.rnobox true _) (rowI.rshare true _)) (Shares.aggCons (by first | exact Shares.c rfl) (Shares.aggCons (by first | exact Shares.c rfl) (Shares.aggCons (by first | exact Shares.c rfl) (Shares.aggCons (by first | exact Shares.c rfl) Shares.aggNil)))))))))))) .nil)) rfl (by first | exact .inl rfl | exact .inr (sol_cons (rowGReq.solid _) sol_nil)) rfl (lb rfl))) (sats_opds (.cons rfl .nil) (sats_app (sats_fresh_all (by exact rfl)) (sats_app (sats_needs (by first | exact all_nil | exact all_cons rfl all_nil | exact all_cons rfl (all_cons rfl all_nil) | exact all_cons rfl (all_cons rfl (all_cons rfl all_nil)) | exact all_cons rfl (all_cons rfl (all_cons rfl (all_cons rfl all_nil))))) (sats_lives rfl)))) ?_
   first
    | (refine st1 rfl (op_index_shN Try.underlying25 Try.sizeOf90 (lb rfl) (by first | omega | (rw [half_length (by omega)]; omega))) (so rfl (so rfl sn)) ?_)
    | (refine st1 rfl (op_index_refN Try.underlying25 Try.sizeOf90 (lb rfl) (by first | omega | (rw [half_length (by omega)]; omega))) (so rfl (so rfl (sb rfl sn))) ?_)
   first
    | (refine st1 rfl (op_store_bxS Try.sizeOf90 rfl rfl rfl rfl) (so rfl (so rfl (sb rfl (sats_lives rfl)))) ?_)
    | (refine st1 rfl (op_store_arrS (cs := GReq.cells true (l[k]'(by omega))) Try.sizeOf90 (by exact row_get (by first | omega | (rw [half_length (by omega)]; omega))) rfl (by (repeat' (first | exact Absorb.nil | apply Absorb.nilc | apply Absorb.c rfl | apply Absorb.ref)); all_goals rfl) (by rfl) rfl rfl rfl (by rfl)) (so rfl (so rfl (sb rfl (sats_objs (by first | exact all_nil | exact all_cons rfl all_nil | exact all_cons rfl (all_cons rfl all_nil) | exact all_cons rfl (all_cons rfl (all_cons rfl all_nil)) | exact all_cons rfl (all_cons rfl (all_cons rfl (all_cons rfl all_nil)))) (sats_lives rfl))))) ?_)
   refine rg_nil_seq ?_
   refine kblk_normal (kseq_normal ?_)
   refine acode_region ?_
   refine st1 rfl (op_move (lb rfl)) (so rfl sn) ?_
   refine st1 rfl (op_add (lb rfl) (by omega)) (so rfl (so rfl sn)) ?_
   refine st1 rfl (op_assign (lb rfl)) (so rfl sn) ?_
   refine rg_nil_seq ?_
   refine klg_back (k + 1) ?bi ?bm ?bl
   case bi => omega
   case bm => omega
   case bl => exact le_stU idn (.cons rfl (by first | rfl | simp) (.cons rfl (by first | rfl | simp) (.cons rfl (by first | rfl | simp) (.nil)))) (.cons rfl (congrArg (Obj.arr 11) (half_store (by omega) rfl)) (.inl rfl) (.nil)) rfl
  ·
   simp only [decide_eq_true_eq, decide_eq_false_iff_not, Bool.not_eq_true', Bool.not_eq_false', Bool.not_not, Bool.not_true, Bool.not_false] at hc0
   refine acode_exit ?_
   refine kseq_exit (klg_exit (kblk_hit (kseq_normal ?_)))
   refine acode_seq ?_
   refine acode_region ?_
   refine st1 rfl (op_move (lb rfl)) (so rfl sn) ?_
   refine st1 rfl (op_assign (lb rfl)) (so rfl sn) ?_
   refine rg_nil_seq ?_
   refine kseq_normal ?_
   refine acode_ret ?_
   exact fin_retL (res := [.c (.sl true 11 ((half GReq.zero l k).map (GReq.cells true)))]) (.cons (by first | exact .c rfl | exact .ref rfl rfl | exact .nilc rfl) .nil) (by rfl) (by rw [half_end (by omega)] <;> rfl)
end Go.Am
