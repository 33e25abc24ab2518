/- The laws' own functions over data: copies made. The step scripts are printed by gen.py. Own work. -/
import Derived.Test.YtcbpckbehdaloaaAmYm
import Derived.Test.YtcbpckbehdaloaaAmS
import Derived.Test.YtcbpckbehdaloaaAmV
set_option linter.unusedSimpArgs false
set_option linter.unusedVariables false
set_option maxRecDepth 100000
namespace Go.Am
open Go Go.Proofs

theorem c_toIntS (l : List Int) (hl : l.length ≤ 1048576) : FnP Try.prog 63 [.c (cIs false l)] [.c (cIs true l)] := by
 refine fnp_intro (n := 22) (rvs := [.tmp 2]) Try.func63 rfl rfl rfl (lb rfl) rfl ?_
 refine sr ?_
 refine as_ (lb rfl) rfl ?_
 refine nk ?_
 refine sr ?_
 refine mv (lb rfl) rfl ?_
 refine st1 rfl (op_len_sh Try.underlying34 (lb rfl)) (so rfl sn) ?_
 refine st1 rfl (op_makeSlice (elem34) (zero34) (zr := [cI 0]) (by repeat' (first | exact Zeros.nil | refine Zeros.sl ?_ | refine Zeros.lit ?_)) (by omega) (by exact makeB (lb rfl) (by omega) (by omega)) (by omega) (lb rfl)) (so rfl (so rfl (sf rfl sn))) ?_
 refine as_ (lb rfl) rfl ?_
 refine nk ?_
 refine acode_seq ?_
 refine sr ?_
 refine as_ (lb rfl) rfl ?_
 refine nk ?_
 refine acode_block ?_
 refine acode_loopk (xs := [0]) (ys := []) (S := Nat) (fun s => [(4, aInt (s : Int)), (3, .ref 7 [])]) (fun s => [(7, .arr 1 ((half (0 : Int) l s).map (fun n => [cI n])))]) (fun s => s ≤ l.length) (fun s => l.length - s) 0 (.cons rfl .nil) .nil ?em ?eo rfl ?ei ?round
 case em => exact .cons rfl (by first | rfl | simp) (.cons rfl (by first | rfl | simp) (.nil))
 case eo => exact .cons rfl (congrArg (Obj.arr 1) (half_make (f := (fun n => [cI n])) (z := (0 : Int)))) (.nil)
 case ei => exact Nat.zero_le _
 case round =>
  rintro k h2
  refine acode_seq ?_
  refine sr ?_
  refine mv (lb rfl) rfl ?_
  refine mv (lb rfl) rfl ?_
  refine st1 rfl (op_len_sh Try.underlying34 (lb rfl)) (so rfl sn) ?_
  refine st1 rfl (op_lss (lb rfl)) (so rfl (so rfl sn)) ?_
  refine nk ?_
  refine acode_cond rfl (fun hc0 => ?_) (fun hc0 => ?_)
  ·
   simp only [dq] at hc0
   refine pk ?_
   refine acode_seq ?_
   refine acode_block ?_
   refine acode_region ?_
   refine mv (lb rfl) rfl ?_
   refine mv (lb rfl) rfl ?_
   refine mv (lb rfl) rfl ?_
   refine mv (lb rfl) rfl ?_
   refine st1 rfl (op_index_shN Try.underlying34 Try.sizeOf3 (lb rfl) (by first | omega | (rw [half_length (by omega)]; omega))) (so rfl (so rfl sn)) ?_
   refine st1 rfl (op_load_pts Try.isAgg3 rfl (lb rfl)) (so rfl sn) ?_
   refine st1 rfl (op_index_refN Try.underlying34 Try.sizeOf3 (lb rfl) (by first | omega | (rw [half_length (by omega)]; omega))) (so rfl (so rfl (sb rfl sn))) ?_
   refine st1 rfl (op_store_arrS Try.sizeOf3 (by exact row_get (by first | omega | (rw [half_length (by omega)]; omega))) rfl (by (repeat' (first | exact Absorb.nil | apply Absorb.nilc | apply Absorb.c rfl | apply Absorb.ref)); all_goals rfl) (by rfl) rfl rfl rfl (by rfl)) (so rfl (so rfl (sb rfl (sats_objs (by first | exact all_nil | exact all_cons rfl all_nil | exact all_cons rfl (all_cons rfl all_nil) | exact all_cons rfl (all_cons rfl (all_cons rfl all_nil)) | exact all_cons rfl (all_cons rfl (all_cons rfl (all_cons rfl all_nil)))) (sats_lives rfl))))) ?_
   refine rg_nil_seq ?_
   refine kblk_normal (kseq_normal ?_)
   refine acode_region ?_
   refine mv (lb rfl) rfl ?_
   refine st1 rfl (op_add (lb rfl) (by omega)) (so rfl (so rfl sn)) ?_
   refine as_ (lb rfl) rfl ?_
   refine rg_nil_seq ?_
   refine klg_back (k + 1) ?bi ?bm ?bl
   case bi => omega
   case bm => omega
   case bl => exact le_stU idn (.cons rfl (by first | rfl | simp) (.cons rfl (by first | rfl | simp) (.cons rfl (by first | rfl | simp) (.nil)))) (.cons rfl (congrArg (Obj.arr 1) (half_store (by omega) rfl)) (.inl rfl) (.nil)) rfl
  ·
   simp only [dq] at hc0
   refine acode_exit ?_
   refine kseq_exit (klg_exit (kblk_hit (kseq_normal ?_)))
   refine sr ?_
   refine mv (lb rfl) rfl ?_
   refine as_ (lb rfl) rfl ?_
   refine nkt ?_
   exact fin_retL (res := [.c (.sl true 1 ((half (0 : Int) l k).map (fun n => [cI n])))]) (.cons (by first | exact .c rfl | exact .ref rfl rfl | exact .nilc rfl) .nil) (by rfl) (by rw [half_end (by omega)] <;> rfl)

theorem c_toExpAsk (x : GAsk) : FnP Try.prog 99 [.row (GAsk.cells false x)] [.row (GAsk.cells true x)] := by
 refine fnp_intro (n := 14) (rvs := [.cell 2 88]) Try.func99 rfl rfl rfl (lb rfl) rfl ?_
 refine sr ?_
 refine st1 rfl (op_box rfl (lb rfl)) (so rfl (sf rfl (sats_lives rfl))) ?_
 refine st1 rfl (op_alloc Try.zeroValue88 rfl (lb rfl)) (sf rfl sn) ?_
 refine nk ?_
 refine sr ?_
 refine st1 rfl (op_alloc Try.zeroValue88 rfl (lb rfl)) (sf rfl sn) ?_
 refine nk ?_
 refine sr ?_
 refine fdb (off := 0) Try.underlying85 Try.sizeOf3 rfl rfl rfl (lb rfl) rfl rfl ?_
 refine ldb Try.isAgg3 rfl (lb rfl) rfl rfl ?_
 refine fdb (off := 0) Try.underlying88 Try.sizeOf3 rfl rfl rfl (lb rfl) rfl rfl ?_
 refine st1 rfl (op_store_bxS Try.sizeOf3 rfl rfl rfl rfl) (so rfl (so rfl (sb rfl (sats_lives rfl)))) ?_
 refine nk ?_
 refine sr ?_
 refine fdb (off := 1) Try.underlying85 Try.sizeOf3 rfl rfl rfl (lb rfl) rfl rfl ?_
 refine ldb Try.isAgg3 rfl (lb rfl) rfl rfl ?_
 refine fdb (off := 1) Try.underlying88 Try.sizeOf3 rfl rfl rfl (lb rfl) rfl rfl ?_
 refine st1 rfl (op_store_bxS Try.sizeOf3 rfl rfl rfl rfl) (so rfl (so rfl (sb rfl (sats_lives rfl)))) ?_
 refine nk ?_
 refine sr ?_
 refine fdb (off := 2) Try.underlying85 Try.sizeOf3 rfl rfl rfl (lb rfl) rfl rfl ?_
 refine ldb Try.isAgg3 rfl (lb rfl) rfl rfl ?_
 refine fdb (off := 2) Try.underlying88 Try.sizeOf3 rfl rfl rfl (lb rfl) rfl rfl ?_
 refine st1 rfl (op_store_bxS Try.sizeOf3 rfl rfl rfl rfl) (so rfl (so rfl (sb rfl (sats_lives rfl)))) ?_
 refine nk ?_
 refine sr ?_
 refine st1 rfl (op_load_bx_agg Try.isAgg88 Try.sizeOf88 rfl rfl (lb rfl)) (so rfl (sb rfl sn)) ?_
 refine st1 rfl (op_store_bxS Try.sizeOf88 rfl rfl rfl rfl) (so rfl (so rfl (sb rfl (sats_lives rfl)))) ?_
 refine nkt ?_
 exact fin_retL (res := [.row (GAsk.cells true x)]) (.cons (.agg rfl rfl Try.isAgg88 Try.sizeOf88 rfl (by repeat' (first | exact Abs.nil | apply Abs.nilc | apply Abs.c rfl | apply Abs.ref rfl)) (by rfl)) .nil) (by rfl) (by rfl)

theorem c_toNetFlow (x : GFlow) : FnP Try.prog 146 [.row (GFlow.cells false x)] [.row (GFlow.cells true x)] := by
 refine fnp_intro (n := 12) (rvs := [.cell 2 181]) Try.func146 rfl rfl rfl (lb rfl) rfl ?_
 refine sr ?_
 refine st1 rfl (op_box rfl (lb rfl)) (so rfl (sf rfl (sats_lives rfl))) ?_
 refine st1 rfl (op_alloc Try.zeroValue181 rfl (lb rfl)) (sf rfl sn) ?_
 refine nk ?_
 refine sr ?_
 refine st1 rfl (op_alloc Try.zeroValue181 rfl (lb rfl)) (sf rfl sn) ?_
 refine nk ?_
 refine sr ?_
 refine fdb (off := 0) Try.underlying186 Try.sizeOf3 rfl rfl rfl (lb rfl) rfl rfl ?_
 refine ldb Try.isAgg3 rfl (lb rfl) rfl rfl ?_
 refine fdb (off := 0) Try.underlying181 Try.sizeOf3 rfl rfl rfl (lb rfl) rfl rfl ?_
 refine st1 rfl (op_store_bxS Try.sizeOf3 rfl rfl rfl rfl) (so rfl (so rfl (sb rfl (sats_lives rfl)))) ?_
 refine nk ?_
 refine sr ?_
 refine fdb (off := 1) Try.underlying186 Try.sizeOf85 rfl rfl rfl (lb rfl) rfl rfl ?_
 refine st1 rfl (op_load_bx_row Try.isAgg85 Try.sizeOf85 rfl rfl (lb rfl)) (so rfl (sb rfl sn)) ?_
 refine st1 rfl ((op_call Try.func99 rfl rfl (c_toExpAsk x.if_) (by exact (.cons (by first | exact Shares.row rfl | exact (Shares.aggCons (by first | exact Shares.c rfl) (Shares.aggCons (by first | exact Shares.c rfl) (Shares.aggCons (by first | exact Shares.c rfl) Shares.aggNil)))) .nil)) rfl (by first | exact .inl rfl | exact .inr (sol_cons (rowGAsk.solid _) sol_nil)) rfl (lb rfl))) (sats_opds (.cons rfl .nil) (sats_app (sats_fresh_all (by exact rfl)) (sats_app (sats_needs (by first | exact all_nil | exact all_cons rfl all_nil | exact all_cons rfl (all_cons rfl all_nil) | exact all_cons rfl (all_cons rfl (all_cons rfl all_nil)) | exact all_cons rfl (all_cons rfl (all_cons rfl (all_cons rfl all_nil))))) (sats_lives rfl)))) ?_
 refine fdb (off := 1) Try.underlying181 Try.sizeOf88 rfl rfl rfl (lb rfl) rfl rfl ?_
 refine st1 rfl (op_store_bxS Try.sizeOf88 rfl rfl rfl rfl) (so rfl (so rfl (sb rfl (sats_lives rfl)))) ?_
 refine nk ?_
 refine sr ?_
 refine st1 rfl (op_load_bx_agg Try.isAgg181 Try.sizeOf181 rfl rfl (lb rfl)) (so rfl (sb rfl sn)) ?_
 refine st1 rfl (op_store_bxS Try.sizeOf181 rfl rfl rfl rfl) (so rfl (so rfl (sb rfl (sats_lives rfl)))) ?_
 refine nkt ?_
 exact fin_retL (res := [.row (GFlow.cells true x)]) (.cons (.agg rfl rfl Try.isAgg181 Try.sizeOf181 rfl (by repeat' (first | exact Abs.nil | apply Abs.nilc | apply Abs.c rfl | apply Abs.ref rfl)) (by rfl)) .nil) (by rfl) (by rfl)

theorem c_toNetFlowS (l : List GFlow) (hl : l.length ≤ 1048576) : FnP Try.prog 139 [.c (.sl false 4 (l.map (GFlow.cells false)))] [.c (.sl true 4 (l.map (GFlow.cells true)))] := by
 refine fnp_intro (n := 23) (rvs := [.tmp 2]) Try.func139 rfl rfl rfl (lb rfl) rfl ?_
 refine sr ?_
 refine as_ (lb rfl) rfl ?_
 refine nk ?_
 refine sr ?_
 refine mv (lb rfl) rfl ?_
 refine st1 rfl (op_len_sh Try.underlying158 (lb rfl)) (so rfl sn) ?_
 refine st1 rfl (op_makeSlice (elem117) (zero117) (zr := (GFlow.cells true) GFlow.zero) (by repeat' (first | exact Zeros.nil | refine Zeros.sl ?_ | refine Zeros.lit ?_)) (by omega) (by exact makeB (lb rfl) (by omega) (by omega)) (by omega) (lb rfl)) (so rfl (so rfl (sf rfl sn))) ?_
 refine as_ (lb rfl) rfl ?_
 refine nk ?_
 refine acode_seq ?_
 refine sr ?_
 refine as_ (lb rfl) rfl ?_
 refine nk ?_
 refine acode_block ?_
 refine acode_loopk (xs := [0]) (ys := []) (S := Nat) (fun s => [(4, aInt (s : Int)), (3, .ref 7 [])]) (fun s => [(7, .arr 4 ((half GFlow.zero l s).map (GFlow.cells true)))]) (fun s => s ≤ l.length) (fun s => l.length - s) 0 (.cons rfl .nil) .nil ?em ?eo rfl ?ei ?round
 case em => exact .cons rfl (by first | rfl | simp) (.cons rfl (by first | rfl | simp) (.nil))
 case eo => exact .cons rfl (congrArg (Obj.arr 4) (half_make (f := (GFlow.cells true)) (z := GFlow.zero))) (.nil)
 case ei => exact Nat.zero_le _
 case round =>
  rintro k h2
  refine acode_seq ?_
  refine sr ?_
  refine mv (lb rfl) rfl ?_
  refine mv (lb rfl) rfl ?_
  refine st1 rfl (op_len_sh Try.underlying158 (lb rfl)) (so rfl sn) ?_
  refine st1 rfl (op_lss (lb rfl)) (so rfl (so rfl sn)) ?_
  refine nk ?_
  refine acode_cond rfl (fun hc0 => ?_) (fun hc0 => ?_)
  ·
   simp only [dq] at hc0
   refine pk ?_
   refine acode_seq ?_
   refine acode_block ?_
   refine acode_region ?_
   refine mv (lb rfl) rfl ?_
   refine mv (lb rfl) rfl ?_
   refine mv (lb rfl) rfl ?_
   refine mv (lb rfl) rfl ?_
   refine st1 rfl (op_index_shN Try.underlying158 Try.sizeOf186 (lb rfl) (by first | omega | (rw [half_length (by omega)]; omega))) (so rfl (so rfl sn)) ?_
   refine st1 rfl (op_load_pts_all Try.isAgg186 Try.sizeOf186 rfl (lb rfl)) (so rfl sn) ?_
   refine st1 rfl ((op_call Try.func146 rfl rfl (c_toNetFlow (l[k]'(by omega))) (by exact (.cons (by first | exact Shares.row rfl | exact (Shares.aggCons (by first | exact Shares.c rfl) (Shares.aggCons (by first | exact Shares.c rfl) (Shares.aggCons (by first | exact Shares.c rfl) (Shares.aggCons (by first | exact Shares.c rfl) Shares.aggNil))))) .nil)) rfl (by first | exact .inl rfl | exact .inr (sol_cons (rowGFlow.solid _) sol_nil)) rfl (lb rfl))) (sats_opds (.cons rfl .nil) (sats_app (sats_fresh_all (by exact rfl)) (sats_app (sats_needs (by first | exact all_nil | exact all_cons rfl all_nil | exact all_cons rfl (all_cons rfl all_nil) | exact all_cons rfl (all_cons rfl (all_cons rfl all_nil)) | exact all_cons rfl (all_cons rfl (all_cons rfl (all_cons rfl all_nil))))) (sats_lives rfl)))) ?_
   refine st1 rfl (op_index_refN Try.underlying117 Try.sizeOf181 (lb rfl) (by first | omega | (rw [half_length (by omega)]; omega))) (so rfl (so rfl (sb rfl sn))) ?_
   refine st1 rfl (op_store_arrS (cs := GFlow.cells true (l[k]'(by omega))) Try.sizeOf181 (by exact row_get (by first | omega | (rw [half_length (by omega)]; omega))) rfl (by (repeat' (first | exact Absorb.nil | apply Absorb.nilc | apply Absorb.c rfl | apply Absorb.ref)); all_goals rfl) (by rfl) rfl rfl rfl (by rfl)) (so rfl (so rfl (sb rfl (sats_objs (by first | exact all_nil | exact all_cons rfl all_nil | exact all_cons rfl (all_cons rfl all_nil) | exact all_cons rfl (all_cons rfl (all_cons rfl all_nil)) | exact all_cons rfl (all_cons rfl (all_cons rfl (all_cons rfl all_nil)))) (sats_lives rfl))))) ?_
   refine rg_nil_seq ?_
   refine kblk_normal (kseq_normal ?_)
   refine acode_region ?_
   refine mv (lb rfl) rfl ?_
   refine st1 rfl (op_add (lb rfl) (by omega)) (so rfl (so rfl sn)) ?_
   refine as_ (lb rfl) rfl ?_
   refine rg_nil_seq ?_
   refine klg_back (k + 1) ?bi ?bm ?bl
   case bi => omega
   case bm => omega
   case bl => exact le_stU idn (.cons rfl (by first | rfl | simp) (.cons rfl (by first | rfl | simp) (.cons rfl (by first | rfl | simp) (.nil)))) (.cons rfl (congrArg (Obj.arr 4) (half_store (by omega) rfl)) (.inl rfl) (.nil)) rfl
  ·
   simp only [dq] at hc0
   refine acode_exit ?_
   refine kseq_exit (klg_exit (kblk_hit (kseq_normal ?_)))
   refine sr ?_
   refine mv (lb rfl) rfl ?_
   refine as_ (lb rfl) rfl ?_
   refine nkt ?_
   exact fin_retL (res := [.c (.sl true 4 ((half GFlow.zero l k).map (GFlow.cells true)))]) (.cons (by first | exact .c rfl | exact .ref rfl rfl | exact .nilc rfl) .nil) (by rfl) (by rw [half_end (by omega)] <;> rfl)

theorem c_toNetTask (x : GTask) (hx : GTask.lens (· ≤ 1048576) x) : FnP Try.prog 120 [.row (GTask.cells false x)] [.row (GTask.cells true x)] := by
 refine fnp_intro (n := 35) (rvs := [.cell 2 119]) Try.func120 rfl rfl rfl (lb rfl) rfl ?_
 refine sr ?_
 refine st1 rfl (op_box rfl (lb rfl)) (so rfl (sf rfl (sats_lives rfl))) ?_
 refine st1 rfl (op_alloc Try.zeroValue119 rfl (lb rfl)) (sf rfl sn) ?_
 refine nk ?_
 refine sr ?_
 refine st1 rfl (op_alloc Try.zeroValue119 rfl (lb rfl)) (sf rfl sn) ?_
 refine nk ?_
 refine sr ?_
 refine fdb (off := 0) Try.underlying160 Try.sizeOf3 rfl rfl rfl (lb rfl) rfl rfl ?_
 refine ldb Try.isAgg3 rfl (lb rfl) rfl rfl ?_
 refine fdb (off := 0) Try.underlying119 Try.sizeOf3 rfl rfl rfl (lb rfl) rfl rfl ?_
 refine st1 rfl (op_store_bxS Try.sizeOf3 rfl rfl rfl rfl) (so rfl (so rfl (sb rfl (sats_lives rfl)))) ?_
 refine nk ?_
 refine sr ?_
 refine fdb (off := 1) Try.underlying160 Try.sizeOf3 rfl rfl rfl (lb rfl) rfl rfl ?_
 refine ldb Try.isAgg3 rfl (lb rfl) rfl rfl ?_
 refine fdb (off := 1) Try.underlying119 Try.sizeOf3 rfl rfl rfl (lb rfl) rfl rfl ?_
 refine st1 rfl (op_store_bxS Try.sizeOf3 rfl rfl rfl rfl) (so rfl (so rfl (sb rfl (sats_lives rfl)))) ?_
 refine nk ?_
 refine sr ?_
 refine fdb (off := 2) Try.underlying160 Try.sizeOf34 rfl rfl rfl (lb rfl) rfl rfl ?_
 refine ldb Try.isAgg34 rfl (lb rfl) rfl rfl ?_
 refine st1 rfl ((op_call Try.func63 rfl rfl (c_toIntS x.in_ hx.1) (by exact (.cons (by first | exact Shares.c rfl | exact Shares.nilc | exact Shares.ref rfl (rowI.rnobox _ _) (rowI.rshare _ _)) .nil)) rfl (by first | exact .inl rfl | exact .inr (sol_cons (sl_solid rowI _) sol_nil)) rfl (lb rfl))) (sats_opds (.cons rfl .nil) (sats_app (sats_fresh_all (by exact rfl)) (sats_app (sats_needs (by first | exact all_nil | exact all_cons rfl all_nil | exact all_cons rfl (all_cons rfl all_nil) | exact all_cons rfl (all_cons rfl (all_cons rfl all_nil)) | exact all_cons rfl (all_cons rfl (all_cons rfl (all_cons rfl all_nil))))) (sats_lives rfl)))) ?_
 refine fdb (off := 2) Try.underlying119 Try.sizeOf34 rfl rfl rfl (lb rfl) rfl rfl ?_
 refine st1 rfl (op_store_bxS Try.sizeOf34 rfl rfl rfl rfl) (so rfl (so rfl (sb rfl (sats_lives rfl)))) ?_
 refine nk ?_
 refine sr ?_
 refine fdb (off := 3) Try.underlying160 Try.sizeOf158 rfl rfl rfl (lb rfl) rfl rfl ?_
 refine ldb Try.isAgg158 rfl (lb rfl) rfl rfl ?_
 refine st1 rfl ((op_call Try.func139 rfl rfl (c_toNetFlowS x.out hx.2.1) (by exact (.cons (by first | exact Shares.c rfl | exact Shares.nilc | exact Shares.ref rfl (rowGFlow.rnobox _ _) (rowGFlow.rshare _ _)) .nil)) rfl (by first | exact .inl rfl | exact .inr (sol_cons (sl_solid rowGFlow _) sol_nil)) rfl (lb rfl))) (sats_opds (.cons rfl .nil) (sats_app (sats_fresh_all (by exact rfl)) (sats_app (sats_needs (by first | exact all_nil | exact all_cons rfl all_nil | exact all_cons rfl (all_cons rfl all_nil) | exact all_cons rfl (all_cons rfl (all_cons rfl all_nil)) | exact all_cons rfl (all_cons rfl (all_cons rfl (all_cons rfl all_nil))))) (sats_lives rfl)))) ?_
 refine fdb (off := 3) Try.underlying119 Try.sizeOf117 rfl rfl rfl (lb rfl) rfl rfl ?_
 refine st1 rfl (op_store_bxS Try.sizeOf117 rfl rfl rfl rfl) (so rfl (so rfl (sb rfl (sats_lives rfl)))) ?_
 refine nk ?_
 refine sr ?_
 refine fdb (off := 4) Try.underlying160 Try.sizeOf34 rfl rfl rfl (lb rfl) rfl rfl ?_
 refine ldb Try.isAgg34 rfl (lb rfl) rfl rfl ?_
 refine st1 rfl ((op_call Try.func63 rfl rfl (c_toIntS x.clear hx.2.2) (by exact (.cons (by first | exact Shares.c rfl | exact Shares.nilc | exact Shares.ref rfl (rowI.rnobox _ _) (rowI.rshare _ _)) .nil)) rfl (by first | exact .inl rfl | exact .inr (sol_cons (sl_solid rowI _) sol_nil)) rfl (lb rfl))) (sats_opds (.cons rfl .nil) (sats_app (sats_fresh_all (by exact rfl)) (sats_app (sats_needs (by first | exact all_nil | exact all_cons rfl all_nil | exact all_cons rfl (all_cons rfl all_nil) | exact all_cons rfl (all_cons rfl (all_cons rfl all_nil)) | exact all_cons rfl (all_cons rfl (all_cons rfl (all_cons rfl all_nil))))) (sats_lives rfl)))) ?_
 refine fdb (off := 4) Try.underlying119 Try.sizeOf34 rfl rfl rfl (lb rfl) rfl rfl ?_
 refine st1 rfl (op_store_bxS Try.sizeOf34 rfl rfl rfl rfl) (so rfl (so rfl (sb rfl (sats_lives rfl)))) ?_
 refine nk ?_
 refine sr ?_
 refine fdb (off := 5) Try.underlying160 Try.sizeOf3 rfl rfl rfl (lb rfl) rfl rfl ?_
 refine ldb Try.isAgg3 rfl (lb rfl) rfl rfl ?_
 refine fdb (off := 5) Try.underlying119 Try.sizeOf3 rfl rfl rfl (lb rfl) rfl rfl ?_
 refine st1 rfl (op_store_bxS Try.sizeOf3 rfl rfl rfl rfl) (so rfl (so rfl (sb rfl (sats_lives rfl)))) ?_
 refine nk ?_
 refine sr ?_
 refine fdb (off := 6) Try.underlying160 Try.sizeOf3 rfl rfl rfl (lb rfl) rfl rfl ?_
 refine ldb Try.isAgg3 rfl (lb rfl) rfl rfl ?_
 refine fdb (off := 6) Try.underlying119 Try.sizeOf3 rfl rfl rfl (lb rfl) rfl rfl ?_
 refine st1 rfl (op_store_bxS Try.sizeOf3 rfl rfl rfl rfl) (so rfl (so rfl (sb rfl (sats_lives rfl)))) ?_
 refine nk ?_
 refine sr ?_
 refine fdb (off := 7) Try.underlying160 Try.sizeOf3 rfl rfl rfl (lb rfl) rfl rfl ?_
 refine ldb Try.isAgg3 rfl (lb rfl) rfl rfl ?_
 refine fdb (off := 7) Try.underlying119 Try.sizeOf3 rfl rfl rfl (lb rfl) rfl rfl ?_
 refine st1 rfl (op_store_bxS Try.sizeOf3 rfl rfl rfl rfl) (so rfl (so rfl (sb rfl (sats_lives rfl)))) ?_
 refine nk ?_
 refine sr ?_
 refine fdb (off := 8) Try.underlying160 Try.sizeOf3 rfl rfl rfl (lb rfl) rfl rfl ?_
 refine ldb Try.isAgg3 rfl (lb rfl) rfl rfl ?_
 refine fdb (off := 8) Try.underlying119 Try.sizeOf3 rfl rfl rfl (lb rfl) rfl rfl ?_
 refine st1 rfl (op_store_bxS Try.sizeOf3 rfl rfl rfl rfl) (so rfl (so rfl (sb rfl (sats_lives rfl)))) ?_
 refine nk ?_
 refine sr ?_
 refine st1 rfl (op_load_bx_agg Try.isAgg119 Try.sizeOf119 rfl rfl (lb rfl)) (so rfl (sb rfl sn)) ?_
 refine st1 rfl (op_store_bxS Try.sizeOf119 rfl rfl rfl rfl) (so rfl (so rfl (sb rfl (sats_lives rfl)))) ?_
 refine nkt ?_
 exact fin_retL (res := [.row (GTask.cells true x)]) (.cons (.agg rfl rfl Try.isAgg119 Try.sizeOf119 rfl (by repeat' (first | exact Abs.nil | apply Abs.nilc | apply Abs.c rfl | apply Abs.ref rfl)) (by rfl)) .nil) (by rfl) (by rfl)

theorem c_toNetTaskS (l : List GTask) (hl : l.length ≤ 1048576) (hls : ∀ y ∈ l, GTask.lens (· ≤ 1048576) y) : FnP Try.prog 76 [.c (.sl false 9 (l.map (GTask.cells false)))] [.c (.sl true 9 (l.map (GTask.cells true)))] := by
 refine fnp_intro (n := 23) (rvs := [.tmp 2]) Try.func76 rfl rfl rfl (lb rfl) rfl ?_
 refine sr ?_
 refine as_ (lb rfl) rfl ?_
 refine nk ?_
 refine sr ?_
 refine mv (lb rfl) rfl ?_
 refine st1 rfl (op_len_sh Try.underlying52 (lb rfl)) (so rfl sn) ?_
 refine st1 rfl (op_makeSlice (elem63) (zero63) (zr := (GTask.cells true) GTask.zero) (by repeat' (first | exact Zeros.nil | refine Zeros.sl ?_ | refine Zeros.lit ?_)) (by omega) (by exact makeB (lb rfl) (by omega) (by omega)) (by omega) (lb rfl)) (so rfl (so rfl (sf rfl sn))) ?_
 refine as_ (lb rfl) rfl ?_
 refine nk ?_
 refine acode_seq ?_
 refine sr ?_
 refine as_ (lb rfl) rfl ?_
 refine nk ?_
 refine acode_block ?_
 refine acode_loopk (xs := [0]) (ys := []) (S := Nat) (fun s => [(4, aInt (s : Int)), (3, .ref 7 [])]) (fun s => [(7, .arr 9 ((half GTask.zero l s).map (GTask.cells true)))]) (fun s => s ≤ l.length) (fun s => l.length - s) 0 (.cons rfl .nil) .nil ?em ?eo rfl ?ei ?round
 case em => exact .cons rfl (by first | rfl | simp) (.cons rfl (by first | rfl | simp) (.nil))
 case eo => exact .cons rfl (congrArg (Obj.arr 9) (half_make (f := (GTask.cells true)) (z := GTask.zero))) (.nil)
 case ei => exact Nat.zero_le _
 case round =>
  rintro k h2
  refine acode_seq ?_
  refine sr ?_
  refine mv (lb rfl) rfl ?_
  refine mv (lb rfl) rfl ?_
  refine st1 rfl (op_len_sh Try.underlying52 (lb rfl)) (so rfl sn) ?_
  refine st1 rfl (op_lss (lb rfl)) (so rfl (so rfl sn)) ?_
  refine nk ?_
  refine acode_cond rfl (fun hc0 => ?_) (fun hc0 => ?_)
  ·
   simp only [dq] at hc0
   refine pk ?_
   refine acode_seq ?_
   refine acode_block ?_
   refine acode_region ?_
   refine mv (lb rfl) rfl ?_
   refine mv (lb rfl) rfl ?_
   refine mv (lb rfl) rfl ?_
   refine mv (lb rfl) rfl ?_
   refine st1 rfl (op_index_shN Try.underlying52 Try.sizeOf160 (lb rfl) (by first | omega | (rw [half_length (by omega)]; omega))) (so rfl (so rfl sn)) ?_
   refine st1 rfl (op_load_pts_all Try.isAgg160 Try.sizeOf160 rfl (lb rfl)) (so rfl sn) ?_
   refine st1 rfl ((op_call Try.func120 rfl rfl (c_toNetTask (l[k]'(by omega)) (hls _ (List.getElem_mem _))) (by exact (.cons (by first | exact Shares.row rfl | exact (Shares.aggCons (by first | exact Shares.c rfl) (Shares.aggCons (by first | exact Shares.c rfl) (Shares.aggCons (by first | exact Shares.c rfl | exact Shares.nilc | exact Shares.ref rfl (rowI.rnobox _ _) (rowI.rshare _ _)) (Shares.aggCons (by first | exact Shares.c rfl | exact Shares.nilc | exact Shares.ref rfl (rowGFlow.rnobox _ _) (rowGFlow.rshare _ _)) (Shares.aggCons (by first | exact Shares.c rfl | exact Shares.nilc | exact Shares.ref rfl (rowI.rnobox _ _) (rowI.rshare _ _)) (Shares.aggCons (by first | exact Shares.c rfl) (Shares.aggCons (by first | exact Shares.c rfl) (Shares.aggCons (by first | exact Shares.c rfl) (Shares.aggCons (by first | exact Shares.c rfl) Shares.aggNil)))))))))) .nil)) rfl (by first | exact .inl rfl | exact .inr (sol_cons (rowGTask.solid _) sol_nil)) rfl (lb rfl))) (sats_opds (.cons rfl .nil) (sats_app (sats_fresh_all (by exact rfl)) (sats_app (sats_needs (by first | exact all_nil | exact all_cons rfl all_nil | exact all_cons rfl (all_cons rfl all_nil) | exact all_cons rfl (all_cons rfl (all_cons rfl all_nil)) | exact all_cons rfl (all_cons rfl (all_cons rfl (all_cons rfl all_nil))))) (sats_lives rfl)))) ?_
   refine st1 rfl (op_index_refN Try.underlying63 Try.sizeOf119 (lb rfl) (by first | omega | (rw [half_length (by omega)]; omega))) (so rfl (so rfl (sb rfl sn))) ?_
   refine st1 rfl (op_store_arrS (cs := GTask.cells true (l[k]'(by omega))) Try.sizeOf119 (by exact row_get (by first | omega | (rw [half_length (by omega)]; omega))) rfl (by (repeat' (first | exact Absorb.nil | apply Absorb.nilc | apply Absorb.c rfl | apply Absorb.ref)); all_goals rfl) (by rfl) rfl rfl rfl (by rfl)) (so rfl (so rfl (sb rfl (sats_objs (by first | exact all_nil | exact all_cons rfl all_nil | exact all_cons rfl (all_cons rfl all_nil) | exact all_cons rfl (all_cons rfl (all_cons rfl all_nil)) | exact all_cons rfl (all_cons rfl (all_cons rfl (all_cons rfl all_nil)))) (sats_lives rfl))))) ?_
   refine rg_nil_seq ?_
   refine kblk_normal (kseq_normal ?_)
   refine acode_region ?_
   refine mv (lb rfl) rfl ?_
   refine st1 rfl (op_add (lb rfl) (by omega)) (so rfl (so rfl sn)) ?_
   refine as_ (lb rfl) rfl ?_
   refine rg_nil_seq ?_
   refine klg_back (k + 1) ?bi ?bm ?bl
   case bi => omega
   case bm => omega
   case bl => exact le_stU idn (.cons rfl (by first | rfl | simp) (.cons rfl (by first | rfl | simp) (.cons rfl (by first | rfl | simp) (.nil)))) (.cons rfl (congrArg (Obj.arr 9) (half_store (by omega) rfl)) (.inl rfl) (.nil)) rfl
  ·
   simp only [dq] at hc0
   refine acode_exit ?_
   refine kseq_exit (klg_exit (kblk_hit (kseq_normal ?_)))
   refine sr ?_
   refine mv (lb rfl) rfl ?_
   refine as_ (lb rfl) rfl ?_
   refine nkt ?_
   exact fin_retL (res := [.c (.sl true 9 ((half GTask.zero l k).map (GTask.cells true)))]) (.cons (by first | exact .c rfl | exact .ref rfl rfl | exact .nilc rfl) .nil) (by rfl) (by rw [half_end (by omega)] <;> rfl)

theorem c_toNetNet (x : GNet) (hx : GNet.lens (· ≤ 1048576) x) : FnP Try.prog 34 [.row (GNet.cells false x)] [.row (GNet.cells true x)] := by
 refine fnp_intro (n := 12) (rvs := [.cell 2 65]) Try.func34 rfl rfl rfl (lb rfl) rfl ?_
 refine sr ?_
 refine st1 rfl (op_box rfl (lb rfl)) (so rfl (sf rfl (sats_lives rfl))) ?_
 refine st1 rfl (op_alloc Try.zeroValue65 rfl (lb rfl)) (sf rfl sn) ?_
 refine nk ?_
 refine sr ?_
 refine st1 rfl (op_alloc Try.zeroValue65 rfl (lb rfl)) (sf rfl sn) ?_
 refine nk ?_
 refine sr ?_
 refine fdb (off := 0) Try.underlying54 Try.sizeOf3 rfl rfl rfl (lb rfl) rfl rfl ?_
 refine ldb Try.isAgg3 rfl (lb rfl) rfl rfl ?_
 refine fdb (off := 0) Try.underlying65 Try.sizeOf3 rfl rfl rfl (lb rfl) rfl rfl ?_
 refine st1 rfl (op_store_bxS Try.sizeOf3 rfl rfl rfl rfl) (so rfl (so rfl (sb rfl (sats_lives rfl)))) ?_
 refine nk ?_
 refine sr ?_
 refine fdb (off := 1) Try.underlying54 Try.sizeOf52 rfl rfl rfl (lb rfl) rfl rfl ?_
 refine ldb Try.isAgg52 rfl (lb rfl) rfl rfl ?_
 refine st1 rfl ((op_call Try.func76 rfl rfl (c_toNetTaskS x.tasks hx.1 hx.2) (by exact (.cons (by first | exact Shares.c rfl | exact Shares.nilc | exact Shares.ref rfl (rowGTask.rnobox _ _) (rowGTask.rshare _ _)) .nil)) rfl (by first | exact .inl rfl | exact .inr (sol_cons (sl_solid rowGTask _) sol_nil)) rfl (lb rfl))) (sats_opds (.cons rfl .nil) (sats_app (sats_fresh_all (by exact rfl)) (sats_app (sats_needs (by first | exact all_nil | exact all_cons rfl all_nil | exact all_cons rfl (all_cons rfl all_nil) | exact all_cons rfl (all_cons rfl (all_cons rfl all_nil)) | exact all_cons rfl (all_cons rfl (all_cons rfl (all_cons rfl all_nil))))) (sats_lives rfl)))) ?_
 refine fdb (off := 1) Try.underlying65 Try.sizeOf63 rfl rfl rfl (lb rfl) rfl rfl ?_
 refine st1 rfl (op_store_bxS Try.sizeOf63 rfl rfl rfl rfl) (so rfl (so rfl (sb rfl (sats_lives rfl)))) ?_
 refine nk ?_
 refine sr ?_
 refine st1 rfl (op_load_bx_agg Try.isAgg65 Try.sizeOf65 rfl rfl (lb rfl)) (so rfl (sb rfl sn)) ?_
 refine st1 rfl (op_store_bxS Try.sizeOf65 rfl rfl rfl rfl) (so rfl (so rfl (sb rfl (sats_lives rfl)))) ?_
 refine nkt ?_
 exact fin_retL (res := [.row (GNet.cells true x)]) (.cons (.agg rfl rfl Try.isAgg65 Try.sizeOf65 rfl (by repeat' (first | exact Abs.nil | apply Abs.nilc | apply Abs.c rfl | apply Abs.ref rfl)) (by rfl)) .nil) (by rfl) (by rfl)

theorem c_toCasItem (x : GItem) : FnP Try.prog 121 [.row (GItem.cells false x)] [.row (GItem.cells true x)] := by
 refine fnp_intro (n := 14) (rvs := [.cell 2 121]) Try.func121 rfl rfl rfl (lb rfl) rfl ?_
 refine sr ?_
 refine st1 rfl (op_box rfl (lb rfl)) (so rfl (sf rfl (sats_lives rfl))) ?_
 refine st1 rfl (op_alloc Try.zeroValue121 rfl (lb rfl)) (sf rfl sn) ?_
 refine nk ?_
 refine sr ?_
 refine st1 rfl (op_alloc Try.zeroValue121 rfl (lb rfl)) (sf rfl sn) ?_
 refine nk ?_
 refine sr ?_
 refine fdb (off := 0) Try.underlying165 Try.sizeOf3 rfl rfl rfl (lb rfl) rfl rfl ?_
 refine ldb Try.isAgg3 rfl (lb rfl) rfl rfl ?_
 refine fdb (off := 0) Try.underlying121 Try.sizeOf3 rfl rfl rfl (lb rfl) rfl rfl ?_
 refine st1 rfl (op_store_bxS Try.sizeOf3 rfl rfl rfl rfl) (so rfl (so rfl (sb rfl (sats_lives rfl)))) ?_
 refine nk ?_
 refine sr ?_
 refine fdb (off := 1) Try.underlying165 Try.sizeOf3 rfl rfl rfl (lb rfl) rfl rfl ?_
 refine ldb Try.isAgg3 rfl (lb rfl) rfl rfl ?_
 refine fdb (off := 1) Try.underlying121 Try.sizeOf3 rfl rfl rfl (lb rfl) rfl rfl ?_
 refine st1 rfl (op_store_bxS Try.sizeOf3 rfl rfl rfl rfl) (so rfl (so rfl (sb rfl (sats_lives rfl)))) ?_
 refine nk ?_
 refine sr ?_
 refine fdb (off := 2) Try.underlying165 Try.sizeOf3 rfl rfl rfl (lb rfl) rfl rfl ?_
 refine ldb Try.isAgg3 rfl (lb rfl) rfl rfl ?_
 refine fdb (off := 2) Try.underlying121 Try.sizeOf3 rfl rfl rfl (lb rfl) rfl rfl ?_
 refine st1 rfl (op_store_bxS Try.sizeOf3 rfl rfl rfl rfl) (so rfl (so rfl (sb rfl (sats_lives rfl)))) ?_
 refine nk ?_
 refine sr ?_
 refine st1 rfl (op_load_bx_agg Try.isAgg121 Try.sizeOf121 rfl rfl (lb rfl)) (so rfl (sb rfl sn)) ?_
 refine st1 rfl (op_store_bxS Try.sizeOf121 rfl rfl rfl rfl) (so rfl (so rfl (sb rfl (sats_lives rfl)))) ?_
 refine nkt ?_
 exact fin_retL (res := [.row (GItem.cells true x)]) (.cons (.agg rfl rfl Try.isAgg121 Try.sizeOf121 rfl (by repeat' (first | exact Abs.nil | apply Abs.nilc | apply Abs.c rfl | apply Abs.ref rfl)) (by rfl)) .nil) (by rfl) (by rfl)

theorem c_toCasItemS (l : List GItem) (hl : l.length ≤ 1048576) : FnP Try.prog 77 [.c (.sl false 3 (l.map (GItem.cells false)))] [.c (.sl true 3 (l.map (GItem.cells true)))] := by
 refine fnp_intro (n := 23) (rvs := [.tmp 2]) Try.func77 rfl rfl rfl (lb rfl) rfl ?_
 refine sr ?_
 refine as_ (lb rfl) rfl ?_
 refine nk ?_
 refine sr ?_
 refine mv (lb rfl) rfl ?_
 refine st1 rfl (op_len_sh Try.underlying55 (lb rfl)) (so rfl sn) ?_
 refine st1 rfl (op_makeSlice (elem67) (zero67) (zr := (GItem.cells true) GItem.zero) (by repeat' (first | exact Zeros.nil | refine Zeros.sl ?_ | refine Zeros.lit ?_)) (by omega) (by exact makeB (lb rfl) (by omega) (by omega)) (by omega) (lb rfl)) (so rfl (so rfl (sf rfl sn))) ?_
 refine as_ (lb rfl) rfl ?_
 refine nk ?_
 refine acode_seq ?_
 refine sr ?_
 refine as_ (lb rfl) rfl ?_
 refine nk ?_
 refine acode_block ?_
 refine acode_loopk (xs := [0]) (ys := []) (S := Nat) (fun s => [(4, aInt (s : Int)), (3, .ref 7 [])]) (fun s => [(7, .arr 3 ((half GItem.zero l s).map (GItem.cells true)))]) (fun s => s ≤ l.length) (fun s => l.length - s) 0 (.cons rfl .nil) .nil ?em ?eo rfl ?ei ?round
 case em => exact .cons rfl (by first | rfl | simp) (.cons rfl (by first | rfl | simp) (.nil))
 case eo => exact .cons rfl (congrArg (Obj.arr 3) (half_make (f := (GItem.cells true)) (z := GItem.zero))) (.nil)
 case ei => exact Nat.zero_le _
 case round =>
  rintro k h2
  refine acode_seq ?_
  refine sr ?_
  refine mv (lb rfl) rfl ?_
  refine mv (lb rfl) rfl ?_
  refine st1 rfl (op_len_sh Try.underlying55 (lb rfl)) (so rfl sn) ?_
  refine st1 rfl (op_lss (lb rfl)) (so rfl (so rfl sn)) ?_
  refine nk ?_
  refine acode_cond rfl (fun hc0 => ?_) (fun hc0 => ?_)
  ·
   simp only [dq] at hc0
   refine pk ?_
   refine acode_seq ?_
   refine acode_block ?_
   refine acode_region ?_
   refine mv (lb rfl) rfl ?_
   refine mv (lb rfl) rfl ?_
   refine mv (lb rfl) rfl ?_
   refine mv (lb rfl) rfl ?_
   refine st1 rfl (op_index_shN Try.underlying55 Try.sizeOf165 (lb rfl) (by first | omega | (rw [half_length (by omega)]; omega))) (so rfl (so rfl sn)) ?_
   refine st1 rfl (op_load_pts_all Try.isAgg165 Try.sizeOf165 rfl (lb rfl)) (so rfl sn) ?_
   refine st1 rfl ((op_call Try.func121 rfl rfl (c_toCasItem (l[k]'(by omega))) (by exact (.cons (by first | exact Shares.row rfl | exact (Shares.aggCons (by first | exact Shares.c rfl) (Shares.aggCons (by first | exact Shares.c rfl) (Shares.aggCons (by first | exact Shares.c rfl) Shares.aggNil)))) .nil)) rfl (by first | exact .inl rfl | exact .inr (sol_cons (rowGItem.solid _) sol_nil)) rfl (lb rfl))) (sats_opds (.cons rfl .nil) (sats_app (sats_fresh_all (by exact rfl)) (sats_app (sats_needs (by first | exact all_nil | exact all_cons rfl all_nil | exact all_cons rfl (all_cons rfl all_nil) | exact all_cons rfl (all_cons rfl (all_cons rfl all_nil)) | exact all_cons rfl (all_cons rfl (all_cons rfl (all_cons rfl all_nil))))) (sats_lives rfl)))) ?_
   refine st1 rfl (op_index_refN Try.underlying67 Try.sizeOf121 (lb rfl) (by first | omega | (rw [half_length (by omega)]; omega))) (so rfl (so rfl (sb rfl sn))) ?_
   refine st1 rfl (op_store_arrS (cs := GItem.cells true (l[k]'(by omega))) Try.sizeOf121 (by exact row_get (by first | omega | (rw [half_length (by omega)]; omega))) rfl (by (repeat' (first | exact Absorb.nil | apply Absorb.nilc | apply Absorb.c rfl | apply Absorb.ref)); all_goals rfl) (by rfl) rfl rfl rfl (by rfl)) (so rfl (so rfl (sb rfl (sats_objs (by first | exact all_nil | exact all_cons rfl all_nil | exact all_cons rfl (all_cons rfl all_nil) | exact all_cons rfl (all_cons rfl (all_cons rfl all_nil)) | exact all_cons rfl (all_cons rfl (all_cons rfl (all_cons rfl all_nil)))) (sats_lives rfl))))) ?_
   refine rg_nil_seq ?_
   refine kblk_normal (kseq_normal ?_)
   refine acode_region ?_
   refine mv (lb rfl) rfl ?_
   refine st1 rfl (op_add (lb rfl) (by omega)) (so rfl (so rfl sn)) ?_
   refine as_ (lb rfl) rfl ?_
   refine rg_nil_seq ?_
   refine klg_back (k + 1) ?bi ?bm ?bl
   case bi => omega
   case bm => omega
   case bl => exact le_stU idn (.cons rfl (by first | rfl | simp) (.cons rfl (by first | rfl | simp) (.cons rfl (by first | rfl | simp) (.nil)))) (.cons rfl (congrArg (Obj.arr 3) (half_store (by omega) rfl)) (.inl rfl) (.nil)) rfl
  ·
   simp only [dq] at hc0
   refine acode_exit ?_
   refine kseq_exit (klg_exit (kblk_hit (kseq_normal ?_)))
   refine sr ?_
   refine mv (lb rfl) rfl ?_
   refine as_ (lb rfl) rfl ?_
   refine nkt ?_
   exact fin_retL (res := [.c (.sl true 3 ((half GItem.zero l k).map (GItem.cells true)))]) (.cons (by first | exact .c rfl | exact .ref rfl rfl | exact .nilc rfl) .nil) (by rfl) (by rw [half_end (by omega)] <;> rfl)

theorem c_toCasDid (x : GDid) : FnP Try.prog 122 [.row (GDid.cells false x)] [.row (GDid.cells true x)] := by
 refine fnp_intro (n := 11) (rvs := [.cell 2 137]) Try.func122 rfl rfl rfl (lb rfl) rfl ?_
 refine sr ?_
 refine st1 rfl (op_box rfl (lb rfl)) (so rfl (sf rfl (sats_lives rfl))) ?_
 refine st1 rfl (op_alloc Try.zeroValue137 rfl (lb rfl)) (sf rfl sn) ?_
 refine nk ?_
 refine sr ?_
 refine st1 rfl (op_alloc Try.zeroValue137 rfl (lb rfl)) (sf rfl sn) ?_
 refine nk ?_
 refine sr ?_
 refine fdb (off := 0) Try.underlying167 Try.sizeOf3 rfl rfl rfl (lb rfl) rfl rfl ?_
 refine ldb Try.isAgg3 rfl (lb rfl) rfl rfl ?_
 refine fdb (off := 0) Try.underlying137 Try.sizeOf3 rfl rfl rfl (lb rfl) rfl rfl ?_
 refine st1 rfl (op_store_bxS Try.sizeOf3 rfl rfl rfl rfl) (so rfl (so rfl (sb rfl (sats_lives rfl)))) ?_
 refine nk ?_
 refine sr ?_
 refine fdb (off := 1) Try.underlying167 Try.sizeOf3 rfl rfl rfl (lb rfl) rfl rfl ?_
 refine ldb Try.isAgg3 rfl (lb rfl) rfl rfl ?_
 refine fdb (off := 1) Try.underlying137 Try.sizeOf3 rfl rfl rfl (lb rfl) rfl rfl ?_
 refine st1 rfl (op_store_bxS Try.sizeOf3 rfl rfl rfl rfl) (so rfl (so rfl (sb rfl (sats_lives rfl)))) ?_
 refine nk ?_
 refine sr ?_
 refine st1 rfl (op_load_bx_agg Try.isAgg137 Try.sizeOf137 rfl rfl (lb rfl)) (so rfl (sb rfl sn)) ?_
 refine st1 rfl (op_store_bxS Try.sizeOf137 rfl rfl rfl rfl) (so rfl (so rfl (sb rfl (sats_lives rfl)))) ?_
 refine nkt ?_
 exact fin_retL (res := [.row (GDid.cells true x)]) (.cons (.agg rfl rfl Try.isAgg137 Try.sizeOf137 rfl (by repeat' (first | exact Abs.nil | apply Abs.nilc | apply Abs.c rfl | apply Abs.ref rfl)) (by rfl)) .nil) (by rfl) (by rfl)

theorem c_toCasDidS (l : List GDid) (hl : l.length ≤ 1048576) : FnP Try.prog 78 [.c (.sl false 2 (l.map (GDid.cells false)))] [.c (.sl true 2 (l.map (GDid.cells true)))] := by
 refine fnp_intro (n := 23) (rvs := [.tmp 2]) Try.func78 rfl rfl rfl (lb rfl) rfl ?_
 refine sr ?_
 refine as_ (lb rfl) rfl ?_
 refine nk ?_
 refine sr ?_
 refine mv (lb rfl) rfl ?_
 refine st1 rfl (op_len_sh Try.underlying56 (lb rfl)) (so rfl sn) ?_
 refine st1 rfl (op_makeSlice (elem68) (zero68) (zr := (GDid.cells true) GDid.zero) (by repeat' (first | exact Zeros.nil | refine Zeros.sl ?_ | refine Zeros.lit ?_)) (by omega) (by exact makeB (lb rfl) (by omega) (by omega)) (by omega) (lb rfl)) (so rfl (so rfl (sf rfl sn))) ?_
 refine as_ (lb rfl) rfl ?_
 refine nk ?_
 refine acode_seq ?_
 refine sr ?_
 refine as_ (lb rfl) rfl ?_
 refine nk ?_
 refine acode_block ?_
 refine acode_loopk (xs := [0]) (ys := []) (S := Nat) (fun s => [(4, aInt (s : Int)), (3, .ref 7 [])]) (fun s => [(7, .arr 2 ((half GDid.zero l s).map (GDid.cells true)))]) (fun s => s ≤ l.length) (fun s => l.length - s) 0 (.cons rfl .nil) .nil ?em ?eo rfl ?ei ?round
 case em => exact .cons rfl (by first | rfl | simp) (.cons rfl (by first | rfl | simp) (.nil))
 case eo => exact .cons rfl (congrArg (Obj.arr 2) (half_make (f := (GDid.cells true)) (z := GDid.zero))) (.nil)
 case ei => exact Nat.zero_le _
 case round =>
  rintro k h2
  refine acode_seq ?_
  refine sr ?_
  refine mv (lb rfl) rfl ?_
  refine mv (lb rfl) rfl ?_
  refine st1 rfl (op_len_sh Try.underlying56 (lb rfl)) (so rfl sn) ?_
  refine st1 rfl (op_lss (lb rfl)) (so rfl (so rfl sn)) ?_
  refine nk ?_
  refine acode_cond rfl (fun hc0 => ?_) (fun hc0 => ?_)
  ·
   simp only [dq] at hc0
   refine pk ?_
   refine acode_seq ?_
   refine acode_block ?_
   refine acode_region ?_
   refine mv (lb rfl) rfl ?_
   refine mv (lb rfl) rfl ?_
   refine mv (lb rfl) rfl ?_
   refine mv (lb rfl) rfl ?_
   refine st1 rfl (op_index_shN Try.underlying56 Try.sizeOf167 (lb rfl) (by first | omega | (rw [half_length (by omega)]; omega))) (so rfl (so rfl sn)) ?_
   refine st1 rfl (op_load_pts_all Try.isAgg167 Try.sizeOf167 rfl (lb rfl)) (so rfl sn) ?_
   refine st1 rfl ((op_call Try.func122 rfl rfl (c_toCasDid (l[k]'(by omega))) (by exact (.cons (by first | exact Shares.row rfl | exact (Shares.aggCons (by first | exact Shares.c rfl) (Shares.aggCons (by first | exact Shares.c rfl) Shares.aggNil))) .nil)) rfl (by first | exact .inl rfl | exact .inr (sol_cons (rowGDid.solid _) sol_nil)) rfl (lb rfl))) (sats_opds (.cons rfl .nil) (sats_app (sats_fresh_all (by exact rfl)) (sats_app (sats_needs (by first | exact all_nil | exact all_cons rfl all_nil | exact all_cons rfl (all_cons rfl all_nil) | exact all_cons rfl (all_cons rfl (all_cons rfl all_nil)) | exact all_cons rfl (all_cons rfl (all_cons rfl (all_cons rfl all_nil))))) (sats_lives rfl)))) ?_
   refine st1 rfl (op_index_refN Try.underlying68 Try.sizeOf137 (lb rfl) (by first | omega | (rw [half_length (by omega)]; omega))) (so rfl (so rfl (sb rfl sn))) ?_
   refine st1 rfl (op_store_arrS (cs := GDid.cells true (l[k]'(by omega))) Try.sizeOf137 (by exact row_get (by first | omega | (rw [half_length (by omega)]; omega))) rfl (by (repeat' (first | exact Absorb.nil | apply Absorb.nilc | apply Absorb.c rfl | apply Absorb.ref)); all_goals rfl) (by rfl) rfl rfl rfl (by rfl)) (so rfl (so rfl (sb rfl (sats_objs (by first | exact all_nil | exact all_cons rfl all_nil | exact all_cons rfl (all_cons rfl all_nil) | exact all_cons rfl (all_cons rfl (all_cons rfl all_nil)) | exact all_cons rfl (all_cons rfl (all_cons rfl (all_cons rfl all_nil)))) (sats_lives rfl))))) ?_
   refine rg_nil_seq ?_
   refine kblk_normal (kseq_normal ?_)
   refine acode_region ?_
   refine mv (lb rfl) rfl ?_
   refine st1 rfl (op_add (lb rfl) (by omega)) (so rfl (so rfl sn)) ?_
   refine as_ (lb rfl) rfl ?_
   refine rg_nil_seq ?_
   refine klg_back (k + 1) ?bi ?bm ?bl
   case bi => omega
   case bm => omega
   case bl => exact le_stU idn (.cons rfl (by first | rfl | simp) (.cons rfl (by first | rfl | simp) (.cons rfl (by first | rfl | simp) (.nil)))) (.cons rfl (congrArg (Obj.arr 2) (half_store (by omega) rfl)) (.inl rfl) (.nil)) rfl
  ·
   simp only [dq] at hc0
   refine acode_exit ?_
   refine kseq_exit (klg_exit (kblk_hit (kseq_normal ?_)))
   refine sr ?_
   refine mv (lb rfl) rfl ?_
   refine as_ (lb rfl) rfl ?_
   refine nkt ?_
   exact fin_retL (res := [.c (.sl true 2 ((half GDid.zero l k).map (GDid.cells true)))]) (.cons (by first | exact .c rfl | exact .ref rfl rfl | exact .nilc rfl) .nil) (by rfl) (by rw [half_end (by omega)] <;> rfl)

theorem c_toCasCase (x : GCase) (hx : GCase.lens (· ≤ 1048576) x) : FnP Try.prog 35 [.row (GCase.cells false x)] [.row (GCase.cells true x)] := by
 refine fnp_intro (n := 24) (rvs := [.cell 2 70]) Try.func35 rfl rfl rfl (lb rfl) rfl ?_
 refine sr ?_
 refine st1 rfl (op_box rfl (lb rfl)) (so rfl (sf rfl (sats_lives rfl))) ?_
 refine st1 rfl (op_alloc Try.zeroValue70 rfl (lb rfl)) (sf rfl sn) ?_
 refine nk ?_
 refine sr ?_
 refine st1 rfl (op_alloc Try.zeroValue70 rfl (lb rfl)) (sf rfl sn) ?_
 refine nk ?_
 refine sr ?_
 refine fdb (off := 0) Try.underlying58 Try.sizeOf3 rfl rfl rfl (lb rfl) rfl rfl ?_
 refine ldb Try.isAgg3 rfl (lb rfl) rfl rfl ?_
 refine fdb (off := 0) Try.underlying70 Try.sizeOf3 rfl rfl rfl (lb rfl) rfl rfl ?_
 refine st1 rfl (op_store_bxS Try.sizeOf3 rfl rfl rfl rfl) (so rfl (so rfl (sb rfl (sats_lives rfl)))) ?_
 refine nk ?_
 refine sr ?_
 refine fdb (off := 1) Try.underlying58 Try.sizeOf34 rfl rfl rfl (lb rfl) rfl rfl ?_
 refine ldb Try.isAgg34 rfl (lb rfl) rfl rfl ?_
 refine st1 rfl ((op_call Try.func63 rfl rfl (c_toIntS x.marks hx.1) (by exact (.cons (by first | exact Shares.c rfl | exact Shares.nilc | exact Shares.ref rfl (rowI.rnobox _ _) (rowI.rshare _ _)) .nil)) rfl (by first | exact .inl rfl | exact .inr (sol_cons (sl_solid rowI _) sol_nil)) rfl (lb rfl))) (sats_opds (.cons rfl .nil) (sats_app (sats_fresh_all (by exact rfl)) (sats_app (sats_needs (by first | exact all_nil | exact all_cons rfl all_nil | exact all_cons rfl (all_cons rfl all_nil) | exact all_cons rfl (all_cons rfl (all_cons rfl all_nil)) | exact all_cons rfl (all_cons rfl (all_cons rfl (all_cons rfl all_nil))))) (sats_lives rfl)))) ?_
 refine fdb (off := 1) Try.underlying70 Try.sizeOf34 rfl rfl rfl (lb rfl) rfl rfl ?_
 refine st1 rfl (op_store_bxS Try.sizeOf34 rfl rfl rfl rfl) (so rfl (so rfl (sb rfl (sats_lives rfl)))) ?_
 refine nk ?_
 refine sr ?_
 refine fdb (off := 2) Try.underlying58 Try.sizeOf55 rfl rfl rfl (lb rfl) rfl rfl ?_
 refine ldb Try.isAgg55 rfl (lb rfl) rfl rfl ?_
 refine st1 rfl ((op_call Try.func77 rfl rfl (c_toCasItemS x.busy hx.2.1) (by exact (.cons (by first | exact Shares.c rfl | exact Shares.nilc | exact Shares.ref rfl (rowGItem.rnobox _ _) (rowGItem.rshare _ _)) .nil)) rfl (by first | exact .inl rfl | exact .inr (sol_cons (sl_solid rowGItem _) sol_nil)) rfl (lb rfl))) (sats_opds (.cons rfl .nil) (sats_app (sats_fresh_all (by exact rfl)) (sats_app (sats_needs (by first | exact all_nil | exact all_cons rfl all_nil | exact all_cons rfl (all_cons rfl all_nil) | exact all_cons rfl (all_cons rfl (all_cons rfl all_nil)) | exact all_cons rfl (all_cons rfl (all_cons rfl (all_cons rfl all_nil))))) (sats_lives rfl)))) ?_
 refine fdb (off := 2) Try.underlying70 Try.sizeOf67 rfl rfl rfl (lb rfl) rfl rfl ?_
 refine st1 rfl (op_store_bxS Try.sizeOf67 rfl rfl rfl rfl) (so rfl (so rfl (sb rfl (sats_lives rfl)))) ?_
 refine nk ?_
 refine sr ?_
 refine fdb (off := 3) Try.underlying58 Try.sizeOf34 rfl rfl rfl (lb rfl) rfl rfl ?_
 refine ldb Try.isAgg34 rfl (lb rfl) rfl rfl ?_
 refine st1 rfl ((op_call Try.func63 rfl rfl (c_toIntS x.data hx.2.2.1) (by exact (.cons (by first | exact Shares.c rfl | exact Shares.nilc | exact Shares.ref rfl (rowI.rnobox _ _) (rowI.rshare _ _)) .nil)) rfl (by first | exact .inl rfl | exact .inr (sol_cons (sl_solid rowI _) sol_nil)) rfl (lb rfl))) (sats_opds (.cons rfl .nil) (sats_app (sats_fresh_all (by exact rfl)) (sats_app (sats_needs (by first | exact all_nil | exact all_cons rfl all_nil | exact all_cons rfl (all_cons rfl all_nil) | exact all_cons rfl (all_cons rfl (all_cons rfl all_nil)) | exact all_cons rfl (all_cons rfl (all_cons rfl (all_cons rfl all_nil))))) (sats_lives rfl)))) ?_
 refine fdb (off := 3) Try.underlying70 Try.sizeOf34 rfl rfl rfl (lb rfl) rfl rfl ?_
 refine st1 rfl (op_store_bxS Try.sizeOf34 rfl rfl rfl rfl) (so rfl (so rfl (sb rfl (sats_lives rfl)))) ?_
 refine nk ?_
 refine sr ?_
 refine fdb (off := 4) Try.underlying58 Try.sizeOf56 rfl rfl rfl (lb rfl) rfl rfl ?_
 refine ldb Try.isAgg56 rfl (lb rfl) rfl rfl ?_
 refine st1 rfl ((op_call Try.func78 rfl rfl (c_toCasDidS x.did hx.2.2.2) (by exact (.cons (by first | exact Shares.c rfl | exact Shares.nilc | exact Shares.ref rfl (rowGDid.rnobox _ _) (rowGDid.rshare _ _)) .nil)) rfl (by first | exact .inl rfl | exact .inr (sol_cons (sl_solid rowGDid _) sol_nil)) rfl (lb rfl))) (sats_opds (.cons rfl .nil) (sats_app (sats_fresh_all (by exact rfl)) (sats_app (sats_needs (by first | exact all_nil | exact all_cons rfl all_nil | exact all_cons rfl (all_cons rfl all_nil) | exact all_cons rfl (all_cons rfl (all_cons rfl all_nil)) | exact all_cons rfl (all_cons rfl (all_cons rfl (all_cons rfl all_nil))))) (sats_lives rfl)))) ?_
 refine fdb (off := 4) Try.underlying70 Try.sizeOf68 rfl rfl rfl (lb rfl) rfl rfl ?_
 refine st1 rfl (op_store_bxS Try.sizeOf68 rfl rfl rfl rfl) (so rfl (so rfl (sb rfl (sats_lives rfl)))) ?_
 refine nk ?_
 refine sr ?_
 refine st1 rfl (op_load_bx_agg Try.isAgg70 Try.sizeOf70 rfl rfl (lb rfl)) (so rfl (sb rfl sn)) ?_
 refine st1 rfl (op_store_bxS Try.sizeOf70 rfl rfl rfl rfl) (so rfl (so rfl (sb rfl (sats_lives rfl)))) ?_
 refine nkt ?_
 exact fin_retL (res := [.row (GCase.cells true x)]) (.cons (.agg rfl rfl Try.isAgg70 Try.sizeOf70 rfl (by repeat' (first | exact Abs.nil | apply Abs.nilc | apply Abs.c rfl | apply Abs.ref rfl)) (by rfl)) .nil) (by rfl) (by rfl)
end Go.Am
