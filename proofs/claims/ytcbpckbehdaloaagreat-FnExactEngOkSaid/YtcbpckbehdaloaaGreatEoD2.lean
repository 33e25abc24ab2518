/- The laws' own functions over data: copies made. The step scripts are printed by gen.py. Own work. -/
import Derived.Test.YtcbpckbehdaloaaGreatAmYm
import Derived.Test.YtcbpckbehdaloaaGreatAmS
import Derived.Test.YtcbpckbehdaloaaGreatAmV
set_option linter.unusedSimpArgs false
set_option linter.unusedVariables false
set_option maxRecDepth 100000
namespace Go.Am
open Go Go.Proofs

theorem c_toIntS (l : List Int) (hl : l.length ≤ 1048576) : FnP Tryz.prog 37 [.c (cIs false l)] [.c (cIs true l)] := by
 refine fnp_intro (n := 22) (rvs := [.tmp 2]) Tryz.func37 rfl rfl rfl (lb rfl) rfl ?_
 refine sr ?_
 refine as_ (lb rfl) rfl ?_
 refine nk ?_
 refine sr ?_
 refine mv (lb rfl) rfl ?_
 refine st1 rfl (op_len_sh Tryz.underlying23 (lb rfl)) (so rfl sn) ?_
 refine st1 rfl (op_makeSlice (elem23) (zero23) (zr := [cI 0]) (by repeat' (first | exact Zeros.nil | refine Zeros.sl ?_ | refine Zeros.lit ?_)) (by omega) (by exact makeB (lb rfl) (by omega) (by omega)) (by omega) (lb rfl)) (so rfl (so rfl (sf rfl sn))) ?_
 refine as_ (lb rfl) rfl ?_
 refine nk ?_
 refine acode_seq ?_
 refine sr ?_
 refine as_ (lb rfl) rfl ?_
 refine nk ?_
 refine acode_block ?_
 refine acode_loopk (xs := [0]) (ys := []) (S := Nat) (fun s => [(4, aInt (s : Int)), (3, .ref 7 [])]) (fun s => [(7, .arr 1 ((half (0 : Int) l s).map (fun n => [cI n])))]) (fun s => s ≤ l.length) (fun s => l.length - s) 0 (.cons rfl .nil) .nil ?em ?eo rfl ?ei ?round
 case em => exact .cons rfl (by first | rfl | simp) (.cons rfl (by first | rfl | simp) (.nil))
 case eo => exact .cons rfl (congrArg (Obj.arr 1) (half_make (f := (fun n => [cI n])) (z := (0 : Int)))) (.nil)
 case ei => exact Nat.zero_le _
 case round =>
  rintro k h2
  refine acode_seq ?_
  refine sr ?_
  refine mv (lb rfl) rfl ?_
  refine mv (lb rfl) rfl ?_
  refine st1 rfl (op_len_sh Tryz.underlying23 (lb rfl)) (so rfl sn) ?_
  refine st1 rfl (op_lss (lb rfl)) (so rfl (so rfl sn)) ?_
  refine nk ?_
  refine acode_cond rfl (fun hc0 => ?_) (fun hc0 => ?_)
  ·
   simp only [dq] at hc0
   refine pk ?_
   refine acode_seq ?_
   refine acode_block ?_
   refine acode_region ?_
   refine mv (lb rfl) rfl ?_
   refine mv (lb rfl) rfl ?_
   refine mv (lb rfl) rfl ?_
   refine mv (lb rfl) rfl ?_
   refine st1 rfl (op_index_shN Tryz.underlying23 Tryz.sizeOf3 (lb rfl) (by first | omega | (rw [half_length (by omega)]; omega))) (so rfl (so rfl sn)) ?_
   refine st1 rfl (op_load_pts Tryz.isAgg3 rfl (lb rfl)) (so rfl sn) ?_
   refine st1 rfl (op_index_refN Tryz.underlying23 Tryz.sizeOf3 (lb rfl) (by first | omega | (rw [half_length (by omega)]; omega))) (so rfl (so rfl (sb rfl sn))) ?_
   refine st1 rfl (op_store_arrS Tryz.sizeOf3 (by exact row_get (by first | omega | (rw [half_length (by omega)]; omega))) rfl (by (repeat' (first | exact Absorb.nil | apply Absorb.nilc | apply Absorb.c rfl | apply Absorb.ref)); all_goals rfl) (by rfl) rfl rfl rfl (by rfl)) (so rfl (so rfl (sb rfl (sats_objs (by first | exact all_nil | exact all_cons rfl all_nil | exact all_cons rfl (all_cons rfl all_nil) | exact all_cons rfl (all_cons rfl (all_cons rfl all_nil)) | exact all_cons rfl (all_cons rfl (all_cons rfl (all_cons rfl all_nil)))) (sats_lives rfl))))) ?_
   refine rg_nil_seq ?_
   refine kblk_normal (kseq_normal ?_)
   refine acode_region ?_
   refine mv (lb rfl) rfl ?_
   refine st1 rfl (op_add (lb rfl) (by omega)) (so rfl (so rfl sn)) ?_
   refine as_ (lb rfl) rfl ?_
   refine rg_nil_seq ?_
   refine klg_back (k + 1) ?bi ?bm ?bl
   case bi => omega
   case bm => omega
   case bl => exact le_stU idn (.cons rfl (by first | rfl | simp) (.cons rfl (by first | rfl | simp) (.cons rfl (by first | rfl | simp) (.nil)))) (.cons rfl (congrArg (Obj.arr 1) (half_store (by omega) rfl)) (.inl rfl) (.nil)) rfl
  ·
   simp only [dq] at hc0
   refine acode_exit ?_
   refine kseq_exit (klg_exit (kblk_hit (kseq_normal ?_)))
   refine sr ?_
   refine mv (lb rfl) rfl ?_
   refine as_ (lb rfl) rfl ?_
   refine nkt ?_
   exact fin_retL (res := [.c (.sl true 1 ((half (0 : Int) l k).map (fun n => [cI n])))]) (.cons (by first | exact .c rfl | exact .ref rfl rfl | exact .nilc rfl) .nil) (by rfl) (by rw [half_end (by omega)] <;> rfl)

theorem c_toExpAsk (x : GAsk) : FnP Tryz.prog 65 [.row (GAsk.cells false x)] [.row (GAsk.cells true x)] := by
 refine fnp_intro (n := 14) (rvs := [.cell 2 42]) Tryz.func65 rfl rfl rfl (lb rfl) rfl ?_
 refine sr ?_
 refine st1 rfl (op_box rfl (lb rfl)) (so rfl (sf rfl (sats_lives rfl))) ?_
 refine st1 rfl (op_alloc Tryz.zeroValue42 rfl (lb rfl)) (sf rfl sn) ?_
 refine nk ?_
 refine sr ?_
 refine st1 rfl (op_alloc Tryz.zeroValue42 rfl (lb rfl)) (sf rfl sn) ?_
 refine nk ?_
 refine sr ?_
 refine fdb (off := 0) Tryz.underlying29 Tryz.sizeOf3 rfl rfl rfl (lb rfl) rfl rfl ?_
 refine ldb Tryz.isAgg3 rfl (lb rfl) rfl rfl ?_
 refine fdb (off := 0) Tryz.underlying42 Tryz.sizeOf3 rfl rfl rfl (lb rfl) rfl rfl ?_
 refine st1 rfl (op_store_bxS Tryz.sizeOf3 rfl rfl rfl rfl) (so rfl (so rfl (sb rfl (sats_lives rfl)))) ?_
 refine nk ?_
 refine sr ?_
 refine fdb (off := 1) Tryz.underlying29 Tryz.sizeOf3 rfl rfl rfl (lb rfl) rfl rfl ?_
 refine ldb Tryz.isAgg3 rfl (lb rfl) rfl rfl ?_
 refine fdb (off := 1) Tryz.underlying42 Tryz.sizeOf3 rfl rfl rfl (lb rfl) rfl rfl ?_
 refine st1 rfl (op_store_bxS Tryz.sizeOf3 rfl rfl rfl rfl) (so rfl (so rfl (sb rfl (sats_lives rfl)))) ?_
 refine nk ?_
 refine sr ?_
 refine fdb (off := 2) Tryz.underlying29 Tryz.sizeOf3 rfl rfl rfl (lb rfl) rfl rfl ?_
 refine ldb Tryz.isAgg3 rfl (lb rfl) rfl rfl ?_
 refine fdb (off := 2) Tryz.underlying42 Tryz.sizeOf3 rfl rfl rfl (lb rfl) rfl rfl ?_
 refine st1 rfl (op_store_bxS Tryz.sizeOf3 rfl rfl rfl rfl) (so rfl (so rfl (sb rfl (sats_lives rfl)))) ?_
 refine nk ?_
 refine sr ?_
 refine st1 rfl (op_load_bx_agg Tryz.isAgg42 Tryz.sizeOf42 rfl rfl (lb rfl)) (so rfl (sb rfl sn)) ?_
 refine st1 rfl (op_store_bxS Tryz.sizeOf42 rfl rfl rfl rfl) (so rfl (so rfl (sb rfl (sats_lives rfl)))) ?_
 refine nkt ?_
 exact fin_retL (res := [.row (GAsk.cells true x)]) (.cons (.agg rfl rfl Tryz.isAgg42 Tryz.sizeOf42 rfl (by repeat' (first | exact Abs.nil | apply Abs.nilc | apply Abs.c rfl | apply Abs.ref rfl)) (by rfl)) .nil) (by rfl) (by rfl)

theorem c_toNetFlow (x : GFlow) : FnP Tryz.prog 229 [.row (GFlow.cells false x)] [.row (GFlow.cells true x)] := by
 refine fnp_intro (n := 12) (rvs := [.cell 2 234]) Tryz.func229 rfl rfl rfl (lb rfl) rfl ?_
 refine sr ?_
 refine st1 rfl (op_box rfl (lb rfl)) (so rfl (sf rfl (sats_lives rfl))) ?_
 refine st1 rfl (op_alloc Tryz.zeroValue234 rfl (lb rfl)) (sf rfl sn) ?_
 refine nk ?_
 refine sr ?_
 refine st1 rfl (op_alloc Tryz.zeroValue234 rfl (lb rfl)) (sf rfl sn) ?_
 refine nk ?_
 refine sr ?_
 refine fdb (off := 0) Tryz.underlying244 Tryz.sizeOf3 rfl rfl rfl (lb rfl) rfl rfl ?_
 refine ldb Tryz.isAgg3 rfl (lb rfl) rfl rfl ?_
 refine fdb (off := 0) Tryz.underlying234 Tryz.sizeOf3 rfl rfl rfl (lb rfl) rfl rfl ?_
 refine st1 rfl (op_store_bxS Tryz.sizeOf3 rfl rfl rfl rfl) (so rfl (so rfl (sb rfl (sats_lives rfl)))) ?_
 refine nk ?_
 refine sr ?_
 refine fdb (off := 1) Tryz.underlying244 Tryz.sizeOf29 rfl rfl rfl (lb rfl) rfl rfl ?_
 refine st1 rfl (op_load_bx_row Tryz.isAgg29 Tryz.sizeOf29 rfl rfl (lb rfl)) (so rfl (sb rfl sn)) ?_
 refine st1 rfl ((op_call Tryz.func65 rfl rfl (c_toExpAsk x.if_) (by exact (.cons (by first | exact Shares.row rfl | exact (Shares.aggCons (by first | exact Shares.c rfl) (Shares.aggCons (by first | exact Shares.c rfl) (Shares.aggCons (by first | exact Shares.c rfl) Shares.aggNil)))) .nil)) rfl (by first | exact .inl rfl | exact .inr (sol_cons (rowGAsk.solid _) sol_nil)) rfl (lb rfl))) (sats_opds (.cons rfl .nil) (sats_app (sats_fresh_all (by exact rfl)) (sats_app (sats_needs (by first | exact all_nil | exact all_cons rfl all_nil | exact all_cons rfl (all_cons rfl all_nil) | exact all_cons rfl (all_cons rfl (all_cons rfl all_nil)) | exact all_cons rfl (all_cons rfl (all_cons rfl (all_cons rfl all_nil))))) (sats_lives rfl)))) ?_
 refine fdb (off := 1) Tryz.underlying234 Tryz.sizeOf42 rfl rfl rfl (lb rfl) rfl rfl ?_
 refine st1 rfl (op_store_bxS Tryz.sizeOf42 rfl rfl rfl rfl) (so rfl (so rfl (sb rfl (sats_lives rfl)))) ?_
 refine nk ?_
 refine sr ?_
 refine st1 rfl (op_load_bx_agg Tryz.isAgg234 Tryz.sizeOf234 rfl rfl (lb rfl)) (so rfl (sb rfl sn)) ?_
 refine st1 rfl (op_store_bxS Tryz.sizeOf234 rfl rfl rfl rfl) (so rfl (so rfl (sb rfl (sats_lives rfl)))) ?_
 refine nkt ?_
 exact fin_retL (res := [.row (GFlow.cells true x)]) (.cons (.agg rfl rfl Tryz.isAgg234 Tryz.sizeOf234 rfl (by repeat' (first | exact Abs.nil | apply Abs.nilc | apply Abs.c rfl | apply Abs.ref rfl)) (by rfl)) .nil) (by rfl) (by rfl)

theorem c_toNetFlowS (l : List GFlow) (hl : l.length ≤ 1048576) : FnP Tryz.prog 216 [.c (.sl false 4 (l.map (GFlow.cells false)))] [.c (.sl true 4 (l.map (GFlow.cells true)))] := by
 refine fnp_intro (n := 23) (rvs := [.tmp 2]) Tryz.func216 rfl rfl rfl (lb rfl) rfl ?_
 refine sr ?_
 refine as_ (lb rfl) rfl ?_
 refine nk ?_
 refine sr ?_
 refine mv (lb rfl) rfl ?_
 refine st1 rfl (op_len_sh Tryz.underlying192 (lb rfl)) (so rfl sn) ?_
 refine st1 rfl (op_makeSlice (elem185) (zero185) (zr := (GFlow.cells true) GFlow.zero) (by repeat' (first | exact Zeros.nil | refine Zeros.sl ?_ | refine Zeros.lit ?_)) (by omega) (by exact makeB (lb rfl) (by omega) (by omega)) (by omega) (lb rfl)) (so rfl (so rfl (sf rfl sn))) ?_
 refine as_ (lb rfl) rfl ?_
 refine nk ?_
 refine acode_seq ?_
 refine sr ?_
 refine as_ (lb rfl) rfl ?_
 refine nk ?_
 refine acode_block ?_
 refine acode_loopk (xs := [0]) (ys := []) (S := Nat) (fun s => [(4, aInt (s : Int)), (3, .ref 7 [])]) (fun s => [(7, .arr 4 ((half GFlow.zero l s).map (GFlow.cells true)))]) (fun s => s ≤ l.length) (fun s => l.length - s) 0 (.cons rfl .nil) .nil ?em ?eo rfl ?ei ?round
 case em => exact .cons rfl (by first | rfl | simp) (.cons rfl (by first | rfl | simp) (.nil))
 case eo => exact .cons rfl (congrArg (Obj.arr 4) (half_make (f := (GFlow.cells true)) (z := GFlow.zero))) (.nil)
 case ei => exact Nat.zero_le _
 case round =>
  rintro k h2
  refine acode_seq ?_
  refine sr ?_
  refine mv (lb rfl) rfl ?_
  refine mv (lb rfl) rfl ?_
  refine st1 rfl (op_len_sh Tryz.underlying192 (lb rfl)) (so rfl sn) ?_
  refine st1 rfl (op_lss (lb rfl)) (so rfl (so rfl sn)) ?_
  refine nk ?_
  refine acode_cond rfl (fun hc0 => ?_) (fun hc0 => ?_)
  ·
   simp only [dq] at hc0
   refine pk ?_
   refine acode_seq ?_
   refine acode_block ?_
   refine acode_region ?_
   refine mv (lb rfl) rfl ?_
   refine mv (lb rfl) rfl ?_
   refine mv (lb rfl) rfl ?_
   refine mv (lb rfl) rfl ?_
   refine st1 rfl (op_index_shN Tryz.underlying192 Tryz.sizeOf244 (lb rfl) (by first | omega | (rw [half_length (by omega)]; omega))) (so rfl (so rfl sn)) ?_
   refine st1 rfl (op_load_pts_all Tryz.isAgg244 Tryz.sizeOf244 rfl (lb rfl)) (so rfl sn) ?_
   refine st1 rfl ((op_call Tryz.func229 rfl rfl (c_toNetFlow (l[k]'(by omega))) (by exact (.cons (by first | exact Shares.row rfl | exact (Shares.aggCons (by first | exact Shares.c rfl) (Shares.aggCons (by first | exact Shares.c rfl) (Shares.aggCons (by first | exact Shares.c rfl) (Shares.aggCons (by first | exact Shares.c rfl) Shares.aggNil))))) .nil)) rfl (by first | exact .inl rfl | exact .inr (sol_cons (rowGFlow.solid _) sol_nil)) rfl (lb rfl))) (sats_opds (.cons rfl .nil) (sats_app (sats_fresh_all (by exact rfl)) (sats_app (sats_needs (by first | exact all_nil | exact all_cons rfl all_nil | exact all_cons rfl (all_cons rfl all_nil) | exact all_cons rfl (all_cons rfl (all_cons rfl all_nil)) | exact all_cons rfl (all_cons rfl (all_cons rfl (all_cons rfl all_nil))))) (sats_lives rfl)))) ?_
   refine st1 rfl (op_index_refN Tryz.underlying185 Tryz.sizeOf234 (lb rfl) (by first | omega | (rw [half_length (by omega)]; omega))) (so rfl (so rfl (sb rfl sn))) ?_
   refine st1 rfl (op_store_arrS (cs := GFlow.cells true (l[k]'(by omega))) Tryz.sizeOf234 (by exact row_get (by first | omega | (rw [half_length (by omega)]; omega))) rfl (by (repeat' (first | exact Absorb.nil | apply Absorb.nilc | apply Absorb.c rfl | apply Absorb.ref)); all_goals rfl) (by rfl) rfl rfl rfl (by rfl)) (so rfl (so rfl (sb rfl (sats_objs (by first | exact all_nil | exact all_cons rfl all_nil | exact all_cons rfl (all_cons rfl all_nil) | exact all_cons rfl (all_cons rfl (all_cons rfl all_nil)) | exact all_cons rfl (all_cons rfl (all_cons rfl (all_cons rfl all_nil)))) (sats_lives rfl))))) ?_
   refine rg_nil_seq ?_
   refine kblk_normal (kseq_normal ?_)
   refine acode_region ?_
   refine mv (lb rfl) rfl ?_
   refine st1 rfl (op_add (lb rfl) (by omega)) (so rfl (so rfl sn)) ?_
   refine as_ (lb rfl) rfl ?_
   refine rg_nil_seq ?_
   refine klg_back (k + 1) ?bi ?bm ?bl
   case bi => omega
   case bm => omega
   case bl => exact le_stU idn (.cons rfl (by first | rfl | simp) (.cons rfl (by first | rfl | simp) (.cons rfl (by first | rfl | simp) (.nil)))) (.cons rfl (congrArg (Obj.arr 4) (half_store (by omega) rfl)) (.inl rfl) (.nil)) rfl
  ·
   simp only [dq] at hc0
   refine acode_exit ?_
   refine kseq_exit (klg_exit (kblk_hit (kseq_normal ?_)))
   refine sr ?_
   refine mv (lb rfl) rfl ?_
   refine as_ (lb rfl) rfl ?_
   refine nkt ?_
   exact fin_retL (res := [.c (.sl true 4 ((half GFlow.zero l k).map (GFlow.cells true)))]) (.cons (by first | exact .c rfl | exact .ref rfl rfl | exact .nilc rfl) .nil) (by rfl) (by rw [half_end (by omega)] <;> rfl)

theorem c_toNetTask (x : GTask) (hx : GTask.lens (· ≤ 1048576) x) : FnP Tryz.prog 175 [.row (GTask.cells false x)] [.row (GTask.cells true x)] := by
 refine fnp_intro (n := 35) (rvs := [.cell 2 187]) Tryz.func175 rfl rfl rfl (lb rfl) rfl ?_
 refine sr ?_
 refine st1 rfl (op_box rfl (lb rfl)) (so rfl (sf rfl (sats_lives rfl))) ?_
 refine st1 rfl (op_alloc Tryz.zeroValue187 rfl (lb rfl)) (sf rfl sn) ?_
 refine nk ?_
 refine sr ?_
 refine st1 rfl (op_alloc Tryz.zeroValue187 rfl (lb rfl)) (sf rfl sn) ?_
 refine nk ?_
 refine sr ?_
 refine fdb (off := 0) Tryz.underlying194 Tryz.sizeOf3 rfl rfl rfl (lb rfl) rfl rfl ?_
 refine ldb Tryz.isAgg3 rfl (lb rfl) rfl rfl ?_
 refine fdb (off := 0) Tryz.underlying187 Tryz.sizeOf3 rfl rfl rfl (lb rfl) rfl rfl ?_
 refine st1 rfl (op_store_bxS Tryz.sizeOf3 rfl rfl rfl rfl) (so rfl (so rfl (sb rfl (sats_lives rfl)))) ?_
 refine nk ?_
 refine sr ?_
 refine fdb (off := 1) Tryz.underlying194 Tryz.sizeOf3 rfl rfl rfl (lb rfl) rfl rfl ?_
 refine ldb Tryz.isAgg3 rfl (lb rfl) rfl rfl ?_
 refine fdb (off := 1) Tryz.underlying187 Tryz.sizeOf3 rfl rfl rfl (lb rfl) rfl rfl ?_
 refine st1 rfl (op_store_bxS Tryz.sizeOf3 rfl rfl rfl rfl) (so rfl (so rfl (sb rfl (sats_lives rfl)))) ?_
 refine nk ?_
 refine sr ?_
 refine fdb (off := 2) Tryz.underlying194 Tryz.sizeOf23 rfl rfl rfl (lb rfl) rfl rfl ?_
 refine ldb Tryz.isAgg23 rfl (lb rfl) rfl rfl ?_
 refine st1 rfl ((op_call Tryz.func37 rfl rfl (c_toIntS x.in_ hx.1) (by exact (.cons (by first | exact Shares.c rfl | exact Shares.nilc | exact Shares.ref rfl (rowI.rnobox _ _) (rowI.rshare _ _)) .nil)) rfl (by first | exact .inl rfl | exact .inr (sol_cons (sl_solid rowI _) sol_nil)) rfl (lb rfl))) (sats_opds (.cons rfl .nil) (sats_app (sats_fresh_all (by exact rfl)) (sats_app (sats_needs (by first | exact all_nil | exact all_cons rfl all_nil | exact all_cons rfl (all_cons rfl all_nil) | exact all_cons rfl (all_cons rfl (all_cons rfl all_nil)) | exact all_cons rfl (all_cons rfl (all_cons rfl (all_cons rfl all_nil))))) (sats_lives rfl)))) ?_
 refine fdb (off := 2) Tryz.underlying187 Tryz.sizeOf23 rfl rfl rfl (lb rfl) rfl rfl ?_
 refine st1 rfl (op_store_bxS Tryz.sizeOf23 rfl rfl rfl rfl) (so rfl (so rfl (sb rfl (sats_lives rfl)))) ?_
 refine nk ?_
 refine sr ?_
 refine fdb (off := 3) Tryz.underlying194 Tryz.sizeOf192 rfl rfl rfl (lb rfl) rfl rfl ?_
 refine ldb Tryz.isAgg192 rfl (lb rfl) rfl rfl ?_
 refine st1 rfl ((op_call Tryz.func216 rfl rfl (c_toNetFlowS x.out hx.2.1) (by exact (.cons (by first | exact Shares.c rfl | exact Shares.nilc | exact Shares.ref rfl (rowGFlow.rnobox _ _) (rowGFlow.rshare _ _)) .nil)) rfl (by first | exact .inl rfl | exact .inr (sol_cons (sl_solid rowGFlow _) sol_nil)) rfl (lb rfl))) (sats_opds (.cons rfl .nil) (sats_app (sats_fresh_all (by exact rfl)) (sats_app (sats_needs (by first | exact all_nil | exact all_cons rfl all_nil | exact all_cons rfl (all_cons rfl all_nil) | exact all_cons rfl (all_cons rfl (all_cons rfl all_nil)) | exact all_cons rfl (all_cons rfl (all_cons rfl (all_cons rfl all_nil))))) (sats_lives rfl)))) ?_
 refine fdb (off := 3) Tryz.underlying187 Tryz.sizeOf185 rfl rfl rfl (lb rfl) rfl rfl ?_
 refine st1 rfl (op_store_bxS Tryz.sizeOf185 rfl rfl rfl rfl) (so rfl (so rfl (sb rfl (sats_lives rfl)))) ?_
 refine nk ?_
 refine sr ?_
 refine fdb (off := 4) Tryz.underlying194 Tryz.sizeOf23 rfl rfl rfl (lb rfl) rfl rfl ?_
 refine ldb Tryz.isAgg23 rfl (lb rfl) rfl rfl ?_
 refine st1 rfl ((op_call Tryz.func37 rfl rfl (c_toIntS x.clear hx.2.2) (by exact (.cons (by first | exact Shares.c rfl | exact Shares.nilc | exact Shares.ref rfl (rowI.rnobox _ _) (rowI.rshare _ _)) .nil)) rfl (by first | exact .inl rfl | exact .inr (sol_cons (sl_solid rowI _) sol_nil)) rfl (lb rfl))) (sats_opds (.cons rfl .nil) (sats_app (sats_fresh_all (by exact rfl)) (sats_app (sats_needs (by first | exact all_nil | exact all_cons rfl all_nil | exact all_cons rfl (all_cons rfl all_nil) | exact all_cons rfl (all_cons rfl (all_cons rfl all_nil)) | exact all_cons rfl (all_cons rfl (all_cons rfl (all_cons rfl all_nil))))) (sats_lives rfl)))) ?_
 refine fdb (off := 4) Tryz.underlying187 Tryz.sizeOf23 rfl rfl rfl (lb rfl) rfl rfl ?_
 refine st1 rfl (op_store_bxS Tryz.sizeOf23 rfl rfl rfl rfl) (so rfl (so rfl (sb rfl (sats_lives rfl)))) ?_
 refine nk ?_
 refine sr ?_
 refine fdb (off := 5) Tryz.underlying194 Tryz.sizeOf3 rfl rfl rfl (lb rfl) rfl rfl ?_
 refine ldb Tryz.isAgg3 rfl (lb rfl) rfl rfl ?_
 refine fdb (off := 5) Tryz.underlying187 Tryz.sizeOf3 rfl rfl rfl (lb rfl) rfl rfl ?_
 refine st1 rfl (op_store_bxS Tryz.sizeOf3 rfl rfl rfl rfl) (so rfl (so rfl (sb rfl (sats_lives rfl)))) ?_
 refine nk ?_
 refine sr ?_
 refine fdb (off := 6) Tryz.underlying194 Tryz.sizeOf3 rfl rfl rfl (lb rfl) rfl rfl ?_
 refine ldb Tryz.isAgg3 rfl (lb rfl) rfl rfl ?_
 refine fdb (off := 6) Tryz.underlying187 Tryz.sizeOf3 rfl rfl rfl (lb rfl) rfl rfl ?_
 refine st1 rfl (op_store_bxS Tryz.sizeOf3 rfl rfl rfl rfl) (so rfl (so rfl (sb rfl (sats_lives rfl)))) ?_
 refine nk ?_
 refine sr ?_
 refine fdb (off := 7) Tryz.underlying194 Tryz.sizeOf3 rfl rfl rfl (lb rfl) rfl rfl ?_
 refine ldb Tryz.isAgg3 rfl (lb rfl) rfl rfl ?_
 refine fdb (off := 7) Tryz.underlying187 Tryz.sizeOf3 rfl rfl rfl (lb rfl) rfl rfl ?_
 refine st1 rfl (op_store_bxS Tryz.sizeOf3 rfl rfl rfl rfl) (so rfl (so rfl (sb rfl (sats_lives rfl)))) ?_
 refine nk ?_
 refine sr ?_
 refine fdb (off := 8) Tryz.underlying194 Tryz.sizeOf3 rfl rfl rfl (lb rfl) rfl rfl ?_
 refine ldb Tryz.isAgg3 rfl (lb rfl) rfl rfl ?_
 refine fdb (off := 8) Tryz.underlying187 Tryz.sizeOf3 rfl rfl rfl (lb rfl) rfl rfl ?_
 refine st1 rfl (op_store_bxS Tryz.sizeOf3 rfl rfl rfl rfl) (so rfl (so rfl (sb rfl (sats_lives rfl)))) ?_
 refine nk ?_
 refine sr ?_
 refine st1 rfl (op_load_bx_agg Tryz.isAgg187 Tryz.sizeOf187 rfl rfl (lb rfl)) (so rfl (sb rfl sn)) ?_
 refine st1 rfl (op_store_bxS Tryz.sizeOf187 rfl rfl rfl rfl) (so rfl (so rfl (sb rfl (sats_lives rfl)))) ?_
 refine nkt ?_
 exact fin_retL (res := [.row (GTask.cells true x)]) (.cons (.agg rfl rfl Tryz.isAgg187 Tryz.sizeOf187 rfl (by repeat' (first | exact Abs.nil | apply Abs.nilc | apply Abs.c rfl | apply Abs.ref rfl)) (by rfl)) .nil) (by rfl) (by rfl)

theorem c_toNetTaskS (l : List GTask) (hl : l.length ≤ 1048576) (hls : ∀ y ∈ l, GTask.lens (· ≤ 1048576) y) : FnP Tryz.prog 102 [.c (.sl false 9 (l.map (GTask.cells false)))] [.c (.sl true 9 (l.map (GTask.cells true)))] := by
 refine fnp_intro (n := 23) (rvs := [.tmp 2]) Tryz.func102 rfl rfl rfl (lb rfl) rfl ?_
 refine sr ?_
 refine as_ (lb rfl) rfl ?_
 refine nk ?_
 refine sr ?_
 refine mv (lb rfl) rfl ?_
 refine st1 rfl (op_len_sh Tryz.underlying64 (lb rfl)) (so rfl sn) ?_
 refine st1 rfl (op_makeSlice (elem79) (zero79) (zr := (GTask.cells true) GTask.zero) (by repeat' (first | exact Zeros.nil | refine Zeros.sl ?_ | refine Zeros.lit ?_)) (by omega) (by exact makeB (lb rfl) (by omega) (by omega)) (by omega) (lb rfl)) (so rfl (so rfl (sf rfl sn))) ?_
 refine as_ (lb rfl) rfl ?_
 refine nk ?_
 refine acode_seq ?_
 refine sr ?_
 refine as_ (lb rfl) rfl ?_
 refine nk ?_
 refine acode_block ?_
 refine acode_loopk (xs := [0]) (ys := []) (S := Nat) (fun s => [(4, aInt (s : Int)), (3, .ref 7 [])]) (fun s => [(7, .arr 9 ((half GTask.zero l s).map (GTask.cells true)))]) (fun s => s ≤ l.length) (fun s => l.length - s) 0 (.cons rfl .nil) .nil ?em ?eo rfl ?ei ?round
 case em => exact .cons rfl (by first | rfl | simp) (.cons rfl (by first | rfl | simp) (.nil))
 case eo => exact .cons rfl (congrArg (Obj.arr 9) (half_make (f := (GTask.cells true)) (z := GTask.zero))) (.nil)
 case ei => exact Nat.zero_le _
 case round =>
  rintro k h2
  refine acode_seq ?_
  refine sr ?_
  refine mv (lb rfl) rfl ?_
  refine mv (lb rfl) rfl ?_
  refine st1 rfl (op_len_sh Tryz.underlying64 (lb rfl)) (so rfl sn) ?_
  refine st1 rfl (op_lss (lb rfl)) (so rfl (so rfl sn)) ?_
  refine nk ?_
  refine acode_cond rfl (fun hc0 => ?_) (fun hc0 => ?_)
  ·
   simp only [dq] at hc0
   refine pk ?_
   refine acode_seq ?_
   refine acode_block ?_
   refine acode_region ?_
   refine mv (lb rfl) rfl ?_
   refine mv (lb rfl) rfl ?_
   refine mv (lb rfl) rfl ?_
   refine mv (lb rfl) rfl ?_
   refine st1 rfl (op_index_shN Tryz.underlying64 Tryz.sizeOf194 (lb rfl) (by first | omega | (rw [half_length (by omega)]; omega))) (so rfl (so rfl sn)) ?_
   refine st1 rfl (op_load_pts_all Tryz.isAgg194 Tryz.sizeOf194 rfl (lb rfl)) (so rfl sn) ?_
   refine st1 rfl ((op_call Tryz.func175 rfl rfl (c_toNetTask (l[k]'(by omega)) (hls _ (List.getElem_mem _))) (by exact (.cons (by first | exact Shares.row rfl | exact (Shares.aggCons (by first | exact Shares.c rfl) (Shares.aggCons (by first | exact Shares.c rfl) (Shares.aggCons (by first | exact Shares.c rfl | exact Shares.nilc | exact Shares.ref rfl (rowI.rnobox _ _) (rowI.rshare _ _)) (Shares.aggCons (by first | exact Shares.c rfl | exact Shares.nilc | exact Shares.ref rfl (rowGFlow.rnobox _ _) (rowGFlow.rshare _ _)) (Shares.aggCons (by first | exact Shares.c rfl | exact Shares.nilc | exact Shares.ref rfl (rowI.rnobox _ _) (rowI.rshare _ _)) (Shares.aggCons (by first | exact Shares.c rfl) (Shares.aggCons (by first | exact Shares.c rfl) (Shares.aggCons (by first | exact Shares.c rfl) (Shares.aggCons (by first | exact Shares.c rfl) Shares.aggNil)))))))))) .nil)) rfl (by first | exact .inl rfl | exact .inr (sol_cons (rowGTask.solid _) sol_nil)) rfl (lb rfl))) (sats_opds (.cons rfl .nil) (sats_app (sats_fresh_all (by exact rfl)) (sats_app (sats_needs (by first | exact all_nil | exact all_cons rfl all_nil | exact all_cons rfl (all_cons rfl all_nil) | exact all_cons rfl (all_cons rfl (all_cons rfl all_nil)) | exact all_cons rfl (all_cons rfl (all_cons rfl (all_cons rfl all_nil))))) (sats_lives rfl)))) ?_
   refine st1 rfl (op_index_refN Tryz.underlying79 Tryz.sizeOf187 (lb rfl) (by first | omega | (rw [half_length (by omega)]; omega))) (so rfl (so rfl (sb rfl sn))) ?_
   refine st1 rfl (op_store_arrS (cs := GTask.cells true (l[k]'(by omega))) Tryz.sizeOf187 (by exact row_get (by first | omega | (rw [half_length (by omega)]; omega))) rfl (by (repeat' (first | exact Absorb.nil | apply Absorb.nilc | apply Absorb.c rfl | apply Absorb.ref)); all_goals rfl) (by rfl) rfl rfl rfl (by rfl)) (so rfl (so rfl (sb rfl (sats_objs (by first | exact all_nil | exact all_cons rfl all_nil | exact all_cons rfl (all_cons rfl all_nil) | exact all_cons rfl (all_cons rfl (all_cons rfl all_nil)) | exact all_cons rfl (all_cons rfl (all_cons rfl (all_cons rfl all_nil)))) (sats_lives rfl))))) ?_
   refine rg_nil_seq ?_
   refine kblk_normal (kseq_normal ?_)
   refine acode_region ?_
   refine mv (lb rfl) rfl ?_
   refine st1 rfl (op_add (lb rfl) (by omega)) (so rfl (so rfl sn)) ?_
   refine as_ (lb rfl) rfl ?_
   refine rg_nil_seq ?_
   refine klg_back (k + 1) ?bi ?bm ?bl
   case bi => omega
   case bm => omega
   case bl => exact le_stU idn (.cons rfl (by first | rfl | simp) (.cons rfl (by first | rfl | simp) (.cons rfl (by first | rfl | simp) (.nil)))) (.cons rfl (congrArg (Obj.arr 9) (half_store (by omega) rfl)) (.inl rfl) (.nil)) rfl
  ·
   simp only [dq] at hc0
   refine acode_exit ?_
   refine kseq_exit (klg_exit (kblk_hit (kseq_normal ?_)))
   refine sr ?_
   refine mv (lb rfl) rfl ?_
   refine as_ (lb rfl) rfl ?_
   refine nkt ?_
   exact fin_retL (res := [.c (.sl true 9 ((half GTask.zero l k).map (GTask.cells true)))]) (.cons (by first | exact .c rfl | exact .ref rfl rfl | exact .nilc rfl) .nil) (by rfl) (by rw [half_end (by omega)] <;> rfl)

theorem c_toNetNet (x : GNet) (hx : GNet.lens (· ≤ 1048576) x) : FnP Tryz.prog 36 [.row (GNet.cells false x)] [.row (GNet.cells true x)] := by
 refine fnp_intro (n := 12) (rvs := [.cell 2 81]) Tryz.func36 rfl rfl rfl (lb rfl) rfl ?_
 refine sr ?_
 refine st1 rfl (op_box rfl (lb rfl)) (so rfl (sf rfl (sats_lives rfl))) ?_
 refine st1 rfl (op_alloc Tryz.zeroValue81 rfl (lb rfl)) (sf rfl sn) ?_
 refine nk ?_
 refine sr ?_
 refine st1 rfl (op_alloc Tryz.zeroValue81 rfl (lb rfl)) (sf rfl sn) ?_
 refine nk ?_
 refine sr ?_
 refine fdb (off := 0) Tryz.underlying66 Tryz.sizeOf3 rfl rfl rfl (lb rfl) rfl rfl ?_
 refine ldb Tryz.isAgg3 rfl (lb rfl) rfl rfl ?_
 refine fdb (off := 0) Tryz.underlying81 Tryz.sizeOf3 rfl rfl rfl (lb rfl) rfl rfl ?_
 refine st1 rfl (op_store_bxS Tryz.sizeOf3 rfl rfl rfl rfl) (so rfl (so rfl (sb rfl (sats_lives rfl)))) ?_
 refine nk ?_
 refine sr ?_
 refine fdb (off := 1) Tryz.underlying66 Tryz.sizeOf64 rfl rfl rfl (lb rfl) rfl rfl ?_
 refine ldb Tryz.isAgg64 rfl (lb rfl) rfl rfl ?_
 refine st1 rfl ((op_call Tryz.func102 rfl rfl (c_toNetTaskS x.tasks hx.1 hx.2) (by exact (.cons (by first | exact Shares.c rfl | exact Shares.nilc | exact Shares.ref rfl (rowGTask.rnobox _ _) (rowGTask.rshare _ _)) .nil)) rfl (by first | exact .inl rfl | exact .inr (sol_cons (sl_solid rowGTask _) sol_nil)) rfl (lb rfl))) (sats_opds (.cons rfl .nil) (sats_app (sats_fresh_all (by exact rfl)) (sats_app (sats_needs (by first | exact all_nil | exact all_cons rfl all_nil | exact all_cons rfl (all_cons rfl all_nil) | exact all_cons rfl (all_cons rfl (all_cons rfl all_nil)) | exact all_cons rfl (all_cons rfl (all_cons rfl (all_cons rfl all_nil))))) (sats_lives rfl)))) ?_
 refine fdb (off := 1) Tryz.underlying81 Tryz.sizeOf79 rfl rfl rfl (lb rfl) rfl rfl ?_
 refine st1 rfl (op_store_bxS Tryz.sizeOf79 rfl rfl rfl rfl) (so rfl (so rfl (sb rfl (sats_lives rfl)))) ?_
 refine nk ?_
 refine sr ?_
 refine st1 rfl (op_load_bx_agg Tryz.isAgg81 Tryz.sizeOf81 rfl rfl (lb rfl)) (so rfl (sb rfl sn)) ?_
 refine st1 rfl (op_store_bxS Tryz.sizeOf81 rfl rfl rfl rfl) (so rfl (so rfl (sb rfl (sats_lives rfl)))) ?_
 refine nkt ?_
 exact fin_retL (res := [.row (GNet.cells true x)]) (.cons (.agg rfl rfl Tryz.isAgg81 Tryz.sizeOf81 rfl (by repeat' (first | exact Abs.nil | apply Abs.nilc | apply Abs.c rfl | apply Abs.ref rfl)) (by rfl)) .nil) (by rfl) (by rfl)

theorem c_toNetNetS (l : List GNet) (hl : l.length ≤ 1048576) (hls : ∀ y ∈ l, GNet.lens (· ≤ 1048576) y) : FnP Tryz.prog 49 [.c (.sl false 2 (l.map (GNet.cells false)))] [.c (.sl true 2 (l.map (GNet.cells true)))] := by
 refine fnp_intro (n := 23) (rvs := [.tmp 2]) Tryz.func49 rfl rfl rfl (lb rfl) rfl ?_
 refine sr ?_
 refine as_ (lb rfl) rfl ?_
 refine nk ?_
 refine sr ?_
 refine mv (lb rfl) rfl ?_
 refine st1 rfl (op_len_sh Tryz.underlying22 (lb rfl)) (so rfl sn) ?_
 refine st1 rfl (op_makeSlice (elem34) (zero34) (zr := (GNet.cells true) GNet.zero) (by repeat' (first | exact Zeros.nil | refine Zeros.sl ?_ | refine Zeros.lit ?_)) (by omega) (by exact makeB (lb rfl) (by omega) (by omega)) (by omega) (lb rfl)) (so rfl (so rfl (sf rfl sn))) ?_
 refine as_ (lb rfl) rfl ?_
 refine nk ?_
 refine acode_seq ?_
 refine sr ?_
 refine as_ (lb rfl) rfl ?_
 refine nk ?_
 refine acode_block ?_
 refine acode_loopk (xs := [0]) (ys := []) (S := Nat) (fun s => [(4, aInt (s : Int)), (3, .ref 7 [])]) (fun s => [(7, .arr 2 ((half GNet.zero l s).map (GNet.cells true)))]) (fun s => s ≤ l.length) (fun s => l.length - s) 0 (.cons rfl .nil) .nil ?em ?eo rfl ?ei ?round
 case em => exact .cons rfl (by first | rfl | simp) (.cons rfl (by first | rfl | simp) (.nil))
 case eo => exact .cons rfl (congrArg (Obj.arr 2) (half_make (f := (GNet.cells true)) (z := GNet.zero))) (.nil)
 case ei => exact Nat.zero_le _
 case round =>
  rintro k h2
  refine acode_seq ?_
  refine sr ?_
  refine mv (lb rfl) rfl ?_
  refine mv (lb rfl) rfl ?_
  refine st1 rfl (op_len_sh Tryz.underlying22 (lb rfl)) (so rfl sn) ?_
  refine st1 rfl (op_lss (lb rfl)) (so rfl (so rfl sn)) ?_
  refine nk ?_
  refine acode_cond rfl (fun hc0 => ?_) (fun hc0 => ?_)
  ·
   simp only [dq] at hc0
   refine pk ?_
   refine acode_seq ?_
   refine acode_block ?_
   refine acode_region ?_
   refine mv (lb rfl) rfl ?_
   refine mv (lb rfl) rfl ?_
   refine mv (lb rfl) rfl ?_
   refine mv (lb rfl) rfl ?_
   refine st1 rfl (op_index_shN Tryz.underlying22 Tryz.sizeOf66 (lb rfl) (by first | omega | (rw [half_length (by omega)]; omega))) (so rfl (so rfl sn)) ?_
   refine st1 rfl (op_load_pts_all Tryz.isAgg66 Tryz.sizeOf66 rfl (lb rfl)) (so rfl sn) ?_
   refine st1 rfl ((op_call Tryz.func36 rfl rfl (c_toNetNet (l[k]'(by omega)) (hls _ (List.getElem_mem _))) (by exact (.cons (by first | exact Shares.row rfl | exact (Shares.aggCons (by first | exact Shares.c rfl) (Shares.aggCons (by first | exact Shares.c rfl | exact Shares.nilc | exact Shares.ref rfl (rowGTask.rnobox _ _) (rowGTask.rshare _ _)) Shares.aggNil))) .nil)) rfl (by first | exact .inl rfl | exact .inr (sol_cons (rowGNet.solid _) sol_nil)) rfl (lb rfl))) (sats_opds (.cons rfl .nil) (sats_app (sats_fresh_all (by exact rfl)) (sats_app (sats_needs (by first | exact all_nil | exact all_cons rfl all_nil | exact all_cons rfl (all_cons rfl all_nil) | exact all_cons rfl (all_cons rfl (all_cons rfl all_nil)) | exact all_cons rfl (all_cons rfl (all_cons rfl (all_cons rfl all_nil))))) (sats_lives rfl)))) ?_
   refine st1 rfl (op_index_refN Tryz.underlying34 Tryz.sizeOf81 (lb rfl) (by first | omega | (rw [half_length (by omega)]; omega))) (so rfl (so rfl (sb rfl sn))) ?_
   refine st1 rfl (op_store_arrS (cs := GNet.cells true (l[k]'(by omega))) Tryz.sizeOf81 (by exact row_get (by first | omega | (rw [half_length (by omega)]; omega))) rfl (by (repeat' (first | exact Absorb.nil | apply Absorb.nilc | apply Absorb.c rfl | apply Absorb.ref)); all_goals rfl) (by rfl) rfl rfl rfl (by rfl)) (so rfl (so rfl (sb rfl (sats_objs (by first | exact all_nil | exact all_cons rfl all_nil | exact all_cons rfl (all_cons rfl all_nil) | exact all_cons rfl (all_cons rfl (all_cons rfl all_nil)) | exact all_cons rfl (all_cons rfl (all_cons rfl (all_cons rfl all_nil)))) (sats_lives rfl))))) ?_
   refine rg_nil_seq ?_
   refine kblk_normal (kseq_normal ?_)
   refine acode_region ?_
   refine mv (lb rfl) rfl ?_
   refine st1 rfl (op_add (lb rfl) (by omega)) (so rfl (so rfl sn)) ?_
   refine as_ (lb rfl) rfl ?_
   refine rg_nil_seq ?_
   refine klg_back (k + 1) ?bi ?bm ?bl
   case bi => omega
   case bm => omega
   case bl => exact le_stU idn (.cons rfl (by first | rfl | simp) (.cons rfl (by first | rfl | simp) (.cons rfl (by first | rfl | simp) (.nil)))) (.cons rfl (congrArg (Obj.arr 2) (half_store (by omega) rfl)) (.inl rfl) (.nil)) rfl
  ·
   simp only [dq] at hc0
   refine acode_exit ?_
   refine kseq_exit (klg_exit (kblk_hit (kseq_normal ?_)))
   refine sr ?_
   refine mv (lb rfl) rfl ?_
   refine as_ (lb rfl) rfl ?_
   refine nkt ?_
   exact fin_retL (res := [.c (.sl true 2 ((half GNet.zero l k).map (GNet.cells true)))]) (.cons (by first | exact .c rfl | exact .ref rfl rfl | exact .nilc rfl) .nil) (by rfl) (by rw [half_end (by omega)] <;> rfl)

theorem c_toRdrNode (x : GNode) (hx : GNode.lens (· ≤ 1048576) x) : FnP Tryz.prog 135 [.row (GNode.cells false x)] [.row (GNode.cells true x)] := by
 refine fnp_intro (n := 22) (rvs := [.cell 2 168]) Tryz.func135 rfl rfl rfl (lb rfl) rfl ?_
 refine sr ?_
 refine st1 rfl (op_box rfl (lb rfl)) (so rfl (sf rfl (sats_lives rfl))) ?_
 refine st1 rfl (op_alloc Tryz.zeroValue168 rfl (lb rfl)) (sf rfl sn) ?_
 refine nk ?_
 refine sr ?_
 refine st1 rfl (op_alloc Tryz.zeroValue168 rfl (lb rfl)) (sf rfl sn) ?_
 refine nk ?_
 refine sr ?_
 refine fdb (off := 0) Tryz.underlying157 Tryz.sizeOf29 rfl rfl rfl (lb rfl) rfl rfl ?_
 refine st1 rfl (op_load_bx_row Tryz.isAgg29 Tryz.sizeOf29 rfl rfl (lb rfl)) (so rfl (sb rfl sn)) ?_
 refine st1 rfl ((op_call Tryz.func65 rfl rfl (c_toExpAsk x.if_) (by exact (.cons (by first | exact Shares.row rfl | exact (Shares.aggCons (by first | exact Shares.c rfl) (Shares.aggCons (by first | exact Shares.c rfl) (Shares.aggCons (by first | exact Shares.c rfl) Shares.aggNil)))) .nil)) rfl (by first | exact .inl rfl | exact .inr (sol_cons (rowGAsk.solid _) sol_nil)) rfl (lb rfl))) (sats_opds (.cons rfl .nil) (sats_app (sats_fresh_all (by exact rfl)) (sats_app (sats_needs (by first | exact all_nil | exact all_cons rfl all_nil | exact all_cons rfl (all_cons rfl all_nil) | exact all_cons rfl (all_cons rfl (all_cons rfl all_nil)) | exact all_cons rfl (all_cons rfl (all_cons rfl (all_cons rfl all_nil))))) (sats_lives rfl)))) ?_
 refine fdb (off := 0) Tryz.underlying168 Tryz.sizeOf42 rfl rfl rfl (lb rfl) rfl rfl ?_
 refine st1 rfl (op_store_bxS Tryz.sizeOf42 rfl rfl rfl rfl) (so rfl (so rfl (sb rfl (sats_lives rfl)))) ?_
 refine nk ?_
 refine sr ?_
 refine fdb (off := 3) Tryz.underlying157 Tryz.sizeOf3 rfl rfl rfl (lb rfl) rfl rfl ?_
 refine ldb Tryz.isAgg3 rfl (lb rfl) rfl rfl ?_
 refine fdb (off := 3) Tryz.underlying168 Tryz.sizeOf3 rfl rfl rfl (lb rfl) rfl rfl ?_
 refine st1 rfl (op_store_bxS Tryz.sizeOf3 rfl rfl rfl rfl) (so rfl (so rfl (sb rfl (sats_lives rfl)))) ?_
 refine nk ?_
 refine sr ?_
 refine fdb (off := 4) Tryz.underlying157 Tryz.sizeOf3 rfl rfl rfl (lb rfl) rfl rfl ?_
 refine ldb Tryz.isAgg3 rfl (lb rfl) rfl rfl ?_
 refine fdb (off := 4) Tryz.underlying168 Tryz.sizeOf3 rfl rfl rfl (lb rfl) rfl rfl ?_
 refine st1 rfl (op_store_bxS Tryz.sizeOf3 rfl rfl rfl rfl) (so rfl (so rfl (sb rfl (sats_lives rfl)))) ?_
 refine nk ?_
 refine sr ?_
 refine fdb (off := 5) Tryz.underlying157 Tryz.sizeOf3 rfl rfl rfl (lb rfl) rfl rfl ?_
 refine ldb Tryz.isAgg3 rfl (lb rfl) rfl rfl ?_
 refine fdb (off := 5) Tryz.underlying168 Tryz.sizeOf3 rfl rfl rfl (lb rfl) rfl rfl ?_
 refine st1 rfl (op_store_bxS Tryz.sizeOf3 rfl rfl rfl rfl) (so rfl (so rfl (sb rfl (sats_lives rfl)))) ?_
 refine nk ?_
 refine sr ?_
 refine fdb (off := 6) Tryz.underlying157 Tryz.sizeOf23 rfl rfl rfl (lb rfl) rfl rfl ?_
 refine ldb Tryz.isAgg23 rfl (lb rfl) rfl rfl ?_
 refine st1 rfl ((op_call Tryz.func37 rfl rfl (c_toIntS x.stone hx) (by exact (.cons (by first | exact Shares.c rfl | exact Shares.nilc | exact Shares.ref rfl (rowI.rnobox _ _) (rowI.rshare _ _)) .nil)) rfl (by first | exact .inl rfl | exact .inr (sol_cons (sl_solid rowI _) sol_nil)) rfl (lb rfl))) (sats_opds (.cons rfl .nil) (sats_app (sats_fresh_all (by exact rfl)) (sats_app (sats_needs (by first | exact all_nil | exact all_cons rfl all_nil | exact all_cons rfl (all_cons rfl all_nil) | exact all_cons rfl (all_cons rfl (all_cons rfl all_nil)) | exact all_cons rfl (all_cons rfl (all_cons rfl (all_cons rfl all_nil))))) (sats_lives rfl)))) ?_
 refine fdb (off := 6) Tryz.underlying168 Tryz.sizeOf23 rfl rfl rfl (lb rfl) rfl rfl ?_
 refine st1 rfl (op_store_bxS Tryz.sizeOf23 rfl rfl rfl rfl) (so rfl (so rfl (sb rfl (sats_lives rfl)))) ?_
 refine nk ?_
 refine sr ?_
 refine st1 rfl (op_load_bx_agg Tryz.isAgg168 Tryz.sizeOf168 rfl rfl (lb rfl)) (so rfl (sb rfl sn)) ?_
 refine st1 rfl (op_store_bxS Tryz.sizeOf168 rfl rfl rfl rfl) (so rfl (so rfl (sb rfl (sats_lives rfl)))) ?_
 refine nkt ?_
 exact fin_retL (res := [.row (GNode.cells true x)]) (.cons (.agg rfl rfl Tryz.isAgg168 Tryz.sizeOf168 rfl (by repeat' (first | exact Abs.nil | apply Abs.nilc | apply Abs.c rfl | apply Abs.ref rfl)) (by rfl)) .nil) (by rfl) (by rfl)

theorem c_toRdrNodeS (l : List GNode) (hl : l.length ≤ 1048576) (hls : ∀ y ∈ l, GNode.lens (· ≤ 1048576) y) : FnP Tryz.prog 63 [.c (.sl false 7 (l.map (GNode.cells false)))] [.c (.sl true 7 (l.map (GNode.cells true)))] := by
 refine fnp_intro (n := 23) (rvs := [.tmp 2]) Tryz.func63 rfl rfl rfl (lb rfl) rfl ?_
 refine sr ?_
 refine as_ (lb rfl) rfl ?_
 refine nk ?_
 refine sr ?_
 refine mv (lb rfl) rfl ?_
 refine st1 rfl (op_len_sh Tryz.underlying24 (lb rfl)) (so rfl sn) ?_
 refine st1 rfl (op_makeSlice (elem35) (zero35) (zr := (GNode.cells true) GNode.zero) (by repeat' (first | exact Zeros.nil | refine Zeros.sl ?_ | refine Zeros.lit ?_)) (by omega) (by exact makeB (lb rfl) (by omega) (by omega)) (by omega) (lb rfl)) (so rfl (so rfl (sf rfl sn))) ?_
 refine as_ (lb rfl) rfl ?_
 refine nk ?_
 refine acode_seq ?_
 refine sr ?_
 refine as_ (lb rfl) rfl ?_
 refine nk ?_
 refine acode_block ?_
 refine acode_loopk (xs := [0]) (ys := []) (S := Nat) (fun s => [(4, aInt (s : Int)), (3, .ref 7 [])]) (fun s => [(7, .arr 7 ((half GNode.zero l s).map (GNode.cells true)))]) (fun s => s ≤ l.length) (fun s => l.length - s) 0 (.cons rfl .nil) .nil ?em ?eo rfl ?ei ?round
 case em => exact .cons rfl (by first | rfl | simp) (.cons rfl (by first | rfl | simp) (.nil))
 case eo => exact .cons rfl (congrArg (Obj.arr 7) (half_make (f := (GNode.cells true)) (z := GNode.zero))) (.nil)
 case ei => exact Nat.zero_le _
 case round =>
  rintro k h2
  refine acode_seq ?_
  refine sr ?_
  refine mv (lb rfl) rfl ?_
  refine mv (lb rfl) rfl ?_
  refine st1 rfl (op_len_sh Tryz.underlying24 (lb rfl)) (so rfl sn) ?_
  refine st1 rfl (op_lss (lb rfl)) (so rfl (so rfl sn)) ?_
  refine nk ?_
  refine acode_cond rfl (fun hc0 => ?_) (fun hc0 => ?_)
  ·
   simp only [dq] at hc0
   refine pk ?_
   refine acode_seq ?_
   refine acode_block ?_
   refine acode_region ?_
   refine mv (lb rfl) rfl ?_
   refine mv (lb rfl) rfl ?_
   refine mv (lb rfl) rfl ?_
   refine mv (lb rfl) rfl ?_
   refine st1 rfl (op_index_shN Tryz.underlying24 Tryz.sizeOf157 (lb rfl) (by first | omega | (rw [half_length (by omega)]; omega))) (so rfl (so rfl sn)) ?_
   refine st1 rfl (op_load_pts_all Tryz.isAgg157 Tryz.sizeOf157 rfl (lb rfl)) (so rfl sn) ?_
   refine st1 rfl ((op_call Tryz.func135 rfl rfl (c_toRdrNode (l[k]'(by omega)) (hls _ (List.getElem_mem _))) (by exact (.cons (by first | exact Shares.row rfl | exact (Shares.aggCons (by first | exact Shares.c rfl) (Shares.aggCons (by first | exact Shares.c rfl) (Shares.aggCons (by first | exact Shares.c rfl) (Shares.aggCons (by first | exact Shares.c rfl) (Shares.aggCons (by first | exact Shares.c rfl) (Shares.aggCons (by first | exact Shares.c rfl) (Shares.aggCons (by first | exact Shares.c rfl | exact Shares.nilc | exact Shares.ref rfl (rowI.rnobox _ _) (rowI.rshare _ _)) Shares.aggNil)))))))) .nil)) rfl (by first | exact .inl rfl | exact .inr (sol_cons (rowGNode.solid _) sol_nil)) rfl (lb rfl))) (sats_opds (.cons rfl .nil) (sats_app (sats_fresh_all (by exact rfl)) (sats_app (sats_needs (by first | exact all_nil | exact all_cons rfl all_nil | exact all_cons rfl (all_cons rfl all_nil) | exact all_cons rfl (all_cons rfl (all_cons rfl all_nil)) | exact all_cons rfl (all_cons rfl (all_cons rfl (all_cons rfl all_nil))))) (sats_lives rfl)))) ?_
   refine st1 rfl (op_index_refN Tryz.underlying35 Tryz.sizeOf168 (lb rfl) (by first | omega | (rw [half_length (by omega)]; omega))) (so rfl (so rfl (sb rfl sn))) ?_
   refine st1 rfl (op_store_arrS (cs := GNode.cells true (l[k]'(by omega))) Tryz.sizeOf168 (by exact row_get (by first | omega | (rw [half_length (by omega)]; omega))) rfl (by (repeat' (first | exact Absorb.nil | apply Absorb.nilc | apply Absorb.c rfl | apply Absorb.ref)); all_goals rfl) (by rfl) rfl rfl rfl (by rfl)) (so rfl (so rfl (sb rfl (sats_objs (by first | exact all_nil | exact all_cons rfl all_nil | exact all_cons rfl (all_cons rfl all_nil) | exact all_cons rfl (all_cons rfl (all_cons rfl all_nil)) | exact all_cons rfl (all_cons rfl (all_cons rfl (all_cons rfl all_nil)))) (sats_lives rfl))))) ?_
   refine rg_nil_seq ?_
   refine kblk_normal (kseq_normal ?_)
   refine acode_region ?_
   refine mv (lb rfl) rfl ?_
   refine st1 rfl (op_add (lb rfl) (by omega)) (so rfl (so rfl sn)) ?_
   refine as_ (lb rfl) rfl ?_
   refine rg_nil_seq ?_
   refine klg_back (k + 1) ?bi ?bm ?bl
   case bi => omega
   case bm => omega
   case bl => exact le_stU idn (.cons rfl (by first | rfl | simp) (.cons rfl (by first | rfl | simp) (.cons rfl (by first | rfl | simp) (.nil)))) (.cons rfl (congrArg (Obj.arr 7) (half_store (by omega) rfl)) (.inl rfl) (.nil)) rfl
  ·
   simp only [dq] at hc0
   refine acode_exit ?_
   refine kseq_exit (klg_exit (kblk_hit (kseq_normal ?_)))
   refine sr ?_
   refine mv (lb rfl) rfl ?_
   refine as_ (lb rfl) rfl ?_
   refine nkt ?_
   exact fin_retL (res := [.c (.sl true 7 ((half GNode.zero l k).map (GNode.cells true)))]) (.cons (by first | exact .c rfl | exact .ref rfl rfl | exact .nilc rfl) .nil) (by rfl) (by rw [half_end (by omega)] <;> rfl)

theorem c_toCasItem (x : GItem) : FnP Tryz.prog 176 [.row (GItem.cells false x)] [.row (GItem.cells true x)] := by
 refine fnp_intro (n := 14) (rvs := [.cell 2 137]) Tryz.func176 rfl rfl rfl (lb rfl) rfl ?_
 refine sr ?_
 refine st1 rfl (op_box rfl (lb rfl)) (so rfl (sf rfl (sats_lives rfl))) ?_
 refine st1 rfl (op_alloc Tryz.zeroValue137 rfl (lb rfl)) (sf rfl sn) ?_
 refine nk ?_
 refine sr ?_
 refine st1 rfl (op_alloc Tryz.zeroValue137 rfl (lb rfl)) (sf rfl sn) ?_
 refine nk ?_
 refine sr ?_
 refine fdb (off := 0) Tryz.underlying199 Tryz.sizeOf3 rfl rfl rfl (lb rfl) rfl rfl ?_
 refine ldb Tryz.isAgg3 rfl (lb rfl) rfl rfl ?_
 refine fdb (off := 0) Tryz.underlying137 Tryz.sizeOf3 rfl rfl rfl (lb rfl) rfl rfl ?_
 refine st1 rfl (op_store_bxS Tryz.sizeOf3 rfl rfl rfl rfl) (so rfl (so rfl (sb rfl (sats_lives rfl)))) ?_
 refine nk ?_
 refine sr ?_
 refine fdb (off := 1) Tryz.underlying199 Tryz.sizeOf3 rfl rfl rfl (lb rfl) rfl rfl ?_
 refine ldb Tryz.isAgg3 rfl (lb rfl) rfl rfl ?_
 refine fdb (off := 1) Tryz.underlying137 Tryz.sizeOf3 rfl rfl rfl (lb rfl) rfl rfl ?_
 refine st1 rfl (op_store_bxS Tryz.sizeOf3 rfl rfl rfl rfl) (so rfl (so rfl (sb rfl (sats_lives rfl)))) ?_
 refine nk ?_
 refine sr ?_
 refine fdb (off := 2) Tryz.underlying199 Tryz.sizeOf3 rfl rfl rfl (lb rfl) rfl rfl ?_
 refine ldb Tryz.isAgg3 rfl (lb rfl) rfl rfl ?_
 refine fdb (off := 2) Tryz.underlying137 Tryz.sizeOf3 rfl rfl rfl (lb rfl) rfl rfl ?_
 refine st1 rfl (op_store_bxS Tryz.sizeOf3 rfl rfl rfl rfl) (so rfl (so rfl (sb rfl (sats_lives rfl)))) ?_
 refine nk ?_
 refine sr ?_
 refine st1 rfl (op_load_bx_agg Tryz.isAgg137 Tryz.sizeOf137 rfl rfl (lb rfl)) (so rfl (sb rfl sn)) ?_
 refine st1 rfl (op_store_bxS Tryz.sizeOf137 rfl rfl rfl rfl) (so rfl (so rfl (sb rfl (sats_lives rfl)))) ?_
 refine nkt ?_
 exact fin_retL (res := [.row (GItem.cells true x)]) (.cons (.agg rfl rfl Tryz.isAgg137 Tryz.sizeOf137 rfl (by repeat' (first | exact Abs.nil | apply Abs.nilc | apply Abs.c rfl | apply Abs.ref rfl)) (by rfl)) .nil) (by rfl) (by rfl)

theorem c_toCasItemS (l : List GItem) (hl : l.length ≤ 1048576) : FnP Tryz.prog 103 [.c (.sl false 3 (l.map (GItem.cells false)))] [.c (.sl true 3 (l.map (GItem.cells true)))] := by
 refine fnp_intro (n := 23) (rvs := [.tmp 2]) Tryz.func103 rfl rfl rfl (lb rfl) rfl ?_
 refine sr ?_
 refine as_ (lb rfl) rfl ?_
 refine nk ?_
 refine sr ?_
 refine mv (lb rfl) rfl ?_
 refine st1 rfl (op_len_sh Tryz.underlying67 (lb rfl)) (so rfl sn) ?_
 refine st1 rfl (op_makeSlice (elem73) (zero73) (zr := (GItem.cells true) GItem.zero) (by repeat' (first | exact Zeros.nil | refine Zeros.sl ?_ | refine Zeros.lit ?_)) (by omega) (by exact makeB (lb rfl) (by omega) (by omega)) (by omega) (lb rfl)) (so rfl (so rfl (sf rfl sn))) ?_
 refine as_ (lb rfl) rfl ?_
 refine nk ?_
 refine acode_seq ?_
 refine sr ?_
 refine as_ (lb rfl) rfl ?_
 refine nk ?_
 refine acode_block ?_
 refine acode_loopk (xs := [0]) (ys := []) (S := Nat) (fun s => [(4, aInt (s : Int)), (3, .ref 7 [])]) (fun s => [(7, .arr 3 ((half GItem.zero l s).map (GItem.cells true)))]) (fun s => s ≤ l.length) (fun s => l.length - s) 0 (.cons rfl .nil) .nil ?em ?eo rfl ?ei ?round
 case em => exact .cons rfl (by first | rfl | simp) (.cons rfl (by first | rfl | simp) (.nil))
 case eo => exact .cons rfl (congrArg (Obj.arr 3) (half_make (f := (GItem.cells true)) (z := GItem.zero))) (.nil)
 case ei => exact Nat.zero_le _
 case round =>
  rintro k h2
  refine acode_seq ?_
  refine sr ?_
  refine mv (lb rfl) rfl ?_
  refine mv (lb rfl) rfl ?_
  refine st1 rfl (op_len_sh Tryz.underlying67 (lb rfl)) (so rfl sn) ?_
  refine st1 rfl (op_lss (lb rfl)) (so rfl (so rfl sn)) ?_
  refine nk ?_
  refine acode_cond rfl (fun hc0 => ?_) (fun hc0 => ?_)
  ·
   simp only [dq] at hc0
   refine pk ?_
   refine acode_seq ?_
   refine acode_block ?_
   refine acode_region ?_
   refine mv (lb rfl) rfl ?_
   refine mv (lb rfl) rfl ?_
   refine mv (lb rfl) rfl ?_
   refine mv (lb rfl) rfl ?_
   refine st1 rfl (op_index_shN Tryz.underlying67 Tryz.sizeOf199 (lb rfl) (by first | omega | (rw [half_length (by omega)]; omega))) (so rfl (so rfl sn)) ?_
   refine st1 rfl (op_load_pts_all Tryz.isAgg199 Tryz.sizeOf199 rfl (lb rfl)) (so rfl sn) ?_
   refine st1 rfl ((op_call Tryz.func176 rfl rfl (c_toCasItem (l[k]'(by omega))) (by exact (.cons (by first | exact Shares.row rfl | exact (Shares.aggCons (by first | exact Shares.c rfl) (Shares.aggCons (by first | exact Shares.c rfl) (Shares.aggCons (by first | exact Shares.c rfl) Shares.aggNil)))) .nil)) rfl (by first | exact .inl rfl | exact .inr (sol_cons (rowGItem.solid _) sol_nil)) rfl (lb rfl))) (sats_opds (.cons rfl .nil) (sats_app (sats_fresh_all (by exact rfl)) (sats_app (sats_needs (by first | exact all_nil | exact all_cons rfl all_nil | exact all_cons rfl (all_cons rfl all_nil) | exact all_cons rfl (all_cons rfl (all_cons rfl all_nil)) | exact all_cons rfl (all_cons rfl (all_cons rfl (all_cons rfl all_nil))))) (sats_lives rfl)))) ?_
   refine st1 rfl (op_index_refN Tryz.underlying73 Tryz.sizeOf137 (lb rfl) (by first | omega | (rw [half_length (by omega)]; omega))) (so rfl (so rfl (sb rfl sn))) ?_
   refine st1 rfl (op_store_arrS (cs := GItem.cells true (l[k]'(by omega))) Tryz.sizeOf137 (by exact row_get (by first | omega | (rw [half_length (by omega)]; omega))) rfl (by (repeat' (first | exact Absorb.nil | apply Absorb.nilc | apply Absorb.c rfl | apply Absorb.ref)); all_goals rfl) (by rfl) rfl rfl rfl (by rfl)) (so rfl (so rfl (sb rfl (sats_objs (by first | exact all_nil | exact all_cons rfl all_nil | exact all_cons rfl (all_cons rfl all_nil) | exact all_cons rfl (all_cons rfl (all_cons rfl all_nil)) | exact all_cons rfl (all_cons rfl (all_cons rfl (all_cons rfl all_nil)))) (sats_lives rfl))))) ?_
   refine rg_nil_seq ?_
   refine kblk_normal (kseq_normal ?_)
   refine acode_region ?_
   refine mv (lb rfl) rfl ?_
   refine st1 rfl (op_add (lb rfl) (by omega)) (so rfl (so rfl sn)) ?_
   refine as_ (lb rfl) rfl ?_
   refine rg_nil_seq ?_
   refine klg_back (k + 1) ?bi ?bm ?bl
   case bi => omega
   case bm => omega
   case bl => exact le_stU idn (.cons rfl (by first | rfl | simp) (.cons rfl (by first | rfl | simp) (.cons rfl (by first | rfl | simp) (.nil)))) (.cons rfl (congrArg (Obj.arr 3) (half_store (by omega) rfl)) (.inl rfl) (.nil)) rfl
  ·
   simp only [dq] at hc0
   refine acode_exit ?_
   refine kseq_exit (klg_exit (kblk_hit (kseq_normal ?_)))
   refine sr ?_
   refine mv (lb rfl) rfl ?_
   refine as_ (lb rfl) rfl ?_
   refine nkt ?_
   exact fin_retL (res := [.c (.sl true 3 ((half GItem.zero l k).map (GItem.cells true)))]) (.cons (by first | exact .c rfl | exact .ref rfl rfl | exact .nilc rfl) .nil) (by rfl) (by rw [half_end (by omega)] <;> rfl)

theorem c_toCasDid (x : GDid) : FnP Tryz.prog 177 [.row (GDid.cells false x)] [.row (GDid.cells true x)] := by
 refine fnp_intro (n := 11) (rvs := [.cell 2 154]) Tryz.func177 rfl rfl rfl (lb rfl) rfl ?_
 refine sr ?_
 refine st1 rfl (op_box rfl (lb rfl)) (so rfl (sf rfl (sats_lives rfl))) ?_
 refine st1 rfl (op_alloc Tryz.zeroValue154 rfl (lb rfl)) (sf rfl sn) ?_
 refine nk ?_
 refine sr ?_
 refine st1 rfl (op_alloc Tryz.zeroValue154 rfl (lb rfl)) (sf rfl sn) ?_
 refine nk ?_
 refine sr ?_
 refine fdb (off := 0) Tryz.underlying201 Tryz.sizeOf3 rfl rfl rfl (lb rfl) rfl rfl ?_
 refine ldb Tryz.isAgg3 rfl (lb rfl) rfl rfl ?_
 refine fdb (off := 0) Tryz.underlying154 Tryz.sizeOf3 rfl rfl rfl (lb rfl) rfl rfl ?_
 refine st1 rfl (op_store_bxS Tryz.sizeOf3 rfl rfl rfl rfl) (so rfl (so rfl (sb rfl (sats_lives rfl)))) ?_
 refine nk ?_
 refine sr ?_
 refine fdb (off := 1) Tryz.underlying201 Tryz.sizeOf3 rfl rfl rfl (lb rfl) rfl rfl ?_
 refine ldb Tryz.isAgg3 rfl (lb rfl) rfl rfl ?_
 refine fdb (off := 1) Tryz.underlying154 Tryz.sizeOf3 rfl rfl rfl (lb rfl) rfl rfl ?_
 refine st1 rfl (op_store_bxS Tryz.sizeOf3 rfl rfl rfl rfl) (so rfl (so rfl (sb rfl (sats_lives rfl)))) ?_
 refine nk ?_
 refine sr ?_
 refine st1 rfl (op_load_bx_agg Tryz.isAgg154 Tryz.sizeOf154 rfl rfl (lb rfl)) (so rfl (sb rfl sn)) ?_
 refine st1 rfl (op_store_bxS Tryz.sizeOf154 rfl rfl rfl rfl) (so rfl (so rfl (sb rfl (sats_lives rfl)))) ?_
 refine nkt ?_
 exact fin_retL (res := [.row (GDid.cells true x)]) (.cons (.agg rfl rfl Tryz.isAgg154 Tryz.sizeOf154 rfl (by repeat' (first | exact Abs.nil | apply Abs.nilc | apply Abs.c rfl | apply Abs.ref rfl)) (by rfl)) .nil) (by rfl) (by rfl)

theorem c_toCasDidS (l : List GDid) (hl : l.length ≤ 1048576) : FnP Tryz.prog 104 [.c (.sl false 2 (l.map (GDid.cells false)))] [.c (.sl true 2 (l.map (GDid.cells true)))] := by
 refine fnp_intro (n := 23) (rvs := [.tmp 2]) Tryz.func104 rfl rfl rfl (lb rfl) rfl ?_
 refine sr ?_
 refine as_ (lb rfl) rfl ?_
 refine nk ?_
 refine sr ?_
 refine mv (lb rfl) rfl ?_
 refine st1 rfl (op_len_sh Tryz.underlying68 (lb rfl)) (so rfl sn) ?_
 refine st1 rfl (op_makeSlice (elem74) (zero74) (zr := (GDid.cells true) GDid.zero) (by repeat' (first | exact Zeros.nil | refine Zeros.sl ?_ | refine Zeros.lit ?_)) (by omega) (by exact makeB (lb rfl) (by omega) (by omega)) (by omega) (lb rfl)) (so rfl (so rfl (sf rfl sn))) ?_
 refine as_ (lb rfl) rfl ?_
 refine nk ?_
 refine acode_seq ?_
 refine sr ?_
 refine as_ (lb rfl) rfl ?_
 refine nk ?_
 refine acode_block ?_
 refine acode_loopk (xs := [0]) (ys := []) (S := Nat) (fun s => [(4, aInt (s : Int)), (3, .ref 7 [])]) (fun s => [(7, .arr 2 ((half GDid.zero l s).map (GDid.cells true)))]) (fun s => s ≤ l.length) (fun s => l.length - s) 0 (.cons rfl .nil) .nil ?em ?eo rfl ?ei ?round
 case em => exact .cons rfl (by first | rfl | simp) (.cons rfl (by first | rfl | simp) (.nil))
 case eo => exact .cons rfl (congrArg (Obj.arr 2) (half_make (f := (GDid.cells true)) (z := GDid.zero))) (.nil)
 case ei => exact Nat.zero_le _
 case round =>
  rintro k h2
  refine acode_seq ?_
  refine sr ?_
  refine mv (lb rfl) rfl ?_
  refine mv (lb rfl) rfl ?_
  refine st1 rfl (op_len_sh Tryz.underlying68 (lb rfl)) (so rfl sn) ?_
  refine st1 rfl (op_lss (lb rfl)) (so rfl (so rfl sn)) ?_
  refine nk ?_
  refine acode_cond rfl (fun hc0 => ?_) (fun hc0 => ?_)
  ·
   simp only [dq] at hc0
   refine pk ?_
   refine acode_seq ?_
   refine acode_block ?_
   refine acode_region ?_
   refine mv (lb rfl) rfl ?_
   refine mv (lb rfl) rfl ?_
   refine mv (lb rfl) rfl ?_
   refine mv (lb rfl) rfl ?_
   refine st1 rfl (op_index_shN Tryz.underlying68 Tryz.sizeOf201 (lb rfl) (by first | omega | (rw [half_length (by omega)]; omega))) (so rfl (so rfl sn)) ?_
   refine st1 rfl (op_load_pts_all Tryz.isAgg201 Tryz.sizeOf201 rfl (lb rfl)) (so rfl sn) ?_
   refine st1 rfl ((op_call Tryz.func177 rfl rfl (c_toCasDid (l[k]'(by omega))) (by exact (.cons (by first | exact Shares.row rfl | exact (Shares.aggCons (by first | exact Shares.c rfl) (Shares.aggCons (by first | exact Shares.c rfl) Shares.aggNil))) .nil)) rfl (by first | exact .inl rfl | exact .inr (sol_cons (rowGDid.solid _) sol_nil)) rfl (lb rfl))) (sats_opds (.cons rfl .nil) (sats_app (sats_fresh_all (by exact rfl)) (sats_app (sats_needs (by first | exact all_nil | exact all_cons rfl all_nil | exact all_cons rfl (all_cons rfl all_nil) | exact all_cons rfl (all_cons rfl (all_cons rfl all_nil)) | exact all_cons rfl (all_cons rfl (all_cons rfl (all_cons rfl all_nil))))) (sats_lives rfl)))) ?_
   refine st1 rfl (op_index_refN Tryz.underlying74 Tryz.sizeOf154 (lb rfl) (by first | omega | (rw [half_length (by omega)]; omega))) (so rfl (so rfl (sb rfl sn))) ?_
   refine st1 rfl (op_store_arrS (cs := GDid.cells true (l[k]'(by omega))) Tryz.sizeOf154 (by exact row_get (by first | omega | (rw [half_length (by omega)]; omega))) rfl (by (repeat' (first | exact Absorb.nil | apply Absorb.nilc | apply Absorb.c rfl | apply Absorb.ref)); all_goals rfl) (by rfl) rfl rfl rfl (by rfl)) (so rfl (so rfl (sb rfl (sats_objs (by first | exact all_nil | exact all_cons rfl all_nil | exact all_cons rfl (all_cons rfl all_nil) | exact all_cons rfl (all_cons rfl (all_cons rfl all_nil)) | exact all_cons rfl (all_cons rfl (all_cons rfl (all_cons rfl all_nil)))) (sats_lives rfl))))) ?_
   refine rg_nil_seq ?_
   refine kblk_normal (kseq_normal ?_)
   refine acode_region ?_
   refine mv (lb rfl) rfl ?_
   refine st1 rfl (op_add (lb rfl) (by omega)) (so rfl (so rfl sn)) ?_
   refine as_ (lb rfl) rfl ?_
   refine rg_nil_seq ?_
   refine klg_back (k + 1) ?bi ?bm ?bl
   case bi => omega
   case bm => omega
   case bl => exact le_stU idn (.cons rfl (by first | rfl | simp) (.cons rfl (by first | rfl | simp) (.cons rfl (by first | rfl | simp) (.nil)))) (.cons rfl (congrArg (Obj.arr 2) (half_store (by omega) rfl)) (.inl rfl) (.nil)) rfl
  ·
   simp only [dq] at hc0
   refine acode_exit ?_
   refine kseq_exit (klg_exit (kblk_hit (kseq_normal ?_)))
   refine sr ?_
   refine mv (lb rfl) rfl ?_
   refine as_ (lb rfl) rfl ?_
   refine nkt ?_
   exact fin_retL (res := [.c (.sl true 2 ((half GDid.zero l k).map (GDid.cells true)))]) (.cons (by first | exact .c rfl | exact .ref rfl rfl | exact .nilc rfl) .nil) (by rfl) (by rw [half_end (by omega)] <;> rfl)

theorem c_toCasCase (x : GCase) (hx : GCase.lens (· ≤ 1048576) x) : FnP Tryz.prog 38 [.row (GCase.cells false x)] [.row (GCase.cells true x)] := by
 refine fnp_intro (n := 24) (rvs := [.cell 2 76]) Tryz.func38 rfl rfl rfl (lb rfl) rfl ?_
 refine sr ?_
 refine st1 rfl (op_box rfl (lb rfl)) (so rfl (sf rfl (sats_lives rfl))) ?_
 refine st1 rfl (op_alloc Tryz.zeroValue76 rfl (lb rfl)) (sf rfl sn) ?_
 refine nk ?_
 refine sr ?_
 refine st1 rfl (op_alloc Tryz.zeroValue76 rfl (lb rfl)) (sf rfl sn) ?_
 refine nk ?_
 refine sr ?_
 refine fdb (off := 0) Tryz.underlying70 Tryz.sizeOf3 rfl rfl rfl (lb rfl) rfl rfl ?_
 refine ldb Tryz.isAgg3 rfl (lb rfl) rfl rfl ?_
 refine fdb (off := 0) Tryz.underlying76 Tryz.sizeOf3 rfl rfl rfl (lb rfl) rfl rfl ?_
 refine st1 rfl (op_store_bxS Tryz.sizeOf3 rfl rfl rfl rfl) (so rfl (so rfl (sb rfl (sats_lives rfl)))) ?_
 refine nk ?_
 refine sr ?_
 refine fdb (off := 1) Tryz.underlying70 Tryz.sizeOf23 rfl rfl rfl (lb rfl) rfl rfl ?_
 refine ldb Tryz.isAgg23 rfl (lb rfl) rfl rfl ?_
 refine st1 rfl ((op_call Tryz.func37 rfl rfl (c_toIntS x.marks hx.1) (by exact (.cons (by first | exact Shares.c rfl | exact Shares.nilc | exact Shares.ref rfl (rowI.rnobox _ _) (rowI.rshare _ _)) .nil)) rfl (by first | exact .inl rfl | exact .inr (sol_cons (sl_solid rowI _) sol_nil)) rfl (lb rfl))) (sats_opds (.cons rfl .nil) (sats_app (sats_fresh_all (by exact rfl)) (sats_app (sats_needs (by first | exact all_nil | exact all_cons rfl all_nil | exact all_cons rfl (all_cons rfl all_nil) | exact all_cons rfl (all_cons rfl (all_cons rfl all_nil)) | exact all_cons rfl (all_cons rfl (all_cons rfl (all_cons rfl all_nil))))) (sats_lives rfl)))) ?_
 refine fdb (off := 1) Tryz.underlying76 Tryz.sizeOf23 rfl rfl rfl (lb rfl) rfl rfl ?_
 refine st1 rfl (op_store_bxS Tryz.sizeOf23 rfl rfl rfl rfl) (so rfl (so rfl (sb rfl (sats_lives rfl)))) ?_
 refine nk ?_
 refine sr ?_
 refine fdb (off := 2) Tryz.underlying70 Tryz.sizeOf67 rfl rfl rfl (lb rfl) rfl rfl ?_
 refine ldb Tryz.isAgg67 rfl (lb rfl) rfl rfl ?_
 refine st1 rfl ((op_call Tryz.func103 rfl rfl (c_toCasItemS x.busy hx.2.1) (by exact (.cons (by first | exact Shares.c rfl | exact Shares.nilc | exact Shares.ref rfl (rowGItem.rnobox _ _) (rowGItem.rshare _ _)) .nil)) rfl (by first | exact .inl rfl | exact .inr (sol_cons (sl_solid rowGItem _) sol_nil)) rfl (lb rfl))) (sats_opds (.cons rfl .nil) (sats_app (sats_fresh_all (by exact rfl)) (sats_app (sats_needs (by first | exact all_nil | exact all_cons rfl all_nil | exact all_cons rfl (all_cons rfl all_nil) | exact all_cons rfl (all_cons rfl (all_cons rfl all_nil)) | exact all_cons rfl (all_cons rfl (all_cons rfl (all_cons rfl all_nil))))) (sats_lives rfl)))) ?_
 refine fdb (off := 2) Tryz.underlying76 Tryz.sizeOf73 rfl rfl rfl (lb rfl) rfl rfl ?_
 refine st1 rfl (op_store_bxS Tryz.sizeOf73 rfl rfl rfl rfl) (so rfl (so rfl (sb rfl (sats_lives rfl)))) ?_
 refine nk ?_
 refine sr ?_
 refine fdb (off := 3) Tryz.underlying70 Tryz.sizeOf23 rfl rfl rfl (lb rfl) rfl rfl ?_
 refine ldb Tryz.isAgg23 rfl (lb rfl) rfl rfl ?_
 refine st1 rfl ((op_call Tryz.func37 rfl rfl (c_toIntS x.data hx.2.2.1) (by exact (.cons (by first | exact Shares.c rfl | exact Shares.nilc | exact Shares.ref rfl (rowI.rnobox _ _) (rowI.rshare _ _)) .nil)) rfl (by first | exact .inl rfl | exact .inr (sol_cons (sl_solid rowI _) sol_nil)) rfl (lb rfl))) (sats_opds (.cons rfl .nil) (sats_app (sats_fresh_all (by exact rfl)) (sats_app (sats_needs (by first | exact all_nil | exact all_cons rfl all_nil | exact all_cons rfl (all_cons rfl all_nil) | exact all_cons rfl (all_cons rfl (all_cons rfl all_nil)) | exact all_cons rfl (all_cons rfl (all_cons rfl (all_cons rfl all_nil))))) (sats_lives rfl)))) ?_
 refine fdb (off := 3) Tryz.underlying76 Tryz.sizeOf23 rfl rfl rfl (lb rfl) rfl rfl ?_
 refine st1 rfl (op_store_bxS Tryz.sizeOf23 rfl rfl rfl rfl) (so rfl (so rfl (sb rfl (sats_lives rfl)))) ?_
 refine nk ?_
 refine sr ?_
 refine fdb (off := 4) Tryz.underlying70 Tryz.sizeOf68 rfl rfl rfl (lb rfl) rfl rfl ?_
 refine ldb Tryz.isAgg68 rfl (lb rfl) rfl rfl ?_
 refine st1 rfl ((op_call Tryz.func104 rfl rfl (c_toCasDidS x.did hx.2.2.2) (by exact (.cons (by first | exact Shares.c rfl | exact Shares.nilc | exact Shares.ref rfl (rowGDid.rnobox _ _) (rowGDid.rshare _ _)) .nil)) rfl (by first | exact .inl rfl | exact .inr (sol_cons (sl_solid rowGDid _) sol_nil)) rfl (lb rfl))) (sats_opds (.cons rfl .nil) (sats_app (sats_fresh_all (by exact rfl)) (sats_app (sats_needs (by first | exact all_nil | exact all_cons rfl all_nil | exact all_cons rfl (all_cons rfl all_nil) | exact all_cons rfl (all_cons rfl (all_cons rfl all_nil)) | exact all_cons rfl (all_cons rfl (all_cons rfl (all_cons rfl all_nil))))) (sats_lives rfl)))) ?_
 refine fdb (off := 4) Tryz.underlying76 Tryz.sizeOf74 rfl rfl rfl (lb rfl) rfl rfl ?_
 refine st1 rfl (op_store_bxS Tryz.sizeOf74 rfl rfl rfl rfl) (so rfl (so rfl (sb rfl (sats_lives rfl)))) ?_
 refine nk ?_
 refine sr ?_
 refine st1 rfl (op_load_bx_agg Tryz.isAgg76 Tryz.sizeOf76 rfl rfl (lb rfl)) (so rfl (sb rfl sn)) ?_
 refine st1 rfl (op_store_bxS Tryz.sizeOf76 rfl rfl rfl rfl) (so rfl (so rfl (sb rfl (sats_lives rfl)))) ?_
 refine nkt ?_
 exact fin_retL (res := [.row (GCase.cells true x)]) (.cons (.agg rfl rfl Tryz.isAgg76 Tryz.sizeOf76 rfl (by repeat' (first | exact Abs.nil | apply Abs.nilc | apply Abs.c rfl | apply Abs.ref rfl)) (by rfl)) .nil) (by rfl) (by rfl)

theorem c_toEngRun (x : GRun) (hx : GRun.lens (· ≤ 1048576) x) : FnP Tryz.prog 136 [.row (GRun.cells false x)] [.row (GRun.cells true x)] := by
 refine fnp_intro (n := 12) (rvs := [.cell 2 124]) Tryz.func136 rfl rfl rfl (lb rfl) rfl ?_
 refine sr ?_
 refine st1 rfl (op_box rfl (lb rfl)) (so rfl (sf rfl (sats_lives rfl))) ?_
 refine st1 rfl (op_alloc Tryz.zeroValue124 rfl (lb rfl)) (sf rfl sn) ?_
 refine nk ?_
 refine sr ?_
 refine st1 rfl (op_alloc Tryz.zeroValue124 rfl (lb rfl)) (sf rfl sn) ?_
 refine nk ?_
 refine sr ?_
 refine fdb (off := 0) Tryz.underlying160 Tryz.sizeOf3 rfl rfl rfl (lb rfl) rfl rfl ?_
 refine ldb Tryz.isAgg3 rfl (lb rfl) rfl rfl ?_
 refine fdb (off := 0) Tryz.underlying124 Tryz.sizeOf3 rfl rfl rfl (lb rfl) rfl rfl ?_
 refine st1 rfl (op_store_bxS Tryz.sizeOf3 rfl rfl rfl rfl) (so rfl (so rfl (sb rfl (sats_lives rfl)))) ?_
 refine nk ?_
 refine sr ?_
 refine fdb (off := 1) Tryz.underlying160 Tryz.sizeOf70 rfl rfl rfl (lb rfl) rfl rfl ?_
 refine st1 rfl (op_load_bx_row Tryz.isAgg70 Tryz.sizeOf70 rfl rfl (lb rfl)) (so rfl (sb rfl sn)) ?_
 refine st1 rfl ((op_call Tryz.func38 rfl rfl (c_toCasCase x.case hx) (by exact (.cons (by first | exact Shares.row rfl | exact (Shares.aggCons (by first | exact Shares.c rfl) (Shares.aggCons (by first | exact Shares.c rfl | exact Shares.nilc | exact Shares.ref rfl (rowI.rnobox _ _) (rowI.rshare _ _)) (Shares.aggCons (by first | exact Shares.c rfl | exact Shares.nilc | exact Shares.ref rfl (rowGItem.rnobox _ _) (rowGItem.rshare _ _)) (Shares.aggCons (by first | exact Shares.c rfl | exact Shares.nilc | exact Shares.ref rfl (rowI.rnobox _ _) (rowI.rshare _ _)) (Shares.aggCons (by first | exact Shares.c rfl | exact Shares.nilc | exact Shares.ref rfl (rowGDid.rnobox _ _) (rowGDid.rshare _ _)) Shares.aggNil)))))) .nil)) rfl (by first | exact .inl rfl | exact .inr (sol_cons (rowGCase.solid _) sol_nil)) rfl (lb rfl))) (sats_opds (.cons rfl .nil) (sats_app (sats_fresh_all (by exact rfl)) (sats_app (sats_needs (by first | exact all_nil | exact all_cons rfl all_nil | exact all_cons rfl (all_cons rfl all_nil) | exact all_cons rfl (all_cons rfl (all_cons rfl all_nil)) | exact all_cons rfl (all_cons rfl (all_cons rfl (all_cons rfl all_nil))))) (sats_lives rfl)))) ?_
 refine fdb (off := 1) Tryz.underlying124 Tryz.sizeOf76 rfl rfl rfl (lb rfl) rfl rfl ?_
 refine st1 rfl (op_store_bxS Tryz.sizeOf76 rfl rfl rfl rfl) (so rfl (so rfl (sb rfl (sats_lives rfl)))) ?_
 refine nk ?_
 refine sr ?_
 refine st1 rfl (op_load_bx_agg Tryz.isAgg124 Tryz.sizeOf124 rfl rfl (lb rfl)) (so rfl (sb rfl sn)) ?_
 refine st1 rfl (op_store_bxS Tryz.sizeOf124 rfl rfl rfl rfl) (so rfl (so rfl (sb rfl (sats_lives rfl)))) ?_
 refine nkt ?_
 exact fin_retL (res := [.row (GRun.cells true x)]) (.cons (.agg rfl rfl Tryz.isAgg124 Tryz.sizeOf124 rfl (by repeat' (first | exact Abs.nil | apply Abs.nilc | apply Abs.c rfl | apply Abs.ref rfl)) (by rfl)) .nil) (by rfl) (by rfl)

theorem c_toEngRunS (l : List GRun) (hl : l.length ≤ 1048576) (hls : ∀ y ∈ l, GRun.lens (· ≤ 1048576) y) : FnP Tryz.prog 64 [.c (.sl false 6 (l.map (GRun.cells false)))] [.c (.sl true 6 (l.map (GRun.cells true)))] := by
 refine fnp_intro (n := 23) (rvs := [.tmp 2]) Tryz.func64 rfl rfl rfl (lb rfl) rfl ?_
 refine sr ?_
 refine as_ (lb rfl) rfl ?_
 refine nk ?_
 refine sr ?_
 refine mv (lb rfl) rfl ?_
 refine st1 rfl (op_len_sh Tryz.underlying25 (lb rfl)) (so rfl sn) ?_
 refine st1 rfl (op_makeSlice (elem36) (zero36) (zr := (GRun.cells true) GRun.zero) (by repeat' (first | exact Zeros.nil | refine Zeros.sl ?_ | refine Zeros.lit ?_)) (by omega) (by exact makeB (lb rfl) (by omega) (by omega)) (by omega) (lb rfl)) (so rfl (so rfl (sf rfl sn))) ?_
 refine as_ (lb rfl) rfl ?_
 refine nk ?_
 refine acode_seq ?_
 refine sr ?_
 refine as_ (lb rfl) rfl ?_
 refine nk ?_
 refine acode_block ?_
 refine acode_loopk (xs := [0]) (ys := []) (S := Nat) (fun s => [(4, aInt (s : Int)), (3, .ref 7 [])]) (fun s => [(7, .arr 6 ((half GRun.zero l s).map (GRun.cells true)))]) (fun s => s ≤ l.length) (fun s => l.length - s) 0 (.cons rfl .nil) .nil ?em ?eo rfl ?ei ?round
 case em => exact .cons rfl (by first | rfl | simp) (.cons rfl (by first | rfl | simp) (.nil))
 case eo => exact .cons rfl (congrArg (Obj.arr 6) (half_make (f := (GRun.cells true)) (z := GRun.zero))) (.nil)
 case ei => exact Nat.zero_le _
 case round =>
  rintro k h2
  refine acode_seq ?_
  refine sr ?_
  refine mv (lb rfl) rfl ?_
  refine mv (lb rfl) rfl ?_
  refine st1 rfl (op_len_sh Tryz.underlying25 (lb rfl)) (so rfl sn) ?_
  refine st1 rfl (op_lss (lb rfl)) (so rfl (so rfl sn)) ?_
  refine nk ?_
  refine acode_cond rfl (fun hc0 => ?_) (fun hc0 => ?_)
  ·
   simp only [dq] at hc0
   refine pk ?_
   refine acode_seq ?_
   refine acode_block ?_
   refine acode_region ?_
   refine mv (lb rfl) rfl ?_
   refine mv (lb rfl) rfl ?_
   refine mv (lb rfl) rfl ?_
   refine mv (lb rfl) rfl ?_
   refine st1 rfl (op_index_shN Tryz.underlying25 Tryz.sizeOf160 (lb rfl) (by first | omega | (rw [half_length (by omega)]; omega))) (so rfl (so rfl sn)) ?_
   refine st1 rfl (op_load_pts_all Tryz.isAgg160 Tryz.sizeOf160 rfl (lb rfl)) (so rfl sn) ?_
   refine st1 rfl ((op_call Tryz.func136 rfl rfl (c_toEngRun (l[k]'(by omega)) (hls _ (List.getElem_mem _))) (by exact (.cons (by first | exact Shares.row rfl | exact (Shares.aggCons (by first | exact Shares.c rfl) (Shares.aggCons (by first | exact Shares.c rfl) (Shares.aggCons (by first | exact Shares.c rfl | exact Shares.nilc | exact Shares.ref rfl (rowI.rnobox _ _) (rowI.rshare _ _)) (Shares.aggCons (by first | exact Shares.c rfl | exact Shares.nilc | exact Shares.ref rfl (rowGItem.rnobox _ _) (rowGItem.rshare _ _)) (Shares.aggCons (by first | exact Shares.c rfl | exact Shares.nilc | exact Shares.ref rfl (rowI.rnobox _ _) (rowI.rshare _ _)) (Shares.aggCons (by first | exact Shares.c rfl | exact Shares.nilc | exact Shares.ref rfl (rowGDid.rnobox _ _) (rowGDid.rshare _ _)) Shares.aggNil))))))) .nil)) rfl (by first | exact .inl rfl | exact .inr (sol_cons (rowGRun.solid _) sol_nil)) rfl (lb rfl))) (sats_opds (.cons rfl .nil) (sats_app (sats_fresh_all (by exact rfl)) (sats_app (sats_needs (by first | exact all_nil | exact all_cons rfl all_nil | exact all_cons rfl (all_cons rfl all_nil) | exact all_cons rfl (all_cons rfl (all_cons rfl all_nil)) | exact all_cons rfl (all_cons rfl (all_cons rfl (all_cons rfl all_nil))))) (sats_lives rfl)))) ?_
   refine st1 rfl (op_index_refN Tryz.underlying36 Tryz.sizeOf124 (lb rfl) (by first | omega | (rw [half_length (by omega)]; omega))) (so rfl (so rfl (sb rfl sn))) ?_
   refine st1 rfl (op_store_arrS (cs := GRun.cells true (l[k]'(by omega))) Tryz.sizeOf124 (by exact row_get (by first | omega | (rw [half_length (by omega)]; omega))) rfl (by (repeat' (first | exact Absorb.nil | apply Absorb.nilc | apply Absorb.c rfl | apply Absorb.ref)); all_goals rfl) (by rfl) rfl rfl rfl (by rfl)) (so rfl (so rfl (sb rfl (sats_objs (by first | exact all_nil | exact all_cons rfl all_nil | exact all_cons rfl (all_cons rfl all_nil) | exact all_cons rfl (all_cons rfl (all_cons rfl all_nil)) | exact all_cons rfl (all_cons rfl (all_cons rfl (all_cons rfl all_nil)))) (sats_lives rfl))))) ?_
   refine rg_nil_seq ?_
   refine kblk_normal (kseq_normal ?_)
   refine acode_region ?_
   refine mv (lb rfl) rfl ?_
   refine st1 rfl (op_add (lb rfl) (by omega)) (so rfl (so rfl sn)) ?_
   refine as_ (lb rfl) rfl ?_
   refine rg_nil_seq ?_
   refine klg_back (k + 1) ?bi ?bm ?bl
   case bi => omega
   case bm => omega
   case bl => exact le_stU idn (.cons rfl (by first | rfl | simp) (.cons rfl (by first | rfl | simp) (.cons rfl (by first | rfl | simp) (.nil)))) (.cons rfl (congrArg (Obj.arr 6) (half_store (by omega) rfl)) (.inl rfl) (.nil)) rfl
  ·
   simp only [dq] at hc0
   refine acode_exit ?_
   refine kseq_exit (klg_exit (kblk_hit (kseq_normal ?_)))
   refine sr ?_
   refine mv (lb rfl) rfl ?_
   refine as_ (lb rfl) rfl ?_
   refine nkt ?_
   exact fin_retL (res := [.c (.sl true 6 ((half GRun.zero l k).map (GRun.cells true)))]) (.cons (by first | exact .c rfl | exact .ref rfl rfl | exact .nilc rfl) .nil) (by rfl) (by rw [half_end (by omega)] <;> rfl)

theorem c_toEngHouse (x : GHouse) (hx : GHouse.lens (· ≤ 1048576) x) : FnP Tryz.prog 14 [.row (GHouse.cells false x)] [.row (GHouse.cells true x)] := by
 refine fnp_intro (n := 21) (rvs := [.cell 2 38]) Tryz.func14 rfl rfl rfl (lb rfl) rfl ?_
 refine sr ?_
 refine st1 rfl (op_box rfl (lb rfl)) (so rfl (sf rfl (sats_lives rfl))) ?_
 refine st1 rfl (op_alloc Tryz.zeroValue38 rfl (lb rfl)) (sf rfl sn) ?_
 refine nk ?_
 refine sr ?_
 refine st1 rfl (op_alloc Tryz.zeroValue38 rfl (lb rfl)) (sf rfl sn) ?_
 refine nk ?_
 refine sr ?_
 refine fdb (off := 0) Tryz.underlying27 Tryz.sizeOf22 rfl rfl rfl (lb rfl) rfl rfl ?_
 refine ldb Tryz.isAgg22 rfl (lb rfl) rfl rfl ?_
 refine st1 rfl ((op_call Tryz.func49 rfl rfl (c_toNetNetS x.nets hx.1.1 hx.1.2) (by exact (.cons (by first | exact Shares.c rfl | exact Shares.nilc | exact Shares.ref rfl (rowGNet.rnobox _ _) (rowGNet.rshare _ _)) .nil)) rfl (by first | exact .inl rfl | exact .inr (sol_cons (sl_solid rowGNet _) sol_nil)) rfl (lb rfl))) (sats_opds (.cons rfl .nil) (sats_app (sats_fresh_all (by exact rfl)) (sats_app (sats_needs (by first | exact all_nil | exact all_cons rfl all_nil | exact all_cons rfl (all_cons rfl all_nil) | exact all_cons rfl (all_cons rfl (all_cons rfl all_nil)) | exact all_cons rfl (all_cons rfl (all_cons rfl (all_cons rfl all_nil))))) (sats_lives rfl)))) ?_
 refine fdb (off := 0) Tryz.underlying38 Tryz.sizeOf34 rfl rfl rfl (lb rfl) rfl rfl ?_
 refine st1 rfl (op_store_bxS Tryz.sizeOf34 rfl rfl rfl rfl) (so rfl (so rfl (sb rfl (sats_lives rfl)))) ?_
 refine nk ?_
 refine sr ?_
 refine fdb (off := 1) Tryz.underlying27 Tryz.sizeOf23 rfl rfl rfl (lb rfl) rfl rfl ?_
 refine ldb Tryz.isAgg23 rfl (lb rfl) rfl rfl ?_
 refine st1 rfl ((op_call Tryz.func37 rfl rfl (c_toIntS x.people hx.2.1) (by exact (.cons (by first | exact Shares.c rfl | exact Shares.nilc | exact Shares.ref rfl (rowI.rnobox _ _) (rowI.rshare _ _)) .nil)) rfl (by first | exact .inl rfl | exact .inr (sol_cons (sl_solid rowI _) sol_nil)) rfl (lb rfl))) (sats_opds (.cons rfl .nil) (sats_app (sats_fresh_all (by exact rfl)) (sats_app (sats_needs (by first | exact all_nil | exact all_cons rfl all_nil | exact all_cons rfl (all_cons rfl all_nil) | exact all_cons rfl (all_cons rfl (all_cons rfl all_nil)) | exact all_cons rfl (all_cons rfl (all_cons rfl (all_cons rfl all_nil))))) (sats_lives rfl)))) ?_
 refine fdb (off := 1) Tryz.underlying38 Tryz.sizeOf23 rfl rfl rfl (lb rfl) rfl rfl ?_
 refine st1 rfl (op_store_bxS Tryz.sizeOf23 rfl rfl rfl rfl) (so rfl (so rfl (sb rfl (sats_lives rfl)))) ?_
 refine nk ?_
 refine sr ?_
 refine fdb (off := 2) Tryz.underlying27 Tryz.sizeOf24 rfl rfl rfl (lb rfl) rfl rfl ?_
 refine ldb Tryz.isAgg24 rfl (lb rfl) rfl rfl ?_
 refine st1 rfl ((op_call Tryz.func63 rfl rfl (c_toRdrNodeS x.tree hx.2.2.1.1 hx.2.2.1.2) (by exact (.cons (by first | exact Shares.c rfl | exact Shares.nilc | exact Shares.ref rfl (rowGNode.rnobox _ _) (rowGNode.rshare _ _)) .nil)) rfl (by first | exact .inl rfl | exact .inr (sol_cons (sl_solid rowGNode _) sol_nil)) rfl (lb rfl))) (sats_opds (.cons rfl .nil) (sats_app (sats_fresh_all (by exact rfl)) (sats_app (sats_needs (by first | exact all_nil | exact all_cons rfl all_nil | exact all_cons rfl (all_cons rfl all_nil) | exact all_cons rfl (all_cons rfl (all_cons rfl all_nil)) | exact all_cons rfl (all_cons rfl (all_cons rfl (all_cons rfl all_nil))))) (sats_lives rfl)))) ?_
 refine fdb (off := 2) Tryz.underlying38 Tryz.sizeOf35 rfl rfl rfl (lb rfl) rfl rfl ?_
 refine st1 rfl (op_store_bxS Tryz.sizeOf35 rfl rfl rfl rfl) (so rfl (so rfl (sb rfl (sats_lives rfl)))) ?_
 refine nk ?_
 refine sr ?_
 refine fdb (off := 3) Tryz.underlying27 Tryz.sizeOf25 rfl rfl rfl (lb rfl) rfl rfl ?_
 refine ldb Tryz.isAgg25 rfl (lb rfl) rfl rfl ?_
 refine st1 rfl ((op_call Tryz.func64 rfl rfl (c_toEngRunS x.runs hx.2.2.2.1 hx.2.2.2.2) (by exact (.cons (by first | exact Shares.c rfl | exact Shares.nilc | exact Shares.ref rfl (rowGRun.rnobox _ _) (rowGRun.rshare _ _)) .nil)) rfl (by first | exact .inl rfl | exact .inr (sol_cons (sl_solid rowGRun _) sol_nil)) rfl (lb rfl))) (sats_opds (.cons rfl .nil) (sats_app (sats_fresh_all (by exact rfl)) (sats_app (sats_needs (by first | exact all_nil | exact all_cons rfl all_nil | exact all_cons rfl (all_cons rfl all_nil) | exact all_cons rfl (all_cons rfl (all_cons rfl all_nil)) | exact all_cons rfl (all_cons rfl (all_cons rfl (all_cons rfl all_nil))))) (sats_lives rfl)))) ?_
 refine fdb (off := 3) Tryz.underlying38 Tryz.sizeOf36 rfl rfl rfl (lb rfl) rfl rfl ?_
 refine st1 rfl (op_store_bxS Tryz.sizeOf36 rfl rfl rfl rfl) (so rfl (so rfl (sb rfl (sats_lives rfl)))) ?_
 refine nk ?_
 refine sr ?_
 refine st1 rfl (op_load_bx_agg Tryz.isAgg38 Tryz.sizeOf38 rfl rfl (lb rfl)) (so rfl (sb rfl sn)) ?_
 refine st1 rfl (op_store_bxS Tryz.sizeOf38 rfl rfl rfl rfl) (so rfl (so rfl (sb rfl (sats_lives rfl)))) ?_
 refine nkt ?_
 exact fin_retL (res := [.row (GHouse.cells true x)]) (.cons (.agg rfl rfl Tryz.isAgg38 Tryz.sizeOf38 rfl (by repeat' (first | exact Abs.nil | apply Abs.nilc | apply Abs.c rfl | apply Abs.ref rfl)) (by rfl)) .nil) (by rfl) (by rfl)
end Go.Am
