/- The laws' own functions over data: how much there is. The step scripts are printed by gen.py. Own work. -/
import Derived.Test.YtcbpckbehdaloaaAmS
import Derived.Test.YtcbpckbehdaloaaAmV
set_option maxRecDepth 100000
set_option linter.unusedSimpArgs false
set_option linter.unusedVariables false
namespace Go.Am
open Go Go.Proofs

theorem c_szIntS (l : List Int) (left : Int) (h0 : 0 ≤ left) (h1 : left ≤ 1048576) (hl : l.length ≤ 9223372036854775807) : FnP Try.prog 59 [.c (cIs false l), .c (cI left)] [.c (cI (szR left l.length))] := by
 refine fnp_intro (n := 12) (rvs := [.tmp 4]) Try.func59 rfl rfl rfl (lb rfl) rfl ?_
 refine acode_seq ?_
 refine acode_region ?_
 refine st1 rfl (op_assign (lb rfl)) (so rfl sn) ?_
 refine rg_nil_seq ?_
 refine kseq_normal ?_
 refine acode_seq ?_
 refine acode_region ?_
 refine st1 rfl (op_move (lb rfl)) (so rfl sn) ?_
 refine st1 rfl (op_move (lb rfl)) (so rfl sn) ?_
 first
  | (refine st1 rfl (op_len_sh Try.underlying34 (lb rfl)) (so rfl sn) ?_)
  | (refine st1 rfl (op_len_refN Try.underlying34 (lb rfl)) (so rfl (sb rfl sn)) ?_)
  | (refine st1 rfl (op_len_nil Try.underlying34 (lb rfl)) (so rfl sn) ?_)
  | (refine st1 rfl (op_len Try.underlying34 (lb rfl)) (so rfl sn) ?_)
  | (refine st1 rfl (op_len_ref Try.underlying34 (lb rfl) rfl) (so rfl (sb rfl sn)) ?_)
 refine st1 rfl (op_sub (lb rfl) (by omega)) (so rfl (so rfl sn)) ?_
 refine st1 rfl (op_assign (lb rfl)) (so rfl sn) ?_
 refine rg_nil_seq ?_
 refine kseq_normal ?_
 refine acode_seq ?_
 refine acode_seq ?_
 refine acode_region ?_
 refine st1 rfl (op_move (lb rfl)) (so rfl sn) ?_
 refine st1 rfl (op_lss (lb rfl)) (so rfl (so rfl sn)) ?_
 refine rg_nil_seq ?_
 refine kseq_normal ?_
 refine acode_cond rfl (fun hc0 => ?_) (fun hc0 => ?_)
 ·
  simp only [decide_eq_true_eq, decide_eq_false_iff_not, Bool.not_eq_true', Bool.not_eq_false', Bool.not_not, Bool.not_true, Bool.not_false] at hc0
  refine acode_seq ?_
  refine acode_region ?_
  refine st1 rfl (op_assign (lb rfl)) (so rfl sn) ?_
  refine rg_nil_seq ?_
  refine kseq_normal ?_
  refine acode_ret ?_
  exact kseq_ret (fin_retL (.cons (by first | exact .c rfl | exact .ref rfl rfl | exact .nilc rfl) .nil) (by rfl) (by exact resI (szR_neg (by omega)).symm))
 ·
  simp only [decide_eq_true_eq, decide_eq_false_iff_not, Bool.not_eq_true', Bool.not_eq_false', Bool.not_not, Bool.not_true, Bool.not_false] at hc0
  refine acode_skip ?_
  refine kseq_normal ?_
  refine acode_seq ?_
  refine acode_region ?_
  refine st1 rfl (op_move (lb rfl)) (so rfl sn) ?_
  refine st1 rfl (op_assign (lb rfl)) (so rfl sn) ?_
  refine rg_nil_seq ?_
  refine kseq_normal ?_
  refine acode_ret ?_
  exact fin_retL (.cons (by first | exact .c rfl | exact .ref rfl rfl | exact .nilc rfl) .nil) (by rfl) (by exact resI (szR_pos (by omega)).symm)

theorem c_szEngReq (x : GReq) (left : Int) (h0 : 0 ≤ left) (h1 : left ≤ 1048576) (hx : GReq.lens (· ≤ 9223372036854775807) x) : FnP Try.prog 48 [.row (GReq.cells false x), .c (cI left)] [.c (cI (szR left (GReq.W x)))] := by
 refine fnp_intro (n := 12) (rvs := [.tmp 4]) Try.func48 rfl rfl rfl (lb rfl) rfl ?_
 refine acode_seq ?_
 refine acode_region ?_
 refine st1 rfl (op_box rfl (lb rfl)) (so rfl (sf rfl (sats_lives rfl))) ?_
 refine st1 rfl (op_assign (lb rfl)) (so rfl sn) ?_
 refine rg_nil_seq ?_
 refine kseq_normal ?_
 refine acode_seq ?_
 refine acode_region ?_
 first
  | (refine st1 rfl (op_field_pts (off := 6) Try.underlying87 Try.sizeOf34 rfl rfl rfl rfl (lb rfl)) (so rfl sn) ?_)
  | (refine st1 rfl (op_field_bx (off := 6) Try.underlying87 Try.sizeOf34 rfl rfl rfl (lb rfl)) (so rfl (sb rfl sn)) ?_)
  | (refine st1 rfl (op_field_ptr (off := 6) Try.underlying87 Try.sizeOf34 rfl rfl rfl (lb rfl)) (so rfl (sb rfl sn)) ?_)
 first
  | (refine st1 rfl (op_load_pts Try.isAgg34 rfl (lb rfl)) (so rfl sn) ?_)
  | (refine st1 rfl (op_load_bx Try.isAgg34 rfl (lb rfl)) (so rfl (sb rfl sn)) ?_)
  | (refine st1 rfl (op_load_ptrN Try.isAgg34 (by omega) rfl rfl (lb rfl)) (so rfl (sb rfl sn)) ?_)
  | (refine st1 rfl (op_load_ptr_refN Try.isAgg34 (by omega) rfl (lb rfl)) (so rfl (sb rfl sn)) ?_)
 refine st1 rfl (op_move (lb rfl)) (so rfl sn) ?_
 refine st1 rfl ((op_call Try.func59 rfl rfl (c_szIntS x.data (left) (by omega) (by omega) hx) (by exact (.cons (by first | exact Shares.c rfl | exact Shares.nilc | exact Shares.ref rfl (rowI.rnobox true _) (rowI.rshare true _)) (.cons (by first | exact Shares.c rfl) .nil))) rfl (by first | exact .inl rfl | exact .inr (sol_cons rfl sol_nil)) rfl (lb rfl))) (sats_opds (.cons rfl (.cons rfl .nil)) (sats_app (sats_fresh_all (by exact rfl)) (sats_app (sats_needs (by first | exact all_nil | exact all_cons rfl all_nil | exact all_cons rfl (all_cons rfl all_nil) | exact all_cons rfl (all_cons rfl (all_cons rfl all_nil)) | exact all_cons rfl (all_cons rfl (all_cons rfl (all_cons rfl all_nil))))) (sats_lives rfl)))) ?_
 refine st1 rfl (op_assign (lb rfl)) (so rfl sn) ?_
 refine rg_nil_seq ?_
 refine kseq_normal ?_
 refine acode_seq ?_
 refine acode_seq ?_
 refine acode_region ?_
 refine st1 rfl (op_move (lb rfl)) (so rfl sn) ?_
 refine st1 rfl (op_lss (lb rfl)) (so rfl (so rfl sn)) ?_
 refine rg_nil_seq ?_
 refine kseq_normal ?_
 refine acode_cond rfl (fun hc0 => ?_) (fun hc0 => ?_)
 ·
  simp only [decide_eq_true_eq, decide_eq_false_iff_not, Bool.not_eq_true', Bool.not_eq_false', Bool.not_not, Bool.not_true, Bool.not_false] at hc0
  have e0 := szR_lt hc0
  refine acode_seq ?_
  refine acode_region ?_
  refine st1 rfl (op_assign (lb rfl)) (so rfl sn) ?_
  refine rg_nil_seq ?_
  refine kseq_normal ?_
  refine acode_ret ?_
  exact kseq_ret (fin_retL (.cons (by first | exact .c rfl | exact .ref rfl rfl | exact .nilc rfl) .nil) (by rfl) (by exact resI (szR_neg (by simp only [GReq.W]; omega)).symm))
 ·
  simp only [decide_eq_true_eq, decide_eq_false_iff_not, Bool.not_eq_true', Bool.not_eq_false', Bool.not_not, Bool.not_true, Bool.not_false] at hc0
  have e0 := szR_ge hc0
  refine acode_skip ?_
  refine kseq_normal ?_
  refine acode_seq ?_
  refine acode_region ?_
  refine st1 rfl (op_move (lb rfl)) (so rfl sn) ?_
  refine st1 rfl (op_assign (lb rfl)) (so rfl sn) ?_
  refine rg_nil_seq ?_
  refine kseq_normal ?_
  refine acode_ret ?_
  exact fin_retL (.cons (by first | exact .c rfl | exact .ref rfl rfl | exact .nilc rfl) .nil) (by rfl) (by exact resI (by have hw : szR left (GReq.W x) = left - (GReq.W x : Int) := szR_pos (by simp only [GReq.W]; omega); rw [hw]; simp only [GReq.W]; omega))

theorem c_szEngReqS (l : List GReq) (left : Int) (h0 : 0 ≤ left) (h1 : left ≤ 1048576) (hl : l.length ≤ 9223372036854775807) (hls : ∀ y ∈ l, GReq.lens (· ≤ 9223372036854775807) y) : FnP Try.prog 11 [.c (.sl false 11 (l.map (GReq.cells false))), .c (cI left)] [.c (cI (szR left (l.length + sumW GReq.W l)))] := by
 refine fnp_intro (n := 27) (rvs := [.tmp 4]) Try.func11 rfl rfl rfl (lb rfl) rfl ?_
 refine acode_seq ?_
 refine acode_region ?_
 refine st1 rfl (op_assign (lb rfl)) (so rfl sn) ?_
 refine rg_nil_seq ?_
 refine kseq_normal ?_
 refine acode_seq ?_
 refine acode_region ?_
 refine st1 rfl (op_move (lb rfl)) (so rfl sn) ?_
 refine st1 rfl (op_move (lb rfl)) (so rfl sn) ?_
 first
  | (refine st1 rfl (op_len_sh Try.underlying22 (lb rfl)) (so rfl sn) ?_)
  | (refine st1 rfl (op_len_refN Try.underlying22 (lb rfl)) (so rfl (sb rfl sn)) ?_)
  | (refine st1 rfl (op_len_nil Try.underlying22 (lb rfl)) (so rfl sn) ?_)
  | (refine st1 rfl (op_len Try.underlying22 (lb rfl)) (so rfl sn) ?_)
  | (refine st1 rfl (op_len_ref Try.underlying22 (lb rfl) rfl) (so rfl (sb rfl sn)) ?_)
 refine st1 rfl (op_sub (lb rfl) (by omega)) (so rfl (so rfl sn)) ?_
 refine st1 rfl (op_assign (lb rfl)) (so rfl sn) ?_
 refine rg_nil_seq ?_
 refine kseq_normal ?_
 refine acode_seq ?_
 refine acode_seq ?_
 refine acode_region ?_
 refine st1 rfl (op_move (lb rfl)) (so rfl sn) ?_
 refine st1 rfl (op_lss (lb rfl)) (so rfl (so rfl sn)) ?_
 refine rg_nil_seq ?_
 refine kseq_normal ?_
 refine acode_cond rfl (fun hc0 => ?_) (fun hc0 => ?_)
 ·
  simp only [decide_eq_true_eq, decide_eq_false_iff_not, Bool.not_eq_true', Bool.not_eq_false', Bool.not_not, Bool.not_true, Bool.not_false] at hc0
  refine acode_seq ?_
  refine acode_region ?_
  refine st1 rfl (op_assign (lb rfl)) (so rfl sn) ?_
  refine rg_nil_seq ?_
  refine kseq_normal ?_
  refine acode_ret ?_
  exact kseq_ret (fin_retL (.cons (by first | exact .c rfl | exact .ref rfl rfl | exact .nilc rfl) .nil) (by rfl) (by exact resI (szR_neg (by omega)).symm))
 ·
  simp only [decide_eq_true_eq, decide_eq_false_iff_not, Bool.not_eq_true', Bool.not_eq_false', Bool.not_not, Bool.not_true, Bool.not_false] at hc0
  refine acode_skip ?_
  refine kseq_normal ?_
  refine acode_seq ?_
  refine acode_seq ?_
  refine acode_region ?_
  refine st1 rfl (op_assign (lb rfl)) (so rfl sn) ?_
  refine rg_nil_seq ?_
  refine kseq_normal ?_
  refine acode_block ?_
  refine acode_loopk (xs := [0]) (ys := []) (S := Nat × Int) (fun s => [(5, aInt (s.1 : Int)), (1, aInt s.2)]) (fun s => []) (fun s => s.1 ≤ l.length ∧ 0 ≤ s.2 ∧ s.2 ≤ 1048576 ∧ s.2 - (sumW GReq.W (l.drop s.1) : Int) = left - (l.length : Int) - (sumW GReq.W l : Int)) (fun s => l.length - s.1) (0, left - (l.length : Int)) (.cons rfl .nil) .nil ?em ?eo rfl ?ei ?round
  case em => exact .cons rfl (by first | rfl | simp) (.cons rfl (by first | rfl | simp) (.nil))
  case eo => exact .nil
  case ei => exact ⟨Nat.zero_le _, by dsimp only; omega, by dsimp only; omega, by simp⟩
  case round =>
   rintro ⟨k, m⟩ ⟨h2, h3, h4, h5⟩
   dsimp only at h2 h3 h4 h5 ⊢
   refine acode_seq ?_
   refine acode_seq ?_
   refine acode_region ?_
   refine st1 rfl (op_move (lb rfl)) (so rfl sn) ?_
   refine st1 rfl (op_move (lb rfl)) (so rfl sn) ?_
   first
    | (refine st1 rfl (op_len_sh Try.underlying22 (lb rfl)) (so rfl sn) ?_)
    | (refine st1 rfl (op_len_refN Try.underlying22 (lb rfl)) (so rfl (sb rfl sn)) ?_)
    | (refine st1 rfl (op_len_nil Try.underlying22 (lb rfl)) (so rfl sn) ?_)
    | (refine st1 rfl (op_len Try.underlying22 (lb rfl)) (so rfl sn) ?_)
    | (refine st1 rfl (op_len_ref Try.underlying22 (lb rfl) rfl) (so rfl (sb rfl sn)) ?_)
   refine st1 rfl (op_lss (lb rfl)) (so rfl (so rfl sn)) ?_
   refine rg_nil_seq ?_
   refine kseq_normal ?_
   refine acode_cond rfl (fun hc1 => ?_) (fun hc1 => ?_)
   ·
    simp only [decide_eq_true_eq, decide_eq_false_iff_not, Bool.not_eq_true', Bool.not_eq_false', Bool.not_not, Bool.not_true, Bool.not_false] at hc1
    refine acode_skip ?_
    refine kseq_normal ?_
    refine acode_seq ?_
    refine acode_block ?_
    refine acode_seq ?_
    refine acode_region ?_
    refine st1 rfl (op_move (lb rfl)) (so rfl sn) ?_
    refine st1 rfl (op_move (lb rfl)) (so rfl sn) ?_
    first
     | (refine st1 rfl (op_index_shN Try.underlying22 Try.sizeOf87 (lb rfl) (by omega)) (so rfl (so rfl sn)) ?_)
     | (refine st1 rfl (op_index_refN Try.underlying22 Try.sizeOf87 (lb rfl) (by omega)) (so rfl (so rfl (sb rfl sn))) ?_)
    first
     | (refine st1 rfl (op_load_pts_all Try.isAgg87 Try.sizeOf87 rfl (lb rfl)) (so rfl sn) ?_)
     | (refine st1 rfl (op_load_pts_row Try.isAgg87 Try.sizeOf87 rfl rfl (lb rfl)) (so rfl sn) ?_)
     | (refine st1 rfl (op_load_bx_all Try.isAgg87 Try.sizeOf87 rfl (lb rfl)) (so rfl (sb rfl sn)) ?_)
     | (refine st1 rfl (op_load_bx_row Try.isAgg87 Try.sizeOf87 rfl rfl (lb rfl)) (so rfl (sb rfl sn)) ?_)
     | (refine st1 rfl (op_load_bx_agg Try.isAgg87 Try.sizeOf87 rfl rfl (lb rfl)) (so rfl (sb rfl sn)) ?_)
     | (refine st1 rfl (op_load_ptr_rowN Try.isAgg87 Try.sizeOf87 (by omega) rfl rfl rfl (lb rfl)) (so rfl (sb rfl sn)) ?_)
     | (refine st1 rfl (op_load_ptr_aggN Try.isAgg87 Try.sizeOf87 (by omega) rfl rfl (lb rfl)) (so rfl (sb rfl sn)) ?_)
    refine st1 rfl (op_move (lb rfl)) (so rfl sn) ?_
    refine st1 rfl ((op_call Try.func48 rfl rfl (c_szEngReq (l[k]'(by omega)) m h3 h4 (hls _ (List.getElem_mem _))) (by exact (.cons (by first | exact Shares.row rfl | exact (Shares.aggCons (by first | exact Shares.c rfl) (Shares.aggCons (by first | exact Shares.c rfl) (Shares.aggCons (by first | exact Shares.c rfl) (Shares.aggCons (by first | exact Shares.c rfl) (Shares.aggCons (by first | exact Shares.c rfl) (Shares.aggCons (by first | exact Shares.c rfl) (Shares.aggCons (by first | exact Shares.c rfl | exact Shares.nilc | exact Shares.ref rfl (rowI.rnobox true _) (rowI.rshare true _)) (Shares.aggCons (by first | exact Shares.c rfl) (Shares.aggCons (by first | exact Shares.c rfl) (Shares.aggCons (by first | exact Shares.c rfl) (Shares.aggCons (by first | exact Shares.c rfl) Shares.aggNil)))))))))))) (.cons (by first | exact Shares.c rfl) .nil))) rfl (by first | exact .inl rfl | exact .inr (sol_cons rfl sol_nil)) rfl (lb rfl))) (sats_opds (.cons rfl (.cons rfl .nil)) (sats_app (sats_fresh_all (by exact rfl)) (sats_app (sats_needs (by first | exact all_nil | exact all_cons rfl all_nil | exact all_cons rfl (all_cons rfl all_nil) | exact all_cons rfl (all_cons rfl (all_cons rfl all_nil)) | exact all_cons rfl (all_cons rfl (all_cons rfl (all_cons rfl all_nil))))) (sats_lives rfl)))) ?_
    refine st1 rfl (op_assign (lb rfl)) (so rfl sn) ?_
    refine rg_nil_seq ?_
    refine kseq_normal ?_
    refine acode_seq ?_
    refine acode_region ?_
    refine st1 rfl (op_move (lb rfl)) (so rfl sn) ?_
    refine st1 rfl (op_lss (lb rfl)) (so rfl (so rfl sn)) ?_
    refine rg_nil_seq ?_
    refine kseq_normal ?_
    refine acode_cond rfl (fun hc2 => ?_) (fun hc2 => ?_)
    ·
     simp only [decide_eq_true_eq, decide_eq_false_iff_not, Bool.not_eq_true', Bool.not_eq_false', Bool.not_not, Bool.not_true, Bool.not_false] at hc2
     refine acode_seq ?_
     refine acode_region ?_
     refine st1 rfl (op_assign (lb rfl)) (so rfl sn) ?_
     refine rg_nil_seq ?_
     refine kseq_normal ?_
     refine acode_ret ?_
     exact kblk_ret (kseq_ret (klg_ret (kblk_ret (kseq_ret (fin_retL (.cons (by first | exact .c rfl | exact .ref rfl rfl | exact .nilc rfl) .nil) (by rfl) (by have e0 := szR_lt hc2; have e1 := sumW_drop (f := GReq.W) (by omega : k < l.length); exact resI (szR_neg (by omega)).symm))))))
    ·
     simp only [decide_eq_true_eq, decide_eq_false_iff_not, Bool.not_eq_true', Bool.not_eq_false', Bool.not_not, Bool.not_true, Bool.not_false] at hc2
     refine acode_skip ?_
     refine kblk_normal (kseq_normal ?_)
     refine acode_region ?_
     refine st1 rfl (op_move (lb rfl)) (so rfl sn) ?_
     refine st1 rfl (op_add (lb rfl) (by omega)) (so rfl (so rfl sn)) ?_
     refine st1 rfl (op_assign (lb rfl)) (so rfl sn) ?_
     refine rg_nil_seq ?_
     refine klg_back (k + 1, szR m (GReq.W (l[k]'(by omega)))) ?bi ?bm ?bl
     case bi => have e0 := szR_ge hc2; have e1 := sumW_drop (f := GReq.W) (by omega : k < l.length); exact ⟨by dsimp only; omega, by dsimp only; omega, by dsimp only; omega, by dsimp only; omega⟩
     case bm => dsimp only; omega
     case bl => exact le_stU idn (.cons rfl (by first | rfl | simp) (.cons rfl (by first | rfl | simp) (.cons rfl (by first | rfl | simp) (.nil)))) (.nil) rfl
   ·
    simp only [decide_eq_true_eq, decide_eq_false_iff_not, Bool.not_eq_true', Bool.not_eq_false', Bool.not_not, Bool.not_true, Bool.not_false] at hc1
    refine acode_exit ?_
    refine kseq_exit (klg_exit (kblk_hit (kseq_normal ?_)))
    refine acode_seq ?_
    refine acode_region ?_
    refine st1 rfl (op_move (lb rfl)) (so rfl sn) ?_
    refine st1 rfl (op_assign (lb rfl)) (so rfl sn) ?_
    refine rg_nil_seq ?_
    refine kseq_normal ?_
    refine acode_ret ?_
    exact fin_retL (.cons (by first | exact .c rfl | exact .ref rfl rfl | exact .nilc rfl) .nil) (by rfl) (by have e1 := sumW_end (f := GReq.W) (by omega : l.length ≤ k); rw [e1] at h5; exact resI (by rw [szR_pos (by omega)]; omega))
end Go.Am
