/- Contracts. The step scripts are printed by gen.py. Own work. -/
import Derived.Test.YtcbpckbehdaloaaAmS
set_option maxRecDepth 20000
set_option linter.unusedSimpArgs false
set_option linter.unusedVariables false
namespace Go.Am
open Go Go.Proofs

def begun (l : List GReq) : Int := ((l.filter fun r => decide (r.kind = 1)).length : Int)
theorem begun_drop {l : List GReq} {k : Nat} (h : k < l.length) : begun (l.drop k) = (if l[k].kind = 1 then 1 else 0) + begun (l.drop (k + 1)) := by
  rw [List.drop_eq_getElem_cons h]
  by_cases hk : l[k].kind = 1
  · simp only [begun, List.filter_cons, hk, decide_true, if_true, List.length_cons]; omega
  · simp only [begun, List.filter_cons, hk, decide_false, if_false, Bool.false_eq_true]; omega

theorem c_spec_LogBegun (l : List GReq) (hl : l.length ≤ 1048576) : FnP Try.prog 12 [.c (.sl false 11 (l.map (GReq.cells false)))] [.c (cI (begun l))] := by
 refine fnp_intro (n := 20) (rvs := [.tmp 2]) Try.func12 rfl rfl rfl (lb rfl) rfl ?_
 refine acode_seq ?_
 refine acode_region ?_
 refine st1 rfl (op_assign (lb rfl)) (so rfl sn) ?_
 refine rg_nil_seq ?_
 refine kseq_normal ?_
 refine acode_seq ?_
 refine acode_region ?_
 refine st1 rfl (op_assign (lb rfl)) (so rfl sn) ?_
 refine rg_nil_seq ?_
 refine kseq_normal ?_
 refine acode_seq ?_
 refine acode_seq ?_
 refine acode_region ?_
 refine st1 rfl (op_assign (lb rfl)) (so rfl sn) ?_
 refine rg_nil_seq ?_
 refine kseq_normal ?_
 refine acode_block ?_
 refine acode_loopk (xs := [0]) (ys := []) (S := Nat × Int) (fun s => [(4, aInt (s.1 : Int)), (3, aInt s.2)]) (fun s => []) (fun s => s.1 ≤ l.length ∧ 0 ≤ s.2 ∧ s.2 ≤ s.1 ∧ s.2 + begun (l.drop s.1) = begun l) (fun s => l.length - s.1) (0, 0) (.cons rfl .nil) .nil ?em ?eo rfl ?ei ?round
 case em => exact .cons rfl (by first | rfl | simp) (.cons rfl (by first | rfl | simp) (.nil))
 case eo => exact .nil
 case ei => simp
 case round =>
  rintro ⟨k, m⟩ ⟨h1, h2, h3, h4⟩
  dsimp only at h1 h2 h3 h4 ⊢
  refine acode_seq ?_
  refine acode_seq ?_
  refine acode_region ?_
  refine st1 rfl (op_move (lb rfl)) (so rfl sn) ?_
  refine st1 rfl (op_move (lb rfl)) (so rfl sn) ?_
  first
   | (refine st1 rfl (op_len_sh Try.underlying25 (lb rfl)) (so rfl sn) ?_)
   | (refine st1 rfl (op_len_refN Try.underlying25 (lb rfl)) (so rfl (sb rfl sn)) ?_)
   | (refine st1 rfl (op_len_nil Try.underlying25 (lb rfl)) (so rfl sn) ?_)
   | (refine st1 rfl (op_len Try.underlying25 (lb rfl)) (so rfl sn) ?_)
   | (refine st1 rfl (op_len_ref Try.underlying25 (lb rfl) rfl) (so rfl (sb rfl sn)) ?_)
  refine st1 rfl (op_lss (lb rfl)) (so rfl (so rfl sn)) ?_
  refine rg_nil_seq ?_
  refine kseq_normal ?_
  refine acode_cond rfl (fun hc0 => ?_) (fun hc0 => ?_)
  ·
   simp only [decide_eq_true_eq, decide_eq_false_iff_not, Bool.not_eq_true', Bool.not_eq_false', Bool.not_not, Bool.not_true, Bool.not_false] at hc0
   refine acode_skip ?_
   refine kseq_normal ?_
   refine acode_seq ?_
   refine acode_block ?_
   refine acode_seq ?_
   refine acode_region ?_
   refine st1 rfl (op_move (lb rfl)) (so rfl sn) ?_
   refine st1 rfl (op_move (lb rfl)) (so rfl sn) ?_
   first
    | (refine st1 rfl (op_index_shN Try.underlying25 Try.sizeOf90 (lb rfl) (by omega)) (so rfl (so rfl sn)) ?_)
    | (refine st1 rfl (op_index_refN Try.underlying25 Try.sizeOf90 (lb rfl) (by omega)) (so rfl (so rfl (sb rfl sn))) ?_)
   first
    | (refine st1 rfl (op_field_pts (off := 0) Try.underlying90 Try.sizeOf3 rfl rfl rfl rfl (lb rfl)) (so rfl sn) ?_)
    | (refine st1 rfl (op_field_bx (off := 0) Try.underlying90 Try.sizeOf3 rfl rfl rfl (lb rfl)) (so rfl (sb rfl sn)) ?_)
    | (refine st1 rfl (op_field_ptr (off := 0) Try.underlying90 Try.sizeOf3 rfl rfl rfl (lb rfl)) (so rfl (sb rfl sn)) ?_)
   first
    | (refine st1 rfl (op_load_pts Try.isAgg3 rfl (lb rfl)) (so rfl sn) ?_)
    | (refine st1 rfl (op_load_bx Try.isAgg3 rfl (lb rfl)) (so rfl (sb rfl sn)) ?_)
    | (refine st1 rfl (op_load_ptrN Try.isAgg3 (by omega) rfl rfl (lb rfl)) (so rfl (sb rfl sn)) ?_)
    | (refine st1 rfl (op_load_ptr_refN Try.isAgg3 (by omega) rfl (lb rfl)) (so rfl (sb rfl sn)) ?_)
   refine st1 rfl (op_eql (lb rfl)) (so rfl (so rfl sn)) ?_
   refine rg_nil_seq ?_
   refine kseq_normal ?_
   refine acode_cond rfl (fun hc1 => ?_) (fun hc1 => ?_)
   ·
    simp only [decide_eq_true_eq, decide_eq_false_iff_not, Bool.not_eq_true', Bool.not_eq_false', Bool.not_not, Bool.not_true, Bool.not_false] at hc1
    refine acode_region ?_
    refine st1 rfl (op_move (lb rfl)) (so rfl sn) ?_
    refine st1 rfl (op_add (lb rfl) (by omega)) (so rfl (so rfl sn)) ?_
    refine st1 rfl (op_assign (lb rfl)) (so rfl sn) ?_
    refine rg_nil_seq ?_
    refine kblk_normal (kseq_normal ?_)
    refine acode_region ?_
    refine st1 rfl (op_move (lb rfl)) (so rfl sn) ?_
    refine st1 rfl (op_add (lb rfl) (by omega)) (so rfl (so rfl sn)) ?_
    refine st1 rfl (op_assign (lb rfl)) (so rfl sn) ?_
    refine rg_nil_seq ?_
    refine klg_back (k + 1, m + 1) ?bi ?bm ?bl
    case bi => exact ⟨by dsimp only; omega, by dsimp only; omega, by dsimp only; omega, by dsimp only; rw [← h4, begun_drop (by omega : k < l.length), if_pos (by assumption)]; omega⟩
    case bm => omega
    case bl => exact le_stU idn (.cons rfl (by first | rfl | simp) (.cons rfl (by first | rfl | simp) (.cons rfl (by first | rfl | simp) (.nil)))) (.nil) rfl
   ·
    simp only [decide_eq_true_eq, decide_eq_false_iff_not, Bool.not_eq_true', Bool.not_eq_false', Bool.not_not, Bool.not_true, Bool.not_false] at hc1
    refine acode_skip ?_
    refine kblk_normal (kseq_normal ?_)
    refine acode_region ?_
    refine st1 rfl (op_move (lb rfl)) (so rfl sn) ?_
    refine st1 rfl (op_add (lb rfl) (by omega)) (so rfl (so rfl sn)) ?_
    refine st1 rfl (op_assign (lb rfl)) (so rfl sn) ?_
    refine rg_nil_seq ?_
    refine klg_back (k + 1, m) ?bi ?bm ?bl
    case bi => exact ⟨by dsimp only; omega, by dsimp only; omega, by dsimp only; omega, by dsimp only; rw [← h4, begun_drop (by omega : k < l.length), if_neg (by assumption)]; omega⟩
    case bm => omega
    case bl => exact le_stU idn (.cons rfl (by first | rfl | simp) (.cons rfl (by first | rfl | simp) (.cons rfl (by first | rfl | simp) (.nil)))) (.nil) rfl
  ·
   simp only [decide_eq_true_eq, decide_eq_false_iff_not, Bool.not_eq_true', Bool.not_eq_false', Bool.not_not, Bool.not_true, Bool.not_false] at hc0
   refine acode_exit ?_
   refine kseq_exit (klg_exit (kblk_hit (kseq_normal ?_)))
   refine acode_seq ?_
   refine acode_region ?_
   refine st1 rfl (op_move (lb rfl)) (so rfl sn) ?_
   refine st1 rfl (op_assign (lb rfl)) (so rfl sn) ?_
   refine rg_nil_seq ?_
   refine kseq_normal ?_
   refine acode_ret ?_
   exact fin_retL (.cons (by first | exact .c rfl | exact .ref rfl rfl | exact .nilc rfl) .nil) (by rfl) (by rw [← h4, List.drop_eq_nil_of_le (by omega)]; simp [begun, cI])

theorem c_impl_LogBegun (l : List GReq) (hl : l.length ≤ 1048576) : FnP Try.prog 14 [.c (.sl false 11 (l.map (GReq.cells false)))] [.c (cI (begun l))] := by
 refine fnp_intro (n := 19) (rvs := [.tmp 2]) Try.func14 rfl rfl rfl (lb rfl) rfl ?_
 refine acode_seq ?_
 refine acode_region ?_
 refine st1 rfl (op_assign (lb rfl)) (so rfl sn) ?_
 refine rg_nil_seq ?_
 refine kseq_normal ?_
 refine acode_seq ?_
 refine acode_region ?_
 refine st1 rfl (op_assign (lb rfl)) (so rfl sn) ?_
 refine rg_nil_seq ?_
 refine kseq_normal ?_
 refine acode_seq ?_
 refine acode_seq ?_
 refine acode_region ?_
 refine st1 rfl (op_move (lb rfl)) (so rfl sn) ?_
 first
  | (refine st1 rfl (op_len_sh Try.underlying25 (lb rfl)) (so rfl sn) ?_)
  | (refine st1 rfl (op_len_refN Try.underlying25 (lb rfl)) (so rfl (sb rfl sn)) ?_)
  | (refine st1 rfl (op_len_nil Try.underlying25 (lb rfl)) (so rfl sn) ?_)
  | (refine st1 rfl (op_len Try.underlying25 (lb rfl)) (so rfl sn) ?_)
  | (refine st1 rfl (op_len_ref Try.underlying25 (lb rfl) rfl) (so rfl (sb rfl sn)) ?_)
 refine st1 rfl (op_move (lb rfl)) (so rfl sn) ?_
 refine rg_nil_seq ?_
 refine kseq_normal ?_
 refine acode_block ?_
 refine acode_loopk (xs := [6, 7]) (ys := []) (S := Nat × Int) (fun s => [(8, aInt (s.1 : Int)), (3, aInt s.2)]) (fun s => []) (fun s => s.1 ≤ l.length ∧ 0 ≤ s.2 ∧ s.2 ≤ s.1 ∧ s.2 + begun (l.drop s.1) = begun l) (fun s => l.length - s.1) (0, 0) (.cons rfl (.cons rfl .nil)) .nil ?em ?eo rfl ?ei ?round
 case em => exact .cons rfl (by first | rfl | simp) (.cons rfl (by first | rfl | simp) (.nil))
 case eo => exact .nil
 case ei => simp
 case round =>
  rintro ⟨k, m⟩ ⟨h1, h2, h3, h4⟩
  dsimp only at h1 h2 h3 h4 ⊢
  refine acode_seq ?_
  refine acode_region ?_
  refine st1 rfl (op_lss (lb rfl)) (so rfl (so rfl sn)) ?_
  refine rg_nil_seq ?_
  refine kseq_normal ?_
  refine acode_seq ?_
  refine acode_cond rfl (fun hc0 => ?_) (fun hc0 => ?_)
  ·
   simp only [decide_eq_true_eq, decide_eq_false_iff_not, Bool.not_eq_true', Bool.not_eq_false', Bool.not_not, Bool.not_true, Bool.not_false] at hc0
   refine acode_skip ?_
   refine kseq_normal ?_
   refine acode_seq ?_
   refine acode_block ?_
   refine acode_seq ?_
   refine acode_region ?_
   first
    | (refine st1 rfl (op_index_shN Try.underlying25 Try.sizeOf90 (lb rfl) (by omega)) (so rfl (so rfl sn)) ?_)
    | (refine st1 rfl (op_index_refN Try.underlying25 Try.sizeOf90 (lb rfl) (by omega)) (so rfl (so rfl (sb rfl sn))) ?_)
   first
    | (refine st1 rfl (op_load_pts_all Try.isAgg90 Try.sizeOf90 rfl (lb rfl)) (so rfl sn) ?_)
    | (refine st1 rfl (op_load_pts_row Try.isAgg90 Try.sizeOf90 rfl rfl (lb rfl)) (so rfl sn) ?_)
    | (refine st1 rfl (op_load_bx_all Try.isAgg90 Try.sizeOf90 rfl (lb rfl)) (so rfl (sb rfl sn)) ?_)
    | (refine st1 rfl (op_load_bx_row Try.isAgg90 Try.sizeOf90 rfl rfl (lb rfl)) (so rfl (sb rfl sn)) ?_)
    | (refine st1 rfl (op_load_bx_agg Try.isAgg90 Try.sizeOf90 rfl rfl (lb rfl)) (so rfl (sb rfl sn)) ?_)
    | (refine st1 rfl (op_load_ptr_rowN Try.isAgg90 Try.sizeOf90 (by omega) rfl rfl rfl (lb rfl)) (so rfl (sb rfl sn)) ?_)
    | (refine st1 rfl (op_load_ptr_aggN Try.isAgg90 Try.sizeOf90 (by omega) rfl rfl (lb rfl)) (so rfl (sb rfl sn)) ?_)
   refine st1 rfl (op_alloc Try.zeroValue90 rfl (lb rfl)) (sf rfl sn) ?_
   first
    | (refine st1 rfl (op_store_bxS Try.sizeOf90 rfl rfl rfl rfl) (so rfl (so rfl (sb rfl (sats_lives rfl)))) ?_)
    | (refine st1 rfl (op_store_arrS Try.sizeOf90 (by exact row_get (by omega)) rfl (by (repeat' (first | exact Absorb.nil | apply Absorb.nilc | apply Absorb.c rfl | apply Absorb.ref)); all_goals rfl) (by rfl) rfl rfl rfl (by rfl)) (so rfl (so rfl (sb rfl (sats_objs (by first | exact all_nil | exact all_cons rfl all_nil | exact all_cons rfl (all_cons rfl all_nil) | exact all_cons rfl (all_cons rfl (all_cons rfl all_nil)) | exact all_cons rfl (all_cons rfl (all_cons rfl (all_cons rfl all_nil)))) (sats_lives rfl))))) ?_)
   refine rg_nil_seq ?_
   refine kseq_normal ?_
   refine acode_seq ?_
   refine acode_region ?_
   first
    | (refine st1 rfl (op_field_pts (off := 0) Try.underlying90 Try.sizeOf3 rfl rfl rfl rfl (lb rfl)) (so rfl sn) ?_)
    | (refine st1 rfl (op_field_bx (off := 0) Try.underlying90 Try.sizeOf3 rfl rfl rfl (lb rfl)) (so rfl (sb rfl sn)) ?_)
    | (refine st1 rfl (op_field_ptr (off := 0) Try.underlying90 Try.sizeOf3 rfl rfl rfl (lb rfl)) (so rfl (sb rfl sn)) ?_)
   first
    | (refine st1 rfl (op_load_pts Try.isAgg3 rfl (lb rfl)) (so rfl sn) ?_)
    | (refine st1 rfl (op_load_bx Try.isAgg3 rfl (lb rfl)) (so rfl (sb rfl sn)) ?_)
    | (refine st1 rfl (op_load_ptrN Try.isAgg3 (by omega) rfl rfl (lb rfl)) (so rfl (sb rfl sn)) ?_)
    | (refine st1 rfl (op_load_ptr_refN Try.isAgg3 (by omega) rfl (lb rfl)) (so rfl (sb rfl sn)) ?_)
   refine st1 rfl (op_eql (lb rfl)) (so rfl (so rfl sn)) ?_
   refine rg_nil_seq ?_
   refine kseq_normal ?_
   refine acode_cond rfl (fun hc1 => ?_) (fun hc1 => ?_)
   ·
    simp only [decide_eq_true_eq, decide_eq_false_iff_not, Bool.not_eq_true', Bool.not_eq_false', Bool.not_not, Bool.not_true, Bool.not_false] at hc1
    refine acode_region ?_
    refine st1 rfl (op_move (lb rfl)) (so rfl sn) ?_
    refine st1 rfl (op_add (lb rfl) (by omega)) (so rfl (so rfl sn)) ?_
    refine st1 rfl (op_assign (lb rfl)) (so rfl sn) ?_
    refine rg_nil_seq ?_
    refine kblk_normal (kseq_normal ?_)
    refine acode_region ?_
    refine st1 rfl (op_add (lb rfl) (by omega)) (so rfl (so rfl sn)) ?_
    refine st1 rfl (op_move (lb rfl)) (so rfl sn) ?_
    refine rg_nil_seq ?_
    refine klg_back (k + 1, m + 1) ?bi ?bm ?bl
    case bi => exact ⟨by dsimp only; omega, by dsimp only; omega, by dsimp only; omega, by dsimp only; rw [← h4, begun_drop (by omega : k < l.length), if_pos (by assumption)]; omega⟩
    case bm => omega
    case bl => exact le_stU idn (.cons rfl (by first | rfl | simp) (.cons rfl (by first | rfl | simp) (.cons rfl (by first | rfl | simp) (.cons rfl (by first | rfl | simp) (.nil))))) (.nil) rfl
   ·
    simp only [decide_eq_true_eq, decide_eq_false_iff_not, Bool.not_eq_true', Bool.not_eq_false', Bool.not_not, Bool.not_true, Bool.not_false] at hc1
    refine acode_skip ?_
    refine kblk_normal (kseq_normal ?_)
    refine acode_region ?_
    refine st1 rfl (op_add (lb rfl) (by omega)) (so rfl (so rfl sn)) ?_
    refine st1 rfl (op_move (lb rfl)) (so rfl sn) ?_
    refine rg_nil_seq ?_
    refine klg_back (k + 1, m) ?bi ?bm ?bl
    case bi => exact ⟨by dsimp only; omega, by dsimp only; omega, by dsimp only; omega, by dsimp only; rw [← h4, begun_drop (by omega : k < l.length), if_neg (by assumption)]; omega⟩
    case bm => omega
    case bl => exact le_stU idn (.cons rfl (by first | rfl | simp) (.cons rfl (by first | rfl | simp) (.cons rfl (by first | rfl | simp) (.cons rfl (by first | rfl | simp) (.nil))))) (.nil) rfl
  ·
   simp only [decide_eq_true_eq, decide_eq_false_iff_not, Bool.not_eq_true', Bool.not_eq_false', Bool.not_not, Bool.not_true, Bool.not_false] at hc0
   refine acode_exit ?_
   refine kseq_exit (klg_exit (kblk_hit (kseq_normal ?_)))
   refine acode_seq ?_
   refine acode_region ?_
   refine st1 rfl (op_move (lb rfl)) (so rfl sn) ?_
   refine st1 rfl (op_assign (lb rfl)) (so rfl sn) ?_
   refine rg_nil_seq ?_
   refine kseq_normal ?_
   refine acode_ret ?_
   exact fin_retL (.cons (by first | exact .c rfl | exact .ref rfl rfl | exact .nilc rfl) .nil) (by rfl) (by rw [← h4, List.drop_eq_nil_of_le (by omega)]; simp [begun, cI])
end Go.Am
