/- The laws' own functions over data: how much there is. The step scripts are printed by gen.py. Own work. -/
import Derived.Test.YtcbpckbehdaloaaAmYm
import Derived.Test.YtcbpckbehdaloaaAmS
import Derived.Test.YtcbpckbehdaloaaAmV
set_option linter.unusedSimpArgs false
set_option linter.unusedVariables false
set_option maxRecDepth 100000
namespace Go.Am
open Go Go.Proofs

theorem c_szIntS (l : List Int) (left : Int) (h0 : 0 ≤ left) (h1 : left ≤ 1048576) (hl : l.length ≤ 9223372036854775807) : FnP Try.prog 59 [.c (cIs false l), .c (cI left)] [.c (cI (szR left l.length))] := by
 refine fnp_intro (n := 12) (rvs := [.tmp 4]) Try.func59 rfl rfl rfl (lb rfl) rfl ?_
 refine sr ?_
 refine as_ (lb rfl) rfl ?_
 refine nk ?_
 refine sr ?_
 refine mv (lb rfl) rfl ?_
 refine mv (lb rfl) rfl ?_
 refine st1 rfl (op_len_sh Try.underlying34 (lb rfl)) (so rfl sn) ?_
 refine st1 rfl (op_sub (lb rfl) (by omega)) (so rfl (so rfl sn)) ?_
 refine as_ (lb rfl) rfl ?_
 refine nk ?_
 refine acode_seq ?_
 refine sr ?_
 refine mv (lb rfl) rfl ?_
 refine st1 rfl (op_lss (lb rfl)) (so rfl (so rfl sn)) ?_
 refine nk ?_
 refine acode_cond rfl (fun hc0 => ?_) (fun hc0 => ?_)
 ·
  simp only [dq] at hc0
  refine sr ?_
  refine as_ (lb rfl) rfl ?_
  refine nkt ?_
  exact kseq_ret (fin_retL (.cons (by first | exact .c rfl | exact .ref rfl rfl | exact .nilc rfl) .nil) (by rfl) (by exact resI (szR_neg (by omega)).symm))
 ·
  simp only [dq] at hc0
  refine pk ?_
  refine sr ?_
  refine mv (lb rfl) rfl ?_
  refine as_ (lb rfl) rfl ?_
  refine nkt ?_
  exact fin_retL (.cons (by first | exact .c rfl | exact .ref rfl rfl | exact .nilc rfl) .nil) (by rfl) (by exact resI (szR_pos (by omega)).symm)

theorem c_szNetFlowS (l : List GFlow) (left : Int) (h0 : 0 ≤ left) (h1 : left ≤ 1048576) (hl : l.length ≤ 9223372036854775807) : FnP Try.prog 137 [.c (.sl false 4 (l.map (GFlow.cells false))), .c (cI left)] [.c (cI (szR left l.length))] := by
 refine fnp_intro (n := 12) (rvs := [.tmp 4]) Try.func137 rfl rfl rfl (lb rfl) rfl ?_
 refine sr ?_
 refine as_ (lb rfl) rfl ?_
 refine nk ?_
 refine sr ?_
 refine mv (lb rfl) rfl ?_
 refine mv (lb rfl) rfl ?_
 refine st1 rfl (op_len_sh Try.underlying158 (lb rfl)) (so rfl sn) ?_
 refine st1 rfl (op_sub (lb rfl) (by omega)) (so rfl (so rfl sn)) ?_
 refine as_ (lb rfl) rfl ?_
 refine nk ?_
 refine acode_seq ?_
 refine sr ?_
 refine mv (lb rfl) rfl ?_
 refine st1 rfl (op_lss (lb rfl)) (so rfl (so rfl sn)) ?_
 refine nk ?_
 refine acode_cond rfl (fun hc0 => ?_) (fun hc0 => ?_)
 ·
  simp only [dq] at hc0
  refine sr ?_
  refine as_ (lb rfl) rfl ?_
  refine nkt ?_
  exact kseq_ret (fin_retL (.cons (by first | exact .c rfl | exact .ref rfl rfl | exact .nilc rfl) .nil) (by rfl) (by exact resI (szR_neg (by omega)).symm))
 ·
  simp only [dq] at hc0
  refine pk ?_
  refine sr ?_
  refine mv (lb rfl) rfl ?_
  refine as_ (lb rfl) rfl ?_
  refine nkt ?_
  exact fin_retL (.cons (by first | exact .c rfl | exact .ref rfl rfl | exact .nilc rfl) .nil) (by rfl) (by exact resI (szR_pos (by omega)).symm)

theorem c_szNetTask (x : GTask) (left : Int) (h0 : 0 ≤ left) (h1 : left ≤ 1048576) (hx : GTask.lens (· ≤ 9223372036854775807) x) : FnP Try.prog 117 [.row (GTask.cells false x), .c (cI left)] [.c (cI (szR left (GTask.W x)))] := by
 refine fnp_intro (n := 24) (rvs := [.tmp 4]) Try.func117 rfl rfl rfl (lb rfl) rfl ?_
 refine sr ?_
 refine st1 rfl (op_box rfl (lb rfl)) (so rfl (sf rfl (sats_lives rfl))) ?_
 refine as_ (lb rfl) rfl ?_
 refine nk ?_
 refine sr ?_
 refine fdb (off := 2) Try.underlying160 Try.sizeOf34 rfl rfl rfl (lb rfl) rfl rfl ?_
 refine ldb Try.isAgg34 rfl (lb rfl) rfl rfl ?_
 refine mv (lb rfl) rfl ?_
 refine st1 rfl ((op_call Try.func59 rfl rfl (c_szIntS x.in_ (left) (by omega) (by omega) hx.1) (by exact (.cons (by first | exact Shares.c rfl | exact Shares.nilc | exact Shares.ref rfl (rowI.rnobox _ _) (rowI.rshare _ _)) (.cons (by first | exact Shares.c rfl) .nil))) rfl (by first | exact .inl rfl | exact .inr (sol_cons rfl sol_nil)) rfl (lb rfl))) (sats_opds (.cons rfl (.cons rfl .nil)) (sats_app (sats_fresh_all (by exact rfl)) (sats_app (sats_needs (by first | exact all_nil | exact all_cons rfl all_nil | exact all_cons rfl (all_cons rfl all_nil) | exact all_cons rfl (all_cons rfl (all_cons rfl all_nil)) | exact all_cons rfl (all_cons rfl (all_cons rfl (all_cons rfl all_nil))))) (sats_lives rfl)))) ?_
 refine as_ (lb rfl) rfl ?_
 refine nk ?_
 refine acode_seq ?_
 refine sr ?_
 refine mv (lb rfl) rfl ?_
 refine st1 rfl (op_lss (lb rfl)) (so rfl (so rfl sn)) ?_
 refine nk ?_
 refine acode_cond rfl (fun hc0 => ?_) (fun hc0 => ?_)
 ·
  simp only [dq] at hc0
  have e0 := szR_lt hc0
  refine sr ?_
  refine as_ (lb rfl) rfl ?_
  refine nkt ?_
  exact kseq_ret (fin_retL (.cons (by first | exact .c rfl | exact .ref rfl rfl | exact .nilc rfl) .nil) (by rfl) (by exact resI (szR_neg (by simp only [GTask.W]; omega)).symm))
 ·
  simp only [dq] at hc0
  have e0 := szR_ge hc0
  refine pk ?_
  refine sr ?_
  refine fdb (off := 3) Try.underlying160 Try.sizeOf158 rfl rfl rfl (lb rfl) rfl rfl ?_
  refine ldb Try.isAgg158 rfl (lb rfl) rfl rfl ?_
  refine mv (lb rfl) rfl ?_
  refine st1 rfl ((op_call Try.func137 rfl rfl (c_szNetFlowS x.out (szR (left) x.in_.length) (by omega) (by omega) hx.2.1) (by exact (.cons (by first | exact Shares.c rfl | exact Shares.nilc | exact Shares.ref rfl (rowGFlow.rnobox _ _) (rowGFlow.rshare _ _)) (.cons (by first | exact Shares.c rfl) .nil))) rfl (by first | exact .inl rfl | exact .inr (sol_cons rfl sol_nil)) rfl (lb rfl))) (sats_opds (.cons rfl (.cons rfl .nil)) (sats_app (sats_fresh_all (by exact rfl)) (sats_app (sats_needs (by first | exact all_nil | exact all_cons rfl all_nil | exact all_cons rfl (all_cons rfl all_nil) | exact all_cons rfl (all_cons rfl (all_cons rfl all_nil)) | exact all_cons rfl (all_cons rfl (all_cons rfl (all_cons rfl all_nil))))) (sats_lives rfl)))) ?_
  refine as_ (lb rfl) rfl ?_
  refine nk ?_
  refine acode_seq ?_
  refine sr ?_
  refine mv (lb rfl) rfl ?_
  refine st1 rfl (op_lss (lb rfl)) (so rfl (so rfl sn)) ?_
  refine nk ?_
  refine acode_cond rfl (fun hc1 => ?_) (fun hc1 => ?_)
  ·
   simp only [dq] at hc1
   have e1 := szR_lt hc1
   refine sr ?_
   refine as_ (lb rfl) rfl ?_
   refine nkt ?_
   exact kseq_ret (fin_retL (.cons (by first | exact .c rfl | exact .ref rfl rfl | exact .nilc rfl) .nil) (by rfl) (by exact resI (szR_neg (by simp only [GTask.W]; omega)).symm))
  ·
   simp only [dq] at hc1
   have e1 := szR_ge hc1
   refine pk ?_
   refine sr ?_
   refine fdb (off := 4) Try.underlying160 Try.sizeOf34 rfl rfl rfl (lb rfl) rfl rfl ?_
   refine ldb Try.isAgg34 rfl (lb rfl) rfl rfl ?_
   refine mv (lb rfl) rfl ?_
   refine st1 rfl ((op_call Try.func59 rfl rfl (c_szIntS x.clear (szR (szR (left) x.in_.length) x.out.length) (by omega) (by omega) hx.2.2) (by exact (.cons (by first | exact Shares.c rfl | exact Shares.nilc | exact Shares.ref rfl (rowI.rnobox _ _) (rowI.rshare _ _)) (.cons (by first | exact Shares.c rfl) .nil))) rfl (by first | exact .inl rfl | exact .inr (sol_cons rfl sol_nil)) rfl (lb rfl))) (sats_opds (.cons rfl (.cons rfl .nil)) (sats_app (sats_fresh_all (by exact rfl)) (sats_app (sats_needs (by first | exact all_nil | exact all_cons rfl all_nil | exact all_cons rfl (all_cons rfl all_nil) | exact all_cons rfl (all_cons rfl (all_cons rfl all_nil)) | exact all_cons rfl (all_cons rfl (all_cons rfl (all_cons rfl all_nil))))) (sats_lives rfl)))) ?_
   refine as_ (lb rfl) rfl ?_
   refine nk ?_
   refine acode_seq ?_
   refine sr ?_
   refine mv (lb rfl) rfl ?_
   refine st1 rfl (op_lss (lb rfl)) (so rfl (so rfl sn)) ?_
   refine nk ?_
   refine acode_cond rfl (fun hc2 => ?_) (fun hc2 => ?_)
   ·
    simp only [dq] at hc2
    have e2 := szR_lt hc2
    refine sr ?_
    refine as_ (lb rfl) rfl ?_
    refine nkt ?_
    exact kseq_ret (fin_retL (.cons (by first | exact .c rfl | exact .ref rfl rfl | exact .nilc rfl) .nil) (by rfl) (by exact resI (szR_neg (by simp only [GTask.W]; omega)).symm))
   ·
    simp only [dq] at hc2
    have e2 := szR_ge hc2
    refine pk ?_
    refine sr ?_
    refine mv (lb rfl) rfl ?_
    refine as_ (lb rfl) rfl ?_
    refine nkt ?_
    exact fin_retL (.cons (by first | exact .c rfl | exact .ref rfl rfl | exact .nilc rfl) .nil) (by rfl) (by exact resI (by have hw : szR left (GTask.W x) = left - (GTask.W x : Int) := szR_pos (by simp only [GTask.W]; omega); rw [hw]; simp only [GTask.W]; omega))

theorem c_szNetTaskS (l : List GTask) (left : Int) (h0 : 0 ≤ left) (h1 : left ≤ 1048576) (hl : l.length ≤ 9223372036854775807) (hls : ∀ y ∈ l, GTask.lens (· ≤ 9223372036854775807) y) : FnP Try.prog 72 [.c (.sl false 9 (l.map (GTask.cells false))), .c (cI left)] [.c (cI (szR left (l.length + sumW GTask.W l)))] := by
 refine fnp_intro (n := 27) (rvs := [.tmp 4]) Try.func72 rfl rfl rfl (lb rfl) rfl ?_
 refine sr ?_
 refine as_ (lb rfl) rfl ?_
 refine nk ?_
 refine sr ?_
 refine mv (lb rfl) rfl ?_
 refine mv (lb rfl) rfl ?_
 refine st1 rfl (op_len_sh Try.underlying52 (lb rfl)) (so rfl sn) ?_
 refine st1 rfl (op_sub (lb rfl) (by omega)) (so rfl (so rfl sn)) ?_
 refine as_ (lb rfl) rfl ?_
 refine nk ?_
 refine acode_seq ?_
 refine sr ?_
 refine mv (lb rfl) rfl ?_
 refine st1 rfl (op_lss (lb rfl)) (so rfl (so rfl sn)) ?_
 refine nk ?_
 refine acode_cond rfl (fun hc0 => ?_) (fun hc0 => ?_)
 ·
  simp only [dq] at hc0
  refine sr ?_
  refine as_ (lb rfl) rfl ?_
  refine nkt ?_
  exact kseq_ret (fin_retL (.cons (by first | exact .c rfl | exact .ref rfl rfl | exact .nilc rfl) .nil) (by rfl) (by exact resI (szR_neg (by omega)).symm))
 ·
  simp only [dq] at hc0
  refine pk ?_
  refine acode_seq ?_
  refine sr ?_
  refine as_ (lb rfl) rfl ?_
  refine nk ?_
  refine acode_block ?_
  refine acode_loopk (xs := [0]) (ys := []) (S := Nat × Int) (fun s => [(5, aInt (s.1 : Int)), (1, aInt s.2)]) (fun s => []) (fun s => s.1 ≤ l.length ∧ 0 ≤ s.2 ∧ s.2 ≤ 1048576 ∧ s.2 - (sumW GTask.W (l.drop s.1) : Int) = left - (l.length : Int) - (sumW GTask.W l : Int)) (fun s => l.length - s.1) (0, left - (l.length : Int)) (.cons rfl .nil) .nil ?em ?eo rfl ?ei ?round
  case em => exact .cons rfl (by first | rfl | simp) (.cons rfl (by first | rfl | simp) (.nil))
  case eo => exact .nil
  case ei => exact ⟨Nat.zero_le _, by dsimp only; omega, by dsimp only; omega, by simp⟩
  case round =>
   rintro ⟨k, m⟩ ⟨h2, h3, h4, h5⟩
   dsimp only at h2 h3 h4 h5 ⊢
   refine acode_seq ?_
   refine sr ?_
   refine mv (lb rfl) rfl ?_
   refine mv (lb rfl) rfl ?_
   refine st1 rfl (op_len_sh Try.underlying52 (lb rfl)) (so rfl sn) ?_
   refine st1 rfl (op_lss (lb rfl)) (so rfl (so rfl sn)) ?_
   refine nk ?_
   refine acode_cond rfl (fun hc1 => ?_) (fun hc1 => ?_)
   ·
    simp only [dq] at hc1
    refine pk ?_
    refine acode_seq ?_
    refine acode_block ?_
    refine sr ?_
    refine mv (lb rfl) rfl ?_
    refine mv (lb rfl) rfl ?_
    refine st1 rfl (op_index_shN Try.underlying52 Try.sizeOf160 (lb rfl) (by omega)) (so rfl (so rfl sn)) ?_
    refine st1 rfl (op_load_pts_all Try.isAgg160 Try.sizeOf160 rfl (lb rfl)) (so rfl sn) ?_
    refine mv (lb rfl) rfl ?_
    refine st1 rfl ((op_call Try.func117 rfl rfl (c_szNetTask (l[k]'(by omega)) m h3 h4 (hls _ (List.getElem_mem _))) (by exact (.cons (by first | exact Shares.row rfl | exact (Shares.aggCons (by first | exact Shares.c rfl) (Shares.aggCons (by first | exact Shares.c rfl) (Shares.aggCons (by first | exact Shares.c rfl | exact Shares.nilc | exact Shares.ref rfl (rowI.rnobox _ _) (rowI.rshare _ _)) (Shares.aggCons (by first | exact Shares.c rfl | exact Shares.nilc | exact Shares.ref rfl (rowGFlow.rnobox _ _) (rowGFlow.rshare _ _)) (Shares.aggCons (by first | exact Shares.c rfl | exact Shares.nilc | exact Shares.ref rfl (rowI.rnobox _ _) (rowI.rshare _ _)) (Shares.aggCons (by first | exact Shares.c rfl) (Shares.aggCons (by first | exact Shares.c rfl) (Shares.aggCons (by first | exact Shares.c rfl) (Shares.aggCons (by first | exact Shares.c rfl) Shares.aggNil)))))))))) (.cons (by first | exact Shares.c rfl) .nil))) rfl (by first | exact .inl rfl | exact .inr (sol_cons rfl sol_nil)) rfl (lb rfl))) (sats_opds (.cons rfl (.cons rfl .nil)) (sats_app (sats_fresh_all (by exact rfl)) (sats_app (sats_needs (by first | exact all_nil | exact all_cons rfl all_nil | exact all_cons rfl (all_cons rfl all_nil) | exact all_cons rfl (all_cons rfl (all_cons rfl all_nil)) | exact all_cons rfl (all_cons rfl (all_cons rfl (all_cons rfl all_nil))))) (sats_lives rfl)))) ?_
    refine as_ (lb rfl) rfl ?_
    refine nk ?_
    refine sr ?_
    refine mv (lb rfl) rfl ?_
    refine st1 rfl (op_lss (lb rfl)) (so rfl (so rfl sn)) ?_
    refine nk ?_
    refine acode_cond rfl (fun hc2 => ?_) (fun hc2 => ?_)
    ·
     simp only [dq] at hc2
     refine sr ?_
     refine as_ (lb rfl) rfl ?_
     refine nkt ?_
     exact kblk_ret (kseq_ret (klg_ret (kblk_ret (kseq_ret (fin_retL (.cons (by first | exact .c rfl | exact .ref rfl rfl | exact .nilc rfl) .nil) (by rfl) (by have e0 := szR_lt hc2; have e1 := sumW_drop (f := GTask.W) (by omega : k < l.length); exact resI (szR_neg (by omega)).symm))))))
    ·
     simp only [dq] at hc2
     refine acode_skip ?_
     refine kblk_normal (kseq_normal ?_)
     refine acode_region ?_
     refine mv (lb rfl) rfl ?_
     refine st1 rfl (op_add (lb rfl) (by omega)) (so rfl (so rfl sn)) ?_
     refine as_ (lb rfl) rfl ?_
     refine rg_nil_seq ?_
     refine klg_back (k + 1, szR m (GTask.W (l[k]'(by omega)))) ?bi ?bm ?bl
     case bi => have e0 := szR_ge hc2; have e1 := sumW_drop (f := GTask.W) (by omega : k < l.length); exact ⟨by dsimp only; omega, by dsimp only; omega, by dsimp only; omega, by dsimp only; omega⟩
     case bm => dsimp only; omega
     case bl => exact le_stU idn (.cons rfl (by first | rfl | simp) (.cons rfl (by first | rfl | simp) (.cons rfl (by first | rfl | simp) (.nil)))) (.nil) rfl
   ·
    simp only [dq] at hc1
    refine acode_exit ?_
    refine kseq_exit (klg_exit (kblk_hit (kseq_normal ?_)))
    refine sr ?_
    refine mv (lb rfl) rfl ?_
    refine as_ (lb rfl) rfl ?_
    refine nkt ?_
    exact fin_retL (.cons (by first | exact .c rfl | exact .ref rfl rfl | exact .nilc rfl) .nil) (by rfl) (by have e1 := sumW_end (f := GTask.W) (by omega : l.length ≤ k); rw [e1] at h5; exact resI (by rw [szR_pos (by omega)]; omega))

theorem c_szNetNet (x : GNet) (left : Int) (h0 : 0 ≤ left) (h1 : left ≤ 1048576) (hx : GNet.lens (· ≤ 9223372036854775807) x) : FnP Try.prog 31 [.row (GNet.cells false x), .c (cI left)] [.c (cI (szR left (GNet.W x)))] := by
 refine fnp_intro (n := 12) (rvs := [.tmp 4]) Try.func31 rfl rfl rfl (lb rfl) rfl ?_
 refine sr ?_
 refine st1 rfl (op_box rfl (lb rfl)) (so rfl (sf rfl (sats_lives rfl))) ?_
 refine as_ (lb rfl) rfl ?_
 refine nk ?_
 refine sr ?_
 refine fdb (off := 1) Try.underlying54 Try.sizeOf52 rfl rfl rfl (lb rfl) rfl rfl ?_
 refine ldb Try.isAgg52 rfl (lb rfl) rfl rfl ?_
 refine mv (lb rfl) rfl ?_
 refine st1 rfl ((op_call Try.func72 rfl rfl (c_szNetTaskS x.tasks (left) (by omega) (by omega) hx.1 hx.2) (by exact (.cons (by first | exact Shares.c rfl | exact Shares.nilc | exact Shares.ref rfl (rowGTask.rnobox _ _) (rowGTask.rshare _ _)) (.cons (by first | exact Shares.c rfl) .nil))) rfl (by first | exact .inl rfl | exact .inr (sol_cons rfl sol_nil)) rfl (lb rfl))) (sats_opds (.cons rfl (.cons rfl .nil)) (sats_app (sats_fresh_all (by exact rfl)) (sats_app (sats_needs (by first | exact all_nil | exact all_cons rfl all_nil | exact all_cons rfl (all_cons rfl all_nil) | exact all_cons rfl (all_cons rfl (all_cons rfl all_nil)) | exact all_cons rfl (all_cons rfl (all_cons rfl (all_cons rfl all_nil))))) (sats_lives rfl)))) ?_
 refine as_ (lb rfl) rfl ?_
 refine nk ?_
 refine acode_seq ?_
 refine sr ?_
 refine mv (lb rfl) rfl ?_
 refine st1 rfl (op_lss (lb rfl)) (so rfl (so rfl sn)) ?_
 refine nk ?_
 refine acode_cond rfl (fun hc0 => ?_) (fun hc0 => ?_)
 ·
  simp only [dq] at hc0
  have e0 := szR_lt hc0
  refine sr ?_
  refine as_ (lb rfl) rfl ?_
  refine nkt ?_
  exact kseq_ret (fin_retL (.cons (by first | exact .c rfl | exact .ref rfl rfl | exact .nilc rfl) .nil) (by rfl) (by exact resI (szR_neg (by simp only [GNet.W]; omega)).symm))
 ·
  simp only [dq] at hc0
  have e0 := szR_ge hc0
  refine pk ?_
  refine sr ?_
  refine mv (lb rfl) rfl ?_
  refine as_ (lb rfl) rfl ?_
  refine nkt ?_
  exact fin_retL (.cons (by first | exact .c rfl | exact .ref rfl rfl | exact .nilc rfl) .nil) (by rfl) (by exact resI (by have hw : szR left (GNet.W x) = left - (GNet.W x : Int) := szR_pos (by simp only [GNet.W]; omega); rw [hw]; simp only [GNet.W]; omega))

theorem c_szCasItemS (l : List GItem) (left : Int) (h0 : 0 ≤ left) (h1 : left ≤ 1048576) (hl : l.length ≤ 9223372036854775807) : FnP Try.prog 73 [.c (.sl false 3 (l.map (GItem.cells false))), .c (cI left)] [.c (cI (szR left l.length))] := by
 refine fnp_intro (n := 12) (rvs := [.tmp 4]) Try.func73 rfl rfl rfl (lb rfl) rfl ?_
 refine sr ?_
 refine as_ (lb rfl) rfl ?_
 refine nk ?_
 refine sr ?_
 refine mv (lb rfl) rfl ?_
 refine mv (lb rfl) rfl ?_
 refine st1 rfl (op_len_sh Try.underlying55 (lb rfl)) (so rfl sn) ?_
 refine st1 rfl (op_sub (lb rfl) (by omega)) (so rfl (so rfl sn)) ?_
 refine as_ (lb rfl) rfl ?_
 refine nk ?_
 refine acode_seq ?_
 refine sr ?_
 refine mv (lb rfl) rfl ?_
 refine st1 rfl (op_lss (lb rfl)) (so rfl (so rfl sn)) ?_
 refine nk ?_
 refine acode_cond rfl (fun hc0 => ?_) (fun hc0 => ?_)
 ·
  simp only [dq] at hc0
  refine sr ?_
  refine as_ (lb rfl) rfl ?_
  refine nkt ?_
  exact kseq_ret (fin_retL (.cons (by first | exact .c rfl | exact .ref rfl rfl | exact .nilc rfl) .nil) (by rfl) (by exact resI (szR_neg (by omega)).symm))
 ·
  simp only [dq] at hc0
  refine pk ?_
  refine sr ?_
  refine mv (lb rfl) rfl ?_
  refine as_ (lb rfl) rfl ?_
  refine nkt ?_
  exact fin_retL (.cons (by first | exact .c rfl | exact .ref rfl rfl | exact .nilc rfl) .nil) (by rfl) (by exact resI (szR_pos (by omega)).symm)

theorem c_szCasDidS (l : List GDid) (left : Int) (h0 : 0 ≤ left) (h1 : left ≤ 1048576) (hl : l.length ≤ 9223372036854775807) : FnP Try.prog 74 [.c (.sl false 2 (l.map (GDid.cells false))), .c (cI left)] [.c (cI (szR left l.length))] := by
 refine fnp_intro (n := 12) (rvs := [.tmp 4]) Try.func74 rfl rfl rfl (lb rfl) rfl ?_
 refine sr ?_
 refine as_ (lb rfl) rfl ?_
 refine nk ?_
 refine sr ?_
 refine mv (lb rfl) rfl ?_
 refine mv (lb rfl) rfl ?_
 refine st1 rfl (op_len_sh Try.underlying56 (lb rfl)) (so rfl sn) ?_
 refine st1 rfl (op_sub (lb rfl) (by omega)) (so rfl (so rfl sn)) ?_
 refine as_ (lb rfl) rfl ?_
 refine nk ?_
 refine acode_seq ?_
 refine sr ?_
 refine mv (lb rfl) rfl ?_
 refine st1 rfl (op_lss (lb rfl)) (so rfl (so rfl sn)) ?_
 refine nk ?_
 refine acode_cond rfl (fun hc0 => ?_) (fun hc0 => ?_)
 ·
  simp only [dq] at hc0
  refine sr ?_
  refine as_ (lb rfl) rfl ?_
  refine nkt ?_
  exact kseq_ret (fin_retL (.cons (by first | exact .c rfl | exact .ref rfl rfl | exact .nilc rfl) .nil) (by rfl) (by exact resI (szR_neg (by omega)).symm))
 ·
  simp only [dq] at hc0
  refine pk ?_
  refine sr ?_
  refine mv (lb rfl) rfl ?_
  refine as_ (lb rfl) rfl ?_
  refine nkt ?_
  exact fin_retL (.cons (by first | exact .c rfl | exact .ref rfl rfl | exact .nilc rfl) .nil) (by rfl) (by exact resI (szR_pos (by omega)).symm)

theorem c_szCasCase (x : GCase) (left : Int) (h0 : 0 ≤ left) (h1 : left ≤ 1048576) (hx : GCase.lens (· ≤ 9223372036854775807) x) : FnP Try.prog 32 [.row (GCase.cells false x), .c (cI left)] [.c (cI (szR left (GCase.W x)))] := by
 refine fnp_intro (n := 30) (rvs := [.tmp 4]) Try.func32 rfl rfl rfl (lb rfl) rfl ?_
 refine sr ?_
 refine st1 rfl (op_box rfl (lb rfl)) (so rfl (sf rfl (sats_lives rfl))) ?_
 refine as_ (lb rfl) rfl ?_
 refine nk ?_
 refine sr ?_
 refine fdb (off := 1) Try.underlying58 Try.sizeOf34 rfl rfl rfl (lb rfl) rfl rfl ?_
 refine ldb Try.isAgg34 rfl (lb rfl) rfl rfl ?_
 refine mv (lb rfl) rfl ?_
 refine st1 rfl ((op_call Try.func59 rfl rfl (c_szIntS x.marks (left) (by omega) (by omega) hx.1) (by exact (.cons (by first | exact Shares.c rfl | exact Shares.nilc | exact Shares.ref rfl (rowI.rnobox _ _) (rowI.rshare _ _)) (.cons (by first | exact Shares.c rfl) .nil))) rfl (by first | exact .inl rfl | exact .inr (sol_cons rfl sol_nil)) rfl (lb rfl))) (sats_opds (.cons rfl (.cons rfl .nil)) (sats_app (sats_fresh_all (by exact rfl)) (sats_app (sats_needs (by first | exact all_nil | exact all_cons rfl all_nil | exact all_cons rfl (all_cons rfl all_nil) | exact all_cons rfl (all_cons rfl (all_cons rfl all_nil)) | exact all_cons rfl (all_cons rfl (all_cons rfl (all_cons rfl all_nil))))) (sats_lives rfl)))) ?_
 refine as_ (lb rfl) rfl ?_
 refine nk ?_
 refine acode_seq ?_
 refine sr ?_
 refine mv (lb rfl) rfl ?_
 refine st1 rfl (op_lss (lb rfl)) (so rfl (so rfl sn)) ?_
 refine nk ?_
 refine acode_cond rfl (fun hc0 => ?_) (fun hc0 => ?_)
 ·
  simp only [dq] at hc0
  have e0 := szR_lt hc0
  refine sr ?_
  refine as_ (lb rfl) rfl ?_
  refine nkt ?_
  exact kseq_ret (fin_retL (.cons (by first | exact .c rfl | exact .ref rfl rfl | exact .nilc rfl) .nil) (by rfl) (by exact resI (szR_neg (by simp only [GCase.W]; omega)).symm))
 ·
  simp only [dq] at hc0
  have e0 := szR_ge hc0
  refine pk ?_
  refine sr ?_
  refine fdb (off := 2) Try.underlying58 Try.sizeOf55 rfl rfl rfl (lb rfl) rfl rfl ?_
  refine ldb Try.isAgg55 rfl (lb rfl) rfl rfl ?_
  refine mv (lb rfl) rfl ?_
  refine st1 rfl ((op_call Try.func73 rfl rfl (c_szCasItemS x.busy (szR (left) x.marks.length) (by omega) (by omega) hx.2.1) (by exact (.cons (by first | exact Shares.c rfl | exact Shares.nilc | exact Shares.ref rfl (rowGItem.rnobox _ _) (rowGItem.rshare _ _)) (.cons (by first | exact Shares.c rfl) .nil))) rfl (by first | exact .inl rfl | exact .inr (sol_cons rfl sol_nil)) rfl (lb rfl))) (sats_opds (.cons rfl (.cons rfl .nil)) (sats_app (sats_fresh_all (by exact rfl)) (sats_app (sats_needs (by first | exact all_nil | exact all_cons rfl all_nil | exact all_cons rfl (all_cons rfl all_nil) | exact all_cons rfl (all_cons rfl (all_cons rfl all_nil)) | exact all_cons rfl (all_cons rfl (all_cons rfl (all_cons rfl all_nil))))) (sats_lives rfl)))) ?_
  refine as_ (lb rfl) rfl ?_
  refine nk ?_
  refine acode_seq ?_
  refine sr ?_
  refine mv (lb rfl) rfl ?_
  refine st1 rfl (op_lss (lb rfl)) (so rfl (so rfl sn)) ?_
  refine nk ?_
  refine acode_cond rfl (fun hc1 => ?_) (fun hc1 => ?_)
  ·
   simp only [dq] at hc1
   have e1 := szR_lt hc1
   refine sr ?_
   refine as_ (lb rfl) rfl ?_
   refine nkt ?_
   exact kseq_ret (fin_retL (.cons (by first | exact .c rfl | exact .ref rfl rfl | exact .nilc rfl) .nil) (by rfl) (by exact resI (szR_neg (by simp only [GCase.W]; omega)).symm))
  ·
   simp only [dq] at hc1
   have e1 := szR_ge hc1
   refine pk ?_
   refine sr ?_
   refine fdb (off := 3) Try.underlying58 Try.sizeOf34 rfl rfl rfl (lb rfl) rfl rfl ?_
   refine ldb Try.isAgg34 rfl (lb rfl) rfl rfl ?_
   refine mv (lb rfl) rfl ?_
   refine st1 rfl ((op_call Try.func59 rfl rfl (c_szIntS x.data (szR (szR (left) x.marks.length) x.busy.length) (by omega) (by omega) hx.2.2.1) (by exact (.cons (by first | exact Shares.c rfl | exact Shares.nilc | exact Shares.ref rfl (rowI.rnobox _ _) (rowI.rshare _ _)) (.cons (by first | exact Shares.c rfl) .nil))) rfl (by first | exact .inl rfl | exact .inr (sol_cons rfl sol_nil)) rfl (lb rfl))) (sats_opds (.cons rfl (.cons rfl .nil)) (sats_app (sats_fresh_all (by exact rfl)) (sats_app (sats_needs (by first | exact all_nil | exact all_cons rfl all_nil | exact all_cons rfl (all_cons rfl all_nil) | exact all_cons rfl (all_cons rfl (all_cons rfl all_nil)) | exact all_cons rfl (all_cons rfl (all_cons rfl (all_cons rfl all_nil))))) (sats_lives rfl)))) ?_
   refine as_ (lb rfl) rfl ?_
   refine nk ?_
   refine acode_seq ?_
   refine sr ?_
   refine mv (lb rfl) rfl ?_
   refine st1 rfl (op_lss (lb rfl)) (so rfl (so rfl sn)) ?_
   refine nk ?_
   refine acode_cond rfl (fun hc2 => ?_) (fun hc2 => ?_)
   ·
    simp only [dq] at hc2
    have e2 := szR_lt hc2
    refine sr ?_
    refine as_ (lb rfl) rfl ?_
    refine nkt ?_
    exact kseq_ret (fin_retL (.cons (by first | exact .c rfl | exact .ref rfl rfl | exact .nilc rfl) .nil) (by rfl) (by exact resI (szR_neg (by simp only [GCase.W]; omega)).symm))
   ·
    simp only [dq] at hc2
    have e2 := szR_ge hc2
    refine pk ?_
    refine sr ?_
    refine fdb (off := 4) Try.underlying58 Try.sizeOf56 rfl rfl rfl (lb rfl) rfl rfl ?_
    refine ldb Try.isAgg56 rfl (lb rfl) rfl rfl ?_
    refine mv (lb rfl) rfl ?_
    refine st1 rfl ((op_call Try.func74 rfl rfl (c_szCasDidS x.did (szR (szR (szR (left) x.marks.length) x.busy.length) x.data.length) (by omega) (by omega) hx.2.2.2) (by exact (.cons (by first | exact Shares.c rfl | exact Shares.nilc | exact Shares.ref rfl (rowGDid.rnobox _ _) (rowGDid.rshare _ _)) (.cons (by first | exact Shares.c rfl) .nil))) rfl (by first | exact .inl rfl | exact .inr (sol_cons rfl sol_nil)) rfl (lb rfl))) (sats_opds (.cons rfl (.cons rfl .nil)) (sats_app (sats_fresh_all (by exact rfl)) (sats_app (sats_needs (by first | exact all_nil | exact all_cons rfl all_nil | exact all_cons rfl (all_cons rfl all_nil) | exact all_cons rfl (all_cons rfl (all_cons rfl all_nil)) | exact all_cons rfl (all_cons rfl (all_cons rfl (all_cons rfl all_nil))))) (sats_lives rfl)))) ?_
    refine as_ (lb rfl) rfl ?_
    refine nk ?_
    refine acode_seq ?_
    refine sr ?_
    refine mv (lb rfl) rfl ?_
    refine st1 rfl (op_lss (lb rfl)) (so rfl (so rfl sn)) ?_
    refine nk ?_
    refine acode_cond rfl (fun hc3 => ?_) (fun hc3 => ?_)
    ·
     simp only [dq] at hc3
     have e3 := szR_lt hc3
     refine sr ?_
     refine as_ (lb rfl) rfl ?_
     refine nkt ?_
     exact kseq_ret (fin_retL (.cons (by first | exact .c rfl | exact .ref rfl rfl | exact .nilc rfl) .nil) (by rfl) (by exact resI (szR_neg (by simp only [GCase.W]; omega)).symm))
    ·
     simp only [dq] at hc3
     have e3 := szR_ge hc3
     refine pk ?_
     refine sr ?_
     refine mv (lb rfl) rfl ?_
     refine as_ (lb rfl) rfl ?_
     refine nkt ?_
     exact fin_retL (.cons (by first | exact .c rfl | exact .ref rfl rfl | exact .nilc rfl) .nil) (by rfl) (by exact resI (by have hw : szR left (GCase.W x) = left - (GCase.W x : Int) := szR_pos (by simp only [GCase.W]; omega); rw [hw]; simp only [GCase.W]; omega))
end Go.Am
