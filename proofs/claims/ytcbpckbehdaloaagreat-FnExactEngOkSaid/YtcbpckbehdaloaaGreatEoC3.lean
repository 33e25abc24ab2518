/- Mirrors and walks, printed by gox.py. Own work. -/
import Derived.Test.YtcbpckbehdaloaaGreatEoC2
set_option maxRecDepth 100000
set_option maxHeartbeats 4000000
set_option linter.unusedVariables false
set_option linter.unusedSimpArgs false
namespace Go.Am
open Go Go.Proofs

def m_impl_NetTask_outOk_k1 (t : GTask) : Option Bool := (m_impl_in (t.out.length : Int) 1 3).bind fun x21 => (some x21)
def m_impl_NetTask_outOk_l0 (t : GTask) (places : Int) (kx0_0 : Option Bool) : Nat → Int → List Int → Option Bool
  | 0, _, _ => none
  | n0 + 1, s0_0, m0_1 => if decide (s0_0 < (t.out.length : Int)) = true then ((getI t.out s0_0).bind fun x2 => (if decide (t.split = 1) = true then (gd (ok64 (places - 1)) ((m_impl_in x2.to 0 (places - 1)).bind fun x5 => (if x5 = true then (if decide (x2.to ∈ m0_1) = true then (some false) else ((m_impl_ExpOk x2.if_).bind fun x8 => (if x8 = true then (if ((decide (x2.if_.op = 0)) == true) = true then (gd (ok64 (s0_0 + 1)) ((m_impl_NetTask_outOk_l0 t places kx0_0 n0) (s0_0 + 1) (insKey m0_1 x2.to))) else (some false)) else (some false)))) else (some false)))) else (gd (ok64 ((t.out.length : Int) - 1)) (gd (ok64 (places - 1)) ((m_impl_in x2.to 0 (places - 1)).bind fun x14 => (if x14 = true then (if decide (x2.to ∈ m0_1) = true then (some false) else ((m_impl_ExpOk x2.if_).bind fun x17 => (if x17 = true then (if ((decide (x2.if_.op = 0)) == (decide (s0_0 = ((t.out.length : Int) - 1)))) = true then (gd (ok64 (s0_0 + 1)) ((m_impl_NetTask_outOk_l0 t places kx0_0 n0) (s0_0 + 1) (insKey m0_1 x2.to))) else (some false)) else (some false)))) else (some false))))))) else (kx0_0)
def m_impl_NetTask_outOk (t : GTask) (places : Int) : Option Bool := m_impl_NetTask_outOk_l0 t places (m_impl_NetTask_outOk_k1 t) FUEL 0 (insKey ([] : List Int) 0)

theorem c_impl_NetTask_outOk (t : GTask) (places : Int) (rz : Bool) (hm : m_impl_NetTask_outOk t places = some rz) : FnB Tryz.prog 209 [.row (GTask.cells false t), .c (cI places)] [.c (cB rz)] [] := by
 unfold m_impl_NetTask_outOk at hm
 refine fn_intro2 (n := 64) (rvs := [.tmp 4]) Tryz.func209 rfl rfl rfl (lb rfl) rfl rfl rfl rfl rfl ?_
 refine acode_seq ?_
 refine acode_le (le_stU (env := [(0, .row [cI t.join, cI t.split, .sl false 1 (t.in_.map (fun n : Int => [cI n])), .sl false 4 (t.out.map (GFlow.cells false)), .sl false 1 (t.clear.map (fun n : Int => [cI n])), cI t.role, cI t.apart, cI t.all, cI t.need]), (1, aInt places)]) (obj := []) idn (.cons rfl rfl (.cons rfl rfl .nil)) .nil rfl) ?_
 refine acode_region ?_
 refine st1 rfl (op_box rfl (lb rfl)) (so rfl (sf rfl (sats_lives rfl))) ?_
 refine as_ (lb rfl) rfl ?_
 refine nk ?_
 refine sr ?_
 refine st1 rfl (op_makeMap (lb rfl)) (sf rfl sn) ?_
 refine st1 rfl (op_mapUpd Tryz.underlying239 Tryz.underlying3 (.inr rfl)) (so rfl (so rfl (so rfl (sb rfl sn)))) ?_
 refine mv (lb rfl) rfl ?_
 refine as_ (lb rfl) rfl ?_
 refine nk ?_
 refine acode_seq ?_
 refine sr ?_
 refine fdb (off := 3) Tryz.underlying187 Tryz.sizeOf185 rfl rfl rfl (lb rfl) rfl rfl ?_
 refine ldb Tryz.isAgg185 rfl (lb rfl) rfl rfl ?_
 refine st1 rfl (op_len_sh (f := (GFlow.cells false)) (l := t.out) Tryz.underlying185 (lb rfl)) (so rfl sn) ?_
 refine mv (lb rfl) rfl ?_
 refine nk ?_
 refine acode_block ?_
 refine acode_loopk (xs := [1, 2, 5, 12, 13]) (ys := [2]) (S := Nat × Int × (List Int)) (fun z => [(14, aInt z.2.1)]) (fun z => [(9, .mp z.2.2)]) (fun z => m_impl_NetTask_outOk_l0 t places (m_impl_NetTask_outOk_k1 t) z.1 z.2.1 z.2.2 = some rz) (fun z => z.1) (FUEL, 0, (insKey ([] : List Int) 0)) (.cons rfl (.cons rfl (.cons rfl (.cons rfl (.cons rfl .nil))))) (.cons rfl .nil) ?em ?eo rfl ?ei ?round
 case em => exact (.cons rfl rfl .nil)
 case eo => exact (.cons rfl rfl .nil)
 case ei => exact hm
 case round =>
  rintro ⟨n0, s0_0, m0_1⟩ hm
  dsimp only at hm ⊢
  cases n0 with
  | zero => rw [m_impl_NetTask_outOk_l0] at hm; cases hm
  | succ n0 =>
   rw [m_impl_NetTask_outOk_l0] at hm
   refine sr ?_
   refine st1 rfl (op_lss (lb rfl)) (so rfl (so rfl sn)) ?_
   refine nk ?_
   refine acode_seq ?_
   refine acode_split (b := decide (s0_0 < (t.out.length : Int))) (fun c1 => ?_) (fun c1 => ?_)
   ·
    replace hm := ite_t hm c1
    refine acode_cond_true rfl (c1) ?_
    refine pk ?_
    refine acode_seq ?_
    refine acode_block ?_
    refine sr ?_
    refine mv (lb rfl) rfl ?_
    obtain ⟨x2, hx2, hm⟩ := bnd hm
    refine st1 rfl (op_index_shG (f := (GFlow.cells false)) (l := t.out) Tryz.underlying185 Tryz.sizeOf234 (lb rfl) hx2) (so rfl (so rfl sn)) ?_
    refine st1 rfl (op_load_pts_row Tryz.isAgg234 Tryz.sizeOf234 rfl rfl (lb rfl)) (so rfl sn) ?_
    refine st1 rfl (op_alloc Tryz.zeroValue234 rfl (lb rfl)) (sf rfl sn) ?_
    refine as_ (lb rfl) rfl ?_
    refine st1 rfl (op_store_bxS Tryz.sizeOf234 rfl rfl rfl rfl) (so rfl (so rfl (sb rfl (sats_lives rfl)))) ?_
    refine nk ?_
    refine sr ?_
    refine fdb (off := 1) Tryz.underlying187 Tryz.sizeOf3 rfl rfl rfl (lb rfl) rfl rfl ?_
    refine ldb Tryz.isAgg3 rfl (lb rfl) rfl rfl ?_
    refine st1 rfl (op_eql (lb rfl)) (so rfl (so rfl sn)) ?_
    refine mv (lb rfl) rfl ?_
    refine rg_split (b := decide (t.split = 1)) (fun c3 => ?_) (fun c3 => ?_)
    ·
     replace hm := ite_t hm c3
     refine st1off rfl rfl (lb rfl) rfl rfl (c3) ?_
     refine st1off rfl rfl (lb rfl) rfl rfl (c3) ?_
     refine st1off rfl rfl (lb rfl) rfl rfl (c3) ?_
     refine st1off rfl rfl (lb rfl) rfl rfl (c3) ?_
     refine st1off rfl rfl (lb rfl) rfl rfl (c3) ?_
     refine st1off rfl rfl (lb rfl) rfl rfl (c3) ?_
     refine st1 rfl (op_pick_true (lb rfl) (c3)) (so rfl (so rfl sn)) ?_
     refine as_ (lb rfl) rfl ?_
     refine nk ?_
     refine acode_seq ?_
     refine acode_seq ?_
     refine acode_le (le_stU (env := [(1, aInt places), (2, .bx 2 0), (5, .bx 9 0), (7, .bx 7 0), (8, aBool true), (12, .c (.sl false 4 (t.out.map (GFlow.cells false)))), (13, aInt (t.out.length : Int)), (14, aInt s0_0), (23, .c (.lit undef)), (24, .c (.lit undef)), (25, .c (.lit undef)), (26, .c (.lit undef)), (27, .c (.lit undef)), (28, .c (.lit undef))]) (obj := [(2, .box [aInt t.join, aInt t.split, .c (.sl false 1 (t.in_.map (fun n : Int => [cI n]))), .c (.sl false 4 (t.out.map (GFlow.cells false))), .c (.sl false 1 (t.clear.map (fun n : Int => [cI n]))), aInt t.role, aInt t.apart, aInt t.all, aInt t.need]), (9, .mp m0_1), (7, .box [aInt x2.to, aInt x2.if_.op, aInt x2.if_.var, aInt x2.if_.k])]) idn (.cons rfl rfl (.cons rfl rfl (.cons rfl rfl (.cons rfl rfl (.cons rfl rfl (.cons rfl rfl (.cons rfl rfl (.cons rfl rfl (.cons rfl rfl (.cons rfl rfl (.cons rfl rfl (.cons rfl rfl (.cons rfl rfl (.cons rfl rfl .nil)))))))))))))) (.cons rfl rfl (.inl rfl) (.cons rfl rfl (.inl rfl) (.cons rfl rfl (.inl rfl) .nil))) rfl) ?_
     refine acode_region ?_
     refine fdb (off := 0) Tryz.underlying234 Tryz.sizeOf3 rfl rfl rfl (lb rfl) rfl rfl ?_
     refine ldb Tryz.isAgg3 rfl (lb rfl) rfl rfl ?_
     refine mv (lb rfl) rfl ?_
     obtain ⟨g4, hm⟩ := gd_some hm
     refine st1 rfl (op_sub (lb rfl) g4) (so rfl (so rfl sn)) ?_
     obtain ⟨x5, hx5, hm⟩ := bnd hm
     refine st1 rfl (op_call2 (ks := []) Tryz.func87 rfl rfl (c_impl_in x2.to 0 (places - 1) x5 hx5) (.cons (.c rfl) (.cons (.c rfl) (.cons (.c rfl) .nil rfl) rfl) rfl) rfl rfl (.inl rfl) .nil rfl rfl (lb rfl)) (sats_opds (.cons rfl (.cons rfl (.cons rfl .nil))) (sats_app (sats_freshL rfl) (sats_needsO obs_nil))) ?_
     refine st1 rfl (op_not (lb rfl)) (so rfl sn) ?_
     refine mv (lb rfl) rfl ?_
     refine rg_split (b := x5) (fun c6 => ?_) (fun c6 => ?_)
     ·
      replace hm := ite_t hm c6
      refine st1on rfl rfl rfl (not_t (c6)) (op_move (lb rfl)) (so rfl sn) ?_
      refine st1on rfl rfl rfl (not_t (c6)) (op_field_bx (off := 0) Tryz.underlying234 Tryz.sizeOf3 rfl rfl rfl (lb rfl)) (so rfl (sb rfl sn)) ?_
      refine st1on rfl rfl rfl (not_t (c6)) (op_load_bx Tryz.isAgg3 rfl (lb rfl)) (so rfl (sb rfl sn)) ?_
      refine st1on rfl rfl rfl (not_t (c6)) (op_lookup Tryz.underlying239 Tryz.underlying3 Tryz.zeroValue4 (lb rfl)) (so rfl (so rfl (sb rfl sn))) ?_
      refine st1 rfl (op_pick_false (lb rfl) (not_t (c6))) (so rfl (so rfl sn)) ?_
      refine mv (lb rfl) rfl ?_
      refine rg_split (b := decide (x2.to ∈ m0_1)) (fun c7 => ?_) (fun c7 => ?_)
      ·
       replace hm := ite_t hm c7
       refine st1off rfl rfl (lb rfl) rfl rfl (c7) ?_
       refine st1off rfl rfl (lb rfl) rfl rfl (c7) ?_
       refine st1off rfl rfl (lb rfl) rfl rfl (c7) ?_
       refine st1off rfl rfl (lb rfl) rfl rfl (c7) ?_
       refine st1 rfl (op_pick_true (lb rfl) (c7)) (so rfl (so rfl sn)) ?_
       refine mv (lb rfl) rfl ?_
       refine st1off rfl rfl (lb rfl) rfl rfl (rfl) ?_
       refine st1off rfl rfl (lb rfl) rfl rfl (rfl) ?_
       refine st1off rfl rfl (lb rfl) rfl rfl (rfl) ?_
       refine st1off rfl rfl (lb rfl) rfl rfl (rfl) ?_
       refine st1off rfl rfl (lb rfl) rfl rfl (rfl) ?_
       refine st1off rfl rfl (lb rfl) rfl rfl (rfl) ?_
       refine st1 rfl (op_pick_true (lb rfl) (rfl)) (so rfl (so rfl sn)) ?_
       refine nk ?_
       refine acode_cond_true rfl (rfl) ?_
       refine acode_seq ?_
       refine acode_le (le_stU (env := []) (obj := []) idn .nil .nil rfl) ?_
       refine acode_region ?_
       refine as_ (lb rfl) rfl ?_
       refine nkt ?_
       obtain rfl := Option.some.inj hm
       exact kseq_ret (kblk_ret (kseq_ret (klg_ret (kblk_ret (kseq_ret (fin2_retL (.cons (.c rfl) .nil) rfl .nil rfl rfl rfl))))))
      ·
       replace hm := ite_f hm c7
       refine st1on rfl rfl rfl (c7) (op_field_bx (off := 1) Tryz.underlying234 Tryz.sizeOf42 rfl rfl rfl (lb rfl)) (so rfl (sb rfl sn)) ?_
       refine st1on rfl rfl rfl (c7) (op_load_bx_agg Tryz.isAgg42 Tryz.sizeOf42 rfl rfl (lb rfl)) (so rfl (sb rfl sn)) ?_
       obtain ⟨x8, hx8, hm⟩ := bnd hm
       refine st1on rfl rfl rfl (c7) (op_call2 (ks := []) Tryz.func138 rfl rfl (c_impl_ExpOk x2.if_ x8 hx8) (.cons ((.aggCons (.c rfl) (.aggCons (.c rfl) (.aggCons (.c rfl) .aggNil rfl) rfl) rfl)) .nil rfl) rfl rfl (.inl rfl) .nil rfl rfl (lb rfl)) (sats_opds (.cons rfl .nil) (sats_app (sats_freshL rfl) (sats_needsO obs_nil))) ?_
       refine st1on rfl rfl rfl (c7) (op_not (lb rfl)) (so rfl sn) ?_
       refine st1 rfl (op_pick_false (lb rfl) (c7)) (so rfl (so rfl sn)) ?_
       refine mv (lb rfl) rfl ?_
       refine rg_split (b := x8) (fun c9 => ?_) (fun c9 => ?_)
       ·
        replace hm := ite_t hm c9
        refine st1on rfl rfl rfl (not_t (c9)) (op_field_bx (off := 1) Tryz.underlying234 Tryz.sizeOf42 rfl rfl rfl (lb rfl)) (so rfl (sb rfl sn)) ?_
        refine st1on rfl rfl rfl (not_t (c9)) (op_field_bx (off := 0) Tryz.underlying42 Tryz.sizeOf3 rfl rfl rfl (lb rfl)) (so rfl (sb rfl sn)) ?_
        refine st1on rfl rfl rfl (not_t (c9)) (op_load_bx Tryz.isAgg3 rfl (lb rfl)) (so rfl (sb rfl sn)) ?_
        refine st1on rfl rfl rfl (not_t (c9)) (op_eql (lb rfl)) (so rfl (so rfl sn)) ?_
        refine st1on rfl rfl rfl (not_t (c9)) (op_move (lb rfl)) (so rfl sn) ?_
        refine st1on rfl rfl rfl (not_t (c9)) (op_neqb Tryz.underlying4 (lb rfl)) (so rfl (so rfl sn)) ?_
        refine st1 rfl (op_pick_false (lb rfl) (not_t (c9))) (so rfl (so rfl sn)) ?_
        refine nk ?_
        refine acode_split (b := ((decide (x2.if_.op = 0)) == true)) (fun c10 => ?_) (fun c10 => ?_)
        ·
         replace hm := ite_t hm c10
         refine acode_cond_false rfl (not_t (c10)) ?_
         refine pk ?_
         refine acode_region ?_
         refine mv (lb rfl) rfl ?_
         refine fdb (off := 0) Tryz.underlying234 Tryz.sizeOf3 rfl rfl rfl (lb rfl) rfl rfl ?_
         refine ldb Tryz.isAgg3 rfl (lb rfl) rfl rfl ?_
         refine st1 rfl (op_mapUpd Tryz.underlying239 Tryz.underlying3 (.inl rfl)) (so rfl (so rfl (so rfl (sb rfl sn)))) ?_
         refine rg_nil_seq ?_
         refine kblk_normal (kseq_normal ?_)
         refine acode_region ?_
         obtain ⟨g11, hm⟩ := gd_some hm
         refine st1 rfl (op_add (lb rfl) g11) (so rfl (so rfl sn)) ?_
         refine mv (lb rfl) rfl ?_
         refine rg_nil_seq ?_
         refine klg_back (n0, (s0_0 + 1), (insKey m0_1 x2.to)) hm (Nat.lt_succ_self _) ?_
         exact le_stU idn (.cons rfl rfl (.cons rfl rfl (.cons rfl rfl (.cons rfl rfl (.cons rfl rfl (.cons rfl rfl .nil)))))) (.cons rfl rfl (.inl rfl) (.cons rfl rfl (.inl rfl) .nil)) rfl
        ·
         replace hm := ite_f hm c10
         refine acode_cond_true rfl (not_f (c10)) ?_
         refine sr ?_
         refine as_ (lb rfl) rfl ?_
         refine nkt ?_
         obtain rfl := Option.some.inj hm
         exact kseq_ret (kblk_ret (kseq_ret (klg_ret (kblk_ret (kseq_ret (fin2_retL (.cons (.c rfl) .nil) rfl .nil rfl rfl rfl))))))
       ·
        replace hm := ite_f hm c9
        refine st1off rfl rfl (lb rfl) rfl rfl (not_f (c9)) ?_
        refine st1off rfl rfl (lb rfl) rfl rfl (not_f (c9)) ?_
        refine st1off rfl rfl (lb rfl) rfl rfl (not_f (c9)) ?_
        refine st1off rfl rfl (lb rfl) rfl rfl (not_f (c9)) ?_
        refine st1off rfl rfl (lb rfl) rfl rfl (not_f (c9)) ?_
        refine st1off rfl rfl (lb rfl) rfl rfl (not_f (c9)) ?_
        refine st1 rfl (op_pick_true (lb rfl) (not_f (c9))) (so rfl (so rfl sn)) ?_
        refine nk ?_
        refine acode_cond_true rfl (rfl) ?_
        refine sr ?_
        refine as_ (lb rfl) rfl ?_
        refine nkt ?_
        obtain rfl := Option.some.inj hm
        exact kseq_ret (kblk_ret (kseq_ret (klg_ret (kblk_ret (kseq_ret (fin2_retL (.cons (.c rfl) .nil) rfl .nil rfl rfl rfl))))))
     ·
      replace hm := ite_f hm c6
      refine st1off rfl rfl (lb rfl) rfl rfl (not_f (c6)) ?_
      refine st1off rfl rfl (lb rfl) rfl rfl (not_f (c6)) ?_
      refine st1off rfl rfl (lb rfl) rfl rfl (not_f (c6)) ?_
      refine st1off rfl rfl (lb rfl) rfl rfl (not_f (c6)) ?_
      refine st1 rfl (op_pick_true (lb rfl) (not_f (c6))) (so rfl (so rfl sn)) ?_
      refine mv (lb rfl) rfl ?_
      refine st1off rfl rfl (lb rfl) rfl rfl (rfl) ?_
      refine st1off rfl rfl (lb rfl) rfl rfl (rfl) ?_
      refine st1off rfl rfl (lb rfl) rfl rfl (rfl) ?_
      refine st1off rfl rfl (lb rfl) rfl rfl (rfl) ?_
      refine st1 rfl (op_pick_true (lb rfl) (rfl)) (so rfl (so rfl sn)) ?_
      refine mv (lb rfl) rfl ?_
      refine st1off rfl rfl (lb rfl) rfl rfl (rfl) ?_
      refine st1off rfl rfl (lb rfl) rfl rfl (rfl) ?_
      refine st1off rfl rfl (lb rfl) rfl rfl (rfl) ?_
      refine st1off rfl rfl (lb rfl) rfl rfl (rfl) ?_
      refine st1off rfl rfl (lb rfl) rfl rfl (rfl) ?_
      refine st1off rfl rfl (lb rfl) rfl rfl (rfl) ?_
      refine st1 rfl (op_pick_true (lb rfl) (rfl)) (so rfl (so rfl sn)) ?_
      refine nk ?_
      refine acode_cond_true rfl (rfl) ?_
      refine sr ?_
      refine as_ (lb rfl) rfl ?_
      refine nkt ?_
      obtain rfl := Option.some.inj hm
      exact kseq_ret (kblk_ret (kseq_ret (klg_ret (kblk_ret (kseq_ret (fin2_retL (.cons (.c rfl) .nil) rfl .nil rfl rfl rfl))))))
    ·
     replace hm := ite_f hm c3
     refine st1on rfl rfl rfl (c3) (op_move (lb rfl)) (so rfl sn) ?_
     refine st1on rfl rfl rfl (c3) (op_field_bx (off := 3) Tryz.underlying187 Tryz.sizeOf185 rfl rfl rfl (lb rfl)) (so rfl (sb rfl sn)) ?_
     refine st1on rfl rfl rfl (c3) (op_load_bx Tryz.isAgg185 rfl (lb rfl)) (so rfl (sb rfl sn)) ?_
     refine st1on rfl rfl rfl (c3) (op_len_sh (f := (GFlow.cells false)) (l := t.out) Tryz.underlying185 (lb rfl)) (so rfl sn) ?_
     obtain ⟨g12, hm⟩ := gd_some hm
     refine st1on rfl rfl rfl (c3) (op_sub (lb rfl) g12) (so rfl (so rfl sn)) ?_
     refine st1on rfl rfl rfl (c3) (op_eql (lb rfl)) (so rfl (so rfl sn)) ?_
     refine st1 rfl (op_pick_false (lb rfl) (c3)) (so rfl (so rfl sn)) ?_
     refine as_ (lb rfl) rfl ?_
     refine nk ?_
     refine acode_seq ?_
     refine sr ?_
     refine fdb (off := 0) Tryz.underlying234 Tryz.sizeOf3 rfl rfl rfl (lb rfl) rfl rfl ?_
     refine ldb Tryz.isAgg3 rfl (lb rfl) rfl rfl ?_
     refine mv (lb rfl) rfl ?_
     obtain ⟨g13, hm⟩ := gd_some hm
     refine st1 rfl (op_sub (lb rfl) g13) (so rfl (so rfl sn)) ?_
     obtain ⟨x14, hx14, hm⟩ := bnd hm
     refine st1 rfl (op_call2 (ks := []) Tryz.func87 rfl rfl (c_impl_in x2.to 0 (places - 1) x14 hx14) (.cons (.c rfl) (.cons (.c rfl) (.cons (.c rfl) .nil rfl) rfl) rfl) rfl rfl (.inl rfl) .nil rfl rfl (lb rfl)) (sats_opds (.cons rfl (.cons rfl (.cons rfl .nil))) (sats_app (sats_freshL rfl) (sats_needsO obs_nil))) ?_
     refine st1 rfl (op_not (lb rfl)) (so rfl sn) ?_
     refine mv (lb rfl) rfl ?_
     refine rg_split (b := x14) (fun c15 => ?_) (fun c15 => ?_)
     ·
      replace hm := ite_t hm c15
      refine st1on rfl rfl rfl (not_t (c15)) (op_move (lb rfl)) (so rfl sn) ?_
      refine st1on rfl rfl rfl (not_t (c15)) (op_field_bx (off := 0) Tryz.underlying234 Tryz.sizeOf3 rfl rfl rfl (lb rfl)) (so rfl (sb rfl sn)) ?_
      refine st1on rfl rfl rfl (not_t (c15)) (op_load_bx Tryz.isAgg3 rfl (lb rfl)) (so rfl (sb rfl sn)) ?_
      refine st1on rfl rfl rfl (not_t (c15)) (op_lookup Tryz.underlying239 Tryz.underlying3 Tryz.zeroValue4 (lb rfl)) (so rfl (so rfl (sb rfl sn))) ?_
      refine st1 rfl (op_pick_false (lb rfl) (not_t (c15))) (so rfl (so rfl sn)) ?_
      refine mv (lb rfl) rfl ?_
      refine rg_split (b := decide (x2.to ∈ m0_1)) (fun c16 => ?_) (fun c16 => ?_)
      ·
       replace hm := ite_t hm c16
       refine st1off rfl rfl (lb rfl) rfl rfl (c16) ?_
       refine st1off rfl rfl (lb rfl) rfl rfl (c16) ?_
       refine st1off rfl rfl (lb rfl) rfl rfl (c16) ?_
       refine st1off rfl rfl (lb rfl) rfl rfl (c16) ?_
       refine st1 rfl (op_pick_true (lb rfl) (c16)) (so rfl (so rfl sn)) ?_
       refine mv (lb rfl) rfl ?_
       refine st1off rfl rfl (lb rfl) rfl rfl (rfl) ?_
       refine st1off rfl rfl (lb rfl) rfl rfl (rfl) ?_
       refine st1off rfl rfl (lb rfl) rfl rfl (rfl) ?_
       refine st1off rfl rfl (lb rfl) rfl rfl (rfl) ?_
       refine st1off rfl rfl (lb rfl) rfl rfl (rfl) ?_
       refine st1off rfl rfl (lb rfl) rfl rfl (rfl) ?_
       refine st1 rfl (op_pick_true (lb rfl) (rfl)) (so rfl (so rfl sn)) ?_
       refine nk ?_
       refine acode_cond_true rfl (rfl) ?_
       refine acode_seq ?_
       refine acode_le (le_stU (env := []) (obj := []) idn .nil .nil rfl) ?_
       refine acode_region ?_
       refine as_ (lb rfl) rfl ?_
       refine nkt ?_
       obtain rfl := Option.some.inj hm
       exact kseq_ret (kblk_ret (kseq_ret (klg_ret (kblk_ret (kseq_ret (fin2_retL (.cons (.c rfl) .nil) rfl .nil rfl rfl rfl))))))
      ·
       replace hm := ite_f hm c16
       refine st1on rfl rfl rfl (c16) (op_field_bx (off := 1) Tryz.underlying234 Tryz.sizeOf42 rfl rfl rfl (lb rfl)) (so rfl (sb rfl sn)) ?_
       refine st1on rfl rfl rfl (c16) (op_load_bx_agg Tryz.isAgg42 Tryz.sizeOf42 rfl rfl (lb rfl)) (so rfl (sb rfl sn)) ?_
       obtain ⟨x17, hx17, hm⟩ := bnd hm
       refine st1on rfl rfl rfl (c16) (op_call2 (ks := []) Tryz.func138 rfl rfl (c_impl_ExpOk x2.if_ x17 hx17) (.cons ((.aggCons (.c rfl) (.aggCons (.c rfl) (.aggCons (.c rfl) .aggNil rfl) rfl) rfl)) .nil rfl) rfl rfl (.inl rfl) .nil rfl rfl (lb rfl)) (sats_opds (.cons rfl .nil) (sats_app (sats_freshL rfl) (sats_needsO obs_nil))) ?_
       refine st1on rfl rfl rfl (c16) (op_not (lb rfl)) (so rfl sn) ?_
       refine st1 rfl (op_pick_false (lb rfl) (c16)) (so rfl (so rfl sn)) ?_
       refine mv (lb rfl) rfl ?_
       refine rg_split (b := x17) (fun c18 => ?_) (fun c18 => ?_)
       ·
        replace hm := ite_t hm c18
        refine st1on rfl rfl rfl (not_t (c18)) (op_field_bx (off := 1) Tryz.underlying234 Tryz.sizeOf42 rfl rfl rfl (lb rfl)) (so rfl (sb rfl sn)) ?_
        refine st1on rfl rfl rfl (not_t (c18)) (op_field_bx (off := 0) Tryz.underlying42 Tryz.sizeOf3 rfl rfl rfl (lb rfl)) (so rfl (sb rfl sn)) ?_
        refine st1on rfl rfl rfl (not_t (c18)) (op_load_bx Tryz.isAgg3 rfl (lb rfl)) (so rfl (sb rfl sn)) ?_
        refine st1on rfl rfl rfl (not_t (c18)) (op_eql (lb rfl)) (so rfl (so rfl sn)) ?_
        refine st1on rfl rfl rfl (not_t (c18)) (op_move (lb rfl)) (so rfl sn) ?_
        refine st1on rfl rfl rfl (not_t (c18)) (op_neqb Tryz.underlying4 (lb rfl)) (so rfl (so rfl sn)) ?_
        refine st1 rfl (op_pick_false (lb rfl) (not_t (c18))) (so rfl (so rfl sn)) ?_
        refine nk ?_
        refine acode_split (b := ((decide (x2.if_.op = 0)) == (decide (s0_0 = ((t.out.length : Int) - 1))))) (fun c19 => ?_) (fun c19 => ?_)
        ·
         replace hm := ite_t hm c19
         refine acode_cond_false rfl (not_t (c19)) ?_
         refine pk ?_
         refine acode_region ?_
         refine mv (lb rfl) rfl ?_
         refine fdb (off := 0) Tryz.underlying234 Tryz.sizeOf3 rfl rfl rfl (lb rfl) rfl rfl ?_
         refine ldb Tryz.isAgg3 rfl (lb rfl) rfl rfl ?_
         refine st1 rfl (op_mapUpd Tryz.underlying239 Tryz.underlying3 (.inl rfl)) (so rfl (so rfl (so rfl (sb rfl sn)))) ?_
         refine rg_nil_seq ?_
         refine kblk_normal (kseq_normal ?_)
         refine acode_region ?_
         obtain ⟨g20, hm⟩ := gd_some hm
         refine st1 rfl (op_add (lb rfl) g20) (so rfl (so rfl sn)) ?_
         refine mv (lb rfl) rfl ?_
         refine rg_nil_seq ?_
         refine klg_back (n0, (s0_0 + 1), (insKey m0_1 x2.to)) hm (Nat.lt_succ_self _) ?_
         exact le_stU idn (.cons rfl rfl (.cons rfl rfl (.cons rfl rfl (.cons rfl rfl (.cons rfl rfl (.cons rfl rfl .nil)))))) (.cons rfl rfl (.inl rfl) (.cons rfl rfl (.inl rfl) .nil)) rfl
        ·
         replace hm := ite_f hm c19
         refine acode_cond_true rfl (not_f (c19)) ?_
         refine sr ?_
         refine as_ (lb rfl) rfl ?_
         refine nkt ?_
         obtain rfl := Option.some.inj hm
         exact kseq_ret (kblk_ret (kseq_ret (klg_ret (kblk_ret (kseq_ret (fin2_retL (.cons (.c rfl) .nil) rfl .nil rfl rfl rfl))))))
       ·
        replace hm := ite_f hm c18
        refine st1off rfl rfl (lb rfl) rfl rfl (not_f (c18)) ?_
        refine st1off rfl rfl (lb rfl) rfl rfl (not_f (c18)) ?_
        refine st1off rfl rfl (lb rfl) rfl rfl (not_f (c18)) ?_
        refine st1off rfl rfl (lb rfl) rfl rfl (not_f (c18)) ?_
        refine st1off rfl rfl (lb rfl) rfl rfl (not_f (c18)) ?_
        refine st1off rfl rfl (lb rfl) rfl rfl (not_f (c18)) ?_
        refine st1 rfl (op_pick_true (lb rfl) (not_f (c18))) (so rfl (so rfl sn)) ?_
        refine nk ?_
        refine acode_cond_true rfl (rfl) ?_
        refine sr ?_
        refine as_ (lb rfl) rfl ?_
        refine nkt ?_
        obtain rfl := Option.some.inj hm
        exact kseq_ret (kblk_ret (kseq_ret (klg_ret (kblk_ret (kseq_ret (fin2_retL (.cons (.c rfl) .nil) rfl .nil rfl rfl rfl))))))
     ·
      replace hm := ite_f hm c15
      refine st1off rfl rfl (lb rfl) rfl rfl (not_f (c15)) ?_
      refine st1off rfl rfl (lb rfl) rfl rfl (not_f (c15)) ?_
      refine st1off rfl rfl (lb rfl) rfl rfl (not_f (c15)) ?_
      refine st1off rfl rfl (lb rfl) rfl rfl (not_f (c15)) ?_
      refine st1 rfl (op_pick_true (lb rfl) (not_f (c15))) (so rfl (so rfl sn)) ?_
      refine mv (lb rfl) rfl ?_
      refine st1off rfl rfl (lb rfl) rfl rfl (rfl) ?_
      refine st1off rfl rfl (lb rfl) rfl rfl (rfl) ?_
      refine st1off rfl rfl (lb rfl) rfl rfl (rfl) ?_
      refine st1off rfl rfl (lb rfl) rfl rfl (rfl) ?_
      refine st1 rfl (op_pick_true (lb rfl) (rfl)) (so rfl (so rfl sn)) ?_
      refine mv (lb rfl) rfl ?_
      refine st1off rfl rfl (lb rfl) rfl rfl (rfl) ?_
      refine st1off rfl rfl (lb rfl) rfl rfl (rfl) ?_
      refine st1off rfl rfl (lb rfl) rfl rfl (rfl) ?_
      refine st1off rfl rfl (lb rfl) rfl rfl (rfl) ?_
      refine st1off rfl rfl (lb rfl) rfl rfl (rfl) ?_
      refine st1off rfl rfl (lb rfl) rfl rfl (rfl) ?_
      refine st1 rfl (op_pick_true (lb rfl) (rfl)) (so rfl (so rfl sn)) ?_
      refine nk ?_
      refine acode_cond_true rfl (rfl) ?_
      refine sr ?_
      refine as_ (lb rfl) rfl ?_
      refine nkt ?_
      obtain rfl := Option.some.inj hm
      exact kseq_ret (kblk_ret (kseq_ret (klg_ret (kblk_ret (kseq_ret (fin2_retL (.cons (.c rfl) .nil) rfl .nil rfl rfl rfl))))))
   ·
    replace hm := ite_f hm c1
    refine acode_cond_false rfl (c1) ?_
    refine acode_exit ?_
    unfold m_impl_NetTask_outOk_k1 at hm
    refine kseq_exit (klg_exit (kblk_hit (kseq_normal ?_)))
    refine sr ?_
    refine fdb (off := 3) Tryz.underlying187 Tryz.sizeOf185 rfl rfl rfl (lb rfl) rfl rfl ?_
    refine ldb Tryz.isAgg185 rfl (lb rfl) rfl rfl ?_
    refine st1 rfl (op_len_sh (f := (GFlow.cells false)) (l := t.out) Tryz.underlying185 (lb rfl)) (so rfl sn) ?_
    obtain ⟨x21, hx21, hm⟩ := bnd hm
    refine st1 rfl (op_call2 (ks := []) Tryz.func87 rfl rfl (c_impl_in (t.out.length : Int) 1 3 x21 hx21) (.cons (.c rfl) (.cons (.c rfl) (.cons (.c rfl) .nil rfl) rfl) rfl) rfl rfl (.inl rfl) .nil rfl rfl (lb rfl)) (sats_opds (.cons rfl (.cons rfl (.cons rfl .nil))) (sats_app (sats_freshL rfl) (sats_needsO obs_nil))) ?_
    refine as_ (lb rfl) rfl ?_
    refine nkt ?_
    obtain rfl := Option.some.inj hm
    exact fin2_retL (.cons (.c rfl) .nil) rfl .nil rfl rfl rfl

def m_impl_NetTask_ok (t : GTask) (places : Int) (tasks : Int) : Option Bool := (m_impl_isKind t.join).bind fun x1 => (if x1 = true then ((m_impl_isKind t.split).bind fun x3 => (if x3 = true then ((m_impl_in (t.in_.length : Int) 1 3).bind fun x5 => (if x5 = true then ((m_impl_ascends t.in_ places [1]).bind fun x7 => (if x7 = true then ((m_impl_NetTask_outOk t places).bind fun x9 => (if x9 = true then ((m_impl_ascends t.clear places [0, 1]).bind fun x11 => (if x11 = true then ((m_impl_isRole t.role).bind fun x13 => (if x13 = true then (gd (ok64 (tasks - 1)) ((m_impl_in t.apart (-1) (tasks - 1)).bind fun x16 => (if x16 = true then ((m_impl_in t.all 1 3).bind fun x18 => (if x18 = true then ((m_impl_in t.need 1 t.all).bind fun x20 => (some x20)) else (some false))) else (some false)))) else (some false))) else (some false))) else (some false))) else (some false))) else (some false))) else (some false))) else (some false))

theorem c_impl_NetTask_ok (t : GTask) (places : Int) (tasks : Int) (rz : Bool) (hm : m_impl_NetTask_ok t places tasks = some rz) : FnB Tryz.prog 163 [.row (GTask.cells false t), .c (cI places), .c (cI tasks)] [.c (cB rz)] [] := by
 unfold m_impl_NetTask_ok at hm
 refine fn_intro2 (n := 64) (rvs := [.tmp 6]) Tryz.func163 rfl rfl rfl (lb rfl) rfl rfl rfl rfl rfl ?_
 refine acode_seq ?_
 refine acode_le (le_stU (env := [(0, .row [cI t.join, cI t.split, .sl false 1 (t.in_.map (fun n : Int => [cI n])), .sl false 4 (t.out.map (GFlow.cells false)), .sl false 1 (t.clear.map (fun n : Int => [cI n])), cI t.role, cI t.apart, cI t.all, cI t.need]), (1, aInt places), (2, aInt tasks)]) (obj := []) idn (.cons rfl rfl (.cons rfl rfl (.cons rfl rfl .nil))) .nil rfl) ?_
 refine acode_region ?_
 refine st1 rfl (op_box rfl (lb rfl)) (so rfl (sf rfl (sats_lives rfl))) ?_
 refine as_ (lb rfl) rfl ?_
 refine nk ?_
 refine sr ?_
 refine fdb (off := 0) Tryz.underlying187 Tryz.sizeOf3 rfl rfl rfl (lb rfl) rfl rfl ?_
 refine ldb Tryz.isAgg3 rfl (lb rfl) rfl rfl ?_
 obtain ⟨x1, hx1, hm⟩ := bnd hm
 refine st1 rfl (op_call2 (ks := []) Tryz.func207 rfl rfl (c_impl_isKind t.join x1 hx1) (.cons (.c rfl) .nil rfl) rfl rfl (.inl rfl) .nil rfl rfl (lb rfl)) (sats_opds (.cons rfl .nil) (sats_app (sats_freshL rfl) (sats_needsO obs_nil))) ?_
 refine mv (lb rfl) rfl ?_
 refine rg_split (b := x1) (fun c2 => ?_) (fun c2 => ?_)
 ·
  replace hm := ite_t hm c2
  refine st1on rfl rfl rfl (c2) (op_field_bx (off := 1) Tryz.underlying187 Tryz.sizeOf3 rfl rfl rfl (lb rfl)) (so rfl (sb rfl sn)) ?_
  refine st1on rfl rfl rfl (c2) (op_load_bx Tryz.isAgg3 rfl (lb rfl)) (so rfl (sb rfl sn)) ?_
  obtain ⟨x3, hx3, hm⟩ := bnd hm
  refine st1on rfl rfl rfl (c2) (op_call2 (ks := []) Tryz.func207 rfl rfl (c_impl_isKind t.split x3 hx3) (.cons (.c rfl) .nil rfl) rfl rfl (.inl rfl) .nil rfl rfl (lb rfl)) (sats_opds (.cons rfl .nil) (sats_app (sats_freshL rfl) (sats_needsO obs_nil))) ?_
  refine st1 rfl (op_pick_true (lb rfl) (c2)) (so rfl (so rfl sn)) ?_
  refine mv (lb rfl) rfl ?_
  refine rg_split (b := x3) (fun c4 => ?_) (fun c4 => ?_)
  ·
   replace hm := ite_t hm c4
   refine st1on rfl rfl rfl (c4) (op_field_bx (off := 2) Tryz.underlying187 Tryz.sizeOf23 rfl rfl rfl (lb rfl)) (so rfl (sb rfl sn)) ?_
   refine st1on rfl rfl rfl (c4) (op_load_bx Tryz.isAgg23 rfl (lb rfl)) (so rfl (sb rfl sn)) ?_
   refine st1on rfl rfl rfl (c4) (op_len_sh (f := (fun n : Int => [cI n])) (l := t.in_) Tryz.underlying23 (lb rfl)) (so rfl sn) ?_
   obtain ⟨x5, hx5, hm⟩ := bnd hm
   refine st1on rfl rfl rfl (c4) (op_call2 (ks := []) Tryz.func87 rfl rfl (c_impl_in (t.in_.length : Int) 1 3 x5 hx5) (.cons (.c rfl) (.cons (.c rfl) (.cons (.c rfl) .nil rfl) rfl) rfl) rfl rfl (.inl rfl) .nil rfl rfl (lb rfl)) (sats_opds (.cons rfl (.cons rfl (.cons rfl .nil))) (sats_app (sats_freshL rfl) (sats_needsO obs_nil))) ?_
   refine st1 rfl (op_pick_true (lb rfl) (c4)) (so rfl (so rfl sn)) ?_
   refine mv (lb rfl) rfl ?_
   refine rg_split (b := x5) (fun c6 => ?_) (fun c6 => ?_)
   ·
    replace hm := ite_t hm c6
    refine st1on rfl rfl rfl (c6) (op_field_bx (off := 2) Tryz.underlying187 Tryz.sizeOf23 rfl rfl rfl (lb rfl)) (so rfl (sb rfl sn)) ?_
    refine st1on rfl rfl rfl (c6) (op_load_bx Tryz.isAgg23 rfl (lb rfl)) (so rfl (sb rfl sn)) ?_
    refine st1on rfl rfl rfl (c6) (op_move (lb rfl)) (so rfl sn) ?_
    refine st1on rfl rfl rfl (c6) (op_buildSliceG (rows := [(fun n : Int => [cI n]) 1]) (elem23) rfl rfl (.cons rfl rfl rfl (.c rfl .nil) .nil rfl) rfl rfl rfl (lb rfl)) (sats_opds (.cons rfl .nil) (sf rfl (sats_objs all_nil (sats_lives rfl)))) ?_
    obtain ⟨x7, hx7, hm⟩ := bnd hm
    refine st1on rfl rfl rfl (c6) (op_call2 (ks := []) Tryz.func208 rfl rfl (c_impl_ascends t.in_ places [1] x7 hx7) (.cons (.c rfl) (.cons (.c rfl) (.cons (.ref rfl (rowI.rnobox true _) (rowI.rshare true _)) .nil rfl) rfl) rfl) rfl rfl (.inr ⟨(sol_cons rfl sol_nil), fun p hp => (by cases hp)⟩) .nil rfl rfl (lb rfl)) (sats_opds (.cons rfl (.cons rfl (.cons rfl .nil))) (sats_app (sats_freshL rfl) (sats_needsO (obs_cons rfl obs_nil)))) ?_
    refine st1 rfl (op_pick_true (lb rfl) (c6)) (so rfl (so rfl sn)) ?_
    refine mv (lb rfl) rfl ?_
    refine rg_split (b := x7) (fun c8 => ?_) (fun c8 => ?_)
    ·
     replace hm := ite_t hm c8
     refine st1on rfl rfl rfl (c8) (op_load_bx_agg Tryz.isAgg187 Tryz.sizeOf187 rfl rfl (lb rfl)) (so rfl (sb rfl sn)) ?_
     refine st1on rfl rfl rfl (c8) (op_move (lb rfl)) (so rfl sn) ?_
     obtain ⟨x9, hx9, hm⟩ := bnd hm
     refine st1on rfl rfl rfl (c8) (op_call2 (ks := []) Tryz.func209 rfl rfl (c_impl_NetTask_outOk t places x9 hx9) (.cons ((.aggCons (.c rfl) (.aggCons (.c rfl) (.aggCons (.c rfl) (.aggCons (.c rfl) (.aggCons (.c rfl) (.aggCons (.c rfl) (.aggCons (.c rfl) (.aggCons (.c rfl) (.aggCons (.c rfl) .aggNil rfl) rfl) rfl) rfl) rfl) rfl) rfl) rfl) rfl)) (.cons (.c rfl) .nil rfl) rfl) rfl rfl (.inl rfl) .nil rfl rfl (lb rfl)) (sats_opds (.cons rfl (.cons rfl .nil)) (sats_app (sats_freshL rfl) (sats_needsO obs_nil))) ?_
     refine st1 rfl (op_pick_true (lb rfl) (c8)) (so rfl (so rfl sn)) ?_
     refine mv (lb rfl) rfl ?_
     refine rg_split (b := x9) (fun c10 => ?_) (fun c10 => ?_)
     ·
      replace hm := ite_t hm c10
      refine st1on rfl rfl rfl (c10) (op_field_bx (off := 4) Tryz.underlying187 Tryz.sizeOf23 rfl rfl rfl (lb rfl)) (so rfl (sb rfl sn)) ?_
      refine st1on rfl rfl rfl (c10) (op_load_bx Tryz.isAgg23 rfl (lb rfl)) (so rfl (sb rfl sn)) ?_
      refine st1on rfl rfl rfl (c10) (op_move (lb rfl)) (so rfl sn) ?_
      refine st1on rfl rfl rfl (c10) (op_buildSliceG (rows := [(fun n : Int => [cI n]) 0, (fun n : Int => [cI n]) 1]) (elem23) rfl rfl (.cons rfl rfl rfl (.c rfl .nil) (.cons rfl rfl rfl (.c rfl .nil) .nil rfl) rfl) rfl rfl rfl (lb rfl)) (sats_opds (.cons rfl (.cons rfl .nil)) (sf rfl (sats_objs all_nil (sats_lives rfl)))) ?_
      obtain ⟨x11, hx11, hm⟩ := bnd hm
      refine st1on rfl rfl rfl (c10) (op_call2 (ks := []) Tryz.func208 rfl rfl (c_impl_ascends t.clear places [0, 1] x11 hx11) (.cons (.c rfl) (.cons (.c rfl) (.cons (.ref rfl (rowI.rnobox true _) (rowI.rshare true _)) .nil rfl) rfl) rfl) rfl rfl (.inr ⟨(sol_cons rfl sol_nil), fun p hp => (by cases hp)⟩) .nil rfl rfl (lb rfl)) (sats_opds (.cons rfl (.cons rfl (.cons rfl .nil))) (sats_app (sats_freshL rfl) (sats_needsO (obs_cons rfl obs_nil)))) ?_
      refine st1 rfl (op_pick_true (lb rfl) (c10)) (so rfl (so rfl sn)) ?_
      refine mv (lb rfl) rfl ?_
      refine rg_split (b := x11) (fun c12 => ?_) (fun c12 => ?_)
      ·
       replace hm := ite_t hm c12
       refine st1on rfl rfl rfl (c12) (op_field_bx (off := 5) Tryz.underlying187 Tryz.sizeOf3 rfl rfl rfl (lb rfl)) (so rfl (sb rfl sn)) ?_
       refine st1on rfl rfl rfl (c12) (op_load_bx Tryz.isAgg3 rfl (lb rfl)) (so rfl (sb rfl sn)) ?_
       obtain ⟨x13, hx13, hm⟩ := bnd hm
       refine st1on rfl rfl rfl (c12) (op_call2 (ks := []) Tryz.func210 rfl rfl (c_impl_isRole t.role x13 hx13) (.cons (.c rfl) .nil rfl) rfl rfl (.inl rfl) .nil rfl rfl (lb rfl)) (sats_opds (.cons rfl .nil) (sats_app (sats_freshL rfl) (sats_needsO obs_nil))) ?_
       refine st1 rfl (op_pick_true (lb rfl) (c12)) (so rfl (so rfl sn)) ?_
       refine mv (lb rfl) rfl ?_
       refine rg_split (b := x13) (fun c14 => ?_) (fun c14 => ?_)
       ·
        replace hm := ite_t hm c14
        refine st1on rfl rfl rfl (c14) (op_field_bx (off := 6) Tryz.underlying187 Tryz.sizeOf3 rfl rfl rfl (lb rfl)) (so rfl (sb rfl sn)) ?_
        refine st1on rfl rfl rfl (c14) (op_load_bx Tryz.isAgg3 rfl (lb rfl)) (so rfl (sb rfl sn)) ?_
        refine st1on rfl rfl rfl (c14) (op_move (lb rfl)) (so rfl sn) ?_
        obtain ⟨g15, hm⟩ := gd_some hm
        refine st1on rfl rfl rfl (c14) (op_sub (lb rfl) g15) (so rfl (so rfl sn)) ?_
        obtain ⟨x16, hx16, hm⟩ := bnd hm
        refine st1on rfl rfl rfl (c14) (op_call2 (ks := []) Tryz.func87 rfl rfl (c_impl_in t.apart (-1) (tasks - 1) x16 hx16) (.cons (.c rfl) (.cons (.c rfl) (.cons (.c rfl) .nil rfl) rfl) rfl) rfl rfl (.inl rfl) .nil rfl rfl (lb rfl)) (sats_opds (.cons rfl (.cons rfl (.cons rfl .nil))) (sats_app (sats_freshL rfl) (sats_needsO obs_nil))) ?_
        refine st1 rfl (op_pick_true (lb rfl) (c14)) (so rfl (so rfl sn)) ?_
        refine mv (lb rfl) rfl ?_
        refine rg_split (b := x16) (fun c17 => ?_) (fun c17 => ?_)
        ·
         replace hm := ite_t hm c17
         refine st1on rfl rfl rfl (c17) (op_field_bx (off := 7) Tryz.underlying187 Tryz.sizeOf3 rfl rfl rfl (lb rfl)) (so rfl (sb rfl sn)) ?_
         refine st1on rfl rfl rfl (c17) (op_load_bx Tryz.isAgg3 rfl (lb rfl)) (so rfl (sb rfl sn)) ?_
         obtain ⟨x18, hx18, hm⟩ := bnd hm
         refine st1on rfl rfl rfl (c17) (op_call2 (ks := []) Tryz.func87 rfl rfl (c_impl_in t.all 1 3 x18 hx18) (.cons (.c rfl) (.cons (.c rfl) (.cons (.c rfl) .nil rfl) rfl) rfl) rfl rfl (.inl rfl) .nil rfl rfl (lb rfl)) (sats_opds (.cons rfl (.cons rfl (.cons rfl .nil))) (sats_app (sats_freshL rfl) (sats_needsO obs_nil))) ?_
         refine st1 rfl (op_pick_true (lb rfl) (c17)) (so rfl (so rfl sn)) ?_
         refine mv (lb rfl) rfl ?_
         refine rg_split (b := x18) (fun c19 => ?_) (fun c19 => ?_)
         ·
          replace hm := ite_t hm c19
          refine st1on rfl rfl rfl (c19) (op_field_bx (off := 8) Tryz.underlying187 Tryz.sizeOf3 rfl rfl rfl (lb rfl)) (so rfl (sb rfl sn)) ?_
          refine st1on rfl rfl rfl (c19) (op_load_bx Tryz.isAgg3 rfl (lb rfl)) (so rfl (sb rfl sn)) ?_
          refine st1on rfl rfl rfl (c19) (op_field_bx (off := 7) Tryz.underlying187 Tryz.sizeOf3 rfl rfl rfl (lb rfl)) (so rfl (sb rfl sn)) ?_
          refine st1on rfl rfl rfl (c19) (op_load_bx Tryz.isAgg3 rfl (lb rfl)) (so rfl (sb rfl sn)) ?_
          obtain ⟨x20, hx20, hm⟩ := bnd hm
          refine st1on rfl rfl rfl (c19) (op_call2 (ks := []) Tryz.func87 rfl rfl (c_impl_in t.need 1 t.all x20 hx20) (.cons (.c rfl) (.cons (.c rfl) (.cons (.c rfl) .nil rfl) rfl) rfl) rfl rfl (.inl rfl) .nil rfl rfl (lb rfl)) (sats_opds (.cons rfl (.cons rfl (.cons rfl .nil))) (sats_app (sats_freshL rfl) (sats_needsO obs_nil))) ?_
          refine st1 rfl (op_pick_true (lb rfl) (c19)) (so rfl (so rfl sn)) ?_
          refine as_ (lb rfl) rfl ?_
          refine nkt ?_
          obtain rfl := Option.some.inj hm
          exact fin2_retL (.cons (.c rfl) .nil) rfl .nil rfl rfl rfl
         ·
          replace hm := ite_f hm c19
          refine st1off rfl rfl (lb rfl) rfl rfl (c19) ?_
          refine st1off rfl rfl (lb rfl) rfl rfl (c19) ?_
          refine st1off rfl rfl (lb rfl) rfl rfl (c19) ?_
          refine st1off rfl rfl (lb rfl) rfl rfl (c19) ?_
          refine st1off rfl rfl (lb rfl) rfl rfl (c19) ?_
          refine st1 rfl (op_pick_false (lb rfl) (c19)) (so rfl (so rfl sn)) ?_
          refine as_ (lb rfl) rfl ?_
          refine nkt ?_
          obtain rfl := Option.some.inj hm
          exact fin2_retL (.cons (.c rfl) .nil) rfl .nil rfl rfl rfl
        ·
         replace hm := ite_f hm c17
         refine st1off rfl rfl (lb rfl) rfl rfl (c17) ?_
         refine st1off rfl rfl (lb rfl) rfl rfl (c17) ?_
         refine st1off rfl rfl (lb rfl) rfl rfl (c17) ?_
         refine st1 rfl (op_pick_false (lb rfl) (c17)) (so rfl (so rfl sn)) ?_
         refine mv (lb rfl) rfl ?_
         refine st1off rfl rfl (lb rfl) rfl rfl (rfl) ?_
         refine st1off rfl rfl (lb rfl) rfl rfl (rfl) ?_
         refine st1off rfl rfl (lb rfl) rfl rfl (rfl) ?_
         refine st1off rfl rfl (lb rfl) rfl rfl (rfl) ?_
         refine st1off rfl rfl (lb rfl) rfl rfl (rfl) ?_
         refine st1 rfl (op_pick_false (lb rfl) (rfl)) (so rfl (so rfl sn)) ?_
         refine as_ (lb rfl) rfl ?_
         refine nkt ?_
         obtain rfl := Option.some.inj hm
         exact fin2_retL (.cons (.c rfl) .nil) rfl .nil rfl rfl rfl
       ·
        replace hm := ite_f hm c14
        refine st1off rfl rfl (lb rfl) rfl rfl (c14) ?_
        refine st1off rfl rfl (lb rfl) rfl rfl (c14) ?_
        refine st1off rfl rfl (lb rfl) rfl rfl (c14) ?_
        refine st1off rfl rfl (lb rfl) rfl rfl (c14) ?_
        refine st1off rfl rfl (lb rfl) rfl rfl (c14) ?_
        refine st1 rfl (op_pick_false (lb rfl) (c14)) (so rfl (so rfl sn)) ?_
        refine mv (lb rfl) rfl ?_
        refine st1off rfl rfl (lb rfl) rfl rfl (rfl) ?_
        refine st1off rfl rfl (lb rfl) rfl rfl (rfl) ?_
        refine st1off rfl rfl (lb rfl) rfl rfl (rfl) ?_
        refine st1 rfl (op_pick_false (lb rfl) (rfl)) (so rfl (so rfl sn)) ?_
        refine mv (lb rfl) rfl ?_
        refine st1off rfl rfl (lb rfl) rfl rfl (rfl) ?_
        refine st1off rfl rfl (lb rfl) rfl rfl (rfl) ?_
        refine st1off rfl rfl (lb rfl) rfl rfl (rfl) ?_
        refine st1off rfl rfl (lb rfl) rfl rfl (rfl) ?_
        refine st1off rfl rfl (lb rfl) rfl rfl (rfl) ?_
        refine st1 rfl (op_pick_false (lb rfl) (rfl)) (so rfl (so rfl sn)) ?_
        refine as_ (lb rfl) rfl ?_
        refine nkt ?_
        obtain rfl := Option.some.inj hm
        exact fin2_retL (.cons (.c rfl) .nil) rfl .nil rfl rfl rfl
      ·
       replace hm := ite_f hm c12
       refine st1off rfl rfl (lb rfl) rfl rfl (c12) ?_
       refine st1off rfl rfl (lb rfl) rfl rfl (c12) ?_
       refine st1off rfl rfl (lb rfl) rfl rfl (c12) ?_
       refine st1 rfl (op_pick_false (lb rfl) (c12)) (so rfl (so rfl sn)) ?_
       refine mv (lb rfl) rfl ?_
       refine st1off rfl rfl (lb rfl) rfl rfl (rfl) ?_
       refine st1off rfl rfl (lb rfl) rfl rfl (rfl) ?_
       refine st1off rfl rfl (lb rfl) rfl rfl (rfl) ?_
       refine st1off rfl rfl (lb rfl) rfl rfl (rfl) ?_
       refine st1off rfl rfl (lb rfl) rfl rfl (rfl) ?_
       refine st1 rfl (op_pick_false (lb rfl) (rfl)) (so rfl (so rfl sn)) ?_
       refine mv (lb rfl) rfl ?_
       refine st1off rfl rfl (lb rfl) rfl rfl (rfl) ?_
       refine st1off rfl rfl (lb rfl) rfl rfl (rfl) ?_
       refine st1off rfl rfl (lb rfl) rfl rfl (rfl) ?_
       refine st1 rfl (op_pick_false (lb rfl) (rfl)) (so rfl (so rfl sn)) ?_
       refine mv (lb rfl) rfl ?_
       refine st1off rfl rfl (lb rfl) rfl rfl (rfl) ?_
       refine st1off rfl rfl (lb rfl) rfl rfl (rfl) ?_
       refine st1off rfl rfl (lb rfl) rfl rfl (rfl) ?_
       refine st1off rfl rfl (lb rfl) rfl rfl (rfl) ?_
       refine st1off rfl rfl (lb rfl) rfl rfl (rfl) ?_
       refine st1 rfl (op_pick_false (lb rfl) (rfl)) (so rfl (so rfl sn)) ?_
       refine as_ (lb rfl) rfl ?_
       refine nkt ?_
       obtain rfl := Option.some.inj hm
       exact fin2_retL (.cons (.c rfl) .nil) rfl .nil rfl rfl rfl
     ·
      replace hm := ite_f hm c10
      refine st1off rfl rfl (lb rfl) rfl rfl (c10) ?_
      refine st1off rfl rfl (lb rfl) rfl rfl (c10) ?_
      refine st1off rfl rfl (lb rfl) rfl rfl (c10) ?_
      refine st1off rfl rfl (lb rfl) rfl rfl (c10) ?_
      refine st1off rfl rfl (lb rfl) rfl rfl (c10) ?_
      refine st1 rfl (op_pick_false (lb rfl) (c10)) (so rfl (so rfl sn)) ?_
      refine mv (lb rfl) rfl ?_
      refine st1off rfl rfl (lb rfl) rfl rfl (rfl) ?_
      refine st1off rfl rfl (lb rfl) rfl rfl (rfl) ?_
      refine st1off rfl rfl (lb rfl) rfl rfl (rfl) ?_
      refine st1 rfl (op_pick_false (lb rfl) (rfl)) (so rfl (so rfl sn)) ?_
      refine mv (lb rfl) rfl ?_
      refine st1off rfl rfl (lb rfl) rfl rfl (rfl) ?_
      refine st1off rfl rfl (lb rfl) rfl rfl (rfl) ?_
      refine st1off rfl rfl (lb rfl) rfl rfl (rfl) ?_
      refine st1off rfl rfl (lb rfl) rfl rfl (rfl) ?_
      refine st1off rfl rfl (lb rfl) rfl rfl (rfl) ?_
      refine st1 rfl (op_pick_false (lb rfl) (rfl)) (so rfl (so rfl sn)) ?_
      refine mv (lb rfl) rfl ?_
      refine st1off rfl rfl (lb rfl) rfl rfl (rfl) ?_
      refine st1off rfl rfl (lb rfl) rfl rfl (rfl) ?_
      refine st1off rfl rfl (lb rfl) rfl rfl (rfl) ?_
      refine st1 rfl (op_pick_false (lb rfl) (rfl)) (so rfl (so rfl sn)) ?_
      refine mv (lb rfl) rfl ?_
      refine st1off rfl rfl (lb rfl) rfl rfl (rfl) ?_
      refine st1off rfl rfl (lb rfl) rfl rfl (rfl) ?_
      refine st1off rfl rfl (lb rfl) rfl rfl (rfl) ?_
      refine st1off rfl rfl (lb rfl) rfl rfl (rfl) ?_
      refine st1off rfl rfl (lb rfl) rfl rfl (rfl) ?_
      refine st1 rfl (op_pick_false (lb rfl) (rfl)) (so rfl (so rfl sn)) ?_
      refine as_ (lb rfl) rfl ?_
      refine nkt ?_
      obtain rfl := Option.some.inj hm
      exact fin2_retL (.cons (.c rfl) .nil) rfl .nil rfl rfl rfl
    ·
     replace hm := ite_f hm c8
     refine st1off rfl rfl (lb rfl) rfl rfl (c8) ?_
     refine st1off rfl rfl (lb rfl) rfl rfl (c8) ?_
     refine st1off rfl rfl (lb rfl) rfl rfl (c8) ?_
     refine st1 rfl (op_pick_false (lb rfl) (c8)) (so rfl (so rfl sn)) ?_
     refine mv (lb rfl) rfl ?_
     refine st1off rfl rfl (lb rfl) rfl rfl (rfl) ?_
     refine st1off rfl rfl (lb rfl) rfl rfl (rfl) ?_
     refine st1off rfl rfl (lb rfl) rfl rfl (rfl) ?_
     refine st1off rfl rfl (lb rfl) rfl rfl (rfl) ?_
     refine st1off rfl rfl (lb rfl) rfl rfl (rfl) ?_
     refine st1 rfl (op_pick_false (lb rfl) (rfl)) (so rfl (so rfl sn)) ?_
     refine mv (lb rfl) rfl ?_
     refine st1off rfl rfl (lb rfl) rfl rfl (rfl) ?_
     refine st1off rfl rfl (lb rfl) rfl rfl (rfl) ?_
     refine st1off rfl rfl (lb rfl) rfl rfl (rfl) ?_
     refine st1 rfl (op_pick_false (lb rfl) (rfl)) (so rfl (so rfl sn)) ?_
     refine mv (lb rfl) rfl ?_
     refine st1off rfl rfl (lb rfl) rfl rfl (rfl) ?_
     refine st1off rfl rfl (lb rfl) rfl rfl (rfl) ?_
     refine st1off rfl rfl (lb rfl) rfl rfl (rfl) ?_
     refine st1off rfl rfl (lb rfl) rfl rfl (rfl) ?_
     refine st1off rfl rfl (lb rfl) rfl rfl (rfl) ?_
     refine st1 rfl (op_pick_false (lb rfl) (rfl)) (so rfl (so rfl sn)) ?_
     refine mv (lb rfl) rfl ?_
     refine st1off rfl rfl (lb rfl) rfl rfl (rfl) ?_
     refine st1off rfl rfl (lb rfl) rfl rfl (rfl) ?_
     refine st1off rfl rfl (lb rfl) rfl rfl (rfl) ?_
     refine st1 rfl (op_pick_false (lb rfl) (rfl)) (so rfl (so rfl sn)) ?_
     refine mv (lb rfl) rfl ?_
     refine st1off rfl rfl (lb rfl) rfl rfl (rfl) ?_
     refine st1off rfl rfl (lb rfl) rfl rfl (rfl) ?_
     refine st1off rfl rfl (lb rfl) rfl rfl (rfl) ?_
     refine st1off rfl rfl (lb rfl) rfl rfl (rfl) ?_
     refine st1off rfl rfl (lb rfl) rfl rfl (rfl) ?_
     refine st1 rfl (op_pick_false (lb rfl) (rfl)) (so rfl (so rfl sn)) ?_
     refine as_ (lb rfl) rfl ?_
     refine nkt ?_
     obtain rfl := Option.some.inj hm
     exact fin2_retL (.cons (.c rfl) .nil) rfl .nil rfl rfl rfl
   ·
    replace hm := ite_f hm c6
    refine st1off rfl rfl (lb rfl) rfl rfl (c6) ?_
    refine st1off rfl rfl (lb rfl) rfl rfl (c6) ?_
    refine st1off rfl rfl (lb rfl) rfl rfl (c6) ?_
    refine st1off rfl rfl (lb rfl) rfl rfl (c6) ?_
    refine st1off rfl rfl (lb rfl) rfl rfl (c6) ?_
    refine st1 rfl (op_pick_false (lb rfl) (c6)) (so rfl (so rfl sn)) ?_
    refine mv (lb rfl) rfl ?_
    refine st1off rfl rfl (lb rfl) rfl rfl (rfl) ?_
    refine st1off rfl rfl (lb rfl) rfl rfl (rfl) ?_
    refine st1off rfl rfl (lb rfl) rfl rfl (rfl) ?_
    refine st1 rfl (op_pick_false (lb rfl) (rfl)) (so rfl (so rfl sn)) ?_
    refine mv (lb rfl) rfl ?_
    refine st1off rfl rfl (lb rfl) rfl rfl (rfl) ?_
    refine st1off rfl rfl (lb rfl) rfl rfl (rfl) ?_
    refine st1off rfl rfl (lb rfl) rfl rfl (rfl) ?_
    refine st1off rfl rfl (lb rfl) rfl rfl (rfl) ?_
    refine st1off rfl rfl (lb rfl) rfl rfl (rfl) ?_
    refine st1 rfl (op_pick_false (lb rfl) (rfl)) (so rfl (so rfl sn)) ?_
    refine mv (lb rfl) rfl ?_
    refine st1off rfl rfl (lb rfl) rfl rfl (rfl) ?_
    refine st1off rfl rfl (lb rfl) rfl rfl (rfl) ?_
    refine st1off rfl rfl (lb rfl) rfl rfl (rfl) ?_
    refine st1 rfl (op_pick_false (lb rfl) (rfl)) (so rfl (so rfl sn)) ?_
    refine mv (lb rfl) rfl ?_
    refine st1off rfl rfl (lb rfl) rfl rfl (rfl) ?_
    refine st1off rfl rfl (lb rfl) rfl rfl (rfl) ?_
    refine st1off rfl rfl (lb rfl) rfl rfl (rfl) ?_
    refine st1off rfl rfl (lb rfl) rfl rfl (rfl) ?_
    refine st1off rfl rfl (lb rfl) rfl rfl (rfl) ?_
    refine st1 rfl (op_pick_false (lb rfl) (rfl)) (so rfl (so rfl sn)) ?_
    refine mv (lb rfl) rfl ?_
    refine st1off rfl rfl (lb rfl) rfl rfl (rfl) ?_
    refine st1off rfl rfl (lb rfl) rfl rfl (rfl) ?_
    refine st1off rfl rfl (lb rfl) rfl rfl (rfl) ?_
    refine st1 rfl (op_pick_false (lb rfl) (rfl)) (so rfl (so rfl sn)) ?_
    refine mv (lb rfl) rfl ?_
    refine st1off rfl rfl (lb rfl) rfl rfl (rfl) ?_
    refine st1off rfl rfl (lb rfl) rfl rfl (rfl) ?_
    refine st1off rfl rfl (lb rfl) rfl rfl (rfl) ?_
    refine st1off rfl rfl (lb rfl) rfl rfl (rfl) ?_
    refine st1off rfl rfl (lb rfl) rfl rfl (rfl) ?_
    refine st1 rfl (op_pick_false (lb rfl) (rfl)) (so rfl (so rfl sn)) ?_
    refine as_ (lb rfl) rfl ?_
    refine nkt ?_
    obtain rfl := Option.some.inj hm
    exact fin2_retL (.cons (.c rfl) .nil) rfl .nil rfl rfl rfl
  ·
   replace hm := ite_f hm c4
   refine st1off rfl rfl (lb rfl) rfl rfl (c4) ?_
   refine st1off rfl rfl (lb rfl) rfl rfl (c4) ?_
   refine st1off rfl rfl (lb rfl) rfl rfl (c4) ?_
   refine st1off rfl rfl (lb rfl) rfl rfl (c4) ?_
   refine st1 rfl (op_pick_false (lb rfl) (c4)) (so rfl (so rfl sn)) ?_
   refine mv (lb rfl) rfl ?_
   refine st1off rfl rfl (lb rfl) rfl rfl (rfl) ?_
   refine st1off rfl rfl (lb rfl) rfl rfl (rfl) ?_
   refine st1off rfl rfl (lb rfl) rfl rfl (rfl) ?_
   refine st1off rfl rfl (lb rfl) rfl rfl (rfl) ?_
   refine st1off rfl rfl (lb rfl) rfl rfl (rfl) ?_
   refine st1 rfl (op_pick_false (lb rfl) (rfl)) (so rfl (so rfl sn)) ?_
   refine mv (lb rfl) rfl ?_
   refine st1off rfl rfl (lb rfl) rfl rfl (rfl) ?_
   refine st1off rfl rfl (lb rfl) rfl rfl (rfl) ?_
   refine st1off rfl rfl (lb rfl) rfl rfl (rfl) ?_
   refine st1 rfl (op_pick_false (lb rfl) (rfl)) (so rfl (so rfl sn)) ?_
   refine mv (lb rfl) rfl ?_
   refine st1off rfl rfl (lb rfl) rfl rfl (rfl) ?_
   refine st1off rfl rfl (lb rfl) rfl rfl (rfl) ?_
   refine st1off rfl rfl (lb rfl) rfl rfl (rfl) ?_
   refine st1off rfl rfl (lb rfl) rfl rfl (rfl) ?_
   refine st1off rfl rfl (lb rfl) rfl rfl (rfl) ?_
   refine st1 rfl (op_pick_false (lb rfl) (rfl)) (so rfl (so rfl sn)) ?_
   refine mv (lb rfl) rfl ?_
   refine st1off rfl rfl (lb rfl) rfl rfl (rfl) ?_
   refine st1off rfl rfl (lb rfl) rfl rfl (rfl) ?_
   refine st1off rfl rfl (lb rfl) rfl rfl (rfl) ?_
   refine st1 rfl (op_pick_false (lb rfl) (rfl)) (so rfl (so rfl sn)) ?_
   refine mv (lb rfl) rfl ?_
   refine st1off rfl rfl (lb rfl) rfl rfl (rfl) ?_
   refine st1off rfl rfl (lb rfl) rfl rfl (rfl) ?_
   refine st1off rfl rfl (lb rfl) rfl rfl (rfl) ?_
   refine st1off rfl rfl (lb rfl) rfl rfl (rfl) ?_
   refine st1off rfl rfl (lb rfl) rfl rfl (rfl) ?_
   refine st1 rfl (op_pick_false (lb rfl) (rfl)) (so rfl (so rfl sn)) ?_
   refine mv (lb rfl) rfl ?_
   refine st1off rfl rfl (lb rfl) rfl rfl (rfl) ?_
   refine st1off rfl rfl (lb rfl) rfl rfl (rfl) ?_
   refine st1off rfl rfl (lb rfl) rfl rfl (rfl) ?_
   refine st1 rfl (op_pick_false (lb rfl) (rfl)) (so rfl (so rfl sn)) ?_
   refine mv (lb rfl) rfl ?_
   refine st1off rfl rfl (lb rfl) rfl rfl (rfl) ?_
   refine st1off rfl rfl (lb rfl) rfl rfl (rfl) ?_
   refine st1off rfl rfl (lb rfl) rfl rfl (rfl) ?_
   refine st1off rfl rfl (lb rfl) rfl rfl (rfl) ?_
   refine st1off rfl rfl (lb rfl) rfl rfl (rfl) ?_
   refine st1 rfl (op_pick_false (lb rfl) (rfl)) (so rfl (so rfl sn)) ?_
   refine as_ (lb rfl) rfl ?_
   refine nkt ?_
   obtain rfl := Option.some.inj hm
   exact fin2_retL (.cons (.c rfl) .nil) rfl .nil rfl rfl rfl
 ·
  replace hm := ite_f hm c2
  refine st1off rfl rfl (lb rfl) rfl rfl (c2) ?_
  refine st1off rfl rfl (lb rfl) rfl rfl (c2) ?_
  refine st1off rfl rfl (lb rfl) rfl rfl (c2) ?_
  refine st1 rfl (op_pick_false (lb rfl) (c2)) (so rfl (so rfl sn)) ?_
  refine mv (lb rfl) rfl ?_
  refine st1off rfl rfl (lb rfl) rfl rfl (rfl) ?_
  refine st1off rfl rfl (lb rfl) rfl rfl (rfl) ?_
  refine st1off rfl rfl (lb rfl) rfl rfl (rfl) ?_
  refine st1off rfl rfl (lb rfl) rfl rfl (rfl) ?_
  refine st1 rfl (op_pick_false (lb rfl) (rfl)) (so rfl (so rfl sn)) ?_
  refine mv (lb rfl) rfl ?_
  refine st1off rfl rfl (lb rfl) rfl rfl (rfl) ?_
  refine st1off rfl rfl (lb rfl) rfl rfl (rfl) ?_
  refine st1off rfl rfl (lb rfl) rfl rfl (rfl) ?_
  refine st1off rfl rfl (lb rfl) rfl rfl (rfl) ?_
  refine st1off rfl rfl (lb rfl) rfl rfl (rfl) ?_
  refine st1 rfl (op_pick_false (lb rfl) (rfl)) (so rfl (so rfl sn)) ?_
  refine mv (lb rfl) rfl ?_
  refine st1off rfl rfl (lb rfl) rfl rfl (rfl) ?_
  refine st1off rfl rfl (lb rfl) rfl rfl (rfl) ?_
  refine st1off rfl rfl (lb rfl) rfl rfl (rfl) ?_
  refine st1 rfl (op_pick_false (lb rfl) (rfl)) (so rfl (so rfl sn)) ?_
  refine mv (lb rfl) rfl ?_
  refine st1off rfl rfl (lb rfl) rfl rfl (rfl) ?_
  refine st1off rfl rfl (lb rfl) rfl rfl (rfl) ?_
  refine st1off rfl rfl (lb rfl) rfl rfl (rfl) ?_
  refine st1off rfl rfl (lb rfl) rfl rfl (rfl) ?_
  refine st1off rfl rfl (lb rfl) rfl rfl (rfl) ?_
  refine st1 rfl (op_pick_false (lb rfl) (rfl)) (so rfl (so rfl sn)) ?_
  refine mv (lb rfl) rfl ?_
  refine st1off rfl rfl (lb rfl) rfl rfl (rfl) ?_
  refine st1off rfl rfl (lb rfl) rfl rfl (rfl) ?_
  refine st1off rfl rfl (lb rfl) rfl rfl (rfl) ?_
  refine st1 rfl (op_pick_false (lb rfl) (rfl)) (so rfl (so rfl sn)) ?_
  refine mv (lb rfl) rfl ?_
  refine st1off rfl rfl (lb rfl) rfl rfl (rfl) ?_
  refine st1off rfl rfl (lb rfl) rfl rfl (rfl) ?_
  refine st1off rfl rfl (lb rfl) rfl rfl (rfl) ?_
  refine st1off rfl rfl (lb rfl) rfl rfl (rfl) ?_
  refine st1off rfl rfl (lb rfl) rfl rfl (rfl) ?_
  refine st1 rfl (op_pick_false (lb rfl) (rfl)) (so rfl (so rfl sn)) ?_
  refine mv (lb rfl) rfl ?_
  refine st1off rfl rfl (lb rfl) rfl rfl (rfl) ?_
  refine st1off rfl rfl (lb rfl) rfl rfl (rfl) ?_
  refine st1off rfl rfl (lb rfl) rfl rfl (rfl) ?_
  refine st1 rfl (op_pick_false (lb rfl) (rfl)) (so rfl (so rfl sn)) ?_
  refine mv (lb rfl) rfl ?_
  refine st1off rfl rfl (lb rfl) rfl rfl (rfl) ?_
  refine st1off rfl rfl (lb rfl) rfl rfl (rfl) ?_
  refine st1off rfl rfl (lb rfl) rfl rfl (rfl) ?_
  refine st1off rfl rfl (lb rfl) rfl rfl (rfl) ?_
  refine st1off rfl rfl (lb rfl) rfl rfl (rfl) ?_
  refine st1 rfl (op_pick_false (lb rfl) (rfl)) (so rfl (so rfl sn)) ?_
  refine as_ (lb rfl) rfl ?_
  refine nkt ?_
  obtain rfl := Option.some.inj hm
  exact fin2_retL (.cons (.c rfl) .nil) rfl .nil rfl rfl rfl

def m_impl_NetOk_1 (t : GTask) (n : GNet) : Option Bool := (m_impl_NetTask_ok t n.places (n.tasks.length : Int)).bind fun x1 => (some (!x1))

theorem c_impl_NetOk_1 (t : GTask) (n : GNet) (rz : Bool) (hm : m_impl_NetOk_1 t n = some rz) : FnB Tryz.prog 162 [.row (GTask.cells false t), .pts (GNet.cells false n)] [.c (cB rz)] [] := by
 unfold m_impl_NetOk_1 at hm
 refine fn_intro2 (n := 12) (rvs := [.tmp 3]) Tryz.func162 rfl rfl rfl (lb rfl) rfl rfl rfl rfl rfl ?_
 refine acode_seq ?_
 refine acode_le (le_stU (env := [(0, .row [cI t.join, cI t.split, .sl false 1 (t.in_.map (fun n : Int => [cI n])), .sl false 4 (t.out.map (GFlow.cells false)), .sl false 1 (t.clear.map (fun n : Int => [cI n])), cI t.role, cI t.apart, cI t.all, cI t.need]), (1, .pts [cI n.places, .sl false 9 (n.tasks.map (GTask.cells false))])]) (obj := []) idn (.cons rfl rfl (.cons rfl rfl .nil)) .nil rfl) ?_
 refine acode_region ?_
 refine st1 rfl (op_box rfl (lb rfl)) (so rfl (sf rfl (sats_lives rfl))) ?_
 refine as_ (lb rfl) rfl ?_
 refine nk ?_
 refine sr ?_
 refine st1 rfl (op_load_bx_agg Tryz.isAgg187 Tryz.sizeOf187 rfl rfl (lb rfl)) (so rfl (sb rfl sn)) ?_
 refine st1 rfl (op_field_pts (off := 0) Tryz.underlying81 Tryz.sizeOf3 rfl rfl rfl rfl (lb rfl)) (so rfl sn) ?_
 refine st1 rfl (op_load_pts Tryz.isAgg3 rfl (lb rfl)) (so rfl sn) ?_
 refine st1 rfl (op_field_pts (off := 1) Tryz.underlying81 Tryz.sizeOf79 rfl rfl rfl rfl (lb rfl)) (so rfl sn) ?_
 refine st1 rfl (op_load_pts Tryz.isAgg79 rfl (lb rfl)) (so rfl sn) ?_
 refine st1 rfl (op_len_sh (f := (GTask.cells false)) (l := n.tasks) Tryz.underlying79 (lb rfl)) (so rfl sn) ?_
 obtain ⟨x1, hx1, hm⟩ := bnd hm
 refine st1 rfl (op_call2 (ks := []) Tryz.func163 rfl rfl (c_impl_NetTask_ok t n.places (n.tasks.length : Int) x1 hx1) (.cons ((.aggCons (.c rfl) (.aggCons (.c rfl) (.aggCons (.c rfl) (.aggCons (.c rfl) (.aggCons (.c rfl) (.aggCons (.c rfl) (.aggCons (.c rfl) (.aggCons (.c rfl) (.aggCons (.c rfl) .aggNil rfl) rfl) rfl) rfl) rfl) rfl) rfl) rfl) rfl)) (.cons (.c rfl) (.cons (.c rfl) .nil rfl) rfl) rfl) rfl rfl (.inl rfl) .nil rfl rfl (lb rfl)) (sats_opds (.cons rfl (.cons rfl (.cons rfl .nil))) (sats_app (sats_freshL rfl) (sats_needsO obs_nil))) ?_
 refine st1 rfl (op_not (lb rfl)) (so rfl sn) ?_
 refine as_ (lb rfl) rfl ?_
 refine nkt ?_
 obtain rfl := Option.some.inj hm
 exact fin2_retL (.cons (.c rfl) .nil) rfl .nil rfl rfl rfl

def m_impl_NetOk (n : GNet) : Option Bool := (m_impl_sizesOk n.places (n.tasks.length : Int)).bind fun x1 => (if x1 = true then ((m_ContainsFunc_GTask n.tasks (fun z => m_impl_NetOk_1 z n)).bind fun x3 => (some (!x3))) else (some false))

theorem c_impl_NetOk (n : GNet) (rz : Bool) (hm : m_impl_NetOk n = some rz) : FnB Tryz.prog 90 [.row (GNet.cells false n)] [.c (cB rz)] [] := by
 unfold m_impl_NetOk at hm
 refine fn_intro2 (n := 16) (rvs := [.tmp 2]) Tryz.func90 rfl rfl rfl (lb rfl) rfl rfl rfl rfl rfl ?_
 refine acode_seq ?_
 refine acode_le (le_stU (env := [(0, .row [cI n.places, .sl false 9 (n.tasks.map (GTask.cells false))])]) (obj := []) idn (.cons rfl rfl .nil) .nil rfl) ?_
 refine acode_region ?_
 refine st1 rfl (op_box rfl (lb rfl)) (so rfl (sf rfl (sats_lives rfl))) ?_
 refine as_ (lb rfl) rfl ?_
 refine nk ?_
 refine sr ?_
 refine fdb (off := 0) Tryz.underlying81 Tryz.sizeOf3 rfl rfl rfl (lb rfl) rfl rfl ?_
 refine ldb Tryz.isAgg3 rfl (lb rfl) rfl rfl ?_
 refine fdb (off := 1) Tryz.underlying81 Tryz.sizeOf79 rfl rfl rfl (lb rfl) rfl rfl ?_
 refine ldb Tryz.isAgg79 rfl (lb rfl) rfl rfl ?_
 refine st1 rfl (op_len_sh (f := (GTask.cells false)) (l := n.tasks) Tryz.underlying79 (lb rfl)) (so rfl sn) ?_
 obtain ⟨x1, hx1, hm⟩ := bnd hm
 refine st1 rfl (op_call2 (ks := []) Tryz.func160 rfl rfl (c_impl_sizesOk n.places (n.tasks.length : Int) x1 hx1) (.cons (.c rfl) (.cons (.c rfl) .nil rfl) rfl) rfl rfl (.inl rfl) .nil rfl rfl (lb rfl)) (sats_opds (.cons rfl (.cons rfl .nil)) (sats_app (sats_freshL rfl) (sats_needsO obs_nil))) ?_
 refine mv (lb rfl) rfl ?_
 refine rg_split (b := x1) (fun c2 => ?_) (fun c2 => ?_)
 ·
  replace hm := ite_t hm c2
  refine st1on rfl rfl rfl (c2) (op_field_bx (off := 1) Tryz.underlying81 Tryz.sizeOf79 rfl rfl rfl (lb rfl)) (so rfl (sb rfl sn)) ?_
  refine st1on rfl rfl rfl (c2) (op_load_bx Tryz.isAgg79 rfl (lb rfl)) (so rfl (sb rfl sn)) ?_
  refine st1on rfl rfl rfl (c2) (op_makeFunc rfl (lb rfl)) (sats_opds (.cons rfl .nil) (sats_lives rfl)) ?_
  obtain ⟨x3, hx3, hm⟩ := bnd hm
  refine st1on rfl rfl rfl (c2) (op_call2 (ks := []) Tryz.func161 rfl rfl (c_ContainsFunc_GTask ⟨_, _, Tryz.func162, rfl, rfl⟩ rfl n.tasks (fun z => m_impl_NetOk_1 z n) (fun z y hz => c_impl_NetOk_1 z n y hz) x3 hx3) (.cons (.c rfl) (.cons ((.fnCons (.bxs (.aggCons (.c rfl) (.aggCons (.c rfl) .aggNil rfl) rfl)) .fnNil)) .nil rfl) rfl) rfl rfl (.inr ⟨(sol_cons rfl sol_nil), fun p hp => (by cases hp)⟩) .nil rfl rfl (lb rfl)) (sats_opds (.cons rfl (.cons rfl .nil)) (sats_app (sats_freshL rfl) (sats_needsO (obs_cons rfl obs_nil)))) ?_
  refine st1on rfl rfl rfl (c2) (op_not (lb rfl)) (so rfl sn) ?_
  refine st1 rfl (op_pick_true (lb rfl) (c2)) (so rfl (so rfl sn)) ?_
  refine as_ (lb rfl) rfl ?_
  refine nkt ?_
  obtain rfl := Option.some.inj hm
  exact fin2_retL (.cons (.c rfl) .nil) rfl .nil rfl rfl rfl
 ·
  replace hm := ite_f hm c2
  refine st1off rfl rfl (lb rfl) rfl rfl (c2) ?_
  refine st1off rfl rfl (lb rfl) rfl rfl (c2) ?_
  refine st1off rfl rfl (lb rfl) rfl rfl (c2) ?_
  refine st1off rfl rfl (lb rfl) rfl rfl (c2) ?_
  refine st1off rfl rfl (lb rfl) rfl rfl (c2) ?_
  refine st1 rfl (op_pick_false (lb rfl) (c2)) (so rfl (so rfl sn)) ?_
  refine as_ (lb rfl) rfl ?_
  refine nkt ?_
  obtain rfl := Option.some.inj hm
  exact fin2_retL (.cons (.c rfl) .nil) rfl .nil rfl rfl rfl

def m_impl_NetNet_marksOk_1 (m : Int) : Option Bool := (m_impl_in m 0 4).bind fun x1 => (some (!x1))

theorem c_impl_NetNet_marksOk_1 (m : Int) (rz : Bool) (hm : m_impl_NetNet_marksOk_1 m = some rz) : FnB Tryz.prog 227 [.c (cI m)] [.c (cB rz)] [] := by
 unfold m_impl_NetNet_marksOk_1 at hm
 refine fn_intro2 (n := 6) (rvs := [.tmp 2]) Tryz.func227 rfl rfl rfl (lb rfl) rfl rfl rfl rfl rfl ?_
 refine acode_seq ?_
 refine acode_le (le_stU (env := [(0, aInt m)]) (obj := []) idn (.cons rfl rfl .nil) .nil rfl) ?_
 refine acode_region ?_
 refine as_ (lb rfl) rfl ?_
 refine nk ?_
 refine sr ?_
 refine mv (lb rfl) rfl ?_
 obtain ⟨x1, hx1, hm⟩ := bnd hm
 refine st1 rfl (op_call2 (ks := []) Tryz.func87 rfl rfl (c_impl_in m 0 4 x1 hx1) (.cons (.c rfl) (.cons (.c rfl) (.cons (.c rfl) .nil rfl) rfl) rfl) rfl rfl (.inl rfl) .nil rfl rfl (lb rfl)) (sats_opds (.cons rfl (.cons rfl (.cons rfl .nil))) (sats_app (sats_freshL rfl) (sats_needsO obs_nil))) ?_
 refine st1 rfl (op_not (lb rfl)) (so rfl sn) ?_
 refine as_ (lb rfl) rfl ?_
 refine nkt ?_
 obtain rfl := Option.some.inj hm
 exact fin2_retL (.cons (.c rfl) .nil) rfl .nil rfl rfl rfl

def m_impl_NetNet_marksOk (n : GNet) (marks : List Int) : Option Bool := if decide ((marks.length : Int) = n.places) = true then ((m_ContainsFunc_I marks (fun z => m_impl_NetNet_marksOk_1 z )).bind fun x2 => (some (!x2))) else (some false)

theorem c_impl_NetNet_marksOk (n : GNet) (marks : List Int) (rz : Bool) (hm : m_impl_NetNet_marksOk n marks = some rz) : FnB Tryz.prog 212 [.row (GNet.cells false n), .c (.sl false 1 (marks.map (fun n : Int => [cI n])))] [.c (cB rz)] [] := by
 unfold m_impl_NetNet_marksOk at hm
 refine fn_intro2 (n := 15) (rvs := [.tmp 4]) Tryz.func212 rfl rfl rfl (lb rfl) rfl rfl rfl rfl rfl ?_
 refine acode_seq ?_
 refine acode_le (le_stU (env := [(0, .row [cI n.places, .sl false 9 (n.tasks.map (GTask.cells false))]), (1, .c (.sl false 1 (marks.map (fun n : Int => [cI n]))))]) (obj := []) idn (.cons rfl rfl (.cons rfl rfl .nil)) .nil rfl) ?_
 refine acode_region ?_
 refine st1 rfl (op_box rfl (lb rfl)) (so rfl (sf rfl (sats_lives rfl))) ?_
 refine as_ (lb rfl) rfl ?_
 refine nk ?_
 refine sr ?_
 refine mv (lb rfl) rfl ?_
 refine st1 rfl (op_len_sh (f := (fun n : Int => [cI n])) (l := marks) Tryz.underlying23 (lb rfl)) (so rfl sn) ?_
 refine fdb (off := 0) Tryz.underlying81 Tryz.sizeOf3 rfl rfl rfl (lb rfl) rfl rfl ?_
 refine ldb Tryz.isAgg3 rfl (lb rfl) rfl rfl ?_
 refine st1 rfl (op_eql (lb rfl)) (so rfl (so rfl sn)) ?_
 refine mv (lb rfl) rfl ?_
 refine rg_split (b := decide ((marks.length : Int) = n.places)) (fun c1 => ?_) (fun c1 => ?_)
 ·
  replace hm := ite_t hm c1
  refine st1on rfl rfl rfl (c1) (op_move (lb rfl)) (so rfl sn) ?_
  obtain ⟨x2, hx2, hm⟩ := bnd hm
  refine st1on rfl rfl rfl (c1) (op_call2 (ks := []) Tryz.func164 rfl rfl (c_ContainsFunc_I ⟨_, _, Tryz.func227, rfl, rfl⟩ rfl marks (fun z => m_impl_NetNet_marksOk_1 z ) (fun z y hz => c_impl_NetNet_marksOk_1 z  y hz) x2 hx2) (.cons (.c rfl) (.cons .fnNil .nil rfl) rfl) rfl rfl (.inl rfl) .nil rfl rfl (lb rfl)) (sats_opds (.cons rfl (.cons rfl .nil)) (sats_app (sats_freshL rfl) (sats_needsO obs_nil))) ?_
  refine st1on rfl rfl rfl (c1) (op_not (lb rfl)) (so rfl sn) ?_
  refine st1 rfl (op_pick_true (lb rfl) (c1)) (so rfl (so rfl sn)) ?_
  refine as_ (lb rfl) rfl ?_
  refine nkt ?_
  obtain rfl := Option.some.inj hm
  exact fin2_retL (.cons (.c rfl) .nil) rfl .nil rfl rfl rfl
 ·
  replace hm := ite_f hm c1
  refine st1off rfl rfl (lb rfl) rfl rfl (c1) ?_
  refine st1off rfl rfl (lb rfl) rfl rfl (c1) ?_
  refine st1off rfl rfl (lb rfl) rfl rfl (c1) ?_
  refine st1 rfl (op_pick_false (lb rfl) (c1)) (so rfl (so rfl sn)) ?_
  refine as_ (lb rfl) rfl ?_
  refine nkt ?_
  obtain rfl := Option.some.inj hm
  exact fin2_retL (.cons (.c rfl) .nil) rfl .nil rfl rfl rfl

def m_impl_MrkOk (n : GNet) (marks : List Int) : Option Bool := (m_impl_NetOk n).bind fun x1 => (if x1 = true then ((m_impl_NetNet_marksOk n marks).bind fun x3 => (some x3)) else (some false))

theorem c_impl_MrkOk (n : GNet) (marks : List Int) (rz : Bool) (hm : m_impl_MrkOk n marks = some rz) : FnB Tryz.prog 167 [.row (GNet.cells false n), .c (.sl false 1 (marks.map (fun n : Int => [cI n])))] [.c (cB rz)] [] := by
 unfold m_impl_MrkOk at hm
 refine fn_intro2 (n := 12) (rvs := [.tmp 4]) Tryz.func167 rfl rfl rfl (lb rfl) rfl rfl rfl rfl rfl ?_
 refine acode_seq ?_
 refine acode_le (le_stU (env := [(0, .row [cI n.places, .sl false 9 (n.tasks.map (GTask.cells false))]), (1, .c (.sl false 1 (marks.map (fun n : Int => [cI n]))))]) (obj := []) idn (.cons rfl rfl (.cons rfl rfl .nil)) .nil rfl) ?_
 refine acode_region ?_
 refine st1 rfl (op_box rfl (lb rfl)) (so rfl (sf rfl (sats_lives rfl))) ?_
 refine as_ (lb rfl) rfl ?_
 refine nk ?_
 refine sr ?_
 refine st1 rfl (op_load_bx_agg Tryz.isAgg81 Tryz.sizeOf81 rfl rfl (lb rfl)) (so rfl (sb rfl sn)) ?_
 obtain ⟨x1, hx1, hm⟩ := bnd hm
 refine st1 rfl (op_call2 (ks := []) Tryz.func90 rfl rfl (c_impl_NetOk n x1 hx1) (.cons ((.aggCons (.c rfl) (.aggCons (.c rfl) .aggNil rfl) rfl)) .nil rfl) rfl rfl (.inl rfl) .nil rfl rfl (lb rfl)) (sats_opds (.cons rfl .nil) (sats_app (sats_freshL rfl) (sats_needsO obs_nil))) ?_
 refine mv (lb rfl) rfl ?_
 refine rg_split (b := x1) (fun c2 => ?_) (fun c2 => ?_)
 ·
  replace hm := ite_t hm c2
  refine st1on rfl rfl rfl (c2) (op_load_bx_agg Tryz.isAgg81 Tryz.sizeOf81 rfl rfl (lb rfl)) (so rfl (sb rfl sn)) ?_
  refine st1on rfl rfl rfl (c2) (op_move (lb rfl)) (so rfl sn) ?_
  obtain ⟨x3, hx3, hm⟩ := bnd hm
  refine st1on rfl rfl rfl (c2) (op_call2 (ks := []) Tryz.func212 rfl rfl (c_impl_NetNet_marksOk n marks x3 hx3) (.cons ((.aggCons (.c rfl) (.aggCons (.c rfl) .aggNil rfl) rfl)) (.cons (.c rfl) .nil rfl) rfl) rfl rfl (.inl rfl) .nil rfl rfl (lb rfl)) (sats_opds (.cons rfl (.cons rfl .nil)) (sats_app (sats_freshL rfl) (sats_needsO obs_nil))) ?_
  refine st1 rfl (op_pick_true (lb rfl) (c2)) (so rfl (so rfl sn)) ?_
  refine as_ (lb rfl) rfl ?_
  refine nkt ?_
  obtain rfl := Option.some.inj hm
  exact fin2_retL (.cons (.c rfl) .nil) rfl .nil rfl rfl rfl
 ·
  replace hm := ite_f hm c2
  refine st1off rfl rfl (lb rfl) rfl rfl (c2) ?_
  refine st1off rfl rfl (lb rfl) rfl rfl (c2) ?_
  refine st1off rfl rfl (lb rfl) rfl rfl (c2) ?_
  refine st1 rfl (op_pick_false (lb rfl) (c2)) (so rfl (so rfl sn)) ?_
  refine as_ (lb rfl) rfl ?_
  refine nkt ?_
  obtain rfl := Option.some.inj hm
  exact fin2_retL (.cons (.c rfl) .nil) rfl .nil rfl rfl rfl

def m_impl_NetNet_busyOk_k1 (busy : List GItem) : Option Bool := some (decide ((busy.length : Int) ≤ 6))
def m_impl_NetNet_busyOk_l0 (n : GNet) (busy : List GItem) (kx0_0 : Option Bool) : Nat → Int → Option Bool
  | 0, _ => none
  | n0 + 1, s0_0 => if decide (s0_0 < (busy.length : Int)) = true then ((getI busy s0_0).bind fun x2 => ((m_impl_NetNet_hasTask n x2.task).bind fun x3 => (if x3 = true then ((m_impl_isPerson x2.who).bind fun x5 => (if x5 = true then ((getI n.tasks x2.task).bind fun x7 => (gd (ok64 (x7.need - 1)) ((m_impl_in x2.did 0 (x7.need - 1)).bind fun x9 => (if x9 = true then (gd (ok64 (s0_0 + 1)) ((m_impl_NetNet_busyOk_l0 n busy kx0_0 n0) (s0_0 + 1))) else (some false))))) else (some false))) else (some false)))) else (kx0_0)
def m_impl_NetNet_busyOk (n : GNet) (busy : List GItem) : Option Bool := m_impl_NetNet_busyOk_l0 n busy (m_impl_NetNet_busyOk_k1 busy) FUEL 0

theorem c_impl_NetNet_busyOk (n : GNet) (busy : List GItem) (rz : Bool) (hm : m_impl_NetNet_busyOk n busy = some rz) : FnB Tryz.prog 168 [.row (GNet.cells false n), .c (.sl false 3 (busy.map (GItem.cells false)))] [.c (cB rz)] [] := by
 unfold m_impl_NetNet_busyOk at hm
 refine fn_intro2 (n := 42) (rvs := [.tmp 4]) Tryz.func168 rfl rfl rfl (lb rfl) rfl rfl rfl rfl rfl ?_
 refine acode_seq ?_
 refine acode_le (le_stU (env := [(0, .row [cI n.places, .sl false 9 (n.tasks.map (GTask.cells false))]), (1, .c (.sl false 3 (busy.map (GItem.cells false))))]) (obj := []) idn (.cons rfl rfl (.cons rfl rfl .nil)) .nil rfl) ?_
 refine acode_region ?_
 refine st1 rfl (op_box rfl (lb rfl)) (so rfl (sf rfl (sats_lives rfl))) ?_
 refine as_ (lb rfl) rfl ?_
 refine nk ?_
 refine acode_seq ?_
 refine sr ?_
 refine mv (lb rfl) rfl ?_
 refine st1 rfl (op_len_sh (f := (GItem.cells false)) (l := busy) Tryz.underlying73 (lb rfl)) (so rfl sn) ?_
 refine mv (lb rfl) rfl ?_
 refine nk ?_
 refine acode_block ?_
 refine acode_loopk (xs := [1, 2, 7, 8]) (ys := [2]) (S := Nat × Int) (fun z => [(9, aInt z.2)]) (fun z => []) (fun z => m_impl_NetNet_busyOk_l0 n busy (m_impl_NetNet_busyOk_k1 busy) z.1 z.2 = some rz) (fun z => z.1) (FUEL, 0) (.cons rfl (.cons rfl (.cons rfl (.cons rfl .nil)))) (.cons rfl .nil) ?em ?eo rfl ?ei ?round
 case em => exact (.cons rfl rfl .nil)
 case eo => exact .nil
 case ei => exact hm
 case round =>
  rintro ⟨n0, s0_0⟩ hm
  dsimp only at hm ⊢
  cases n0 with
  | zero => rw [m_impl_NetNet_busyOk_l0] at hm; cases hm
  | succ n0 =>
   rw [m_impl_NetNet_busyOk_l0] at hm
   refine sr ?_
   refine st1 rfl (op_lss (lb rfl)) (so rfl (so rfl sn)) ?_
   refine nk ?_
   refine acode_seq ?_
   refine acode_split (b := decide (s0_0 < (busy.length : Int))) (fun c1 => ?_) (fun c1 => ?_)
   ·
    replace hm := ite_t hm c1
    refine acode_cond_true rfl (c1) ?_
    refine pk ?_
    refine acode_seq ?_
    refine acode_block ?_
    refine sr ?_
    obtain ⟨x2, hx2, hm⟩ := bnd hm
    refine st1 rfl (op_index_shG (f := (GItem.cells false)) (l := busy) Tryz.underlying73 Tryz.sizeOf137 (lb rfl) hx2) (so rfl (so rfl sn)) ?_
    refine st1 rfl (op_load_pts_row Tryz.isAgg137 Tryz.sizeOf137 rfl rfl (lb rfl)) (so rfl sn) ?_
    refine st1 rfl (op_alloc Tryz.zeroValue137 rfl (lb rfl)) (sf rfl sn) ?_
    refine st1 rfl (op_store_bxS Tryz.sizeOf137 rfl rfl rfl rfl) (so rfl (so rfl (sb rfl (sats_lives rfl)))) ?_
    refine nk ?_
    refine acode_seq ?_
    refine acode_region_draw mixed rfl ?_
    refine st1 rfl (op_load_bx_agg Tryz.isAgg81 Tryz.sizeOf81 rfl rfl (lb rfl)) (so rfl (sb rfl sn)) ?_
    refine fdb (off := 0) Tryz.underlying137 Tryz.sizeOf3 rfl rfl rfl (lb rfl) rfl rfl ?_
    refine ldb Tryz.isAgg3 rfl (lb rfl) rfl rfl ?_
    obtain ⟨x3, hx3, hm⟩ := bnd hm
    refine st1 rfl (op_call2 (ks := []) Tryz.func169 rfl rfl (c_impl_NetNet_hasTask n x2.task x3 hx3) (.cons ((.aggCons (.c rfl) (.aggCons (.c rfl) .aggNil rfl) rfl)) (.cons (.c rfl) .nil rfl) rfl) rfl rfl (.inl rfl) .nil rfl rfl (lb rfl)) (sats_opds (.cons rfl (.cons rfl .nil)) (sats_app (sats_freshL rfl) (sats_needsO obs_nil))) ?_
    refine st1 rfl (op_not (lb rfl)) (so rfl sn) ?_
    refine mv (lb rfl) rfl ?_
    refine rg_split (b := x3) (fun c4 => ?_) (fun c4 => ?_)
    ·
     replace hm := ite_t hm c4
     refine st1on rfl rfl rfl (not_t (c4)) (op_field_bx (off := 1) Tryz.underlying137 Tryz.sizeOf3 rfl rfl rfl (lb rfl)) (so rfl (sb rfl sn)) ?_
     refine st1on rfl rfl rfl (not_t (c4)) (op_load_bx Tryz.isAgg3 rfl (lb rfl)) (so rfl (sb rfl sn)) ?_
     obtain ⟨x5, hx5, hm⟩ := bnd hm
     refine st1on rfl rfl rfl (not_t (c4)) (op_call2 (ks := []) Tryz.func170 rfl rfl (c_impl_isPerson x2.who x5 hx5) (.cons (.c rfl) .nil rfl) rfl rfl (.inl rfl) .nil rfl rfl (lb rfl)) (sats_opds (.cons rfl .nil) (sats_app (sats_freshL rfl) (sats_needsO obs_nil))) ?_
     refine st1on rfl rfl rfl (not_t (c4)) (op_not (lb rfl)) (so rfl sn) ?_
     refine st1 rfl (op_pick_false (lb rfl) (not_t (c4))) (so rfl (so rfl sn)) ?_
     refine mv (lb rfl) rfl ?_
     refine rg_split (b := x5) (fun c6 => ?_) (fun c6 => ?_)
     ·
      replace hm := ite_t hm c6
      refine st1on rfl rfl rfl (not_t (c6)) (op_field_bx (off := 2) Tryz.underlying137 Tryz.sizeOf3 rfl rfl rfl (lb rfl)) (so rfl (sb rfl sn)) ?_
      refine st1on rfl rfl rfl (not_t (c6)) (op_load_bx Tryz.isAgg3 rfl (lb rfl)) (so rfl (sb rfl sn)) ?_
      refine st1on rfl rfl rfl (not_t (c6)) (op_field_bx (off := 1) Tryz.underlying81 Tryz.sizeOf79 rfl rfl rfl (lb rfl)) (so rfl (sb rfl sn)) ?_
      refine st1on rfl rfl rfl (not_t (c6)) (op_load_bx Tryz.isAgg79 rfl (lb rfl)) (so rfl (sb rfl sn)) ?_
      refine st1on rfl rfl rfl (not_t (c6)) (op_field_bx (off := 0) Tryz.underlying137 Tryz.sizeOf3 rfl rfl rfl (lb rfl)) (so rfl (sb rfl sn)) ?_
      refine st1on rfl rfl rfl (not_t (c6)) (op_load_bx Tryz.isAgg3 rfl (lb rfl)) (so rfl (sb rfl sn)) ?_
      obtain ⟨x7, hx7, hm⟩ := bnd hm
      refine st1on rfl rfl rfl (not_t (c6)) (op_index_shG (f := (GTask.cells false)) (l := n.tasks) Tryz.underlying79 Tryz.sizeOf187 (lb rfl) hx7) (so rfl (so rfl sn)) ?_
      refine st1on rfl rfl rfl (not_t (c6)) (op_field_pts (off := 8) Tryz.underlying187 Tryz.sizeOf3 rfl rfl rfl rfl (lb rfl)) (so rfl sn) ?_
      refine st1on rfl rfl rfl (not_t (c6)) (op_load_pts Tryz.isAgg3 rfl (lb rfl)) (so rfl sn) ?_
      obtain ⟨g8, hm⟩ := gd_some hm
      refine st1on rfl rfl rfl (not_t (c6)) (op_sub (lb rfl) g8) (so rfl (so rfl sn)) ?_
      obtain ⟨x9, hx9, hm⟩ := bnd hm
      refine st1on rfl rfl rfl (not_t (c6)) (op_call2 (ks := []) Tryz.func87 rfl rfl (c_impl_in x2.did 0 (x7.need - 1) x9 hx9) (.cons (.c rfl) (.cons (.c rfl) (.cons (.c rfl) .nil rfl) rfl) rfl) rfl rfl (.inl rfl) .nil rfl rfl (lb rfl)) (sats_opds (.cons rfl (.cons rfl (.cons rfl .nil))) (sats_app (sats_freshL rfl) (sats_needsO obs_nil))) ?_
      refine st1on rfl rfl rfl (not_t (c6)) (op_not (lb rfl)) (so rfl sn) ?_
      refine st1 rfl (op_pick_false (lb rfl) (not_t (c6))) (so rfl (so rfl sn)) ?_
      refine rg_nil_draw (by kernel_rfl) ?_
      refine kseq_normal ?_
      refine acode_split (b := x9) (fun c10 => ?_) (fun c10 => ?_)
      ·
       replace hm := ite_t hm c10
       refine acode_cond_false rfl (not_t (c10)) ?_
       refine acode_skip ?_
       refine kblk_normal (kseq_normal ?_)
       refine acode_le (le_stU (env := [(1, .c (.sl false 3 (busy.map (GItem.cells false)))), (2, .bx 2 0), (7, .c (.sl false 3 (busy.map (GItem.cells false)))), (8, aInt (busy.length : Int)), (9, aInt s0_0), (19, .bx 6 1), (20, aInt x2.who), (21, aBool x5), (22, aBool (!x5)), (25, .bx 6 2), (26, aInt x2.did), (27, .bx 2 1), (28, .c (.sl false 9 (n.tasks.map (GTask.cells false)))), (29, .bx 6 0), (30, aInt x2.task), (31, .pts [cI x7.join, cI x7.split, .sl false 1 (x7.in_.map (fun n : Int => [cI n])), .sl false 4 (x7.out.map (GFlow.cells false)), .sl false 1 (x7.clear.map (fun n : Int => [cI n])), cI x7.role, cI x7.apart, cI x7.all, cI x7.need]), (32, .pts [cI x7.need]), (33, aInt x7.need), (34, aInt (x7.need - 1)), (35, aBool x9), (36, aBool (!x9))]) (obj := [(2, .box [aInt n.places, .c (.sl false 9 (n.tasks.map (GTask.cells false)))]), (6, .box [aInt x2.task, aInt x2.who, aInt x2.did])]) idn (.cons rfl rfl (.cons rfl rfl (.cons rfl rfl (.cons rfl rfl (.cons rfl rfl (.cons rfl rfl (.cons rfl rfl (.cons rfl rfl (.cons rfl rfl (.cons rfl rfl (.cons rfl rfl (.cons rfl rfl (.cons rfl rfl (.cons rfl rfl (.cons rfl rfl (.cons rfl rfl (.cons rfl rfl (.cons rfl rfl (.cons rfl rfl (.cons rfl rfl (.cons rfl rfl .nil))))))))))))))))))))) (.cons rfl rfl (.inl rfl) (.cons rfl rfl (.inl rfl) .nil)) rfl) ?_
       refine acode_region ?_
       obtain ⟨g11, hm⟩ := gd_some hm
       refine st1 rfl (op_add (lb rfl) g11) (so rfl (so rfl sn)) ?_
       refine mv (lb rfl) rfl ?_
       refine rg_nil_seq ?_
       refine klg_back (n0, (s0_0 + 1)) hm (Nat.lt_succ_self _) ?_
       exact le_stU idn (.cons rfl rfl (.cons rfl rfl (.cons rfl rfl (.cons rfl rfl (.cons rfl rfl .nil))))) (.cons rfl rfl (.inl rfl) .nil) rfl
      ·
       replace hm := ite_f hm c10
       refine acode_cond_true rfl (not_f (c10)) ?_
       refine sr ?_
       refine as_ (lb rfl) rfl ?_
       refine nkt ?_
       obtain rfl := Option.some.inj hm
       exact kblk_ret (kseq_ret (klg_ret (kblk_ret (kseq_ret (fin2_retL (.cons (.c rfl) .nil) rfl .nil rfl rfl rfl)))))
     ·
      replace hm := ite_f hm c6
      refine st1off rfl rfl (lb rfl) rfl rfl (not_f (c6)) ?_
      refine st1off rfl rfl (lb rfl) rfl rfl (not_f (c6)) ?_
      refine st1off rfl rfl (lb rfl) rfl rfl (not_f (c6)) ?_
      refine st1off rfl rfl (lb rfl) rfl rfl (not_f (c6)) ?_
      refine st1off rfl rfl (lb rfl) rfl rfl (not_f (c6)) ?_
      refine st1off rfl rfl (lb rfl) rfl rfl (not_f (c6)) ?_
      refine st1off rfl rfl (lb rfl) rfl rfl (not_f (c6)) ?_
      refine st1off rfl rfl (lb rfl) rfl rfl (not_f (c6)) ?_
      refine st1off rfl rfl (lb rfl) rfl rfl (not_f (c6)) ?_
      refine st1off rfl rfl (lb rfl) rfl rfl (not_f (c6)) ?_
      refine st1off rfl rfl (lb rfl) rfl rfl (not_f (c6)) ?_
      refine st1off rfl rfl (lb rfl) rfl rfl (not_f (c6)) ?_
      refine st1 rfl (op_pick_true (lb rfl) (not_f (c6))) (so rfl (so rfl sn)) ?_
      refine rg_nil_draw (by kernel_rfl) ?_
      refine kseq_normal ?_
      refine acode_cond_true rfl (rfl) ?_
      refine sr ?_
      refine as_ (lb rfl) rfl ?_
      refine nkt ?_
      obtain rfl := Option.some.inj hm
      exact kblk_ret (kseq_ret (klg_ret (kblk_ret (kseq_ret (fin2_retL (.cons (.c rfl) .nil) rfl .nil rfl rfl rfl)))))
    ·
     replace hm := ite_f hm c4
     refine st1off rfl rfl (lb rfl) rfl rfl (not_f (c4)) ?_
     refine st1off rfl rfl (lb rfl) rfl rfl (not_f (c4)) ?_
     refine st1off rfl rfl (lb rfl) rfl rfl (not_f (c4)) ?_
     refine st1off rfl rfl (lb rfl) rfl rfl (not_f (c4)) ?_
     refine st1 rfl (op_pick_true (lb rfl) (not_f (c4))) (so rfl (so rfl sn)) ?_
     refine mv (lb rfl) rfl ?_
     refine st1off rfl rfl (lb rfl) rfl rfl (rfl) ?_
     refine st1off rfl rfl (lb rfl) rfl rfl (rfl) ?_
     refine st1off rfl rfl (lb rfl) rfl rfl (rfl) ?_
     refine st1off rfl rfl (lb rfl) rfl rfl (rfl) ?_
     refine st1off rfl rfl (lb rfl) rfl rfl (rfl) ?_
     refine st1off rfl rfl (lb rfl) rfl rfl (rfl) ?_
     refine st1off rfl rfl (lb rfl) rfl rfl (rfl) ?_
     refine st1off rfl rfl (lb rfl) rfl rfl (rfl) ?_
     refine st1off rfl rfl (lb rfl) rfl rfl (rfl) ?_
     refine st1off rfl rfl (lb rfl) rfl rfl (rfl) ?_
     refine st1off rfl rfl (lb rfl) rfl rfl (rfl) ?_
     refine st1off rfl rfl (lb rfl) rfl rfl (rfl) ?_
     refine st1 rfl (op_pick_true (lb rfl) (rfl)) (so rfl (so rfl sn)) ?_
     refine rg_nil_draw (by kernel_rfl) ?_
     refine kseq_normal ?_
     refine acode_cond_true rfl (rfl) ?_
     refine sr ?_
     refine as_ (lb rfl) rfl ?_
     refine nkt ?_
     obtain rfl := Option.some.inj hm
     exact kblk_ret (kseq_ret (klg_ret (kblk_ret (kseq_ret (fin2_retL (.cons (.c rfl) .nil) rfl .nil rfl rfl rfl)))))
   ·
    replace hm := ite_f hm c1
    refine acode_cond_false rfl (c1) ?_
    refine acode_exit ?_
    unfold m_impl_NetNet_busyOk_k1 at hm
    refine kseq_exit (klg_exit (kblk_hit (kseq_normal ?_)))
    refine sr ?_
    refine mv (lb rfl) rfl ?_
    refine st1 rfl (op_len_sh (f := (GItem.cells false)) (l := busy) Tryz.underlying73 (lb rfl)) (so rfl sn) ?_
    refine st1 rfl (op_leq (lb rfl)) (so rfl (so rfl sn)) ?_
    refine as_ (lb rfl) rfl ?_
    refine nkt ?_
    obtain rfl := Option.some.inj hm
    exact fin2_retL (.cons (.c rfl) .nil) rfl .nil rfl rfl rfl

def m_impl_PplOk_1 (n : Int) : Option Bool := (m_impl_in n 0 7).bind fun x1 => (some (!x1))

theorem c_impl_PplOk_1 (n : Int) (rz : Bool) (hm : m_impl_PplOk_1 n = some rz) : FnB Tryz.prog 165 [.c (cI n)] [.c (cB rz)] [] := by
 unfold m_impl_PplOk_1 at hm
 refine fn_intro2 (n := 6) (rvs := [.tmp 2]) Tryz.func165 rfl rfl rfl (lb rfl) rfl rfl rfl rfl rfl ?_
 refine acode_seq ?_
 refine acode_le (le_stU (env := [(0, aInt n)]) (obj := []) idn (.cons rfl rfl .nil) .nil rfl) ?_
 refine acode_region ?_
 refine as_ (lb rfl) rfl ?_
 refine nk ?_
 refine sr ?_
 refine mv (lb rfl) rfl ?_
 obtain ⟨x1, hx1, hm⟩ := bnd hm
 refine st1 rfl (op_call2 (ks := []) Tryz.func87 rfl rfl (c_impl_in n 0 7 x1 hx1) (.cons (.c rfl) (.cons (.c rfl) (.cons (.c rfl) .nil rfl) rfl) rfl) rfl rfl (.inl rfl) .nil rfl rfl (lb rfl)) (sats_opds (.cons rfl (.cons rfl (.cons rfl .nil))) (sats_app (sats_freshL rfl) (sats_needsO obs_nil))) ?_
 refine st1 rfl (op_not (lb rfl)) (so rfl sn) ?_
 refine as_ (lb rfl) rfl ?_
 refine nkt ?_
 obtain rfl := Option.some.inj hm
 exact fin2_retL (.cons (.c rfl) .nil) rfl .nil rfl rfl rfl

def m_impl_PplOk (people : List Int) : Option Bool := (m_impl_in (people.length : Int) 1 4).bind fun x1 => (if x1 = true then ((m_ContainsFunc_I people (fun z => m_impl_PplOk_1 z )).bind fun x3 => (some (!x3))) else (some false))

theorem c_impl_PplOk (people : List Int) (rz : Bool) (hm : m_impl_PplOk people = some rz) : FnB Tryz.prog 91 [.c (.sl false 1 (people.map (fun n : Int => [cI n])))] [.c (cB rz)] [] := by
 unfold m_impl_PplOk at hm
 refine fn_intro2 (n := 11) (rvs := [.tmp 2]) Tryz.func91 rfl rfl rfl (lb rfl) rfl rfl rfl rfl rfl ?_
 refine acode_seq ?_
 refine acode_le (le_stU (env := [(0, .c (.sl false 1 (people.map (fun n : Int => [cI n]))))]) (obj := []) idn (.cons rfl rfl .nil) .nil rfl) ?_
 refine acode_region ?_
 refine as_ (lb rfl) rfl ?_
 refine nk ?_
 refine sr ?_
 refine mv (lb rfl) rfl ?_
 refine st1 rfl (op_len_sh (f := (fun n : Int => [cI n])) (l := people) Tryz.underlying23 (lb rfl)) (so rfl sn) ?_
 obtain ⟨x1, hx1, hm⟩ := bnd hm
 refine st1 rfl (op_call2 (ks := []) Tryz.func87 rfl rfl (c_impl_in (people.length : Int) 1 4 x1 hx1) (.cons (.c rfl) (.cons (.c rfl) (.cons (.c rfl) .nil rfl) rfl) rfl) rfl rfl (.inl rfl) .nil rfl rfl (lb rfl)) (sats_opds (.cons rfl (.cons rfl (.cons rfl .nil))) (sats_app (sats_freshL rfl) (sats_needsO obs_nil))) ?_
 refine mv (lb rfl) rfl ?_
 refine rg_split (b := x1) (fun c2 => ?_) (fun c2 => ?_)
 ·
  replace hm := ite_t hm c2
  refine st1on rfl rfl rfl (c2) (op_move (lb rfl)) (so rfl sn) ?_
  obtain ⟨x3, hx3, hm⟩ := bnd hm
  refine st1on rfl rfl rfl (c2) (op_call2 (ks := []) Tryz.func164 rfl rfl (c_ContainsFunc_I ⟨_, _, Tryz.func165, rfl, rfl⟩ rfl people (fun z => m_impl_PplOk_1 z ) (fun z y hz => c_impl_PplOk_1 z  y hz) x3 hx3) (.cons (.c rfl) (.cons .fnNil .nil rfl) rfl) rfl rfl (.inl rfl) .nil rfl rfl (lb rfl)) (sats_opds (.cons rfl (.cons rfl .nil)) (sats_app (sats_freshL rfl) (sats_needsO obs_nil))) ?_
  refine st1on rfl rfl rfl (c2) (op_not (lb rfl)) (so rfl sn) ?_
  refine st1 rfl (op_pick_true (lb rfl) (c2)) (so rfl (so rfl sn)) ?_
  refine as_ (lb rfl) rfl ?_
  refine nkt ?_
  obtain rfl := Option.some.inj hm
  exact fin2_retL (.cons (.c rfl) .nil) rfl .nil rfl rfl rfl
 ·
  replace hm := ite_f hm c2
  refine st1off rfl rfl (lb rfl) rfl rfl (c2) ?_
  refine st1off rfl rfl (lb rfl) rfl rfl (c2) ?_
  refine st1off rfl rfl (lb rfl) rfl rfl (c2) ?_
  refine st1 rfl (op_pick_false (lb rfl) (c2)) (so rfl (so rfl sn)) ?_
  refine as_ (lb rfl) rfl ?_
  refine nkt ?_
  obtain rfl := Option.some.inj hm
  exact fin2_retL (.cons (.c rfl) .nil) rfl .nil rfl rfl rfl

def m_impl_CasOk_k1 (c : GCase) : Option Bool := if decide (c.state = 1) = true then ((getI c.marks 1).bind fun x16 => (some (decide (x16 = 0)))) else (if decide (c.state = 2) = true then (if decide ((c.busy.length : Int) = 0) = true then ((getI c.marks 1).bind fun x19 => (some ((decide (c.state = 2)) == (decide (0 < x19))))) else (some false)) else (if decide (c.state = 3) = true then (if decide ((c.busy.length : Int) = 0) = true then ((getI c.marks 1).bind fun x22 => (some ((decide (c.state = 2)) == (decide (0 < x22))))) else (some false)) else (some false)))
def m_impl_CasOk_l0 (n : GNet) (c : GCase) (kx0_0 : Option Bool) : Nat → Int → Option Bool
  | 0, _ => none
  | n0 + 1, s0_0 => if decide (s0_0 < (c.did.length : Int)) = true then ((getI c.did s0_0).bind fun x9 => ((m_impl_NetNet_hasTask n x9.task).bind fun x10 => (if x10 = true then ((m_impl_isPerson x9.who).bind fun x12 => (if x12 = true then (gd (ok64 (s0_0 + 1)) ((m_impl_CasOk_l0 n c kx0_0 n0) (s0_0 + 1))) else (some false))) else (some false)))) else (kx0_0)
def m_impl_CasOk (n : GNet) (c : GCase) : Option Bool := (m_impl_MrkOk n c.marks).bind fun x1 => (if x1 = true then ((m_impl_NetNet_busyOk n c.busy).bind fun x3 => (if x3 = true then ((m_impl_DatOk c.data).bind fun x5 => (if x5 = true then (if decide (60 < (c.did.length : Int)) = true then (some false) else (m_impl_CasOk_l0 n c (m_impl_CasOk_k1 c) FUEL 0)) else (some false))) else (some false))) else (some false))

theorem c_impl_CasOk (n : GNet) (c : GCase) (rz : Bool) (hm : m_impl_CasOk n c = some rz) : FnB Tryz.prog 93 [.row (GNet.cells false n), .row (GCase.cells false c)] [.c (cB rz)] [] := by
 unfold m_impl_CasOk at hm
 refine fn_intro2 (n := 77) (rvs := [.tmp 4]) Tryz.func93 rfl rfl rfl (lb rfl) rfl rfl rfl rfl rfl ?_
 refine acode_seq ?_
 refine acode_le (le_stU (env := [(0, .row [cI n.places, .sl false 9 (n.tasks.map (GTask.cells false))]), (1, .row [cI c.state, .sl false 1 (c.marks.map (fun n : Int => [cI n])), .sl false 3 (c.busy.map (GItem.cells false)), .sl false 1 (c.data.map (fun n : Int => [cI n])), .sl false 2 (c.did.map (GDid.cells false))])]) (obj := []) idn (.cons rfl rfl (.cons rfl rfl .nil)) .nil rfl) ?_
 refine acode_region ?_
 refine st1 rfl (op_box rfl (lb rfl)) (so rfl (sf rfl (sats_lives rfl))) ?_
 refine st1 rfl (op_box rfl (lb rfl)) (so rfl (sf rfl (sats_lives rfl))) ?_
 refine as_ (lb rfl) rfl ?_
 refine nk ?_
 refine acode_seq ?_
 refine sr ?_
 refine st1 rfl (op_load_bx_agg Tryz.isAgg81 Tryz.sizeOf81 rfl rfl (lb rfl)) (so rfl (sb rfl sn)) ?_
 refine fdb (off := 1) Tryz.underlying76 Tryz.sizeOf23 rfl rfl rfl (lb rfl) rfl rfl ?_
 refine ldb Tryz.isAgg23 rfl (lb rfl) rfl rfl ?_
 obtain ⟨x1, hx1, hm⟩ := bnd hm
 refine st1 rfl (op_call2 (ks := []) Tryz.func167 rfl rfl (c_impl_MrkOk n c.marks x1 hx1) (.cons ((.aggCons (.c rfl) (.aggCons (.c rfl) .aggNil rfl) rfl)) (.cons (.c rfl) .nil rfl) rfl) rfl rfl (.inl rfl) .nil rfl rfl (lb rfl)) (sats_opds (.cons rfl (.cons rfl .nil)) (sats_app (sats_freshL rfl) (sats_needsO obs_nil))) ?_
 refine st1 rfl (op_not (lb rfl)) (so rfl sn) ?_
 refine mv (lb rfl) rfl ?_
 refine rg_split (b := x1) (fun c2 => ?_) (fun c2 => ?_)
 ·
  replace hm := ite_t hm c2
  refine st1on rfl rfl rfl (not_t (c2)) (op_load_bx_agg Tryz.isAgg81 Tryz.sizeOf81 rfl rfl (lb rfl)) (so rfl (sb rfl sn)) ?_
  refine st1on rfl rfl rfl (not_t (c2)) (op_field_bx (off := 2) Tryz.underlying76 Tryz.sizeOf73 rfl rfl rfl (lb rfl)) (so rfl (sb rfl sn)) ?_
  refine st1on rfl rfl rfl (not_t (c2)) (op_load_bx Tryz.isAgg73 rfl (lb rfl)) (so rfl (sb rfl sn)) ?_
  obtain ⟨x3, hx3, hm⟩ := bnd hm
  refine st1on rfl rfl rfl (not_t (c2)) (op_call2 (ks := []) Tryz.func168 rfl rfl (c_impl_NetNet_busyOk n c.busy x3 hx3) (.cons ((.aggCons (.c rfl) (.aggCons (.c rfl) .aggNil rfl) rfl)) (.cons (.c rfl) .nil rfl) rfl) rfl rfl (.inl rfl) .nil rfl rfl (lb rfl)) (sats_opds (.cons rfl (.cons rfl .nil)) (sats_app (sats_freshL rfl) (sats_needsO obs_nil))) ?_
  refine st1on rfl rfl rfl (not_t (c2)) (op_not (lb rfl)) (so rfl sn) ?_
  refine st1 rfl (op_pick_false (lb rfl) (not_t (c2))) (so rfl (so rfl sn)) ?_
  refine mv (lb rfl) rfl ?_
  refine rg_split (b := x3) (fun c4 => ?_) (fun c4 => ?_)
  ·
   replace hm := ite_t hm c4
   refine st1on rfl rfl rfl (not_t (c4)) (op_field_bx (off := 3) Tryz.underlying76 Tryz.sizeOf23 rfl rfl rfl (lb rfl)) (so rfl (sb rfl sn)) ?_
   refine st1on rfl rfl rfl (not_t (c4)) (op_load_bx Tryz.isAgg23 rfl (lb rfl)) (so rfl (sb rfl sn)) ?_
   obtain ⟨x5, hx5, hm⟩ := bnd hm
   refine st1on rfl rfl rfl (not_t (c4)) (op_call2 (ks := []) Tryz.func140 rfl rfl (c_impl_DatOk c.data x5 hx5) (.cons (.c rfl) .nil rfl) rfl rfl (.inl rfl) .nil rfl rfl (lb rfl)) (sats_opds (.cons rfl .nil) (sats_app (sats_freshL rfl) (sats_needsO obs_nil))) ?_
   refine st1on rfl rfl rfl (not_t (c4)) (op_not (lb rfl)) (so rfl sn) ?_
   refine st1 rfl (op_pick_false (lb rfl) (not_t (c4))) (so rfl (so rfl sn)) ?_
   refine mv (lb rfl) rfl ?_
   refine rg_split (b := x5) (fun c6 => ?_) (fun c6 => ?_)
   ·
    replace hm := ite_t hm c6
    refine st1on rfl rfl rfl (not_t (c6)) (op_field_bx (off := 4) Tryz.underlying76 Tryz.sizeOf74 rfl rfl rfl (lb rfl)) (so rfl (sb rfl sn)) ?_
    refine st1on rfl rfl rfl (not_t (c6)) (op_load_bx Tryz.isAgg74 rfl (lb rfl)) (so rfl (sb rfl sn)) ?_
    refine st1on rfl rfl rfl (not_t (c6)) (op_len_sh (f := (GDid.cells false)) (l := c.did) Tryz.underlying74 (lb rfl)) (so rfl sn) ?_
    refine st1on rfl rfl rfl (not_t (c6)) (op_gtr (lb rfl)) (so rfl (so rfl sn)) ?_
    refine st1 rfl (op_pick_false (lb rfl) (not_t (c6))) (so rfl (so rfl sn)) ?_
    refine nk ?_
    refine acode_split (b := decide (60 < (c.did.length : Int))) (fun c7 => ?_) (fun c7 => ?_)
    ·
     replace hm := ite_t hm c7
     refine acode_cond_true rfl (c7) ?_
     refine acode_seq ?_
     refine acode_le (le_stU (env := []) (obj := []) idn .nil .nil rfl) ?_
     refine acode_region ?_
     refine as_ (lb rfl) rfl ?_
     refine nkt ?_
     obtain rfl := Option.some.inj hm
     exact kseq_ret (fin2_retL (.cons (.c rfl) .nil) rfl .nil rfl rfl rfl)
    ·
     replace hm := ite_f hm c7
     refine acode_cond_false rfl (c7) ?_
     refine pk ?_
     refine acode_seq ?_
     refine sr ?_
     refine fdb (off := 4) Tryz.underlying76 Tryz.sizeOf74 rfl rfl rfl (lb rfl) rfl rfl ?_
     refine ldb Tryz.isAgg74 rfl (lb rfl) rfl rfl ?_
     refine st1 rfl (op_len_sh (f := (GDid.cells false)) (l := c.did) Tryz.underlying74 (lb rfl)) (so rfl sn) ?_
     refine mv (lb rfl) rfl ?_
     refine nk ?_
     refine acode_block ?_
     refine acode_loopk (xs := [2, 3, 32, 33]) (ys := [2, 3]) (S := Nat × Int) (fun z => [(34, aInt z.2)]) (fun z => []) (fun z => m_impl_CasOk_l0 n c (m_impl_CasOk_k1 c) z.1 z.2 = some rz) (fun z => z.1) (FUEL, 0) (.cons rfl (.cons rfl (.cons rfl (.cons rfl .nil)))) (.cons rfl (.cons rfl .nil)) ?em ?eo rfl ?ei ?round
     case em => exact (.cons rfl rfl .nil)
     case eo => exact .nil
     case ei => exact hm
     case round =>
      rintro ⟨n0, s0_0⟩ hm
      dsimp only at hm ⊢
      cases n0 with
      | zero => rw [m_impl_CasOk_l0] at hm; cases hm
      | succ n0 =>
       rw [m_impl_CasOk_l0] at hm
       refine sr ?_
       refine st1 rfl (op_lss (lb rfl)) (so rfl (so rfl sn)) ?_
       refine nk ?_
       refine acode_seq ?_
       refine acode_split (b := decide (s0_0 < (c.did.length : Int))) (fun c8 => ?_) (fun c8 => ?_)
       ·
        replace hm := ite_t hm c8
        refine acode_cond_true rfl (c8) ?_
        refine pk ?_
        refine acode_seq ?_
        refine acode_block ?_
        refine sr ?_
        obtain ⟨x9, hx9, hm⟩ := bnd hm
        refine st1 rfl (op_index_shG (f := (GDid.cells false)) (l := c.did) Tryz.underlying74 Tryz.sizeOf154 (lb rfl) hx9) (so rfl (so rfl sn)) ?_
        refine st1 rfl (op_load_pts_row Tryz.isAgg154 Tryz.sizeOf154 rfl rfl (lb rfl)) (so rfl sn) ?_
        refine st1 rfl (op_alloc Tryz.zeroValue154 rfl (lb rfl)) (sf rfl sn) ?_
        refine st1 rfl (op_store_bxS Tryz.sizeOf154 rfl rfl rfl rfl) (so rfl (so rfl (sb rfl (sats_lives rfl)))) ?_
        refine nk ?_
        refine sr ?_
        refine st1 rfl (op_load_bx_agg Tryz.isAgg81 Tryz.sizeOf81 rfl rfl (lb rfl)) (so rfl (sb rfl sn)) ?_
        refine fdb (off := 0) Tryz.underlying154 Tryz.sizeOf3 rfl rfl rfl (lb rfl) rfl rfl ?_
        refine ldb Tryz.isAgg3 rfl (lb rfl) rfl rfl ?_
        obtain ⟨x10, hx10, hm⟩ := bnd hm
        refine st1 rfl (op_call2 (ks := []) Tryz.func169 rfl rfl (c_impl_NetNet_hasTask n x9.task x10 hx10) (.cons ((.aggCons (.c rfl) (.aggCons (.c rfl) .aggNil rfl) rfl)) (.cons (.c rfl) .nil rfl) rfl) rfl rfl (.inl rfl) .nil rfl rfl (lb rfl)) (sats_opds (.cons rfl (.cons rfl .nil)) (sats_app (sats_freshL rfl) (sats_needsO obs_nil))) ?_
        refine st1 rfl (op_not (lb rfl)) (so rfl sn) ?_
        refine mv (lb rfl) rfl ?_
        refine rg_split (b := x10) (fun c11 => ?_) (fun c11 => ?_)
        ·
         replace hm := ite_t hm c11
         refine st1on rfl rfl rfl (not_t (c11)) (op_field_bx (off := 1) Tryz.underlying154 Tryz.sizeOf3 rfl rfl rfl (lb rfl)) (so rfl (sb rfl sn)) ?_
         refine st1on rfl rfl rfl (not_t (c11)) (op_load_bx Tryz.isAgg3 rfl (lb rfl)) (so rfl (sb rfl sn)) ?_
         obtain ⟨x12, hx12, hm⟩ := bnd hm
         refine st1on rfl rfl rfl (not_t (c11)) (op_call2 (ks := []) Tryz.func170 rfl rfl (c_impl_isPerson x9.who x12 hx12) (.cons (.c rfl) .nil rfl) rfl rfl (.inl rfl) .nil rfl rfl (lb rfl)) (sats_opds (.cons rfl .nil) (sats_app (sats_freshL rfl) (sats_needsO obs_nil))) ?_
         refine st1on rfl rfl rfl (not_t (c11)) (op_not (lb rfl)) (so rfl sn) ?_
         refine st1 rfl (op_pick_false (lb rfl) (not_t (c11))) (so rfl (so rfl sn)) ?_
         refine nk ?_
         refine acode_split (b := x12) (fun c13 => ?_) (fun c13 => ?_)
         ·
          replace hm := ite_t hm c13
          refine acode_cond_false rfl (not_t (c13)) ?_
          refine acode_skip ?_
          refine kblk_normal (kseq_normal ?_)
          refine acode_le (le_stU (env := [(2, .bx 2 0), (3, .bx 3 0), (32, .c (.sl false 2 (c.did.map (GDid.cells false)))), (33, aInt (c.did.length : Int)), (34, aInt s0_0), (44, .bx 6 1), (45, aInt x9.who), (46, aBool x12), (47, aBool (!x12))]) (obj := [(2, .box [aInt n.places, .c (.sl false 9 (n.tasks.map (GTask.cells false)))]), (3, .box [aInt c.state, .c (.sl false 1 (c.marks.map (fun n : Int => [cI n]))), .c (.sl false 3 (c.busy.map (GItem.cells false))), .c (.sl false 1 (c.data.map (fun n : Int => [cI n]))), .c (.sl false 2 (c.did.map (GDid.cells false)))]), (6, .box [aInt x9.task, aInt x9.who])]) idn (.cons rfl rfl (.cons rfl rfl (.cons rfl rfl (.cons rfl rfl (.cons rfl rfl (.cons rfl rfl (.cons rfl rfl (.cons rfl rfl (.cons rfl rfl .nil))))))))) (.cons rfl rfl (.inl rfl) (.cons rfl rfl (.inl rfl) (.cons rfl rfl (.inl rfl) .nil))) rfl) ?_
          refine acode_region ?_
          obtain ⟨g14, hm⟩ := gd_some hm
          refine st1 rfl (op_add (lb rfl) g14) (so rfl (so rfl sn)) ?_
          refine mv (lb rfl) rfl ?_
          refine rg_nil_seq ?_
          refine klg_back (n0, (s0_0 + 1)) hm (Nat.lt_succ_self _) ?_
          exact le_stU idn (.cons rfl rfl (.cons rfl rfl (.cons rfl rfl (.cons rfl rfl (.cons rfl rfl .nil))))) (.cons rfl rfl (.inl rfl) (.cons rfl rfl (.inl rfl) .nil)) rfl
         ·
          replace hm := ite_f hm c13
          refine acode_cond_true rfl (not_f (c13)) ?_
          refine sr ?_
          refine as_ (lb rfl) rfl ?_
          refine nkt ?_
          obtain rfl := Option.some.inj hm
          exact kblk_ret (kseq_ret (klg_ret (kblk_ret (kseq_ret (fin2_retL (.cons (.c rfl) .nil) rfl .nil rfl rfl rfl)))))
        ·
         replace hm := ite_f hm c11
         refine st1off rfl rfl (lb rfl) rfl rfl (not_f (c11)) ?_
         refine st1off rfl rfl (lb rfl) rfl rfl (not_f (c11)) ?_
         refine st1off rfl rfl (lb rfl) rfl rfl (not_f (c11)) ?_
         refine st1off rfl rfl (lb rfl) rfl rfl (not_f (c11)) ?_
         refine st1 rfl (op_pick_true (lb rfl) (not_f (c11))) (so rfl (so rfl sn)) ?_
         refine nk ?_
         refine acode_cond_true rfl (rfl) ?_
         refine sr ?_
         refine as_ (lb rfl) rfl ?_
         refine nkt ?_
         obtain rfl := Option.some.inj hm
         exact kblk_ret (kseq_ret (klg_ret (kblk_ret (kseq_ret (fin2_retL (.cons (.c rfl) .nil) rfl .nil rfl rfl rfl)))))
       ·
        replace hm := ite_f hm c8
        refine acode_cond_false rfl (c8) ?_
        refine acode_exit ?_
        unfold m_impl_CasOk_k1 at hm
        refine kseq_exit (klg_exit (kblk_hit (kseq_normal ?_)))
        refine acode_seq ?_
        refine sr ?_
        refine fdb (off := 0) Tryz.underlying76 Tryz.sizeOf3 rfl rfl rfl (lb rfl) rfl rfl ?_
        refine ldb Tryz.isAgg3 rfl (lb rfl) rfl rfl ?_
        refine nk ?_
        refine acode_block ?_
        refine sr ?_
        refine st1 rfl (op_eql (lb rfl)) (so rfl (so rfl sn)) ?_
        refine as_ (lb rfl) rfl ?_
        refine nk ?_
        refine acode_split (b := decide (c.state = 1)) (fun c15 => ?_) (fun c15 => ?_)
        ·
         replace hm := ite_t hm c15
         refine acode_cond_true rfl (c15) ?_
         refine sr ?_
         refine fdb (off := 1) Tryz.underlying76 Tryz.sizeOf23 rfl rfl rfl (lb rfl) rfl rfl ?_
         refine ldb Tryz.isAgg23 rfl (lb rfl) rfl rfl ?_
         obtain ⟨x16, hx16, hm⟩ := bnd hm
         refine st1 rfl (op_index_shG (f := (fun n : Int => [cI n])) (l := c.marks) Tryz.underlying23 Tryz.sizeOf3 (lb rfl) hx16) (so rfl (so rfl sn)) ?_
         refine st1 rfl (op_load_pts Tryz.isAgg3 rfl (lb rfl)) (so rfl sn) ?_
         refine st1 rfl (op_eql (lb rfl)) (so rfl (so rfl sn)) ?_
         refine as_ (lb rfl) rfl ?_
         refine nkt ?_
         obtain rfl := Option.some.inj hm
         exact kblk_ret (kseq_ret (fin2_retL (.cons (.c rfl) .nil) rfl .nil rfl rfl rfl))
        ·
         replace hm := ite_f hm c15
         refine acode_cond_false rfl (c15) ?_
         refine acode_seq ?_
         refine sr ?_
         refine st1 rfl (op_eql (lb rfl)) (so rfl (so rfl sn)) ?_
         refine as_ (lb rfl) rfl ?_
         refine nk ?_
         refine acode_split (b := decide (c.state = 2)) (fun c17 => ?_) (fun c17 => ?_)
         ·
          replace hm := ite_t hm c17
          refine acode_cond_true rfl (c17) ?_
          refine pk ?_
          refine acode_cond_true rfl (c17) ?_
          refine acode_seq ?_
          refine acode_le (le_stU (env := [(3, .bx 3 0)]) (obj := [(3, .box [aInt c.state, .c (.sl false 1 (c.marks.map (fun n : Int => [cI n]))), .c (.sl false 3 (c.busy.map (GItem.cells false))), .c (.sl false 1 (c.data.map (fun n : Int => [cI n]))), .c (.sl false 2 (c.did.map (GDid.cells false)))])]) idn (.cons rfl rfl .nil) (.cons rfl rfl (.inl rfl) .nil) rfl) ?_
          refine acode_region_draw mixed rfl ?_
          refine fdb (off := 2) Tryz.underlying76 Tryz.sizeOf73 rfl rfl rfl (lb rfl) rfl rfl ?_
          refine ldb Tryz.isAgg73 rfl (lb rfl) rfl rfl ?_
          refine st1 rfl (op_len_sh (f := (GItem.cells false)) (l := c.busy) Tryz.underlying73 (lb rfl)) (so rfl sn) ?_
          refine st1 rfl (op_eql (lb rfl)) (so rfl (so rfl sn)) ?_
          refine mv (lb rfl) rfl ?_
          refine rg_split (b := decide ((c.busy.length : Int) = 0)) (fun c18 => ?_) (fun c18 => ?_)
          ·
           replace hm := ite_t hm c18
           refine st1on rfl rfl rfl (c18) (op_field_bx (off := 0) Tryz.underlying76 Tryz.sizeOf3 rfl rfl rfl (lb rfl)) (so rfl (sb rfl sn)) ?_
           refine st1on rfl rfl rfl (c18) (op_load_bx Tryz.isAgg3 rfl (lb rfl)) (so rfl (sb rfl sn)) ?_
           refine st1on rfl rfl rfl (c18) (op_eql (lb rfl)) (so rfl (so rfl sn)) ?_
           refine st1on rfl rfl rfl (c18) (op_field_bx (off := 1) Tryz.underlying76 Tryz.sizeOf23 rfl rfl rfl (lb rfl)) (so rfl (sb rfl sn)) ?_
           refine st1on rfl rfl rfl (c18) (op_load_bx Tryz.isAgg23 rfl (lb rfl)) (so rfl (sb rfl sn)) ?_
           obtain ⟨x19, hx19, hm⟩ := bnd hm
           refine st1on rfl rfl rfl (c18) (op_index_shG (f := (fun n : Int => [cI n])) (l := c.marks) Tryz.underlying23 Tryz.sizeOf3 (lb rfl) hx19) (so rfl (so rfl sn)) ?_
           refine st1on rfl rfl rfl (c18) (op_load_pts Tryz.isAgg3 rfl (lb rfl)) (so rfl sn) ?_
           refine st1on rfl rfl rfl (c18) (op_gtr (lb rfl)) (so rfl (so rfl sn)) ?_
           refine st1on rfl rfl rfl (c18) (op_eqlb Tryz.underlying4 (lb rfl)) (so rfl (so rfl sn)) ?_
           refine st1 rfl (op_pick_true (lb rfl) (c18)) (so rfl (so rfl sn)) ?_
           refine as_ (lb rfl) rfl ?_
           refine rg_nil_draw (by kernel_rfl) ?_
           refine kseq_normal ?_
           refine acode_ret ?_
           obtain rfl := Option.some.inj hm
           exact kblk_ret (kseq_ret (fin2_retL (.cons (.c rfl) .nil) rfl .nil rfl rfl rfl))
          ·
           replace hm := ite_f hm c18
           refine st1off rfl rfl (lb rfl) rfl rfl (c18) ?_
           refine st1off rfl rfl (lb rfl) rfl rfl (c18) ?_
           refine st1off rfl rfl (lb rfl) rfl rfl (c18) ?_
           refine st1off rfl rfl (lb rfl) rfl rfl (c18) ?_
           refine st1off rfl rfl (lb rfl) rfl rfl (c18) ?_
           refine st1off rfl rfl (lb rfl) rfl rfl (c18) ?_
           refine st1off rfl rfl (lb rfl) rfl rfl (c18) ?_
           refine st1off rfl rfl (lb rfl) rfl rfl (c18) ?_
           refine st1off rfl rfl (lb rfl) rfl rfl (c18) ?_
           refine st1 rfl (op_pick_false (lb rfl) (c18)) (so rfl (so rfl sn)) ?_
           refine as_ (lb rfl) rfl ?_
           refine rg_nil_draw (by kernel_rfl) ?_
           refine kseq_normal ?_
           refine acode_ret ?_
           obtain rfl := Option.some.inj hm
           exact kblk_ret (kseq_ret (fin2_retL (.cons (.c rfl) .nil) rfl .nil rfl rfl rfl))
         ·
          replace hm := ite_f hm c17
          refine acode_cond_false rfl (c17) ?_
          refine acode_le (le_stU (env := [(3, .bx 3 0), (51, aInt c.state)]) (obj := [(3, .box [aInt c.state, .c (.sl false 1 (c.marks.map (fun n : Int => [cI n]))), .c (.sl false 3 (c.busy.map (GItem.cells false))), .c (.sl false 1 (c.data.map (fun n : Int => [cI n]))), .c (.sl false 2 (c.did.map (GDid.cells false)))])]) idn (.cons rfl rfl (.cons rfl rfl .nil)) (.cons rfl rfl (.inl rfl) .nil) rfl) ?_
          refine acode_region ?_
          refine st1 rfl (op_eql (lb rfl)) (so rfl (so rfl sn)) ?_
          refine as_ (lb rfl) rfl ?_
          refine nk ?_
          refine acode_split (b := decide (c.state = 3)) (fun c20 => ?_) (fun c20 => ?_)
          ·
           replace hm := ite_t hm c20
           refine acode_cond_true rfl (c20) ?_
           refine acode_seq ?_
           refine acode_region_draw mixed rfl ?_
           refine fdb (off := 2) Tryz.underlying76 Tryz.sizeOf73 rfl rfl rfl (lb rfl) rfl rfl ?_
           refine ldb Tryz.isAgg73 rfl (lb rfl) rfl rfl ?_
           refine st1 rfl (op_len_sh (f := (GItem.cells false)) (l := c.busy) Tryz.underlying73 (lb rfl)) (so rfl sn) ?_
           refine st1 rfl (op_eql (lb rfl)) (so rfl (so rfl sn)) ?_
           refine mv (lb rfl) rfl ?_
           refine rg_split (b := decide ((c.busy.length : Int) = 0)) (fun c21 => ?_) (fun c21 => ?_)
           ·
            replace hm := ite_t hm c21
            refine st1on rfl rfl rfl (c21) (op_field_bx (off := 0) Tryz.underlying76 Tryz.sizeOf3 rfl rfl rfl (lb rfl)) (so rfl (sb rfl sn)) ?_
            refine st1on rfl rfl rfl (c21) (op_load_bx Tryz.isAgg3 rfl (lb rfl)) (so rfl (sb rfl sn)) ?_
            refine st1on rfl rfl rfl (c21) (op_eql (lb rfl)) (so rfl (so rfl sn)) ?_
            refine st1on rfl rfl rfl (c21) (op_field_bx (off := 1) Tryz.underlying76 Tryz.sizeOf23 rfl rfl rfl (lb rfl)) (so rfl (sb rfl sn)) ?_
            refine st1on rfl rfl rfl (c21) (op_load_bx Tryz.isAgg23 rfl (lb rfl)) (so rfl (sb rfl sn)) ?_
            obtain ⟨x22, hx22, hm⟩ := bnd hm
            refine st1on rfl rfl rfl (c21) (op_index_shG (f := (fun n : Int => [cI n])) (l := c.marks) Tryz.underlying23 Tryz.sizeOf3 (lb rfl) hx22) (so rfl (so rfl sn)) ?_
            refine st1on rfl rfl rfl (c21) (op_load_pts Tryz.isAgg3 rfl (lb rfl)) (so rfl sn) ?_
            refine st1on rfl rfl rfl (c21) (op_gtr (lb rfl)) (so rfl (so rfl sn)) ?_
            refine st1on rfl rfl rfl (c21) (op_eqlb Tryz.underlying4 (lb rfl)) (so rfl (so rfl sn)) ?_
            refine st1 rfl (op_pick_true (lb rfl) (c21)) (so rfl (so rfl sn)) ?_
            refine as_ (lb rfl) rfl ?_
            refine rg_nil_draw (by kernel_rfl) ?_
            refine kseq_normal ?_
            refine acode_ret ?_
            obtain rfl := Option.some.inj hm
            exact kblk_ret (kseq_ret (fin2_retL (.cons (.c rfl) .nil) rfl .nil rfl rfl rfl))
           ·
            replace hm := ite_f hm c21
            refine st1off rfl rfl (lb rfl) rfl rfl (c21) ?_
            refine st1off rfl rfl (lb rfl) rfl rfl (c21) ?_
            refine st1off rfl rfl (lb rfl) rfl rfl (c21) ?_
            refine st1off rfl rfl (lb rfl) rfl rfl (c21) ?_
            refine st1off rfl rfl (lb rfl) rfl rfl (c21) ?_
            refine st1off rfl rfl (lb rfl) rfl rfl (c21) ?_
            refine st1off rfl rfl (lb rfl) rfl rfl (c21) ?_
            refine st1off rfl rfl (lb rfl) rfl rfl (c21) ?_
            refine st1off rfl rfl (lb rfl) rfl rfl (c21) ?_
            refine st1 rfl (op_pick_false (lb rfl) (c21)) (so rfl (so rfl sn)) ?_
            refine as_ (lb rfl) rfl ?_
            refine rg_nil_draw (by kernel_rfl) ?_
            refine kseq_normal ?_
            refine acode_ret ?_
            obtain rfl := Option.some.inj hm
            exact kblk_ret (kseq_ret (fin2_retL (.cons (.c rfl) .nil) rfl .nil rfl rfl rfl))
          ·
           replace hm := ite_f hm c20
           refine acode_cond_false rfl (c20) ?_
           refine acode_skip ?_
           refine kblk_normal (kseq_normal ?_)
           refine acode_seq ?_
           refine acode_le (le_stU (env := []) (obj := []) idn .nil .nil rfl) ?_
           refine acode_region ?_
           refine as_ (lb rfl) rfl ?_
           refine nkt ?_
           obtain rfl := Option.some.inj hm
           exact fin2_retL (.cons (.c rfl) .nil) rfl .nil rfl rfl rfl
   ·
    replace hm := ite_f hm c6
    refine st1off rfl rfl (lb rfl) rfl rfl (not_f (c6)) ?_
    refine st1off rfl rfl (lb rfl) rfl rfl (not_f (c6)) ?_
    refine st1off rfl rfl (lb rfl) rfl rfl (not_f (c6)) ?_
    refine st1off rfl rfl (lb rfl) rfl rfl (not_f (c6)) ?_
    refine st1 rfl (op_pick_true (lb rfl) (not_f (c6))) (so rfl (so rfl sn)) ?_
    refine nk ?_
    refine acode_cond_true rfl (rfl) ?_
    refine sr ?_
    refine as_ (lb rfl) rfl ?_
    refine nkt ?_
    obtain rfl := Option.some.inj hm
    exact kseq_ret (fin2_retL (.cons (.c rfl) .nil) rfl .nil rfl rfl rfl)
  ·
   replace hm := ite_f hm c4
   refine st1off rfl rfl (lb rfl) rfl rfl (not_f (c4)) ?_
   refine st1off rfl rfl (lb rfl) rfl rfl (not_f (c4)) ?_
   refine st1off rfl rfl (lb rfl) rfl rfl (not_f (c4)) ?_
   refine st1off rfl rfl (lb rfl) rfl rfl (not_f (c4)) ?_
   refine st1 rfl (op_pick_true (lb rfl) (not_f (c4))) (so rfl (so rfl sn)) ?_
   refine mv (lb rfl) rfl ?_
   refine st1off rfl rfl (lb rfl) rfl rfl (rfl) ?_
   refine st1off rfl rfl (lb rfl) rfl rfl (rfl) ?_
   refine st1off rfl rfl (lb rfl) rfl rfl (rfl) ?_
   refine st1off rfl rfl (lb rfl) rfl rfl (rfl) ?_
   refine st1 rfl (op_pick_true (lb rfl) (rfl)) (so rfl (so rfl sn)) ?_
   refine nk ?_
   refine acode_cond_true rfl (rfl) ?_
   refine sr ?_
   refine as_ (lb rfl) rfl ?_
   refine nkt ?_
   obtain rfl := Option.some.inj hm
   exact kseq_ret (fin2_retL (.cons (.c rfl) .nil) rfl .nil rfl rfl rfl)
 ·
  replace hm := ite_f hm c2
  refine st1off rfl rfl (lb rfl) rfl rfl (not_f (c2)) ?_
  refine st1off rfl rfl (lb rfl) rfl rfl (not_f (c2)) ?_
  refine st1off rfl rfl (lb rfl) rfl rfl (not_f (c2)) ?_
  refine st1off rfl rfl (lb rfl) rfl rfl (not_f (c2)) ?_
  refine st1off rfl rfl (lb rfl) rfl rfl (not_f (c2)) ?_
  refine st1 rfl (op_pick_true (lb rfl) (not_f (c2))) (so rfl (so rfl sn)) ?_
  refine mv (lb rfl) rfl ?_
  refine st1off rfl rfl (lb rfl) rfl rfl (rfl) ?_
  refine st1off rfl rfl (lb rfl) rfl rfl (rfl) ?_
  refine st1off rfl rfl (lb rfl) rfl rfl (rfl) ?_
  refine st1off rfl rfl (lb rfl) rfl rfl (rfl) ?_
  refine st1 rfl (op_pick_true (lb rfl) (rfl)) (so rfl (so rfl sn)) ?_
  refine mv (lb rfl) rfl ?_
  refine st1off rfl rfl (lb rfl) rfl rfl (rfl) ?_
  refine st1off rfl rfl (lb rfl) rfl rfl (rfl) ?_
  refine st1off rfl rfl (lb rfl) rfl rfl (rfl) ?_
  refine st1off rfl rfl (lb rfl) rfl rfl (rfl) ?_
  refine st1 rfl (op_pick_true (lb rfl) (rfl)) (so rfl (so rfl sn)) ?_
  refine nk ?_
  refine acode_cond_true rfl (rfl) ?_
  refine sr ?_
  refine as_ (lb rfl) rfl ?_
  refine nkt ?_
  obtain rfl := Option.some.inj hm
  exact kseq_ret (fin2_retL (.cons (.c rfl) .nil) rfl .nil rfl rfl rfl)

def m_impl_RdrOk_k1 (s0_0 : Int) (bk0 : Int → List Int → Option Bool) (l1_1 : List Int) : Option Bool := gd (ok64 (s0_0 + 1)) (bk0 (s0_0 + 1) l1_1)
def m_impl_RdrOk_l1 (tree : List GNode) (s0_0 : Int) (x3 : GNode) (kx1_0 : List Int → Option Bool) : Nat → Int → List Int → Option Bool
  | 0, _, _ => none
  | n1 + 1, s1_0, l1_1 => if decide (s1_0 < ([x3.yes, x3.no].length : Int)) = true then ((getI [x3.yes, x3.no] s1_0).bind fun x9 => (if decide (x9 = (-1)) = true then (gd (ok64 (s1_0 + 1)) ((m_impl_RdrOk_l1 tree s0_0 x3 kx1_0 n1) (s1_0 + 1) l1_1)) else (gd (ok64 (s0_0 + 1)) (gd (ok64 ((tree.length : Int) - 1)) ((m_impl_in x9 (s0_0 + 1) ((tree.length : Int) - 1)).bind fun x14 => (if x14 = true then ((getI l1_1 x9).bind fun x16 => (gd (ok64 (x16 + 1)) ((getI l1_1 x9).bind fun x18 => (gd (ok64 (s1_0 + 1)) ((m_impl_RdrOk_l1 tree s0_0 x3 kx1_0 n1) (s1_0 + 1) (l1_1.set x9.toNat (x16 + 1))))))) else (some false))))))) else (kx1_0 l1_1)
def m_impl_RdrOk_k3 (tree : List GNode) : Option Bool := some (decide ((tree.length : Int) ≤ 12))
def m_impl_RdrOk_l2 (l0_1 : List Int) (kx2_0 : Option Bool) : Nat → Int → Option Bool
  | 0, _ => none
  | n2 + 1, s2_0 => if decide (s2_0 < (l0_1.length : Int)) = true then ((getI l0_1 s2_0).bind fun x22 => (if decide (0 < s2_0) = true then (if decide (x22 = 1) = true then (gd (ok64 (s2_0 + 1)) ((m_impl_RdrOk_l2 l0_1 kx2_0 n2) (s2_0 + 1))) else (some false)) else (gd (ok64 (s2_0 + 1)) ((m_impl_RdrOk_l2 l0_1 kx2_0 n2) (s2_0 + 1))))) else (kx2_0)
def m_impl_RdrOk_k2 (tree : List GNode) (l0_1 : List Int) : Option Bool := m_impl_RdrOk_l2 l0_1 (m_impl_RdrOk_k3 tree) FUEL 0
def m_impl_RdrOk_l0 (tree : List GNode) (kx0_0 : List Int → Option Bool) : Nat → Int → List Int → Option Bool
  | 0, _, _ => none
  | n0 + 1, s0_0, l0_1 => if decide (s0_0 < (tree.length : Int)) = true then ((getI tree s0_0).bind fun x3 => ((m_impl_ExpHolds x3.if_ x3.stone).bind fun x4 => (if x4 = true then ((m_impl_isAnswer x3.ans).bind fun x6 => (if x6 = true then (m_impl_RdrOk_l1 tree s0_0 x3 (m_impl_RdrOk_k1 s0_0 (m_impl_RdrOk_l0 tree kx0_0 n0)) FUEL 0 l0_1) else (some false))) else (some false)))) else (kx0_0 l0_1)
def m_impl_RdrOk (tree : List GNode) : Option Bool := gd ((0 : Int) ≤ (tree.length : Int) ∧ (tree.length : Int) ≤ (1000000000 : Int)) (m_impl_RdrOk_l0 tree (m_impl_RdrOk_k2 tree) FUEL 0 (List.replicate (tree.length : Int).toNat (0 : Int)))

theorem c_impl_RdrOk (tree : List GNode) (rz : Bool) (hm : m_impl_RdrOk tree = some rz) : FnB Tryz.prog 92 [.c (.sl false 7 (tree.map (GNode.cells false)))] [.c (cB rz)] [] := by
 unfold m_impl_RdrOk at hm
 refine fn_intro2 (n := 77) (rvs := [.tmp 2]) Tryz.func92 rfl rfl rfl (lb rfl) rfl rfl rfl rfl rfl ?_
 refine acode_seq ?_
 refine acode_le (le_stU (env := [(0, .c (.sl false 7 (tree.map (GNode.cells false))))]) (obj := []) idn (.cons rfl rfl .nil) .nil rfl) ?_
 refine acode_region ?_
 refine as_ (lb rfl) rfl ?_
 refine nk ?_
 refine sr ?_
 refine mv (lb rfl) rfl ?_
 refine st1 rfl (op_len_sh (f := (GNode.cells false)) (l := tree) Tryz.underlying35 (lb rfl)) (so rfl sn) ?_
 obtain ⟨g1, hm⟩ := gd_some hm
 refine st1 rfl (op_makeSliceG (zr := (fun n : Int => [cI n]) (0 : Int)) (rows := ((List.replicate (tree.length : Int).toNat (0 : Int)).map (fun n : Int => [cI n]))) (elem23) (zero23) (.lit .nil) g1 rfl (lb rfl) (repG (f := (fun n : Int => [cI n])))) (so rfl (so rfl (sf rfl sn))) ?_
 refine as_ (lb rfl) rfl ?_
 refine nk ?_
 refine acode_seq ?_
 refine sr ?_
 refine mv (lb rfl) rfl ?_
 refine st1 rfl (op_len_sh (f := (GNode.cells false)) (l := tree) Tryz.underlying35 (lb rfl)) (so rfl sn) ?_
 refine mv (lb rfl) rfl ?_
 refine nk ?_
 refine acode_block ?_
 refine acode_loopk (xs := [0, 3, 13, 14]) (ys := []) (S := Nat × Int × (List Int)) (fun z => [(15, aInt z.2.1)]) (fun z => [(12, .arr 1 (z.2.2.map (fun n : Int => [cI n])))]) (fun z => m_impl_RdrOk_l0 tree (m_impl_RdrOk_k2 tree) z.1 z.2.1 z.2.2 = some rz) (fun z => z.1) (FUEL, 0, (List.replicate (tree.length : Int).toNat (0 : Int))) (.cons rfl (.cons rfl (.cons rfl (.cons rfl .nil)))) .nil ?em ?eo rfl ?ei ?round
 case em => exact (.cons rfl rfl .nil)
 case eo => exact (.cons rfl rfl .nil)
 case ei => exact hm
 case round =>
  rintro ⟨n0, s0_0, l0_1⟩ hm
  dsimp only at hm ⊢
  cases n0 with
  | zero => rw [m_impl_RdrOk_l0] at hm; cases hm
  | succ n0 =>
   rw [m_impl_RdrOk_l0] at hm
   refine sr ?_
   refine st1 rfl (op_lss (lb rfl)) (so rfl (so rfl sn)) ?_
   refine nk ?_
   refine acode_seq ?_
   refine acode_split (b := decide (s0_0 < (tree.length : Int))) (fun c2 => ?_) (fun c2 => ?_)
   ·
    replace hm := ite_t hm c2
    refine acode_cond_true rfl (c2) ?_
    refine pk ?_
    refine acode_seq ?_
    refine acode_block ?_
    refine sr ?_
    refine mv (lb rfl) rfl ?_
    obtain ⟨x3, hx3, hm⟩ := bnd hm
    refine st1 rfl (op_index_shG (f := (GNode.cells false)) (l := tree) Tryz.underlying35 Tryz.sizeOf168 (lb rfl) hx3) (so rfl (so rfl sn)) ?_
    refine st1 rfl (op_load_pts_row Tryz.isAgg168 Tryz.sizeOf168 rfl rfl (lb rfl)) (so rfl sn) ?_
    refine st1 rfl (op_alloc Tryz.zeroValue168 rfl (lb rfl)) (sf rfl sn) ?_
    refine as_ (lb rfl) rfl ?_
    refine st1 rfl (op_store_bxS Tryz.sizeOf168 rfl rfl rfl rfl) (so rfl (so rfl (sb rfl (sats_lives rfl)))) ?_
    refine nk ?_
    refine acode_seq ?_
    refine sr ?_
    refine fdb (off := 0) Tryz.underlying168 Tryz.sizeOf42 rfl rfl rfl (lb rfl) rfl rfl ?_
    refine st1 rfl (op_load_bx_agg Tryz.isAgg42 Tryz.sizeOf42 rfl rfl (lb rfl)) (so rfl (sb rfl sn)) ?_
    refine fdb (off := 6) Tryz.underlying168 Tryz.sizeOf23 rfl rfl rfl (lb rfl) rfl rfl ?_
    refine ldb Tryz.isAgg23 rfl (lb rfl) rfl rfl ?_
    obtain ⟨x4, hx4, hm⟩ := bnd hm
    refine st1 rfl (op_call2 (ks := []) Tryz.func166 rfl rfl (c_impl_ExpHolds x3.if_ x3.stone x4 hx4) (.cons ((.aggCons (.c rfl) (.aggCons (.c rfl) (.aggCons (.c rfl) .aggNil rfl) rfl) rfl)) (.cons (.c rfl) .nil rfl) rfl) rfl rfl (.inl rfl) .nil rfl rfl (lb rfl)) (sats_opds (.cons rfl (.cons rfl .nil)) (sats_app (sats_freshL rfl) (sats_needsO obs_nil))) ?_
    refine st1 rfl (op_not (lb rfl)) (so rfl sn) ?_
    refine mv (lb rfl) rfl ?_
    refine rg_split (b := x4) (fun c5 => ?_) (fun c5 => ?_)
    ·
     replace hm := ite_t hm c5
     refine st1on rfl rfl rfl (not_t (c5)) (op_field_bx (off := 5) Tryz.underlying168 Tryz.sizeOf3 rfl rfl rfl (lb rfl)) (so rfl (sb rfl sn)) ?_
     refine st1on rfl rfl rfl (not_t (c5)) (op_load_bx Tryz.isAgg3 rfl (lb rfl)) (so rfl (sb rfl sn)) ?_
     obtain ⟨x6, hx6, hm⟩ := bnd hm
     refine st1on rfl rfl rfl (not_t (c5)) (op_call2 (ks := []) Tryz.func139 rfl rfl (c_impl_isAnswer x3.ans x6 hx6) (.cons (.c rfl) .nil rfl) rfl rfl (.inl rfl) .nil rfl rfl (lb rfl)) (sats_opds (.cons rfl .nil) (sats_app (sats_freshL rfl) (sats_needsO obs_nil))) ?_
     refine st1on rfl rfl rfl (not_t (c5)) (op_not (lb rfl)) (so rfl sn) ?_
     refine st1 rfl (op_pick_false (lb rfl) (not_t (c5))) (so rfl (so rfl sn)) ?_
     refine nk ?_
     refine acode_split (b := x6) (fun c7 => ?_) (fun c7 => ?_)
     ·
      replace hm := ite_t hm c7
      refine acode_cond_false rfl (not_t (c7)) ?_
      refine pk ?_
      refine acode_seq ?_
      refine acode_le (le_stU (env := [(0, .c (.sl false 7 (tree.map (GNode.cells false)))), (3, .ref 12 []), (4, aInt s0_0), (5, .bx 5 0), (13, .c (.sl false 7 (tree.map (GNode.cells false)))), (14, aInt (tree.length : Int)), (15, aInt s0_0), (27, .bx 5 5), (28, aInt x3.ans), (29, aBool x6), (30, aBool (!x6))]) (obj := [(12, .arr 1 (l0_1.map (fun n : Int => [cI n]))), (5, .box [aInt x3.if_.op, aInt x3.if_.var, aInt x3.if_.k, aInt x3.yes, aInt x3.no, aInt x3.ans, .c (.sl false 1 (x3.stone.map (fun n : Int => [cI n])))])]) idn (.cons rfl rfl (.cons rfl rfl (.cons rfl rfl (.cons rfl rfl (.cons rfl rfl (.cons rfl rfl (.cons rfl rfl (.cons rfl rfl (.cons rfl rfl (.cons rfl rfl (.cons rfl rfl .nil))))))))))) (.cons rfl rfl (.inl rfl) (.cons rfl rfl (.inl rfl) .nil)) rfl) ?_
      refine acode_region ?_
      refine fdb (off := 3) Tryz.underlying168 Tryz.sizeOf3 rfl rfl rfl (lb rfl) rfl rfl ?_
      refine ldb Tryz.isAgg3 rfl (lb rfl) rfl rfl ?_
      refine fdb (off := 4) Tryz.underlying168 Tryz.sizeOf3 rfl rfl rfl (lb rfl) rfl rfl ?_
      refine ldb Tryz.isAgg3 rfl (lb rfl) rfl rfl ?_
      refine st1 rfl (op_buildSliceG (rows := [(fun n : Int => [cI n]) x3.yes, (fun n : Int => [cI n]) x3.no]) (elem23) rfl rfl (.cons rfl rfl rfl (.c rfl .nil) (.cons rfl rfl rfl (.c rfl .nil) .nil rfl) rfl) rfl rfl rfl (lb rfl)) (sats_opds (.cons rfl (.cons rfl .nil)) (sf rfl (sats_objs all_nil (sats_lives rfl)))) ?_
      refine st1 rfl (op_lenG_ref (f := (fun n : Int => [cI n])) (l := [x3.yes, x3.no]) Tryz.underlying23 (lb rfl) rfl) (so rfl (sb rfl sn)) ?_
      refine mv (lb rfl) rfl ?_
      refine nk ?_
      refine acode_block ?_
      refine acode_loopk (xs := [0, 3, 4, 13, 14, 15, 27, 28, 29, 30, 36, 37]) (ys := [5, 36]) (S := Nat × Int × (List Int)) (fun z => [(38, aInt z.2.1)]) (fun z => [(12, .arr 1 (z.2.2.map (fun n : Int => [cI n])))]) (fun z => m_impl_RdrOk_l1 tree s0_0 x3 (m_impl_RdrOk_k1 s0_0 (m_impl_RdrOk_l0 tree (m_impl_RdrOk_k2 tree) n0)) z.1 z.2.1 z.2.2 = some rz) (fun z => z.1) (FUEL, 0, l0_1) (.cons rfl (.cons rfl (.cons rfl (.cons rfl (.cons rfl (.cons rfl (.cons rfl (.cons rfl (.cons rfl (.cons rfl (.cons rfl (.cons rfl .nil)))))))))))) (.cons rfl (.cons rfl .nil)) ?em ?eo rfl ?ei ?round
      case em => exact (.cons rfl rfl .nil)
      case eo => exact (.cons rfl rfl .nil)
      case ei => exact hm
      case round =>
       rintro ⟨n1, s1_0, l1_1⟩ hm
       dsimp only at hm ⊢
       cases n1 with
       | zero => rw [m_impl_RdrOk_l1] at hm; cases hm
       | succ n1 =>
        rw [m_impl_RdrOk_l1] at hm
        refine sr ?_
        refine st1 rfl (op_lss (lb rfl)) (so rfl (so rfl sn)) ?_
        refine nk ?_
        refine acode_seq ?_
        refine acode_split (b := decide (s1_0 < ([x3.yes, x3.no].length : Int))) (fun c8 => ?_) (fun c8 => ?_)
        ·
         replace hm := ite_t hm c8
         refine acode_cond_true rfl (c8) ?_
         refine pk ?_
         refine acode_seq ?_
         refine acode_block ?_
         refine sr ?_
         obtain ⟨x9, hx9, hm⟩ := bnd hm
         refine st1 rfl (op_index_refG (f := (fun n : Int => [cI n])) (l := [x3.yes, x3.no]) Tryz.underlying23 Tryz.sizeOf3 (lb rfl) rfl hx9) (so rfl (so rfl (sb rfl sn))) ?_
         refine st1 rfl (op_load_ptr Tryz.isAgg3 rfl (mapG (f := (fun n : Int => [cI n])) (getI_some hx9).2.2) rfl rfl (lb rfl)) (so rfl (sb rfl sn)) ?_
         refine as_ (lb rfl) rfl ?_
         refine nk ?_
         refine acode_seq ?_
         refine sr ?_
         refine mv (lb rfl) rfl ?_
         refine st1 rfl (op_eql (lb rfl)) (so rfl (so rfl sn)) ?_
         refine nk ?_
         refine acode_split (b := decide (x9 = (-1))) (fun c10 => ?_) (fun c10 => ?_)
         ·
          replace hm := ite_t hm c10
          refine acode_cond_true rfl (c10) ?_
          refine acode_exit ?_
          refine kseq_exit (kblk_hit (kseq_normal ?_))
          refine acode_region ?_
          obtain ⟨g11, hm⟩ := gd_some hm
          refine st1 rfl (op_add (lb rfl) g11) (so rfl (so rfl sn)) ?_
          refine mv (lb rfl) rfl ?_
          refine rg_nil_seq ?_
          refine klg_back (n1, (s1_0 + 1), l1_1) hm (Nat.lt_succ_self _) ?_
          exact le_stU idn (.cons rfl rfl (.cons rfl rfl (.cons rfl rfl (.cons rfl rfl (.cons rfl rfl (.cons rfl rfl (.cons rfl rfl (.cons rfl rfl (.cons rfl rfl (.cons rfl rfl (.cons rfl rfl (.cons rfl rfl (.cons rfl rfl .nil))))))))))))) (.cons rfl rfl (.inl rfl) (.cons rfl rfl (.inl rfl) (.cons rfl rfl (.inl rfl) .nil))) rfl
         ·
          replace hm := ite_f hm c10
          refine acode_cond_false rfl (c10) ?_
          refine pk ?_
          refine acode_seq ?_
          refine sr ?_
          refine mv (lb rfl) rfl ?_
          refine mv (lb rfl) rfl ?_
          obtain ⟨g12, hm⟩ := gd_some hm
          refine st1 rfl (op_add (lb rfl) g12) (so rfl (so rfl sn)) ?_
          refine mv (lb rfl) rfl ?_
          refine st1 rfl (op_len_sh (f := (GNode.cells false)) (l := tree) Tryz.underlying35 (lb rfl)) (so rfl sn) ?_
          obtain ⟨g13, hm⟩ := gd_some hm
          refine st1 rfl (op_sub (lb rfl) g13) (so rfl (so rfl sn)) ?_
          obtain ⟨x14, hx14, hm⟩ := bnd hm
          refine st1 rfl (op_call2 (ks := []) Tryz.func87 rfl rfl (c_impl_in x9 (s0_0 + 1) ((tree.length : Int) - 1) x14 hx14) (.cons (.c rfl) (.cons (.c rfl) (.cons (.c rfl) .nil rfl) rfl) rfl) rfl rfl (.inl rfl) .nil rfl rfl (lb rfl)) (sats_opds (.cons rfl (.cons rfl (.cons rfl .nil))) (sats_app (sats_freshL rfl) (sats_needsO obs_nil))) ?_
          refine st1 rfl (op_not (lb rfl)) (so rfl sn) ?_
          refine nk ?_
          refine acode_split (b := x14) (fun c15 => ?_) (fun c15 => ?_)
          ·
           replace hm := ite_t hm c15
           refine acode_cond_false rfl (not_t (c15)) ?_
           refine pk ?_
           refine acode_le (le_stU (env := [(0, .c (.sl false 7 (tree.map (GNode.cells false)))), (3, .ref 12 []), (4, aInt s0_0), (7, aInt x9), (13, .c (.sl false 7 (tree.map (GNode.cells false)))), (14, aInt (tree.length : Int)), (15, aInt s0_0), (27, .bx 5 5), (28, aInt x3.ans), (29, aBool x6), (30, aBool (!x6)), (36, .ref 36 []), (37, aInt ([x3.yes, x3.no].length : Int)), (38, aInt s1_0)]) (obj := [(12, .arr 1 (l1_1.map (fun n : Int => [cI n]))), (5, .box [aInt x3.if_.op, aInt x3.if_.var, aInt x3.if_.k, aInt x3.yes, aInt x3.no, aInt x3.ans, .c (.sl false 1 (x3.stone.map (fun n : Int => [cI n])))]), (36, .arr 1 ([x3.yes, x3.no].map (fun n : Int => [cI n])))]) idn (.cons rfl rfl (.cons rfl rfl (.cons rfl rfl (.cons rfl rfl (.cons rfl rfl (.cons rfl rfl (.cons rfl rfl (.cons rfl rfl (.cons rfl rfl (.cons rfl rfl (.cons rfl rfl (.cons rfl rfl (.cons rfl rfl (.cons rfl rfl .nil)))))))))))))) (.cons rfl rfl (.inl rfl) (.cons rfl rfl (.inl rfl) (.cons rfl rfl (.inl rfl) .nil))) rfl) ?_
           refine acode_region ?_
           refine mv (lb rfl) rfl ?_
           refine mv (lb rfl) rfl ?_
           obtain ⟨x16, hx16, hm⟩ := bnd hm
           refine st1 rfl (op_index_refG (f := (fun n : Int => [cI n])) (l := l1_1) Tryz.underlying23 Tryz.sizeOf3 (lb rfl) rfl hx16) (so rfl (so rfl (sb rfl sn))) ?_
           refine st1 rfl (op_load_ptr Tryz.isAgg3 rfl (mapG (f := (fun n : Int => [cI n])) (getI_some hx16).2.2) rfl rfl (lb rfl)) (so rfl (sb rfl sn)) ?_
           obtain ⟨g17, hm⟩ := gd_some hm
           refine st1 rfl (op_add (lb rfl) g17) (so rfl (so rfl sn)) ?_
           obtain ⟨x18, hx18, hm⟩ := bnd hm
           refine st1 rfl (op_index_refG (f := (fun n : Int => [cI n])) (l := l1_1) Tryz.underlying23 Tryz.sizeOf3 (lb rfl) rfl hx18) (so rfl (so rfl (sb rfl sn))) ?_
           refine st1 rfl (op_store_arrG (row := (fun n : Int => [cI n]) x18) (rows' := ((l1_1.set x9.toNat (x16 + 1)).map (fun n : Int => [cI n]))) Tryz.sizeOf3 (mapG (f := (fun n : Int => [cI n])) (getI_some hx18).2.2) rfl (.c rfl .nil) rfl rfl rfl rfl rfl (setG (x' := (x16 + 1)) rfl)) (so rfl (so rfl (sb rfl (sats_objs all_nil (sats_lives rfl))))) ?_
           refine rg_nil_seq ?_
           refine kblk_normal (kseq_normal ?_)
           refine acode_region ?_
           obtain ⟨g19, hm⟩ := gd_some hm
           refine st1 rfl (op_add (lb rfl) g19) (so rfl (so rfl sn)) ?_
           refine mv (lb rfl) rfl ?_
           refine rg_nil_seq ?_
           refine klg_back (n1, (s1_0 + 1), (l1_1.set x9.toNat (x16 + 1))) hm (Nat.lt_succ_self _) ?_
           exact le_stU idn (.cons rfl rfl (.cons rfl rfl (.cons rfl rfl (.cons rfl rfl (.cons rfl rfl (.cons rfl rfl (.cons rfl rfl (.cons rfl rfl (.cons rfl rfl (.cons rfl rfl (.cons rfl rfl (.cons rfl rfl (.cons rfl rfl .nil))))))))))))) (.cons rfl rfl (.inl rfl) (.cons rfl rfl (.inl rfl) (.cons rfl rfl (.inl rfl) .nil))) rfl
          ·
           replace hm := ite_f hm c15
           refine acode_cond_true rfl (not_f (c15)) ?_
           refine sr ?_
           refine as_ (lb rfl) rfl ?_
           refine nkt ?_
           obtain rfl := Option.some.inj hm
           exact kseq_ret (kblk_ret (kseq_ret (klg_ret (kblk_ret (kblk_ret (kseq_ret (klg_ret (kblk_ret (kseq_ret (fin2_retL (.cons (.c rfl) .nil) rfl .nil rfl rfl rfl))))))))))
        ·
         replace hm := ite_f hm c8
         refine acode_cond_false rfl (c8) ?_
         refine acode_exit ?_
         unfold m_impl_RdrOk_k1 at hm
         refine kseq_exit (klg_exit (kblk_hit (kblk_normal (kseq_normal ?_))))
         refine acode_region ?_
         obtain ⟨g20, hm⟩ := gd_some hm
         refine st1 rfl (op_add (lb rfl) g20) (so rfl (so rfl sn)) ?_
         refine mv (lb rfl) rfl ?_
         refine rg_nil_seq ?_
         refine klg_back (n0, (s0_0 + 1), l1_1) hm (Nat.lt_succ_self _) ?_
         exact le_stU idn (.cons rfl rfl (.cons rfl rfl (.cons rfl rfl (.cons rfl rfl (.cons rfl rfl .nil))))) (.cons rfl rfl (.inl rfl) .nil) rfl
     ·
      replace hm := ite_f hm c7
      refine acode_cond_true rfl (not_f (c7)) ?_
      refine sr ?_
      refine as_ (lb rfl) rfl ?_
      refine nkt ?_
      obtain rfl := Option.some.inj hm
      exact kseq_ret (kblk_ret (kseq_ret (klg_ret (kblk_ret (kseq_ret (fin2_retL (.cons (.c rfl) .nil) rfl .nil rfl rfl rfl))))))
    ·
     replace hm := ite_f hm c5
     refine st1off rfl rfl (lb rfl) rfl rfl (not_f (c5)) ?_
     refine st1off rfl rfl (lb rfl) rfl rfl (not_f (c5)) ?_
     refine st1off rfl rfl (lb rfl) rfl rfl (not_f (c5)) ?_
     refine st1off rfl rfl (lb rfl) rfl rfl (not_f (c5)) ?_
     refine st1 rfl (op_pick_true (lb rfl) (not_f (c5))) (so rfl (so rfl sn)) ?_
     refine nk ?_
     refine acode_cond_true rfl (rfl) ?_
     refine sr ?_
     refine as_ (lb rfl) rfl ?_
     refine nkt ?_
     obtain rfl := Option.some.inj hm
     exact kseq_ret (kblk_ret (kseq_ret (klg_ret (kblk_ret (kseq_ret (fin2_retL (.cons (.c rfl) .nil) rfl .nil rfl rfl rfl))))))
   ·
    replace hm := ite_f hm c2
    refine acode_cond_false rfl (c2) ?_
    refine acode_exit ?_
    unfold m_impl_RdrOk_k2 at hm
    refine kseq_exit (klg_exit (kblk_hit (kseq_normal ?_)))
    refine acode_seq ?_
    refine sr ?_
    refine mv (lb rfl) rfl ?_
    refine st1 rfl (op_lenG_ref (f := (fun n : Int => [cI n])) (l := l0_1) Tryz.underlying23 (lb rfl) rfl) (so rfl (sb rfl sn)) ?_
    refine mv (lb rfl) rfl ?_
    refine nk ?_
    refine acode_block ?_
    refine acode_loopk (xs := [0, 60, 61]) (ys := [12]) (S := Nat × Int) (fun z => [(62, aInt z.2)]) (fun z => []) (fun z => m_impl_RdrOk_l2 l0_1 (m_impl_RdrOk_k3 tree) z.1 z.2 = some rz) (fun z => z.1) (FUEL, 0) (.cons rfl (.cons rfl (.cons rfl .nil))) (.cons rfl .nil) ?em ?eo rfl ?ei ?round
    case em => exact (.cons rfl rfl .nil)
    case eo => exact .nil
    case ei => exact hm
    case round =>
     rintro ⟨n2, s2_0⟩ hm
     dsimp only at hm ⊢
     cases n2 with
     | zero => rw [m_impl_RdrOk_l2] at hm; cases hm
     | succ n2 =>
      rw [m_impl_RdrOk_l2] at hm
      refine sr ?_
      refine st1 rfl (op_lss (lb rfl)) (so rfl (so rfl sn)) ?_
      refine nk ?_
      refine acode_seq ?_
      refine acode_split (b := decide (s2_0 < (l0_1.length : Int))) (fun c21 => ?_) (fun c21 => ?_)
      ·
       replace hm := ite_t hm c21
       refine acode_cond_true rfl (c21) ?_
       refine pk ?_
       refine acode_seq ?_
       refine acode_block ?_
       refine sr ?_
       refine mv (lb rfl) rfl ?_
       obtain ⟨x22, hx22, hm⟩ := bnd hm
       refine st1 rfl (op_index_refG (f := (fun n : Int => [cI n])) (l := l0_1) Tryz.underlying23 Tryz.sizeOf3 (lb rfl) rfl hx22) (so rfl (so rfl (sb rfl sn))) ?_
       refine st1 rfl (op_load_ptr Tryz.isAgg3 rfl (mapG (f := (fun n : Int => [cI n])) (getI_some hx22).2.2) rfl rfl (lb rfl)) (so rfl (sb rfl sn)) ?_
       refine as_ (lb rfl) rfl ?_
       refine as_ (lb rfl) rfl ?_
       refine nk ?_
       refine sr ?_
       refine mv (lb rfl) rfl ?_
       refine st1 rfl (op_gtr (lb rfl)) (so rfl (so rfl sn)) ?_
       refine mv (lb rfl) rfl ?_
       refine rg_split (b := decide (0 < s2_0)) (fun c23 => ?_) (fun c23 => ?_)
       ·
        replace hm := ite_t hm c23
        refine st1on rfl rfl rfl (c23) (op_move (lb rfl)) (so rfl sn) ?_
        refine st1on rfl rfl rfl (c23) (op_neq (lb rfl)) (so rfl (so rfl sn)) ?_
        refine st1 rfl (op_pick_true (lb rfl) (c23)) (so rfl (so rfl sn)) ?_
        refine nk ?_
        refine acode_split (b := decide (x22 = 1)) (fun c24 => ?_) (fun c24 => ?_)
        ·
         replace hm := ite_t hm c24
         refine acode_cond_false rfl (not_t (c24)) ?_
         refine acode_skip ?_
         refine kblk_normal (kseq_normal ?_)
         refine acode_region ?_
         obtain ⟨g25, hm⟩ := gd_some hm
         refine st1 rfl (op_add (lb rfl) g25) (so rfl (so rfl sn)) ?_
         refine mv (lb rfl) rfl ?_
         refine rg_nil_seq ?_
         refine klg_back (n2, (s2_0 + 1)) hm (Nat.lt_succ_self _) ?_
         exact le_stU idn (.cons rfl rfl (.cons rfl rfl (.cons rfl rfl (.cons rfl rfl .nil)))) (.cons rfl rfl (.inl rfl) .nil) rfl
        ·
         replace hm := ite_f hm c24
         refine acode_cond_true rfl (not_f (c24)) ?_
         refine sr ?_
         refine as_ (lb rfl) rfl ?_
         refine nkt ?_
         obtain rfl := Option.some.inj hm
         exact kblk_ret (kseq_ret (klg_ret (kblk_ret (kseq_ret (fin2_retL (.cons (.c rfl) .nil) rfl .nil rfl rfl rfl)))))
       ·
        replace hm := ite_f hm c23
        refine st1off rfl rfl (lb rfl) rfl rfl (c23) ?_
        refine st1off rfl rfl (lb rfl) rfl rfl (c23) ?_
        refine st1 rfl (op_pick_false (lb rfl) (c23)) (so rfl (so rfl sn)) ?_
        refine nk ?_
        refine acode_cond_false rfl (rfl) ?_
        refine acode_skip ?_
        refine kblk_normal (kseq_normal ?_)
        refine acode_le (le_stU (env := [(0, .c (.sl false 7 (tree.map (GNode.cells false)))), (60, .ref 12 []), (61, aInt (l0_1.length : Int)), (62, aInt s2_0), (70, .c (.lit undef)), (71, .c (.lit undef))]) (obj := [(12, .arr 1 (l0_1.map (fun n : Int => [cI n])))]) idn (.cons rfl rfl (.cons rfl rfl (.cons rfl rfl (.cons rfl rfl (.cons rfl rfl (.cons rfl rfl .nil)))))) (.cons rfl rfl (.inl rfl) .nil) rfl) ?_
        refine acode_region ?_
        obtain ⟨g26, hm⟩ := gd_some hm
        refine st1 rfl (op_add (lb rfl) g26) (so rfl (so rfl sn)) ?_
        refine mv (lb rfl) rfl ?_
        refine rg_nil_seq ?_
        refine klg_back (n2, (s2_0 + 1)) hm (Nat.lt_succ_self _) ?_
        exact le_stU idn (.cons rfl rfl (.cons rfl rfl (.cons rfl rfl (.cons rfl rfl .nil)))) (.cons rfl rfl (.inl rfl) .nil) rfl
      ·
       replace hm := ite_f hm c21
       refine acode_cond_false rfl (c21) ?_
       refine acode_exit ?_
       unfold m_impl_RdrOk_k3 at hm
       refine kseq_exit (klg_exit (kblk_hit (kseq_normal ?_)))
       refine sr ?_
       refine mv (lb rfl) rfl ?_
       refine st1 rfl (op_len_sh (f := (GNode.cells false)) (l := tree) Tryz.underlying35 (lb rfl)) (so rfl sn) ?_
       refine st1 rfl (op_leq (lb rfl)) (so rfl (so rfl sn)) ?_
       refine as_ (lb rfl) rfl ?_
       refine nkt ?_
       obtain rfl := Option.some.inj hm
       exact fin2_retL (.cons (.c rfl) .nil) rfl .nil rfl rfl rfl

def m_impl_EngOk_1 (n : GNet) : Option Bool := (m_impl_NetOk n).bind fun x1 => (some (!x1))

theorem c_impl_EngOk_1 (n : GNet) (rz : Bool) (hm : m_impl_EngOk_1 n = some rz) : FnB Tryz.prog 89 [.row (GNet.cells false n)] [.c (cB rz)] [] := by
 unfold m_impl_EngOk_1 at hm
 refine fn_intro2 (n := 6) (rvs := [.tmp 2]) Tryz.func89 rfl rfl rfl (lb rfl) rfl rfl rfl rfl rfl ?_
 refine acode_seq ?_
 refine acode_le (le_stU (env := [(0, .row [cI n.places, .sl false 9 (n.tasks.map (GTask.cells false))])]) (obj := []) idn (.cons rfl rfl .nil) .nil rfl) ?_
 refine acode_region ?_
 refine st1 rfl (op_box rfl (lb rfl)) (so rfl (sf rfl (sats_lives rfl))) ?_
 refine as_ (lb rfl) rfl ?_
 refine nk ?_
 refine sr ?_
 refine st1 rfl (op_load_bx_agg Tryz.isAgg81 Tryz.sizeOf81 rfl rfl (lb rfl)) (so rfl (sb rfl sn)) ?_
 obtain ⟨x1, hx1, hm⟩ := bnd hm
 refine st1 rfl (op_call2 (ks := []) Tryz.func90 rfl rfl (c_impl_NetOk n x1 hx1) (.cons ((.aggCons (.c rfl) (.aggCons (.c rfl) .aggNil rfl) rfl)) .nil rfl) rfl rfl (.inl rfl) .nil rfl rfl (lb rfl)) (sats_opds (.cons rfl .nil) (sats_app (sats_freshL rfl) (sats_needsO obs_nil))) ?_
 refine st1 rfl (op_not (lb rfl)) (so rfl sn) ?_
 refine as_ (lb rfl) rfl ?_
 refine nkt ?_
 obtain rfl := Option.some.inj hm
 exact fin2_retL (.cons (.c rfl) .nil) rfl .nil rfl rfl rfl

def m_impl_EngOk_k1  : Option Bool := some true
def m_impl_EngOk_l0 (h : GHouse) (kx0_0 : Option Bool) : Nat → Int → Option Bool
  | 0, _ => none
  | n0 + 1, s0_0 => if decide (s0_0 < (h.runs.length : Int)) = true then ((getI h.runs s0_0).bind fun x11 => (gd (ok64 ((h.nets.length : Int) - 1)) ((m_impl_in x11.net 0 ((h.nets.length : Int) - 1)).bind fun x13 => (if x13 = true then ((getI h.nets x11.net).bind fun x15 => ((m_impl_CasOk x15 x11.case).bind fun x16 => (if x16 = true then (gd (ok64 (s0_0 + 1)) ((m_impl_EngOk_l0 h kx0_0 n0) (s0_0 + 1))) else (some false)))) else (some false))))) else (kx0_0)
def m_impl_EngOk (h : GHouse) : Option Bool := (m_impl_in (h.nets.length : Int) 1 3).bind fun x1 => (if x1 = true then ((m_ContainsFunc_GNet h.nets (fun z => m_impl_EngOk_1 z )).bind fun x3 => (if x3 = true then (some false) else ((m_impl_PplOk h.people).bind fun x5 => (if x5 = true then ((m_impl_RdrOk h.tree).bind fun x7 => (if x7 = true then (if decide (5 < (h.runs.length : Int)) = true then (some false) else (m_impl_EngOk_l0 h m_impl_EngOk_k1 FUEL 0)) else (some false))) else (some false))))) else (some false))

theorem c_impl_EngOk (h : GHouse) (rz : Bool) (hm : m_impl_EngOk h = some rz) : FnB Tryz.prog 32 [.row (GHouse.cells false h)] [.c (cB rz)] [] := by
 unfold m_impl_EngOk at hm
 refine fn_intro2 (n := 61) (rvs := [.tmp 2]) Tryz.func32 rfl rfl rfl (lb rfl) rfl rfl rfl rfl rfl ?_
 refine acode_seq ?_
 refine acode_le (le_stU (env := [(0, .row [.sl false 2 (h.nets.map (GNet.cells false)), .sl false 1 (h.people.map (fun n : Int => [cI n])), .sl false 7 (h.tree.map (GNode.cells false)), .sl false 6 (h.runs.map (GRun.cells false))])]) (obj := []) idn (.cons rfl rfl .nil) .nil rfl) ?_
 refine acode_region ?_
 refine st1 rfl (op_box rfl (lb rfl)) (so rfl (sf rfl (sats_lives rfl))) ?_
 refine as_ (lb rfl) rfl ?_
 refine nk ?_
 refine acode_seq ?_
 refine sr ?_
 refine fdb (off := 0) Tryz.underlying38 Tryz.sizeOf34 rfl rfl rfl (lb rfl) rfl rfl ?_
 refine ldb Tryz.isAgg34 rfl (lb rfl) rfl rfl ?_
 refine st1 rfl (op_len_sh (f := (GNet.cells false)) (l := h.nets) Tryz.underlying34 (lb rfl)) (so rfl sn) ?_
 obtain ⟨x1, hx1, hm⟩ := bnd hm
 refine st1 rfl (op_call2 (ks := []) Tryz.func87 rfl rfl (c_impl_in (h.nets.length : Int) 1 3 x1 hx1) (.cons (.c rfl) (.cons (.c rfl) (.cons (.c rfl) .nil rfl) rfl) rfl) rfl rfl (.inl rfl) .nil rfl rfl (lb rfl)) (sats_opds (.cons rfl (.cons rfl (.cons rfl .nil))) (sats_app (sats_freshL rfl) (sats_needsO obs_nil))) ?_
 refine st1 rfl (op_not (lb rfl)) (so rfl sn) ?_
 refine mv (lb rfl) rfl ?_
 refine rg_split (b := x1) (fun c2 => ?_) (fun c2 => ?_)
 ·
  replace hm := ite_t hm c2
  refine st1on rfl rfl rfl (not_t (c2)) (op_field_bx (off := 0) Tryz.underlying38 Tryz.sizeOf34 rfl rfl rfl (lb rfl)) (so rfl (sb rfl sn)) ?_
  refine st1on rfl rfl rfl (not_t (c2)) (op_load_bx Tryz.isAgg34 rfl (lb rfl)) (so rfl (sb rfl sn)) ?_
  obtain ⟨x3, hx3, hm⟩ := bnd hm
  refine st1on rfl rfl rfl (not_t (c2)) (op_call2 (ks := []) Tryz.func88 rfl rfl (c_ContainsFunc_GNet ⟨_, _, Tryz.func89, rfl, rfl⟩ rfl h.nets (fun z => m_impl_EngOk_1 z ) (fun z y hz => c_impl_EngOk_1 z  y hz) x3 hx3) (.cons (.c rfl) (.cons .fnNil .nil rfl) rfl) rfl rfl (.inl rfl) .nil rfl rfl (lb rfl)) (sats_opds (.cons rfl (.cons rfl .nil)) (sats_app (sats_freshL rfl) (sats_needsO obs_nil))) ?_
  refine st1 rfl (op_pick_false (lb rfl) (not_t (c2))) (so rfl (so rfl sn)) ?_
  refine mv (lb rfl) rfl ?_
  refine rg_split (b := x3) (fun c4 => ?_) (fun c4 => ?_)
  ·
   replace hm := ite_t hm c4
   refine st1off rfl rfl (lb rfl) rfl rfl (c4) ?_
   refine st1off rfl rfl (lb rfl) rfl rfl (c4) ?_
   refine st1off rfl rfl (lb rfl) rfl rfl (c4) ?_
   refine st1off rfl rfl (lb rfl) rfl rfl (c4) ?_
   refine st1 rfl (op_pick_true (lb rfl) (c4)) (so rfl (so rfl sn)) ?_
   refine mv (lb rfl) rfl ?_
   refine st1off rfl rfl (lb rfl) rfl rfl (rfl) ?_
   refine st1off rfl rfl (lb rfl) rfl rfl (rfl) ?_
   refine st1off rfl rfl (lb rfl) rfl rfl (rfl) ?_
   refine st1off rfl rfl (lb rfl) rfl rfl (rfl) ?_
   refine st1 rfl (op_pick_true (lb rfl) (rfl)) (so rfl (so rfl sn)) ?_
   refine mv (lb rfl) rfl ?_
   refine st1off rfl rfl (lb rfl) rfl rfl (rfl) ?_
   refine st1off rfl rfl (lb rfl) rfl rfl (rfl) ?_
   refine st1off rfl rfl (lb rfl) rfl rfl (rfl) ?_
   refine st1off rfl rfl (lb rfl) rfl rfl (rfl) ?_
   refine st1 rfl (op_pick_true (lb rfl) (rfl)) (so rfl (so rfl sn)) ?_
   refine nk ?_
   refine acode_cond_true rfl (rfl) ?_
   refine acode_seq ?_
   refine acode_le (le_stU (env := []) (obj := []) idn .nil .nil rfl) ?_
   refine acode_region ?_
   refine as_ (lb rfl) rfl ?_
   refine nkt ?_
   obtain rfl := Option.some.inj hm
   exact kseq_ret (fin2_retL (.cons (.c rfl) .nil) rfl .nil rfl rfl rfl)
  ·
   replace hm := ite_f hm c4
   refine st1on rfl rfl rfl (c4) (op_field_bx (off := 1) Tryz.underlying38 Tryz.sizeOf23 rfl rfl rfl (lb rfl)) (so rfl (sb rfl sn)) ?_
   refine st1on rfl rfl rfl (c4) (op_load_bx Tryz.isAgg23 rfl (lb rfl)) (so rfl (sb rfl sn)) ?_
   obtain ⟨x5, hx5, hm⟩ := bnd hm
   refine st1on rfl rfl rfl (c4) (op_call2 (ks := []) Tryz.func91 rfl rfl (c_impl_PplOk h.people x5 hx5) (.cons (.c rfl) .nil rfl) rfl rfl (.inl rfl) .nil rfl rfl (lb rfl)) (sats_opds (.cons rfl .nil) (sats_app (sats_freshL rfl) (sats_needsO obs_nil))) ?_
   refine st1on rfl rfl rfl (c4) (op_not (lb rfl)) (so rfl sn) ?_
   refine st1 rfl (op_pick_false (lb rfl) (c4)) (so rfl (so rfl sn)) ?_
   refine mv (lb rfl) rfl ?_
   refine rg_split (b := x5) (fun c6 => ?_) (fun c6 => ?_)
   ·
    replace hm := ite_t hm c6
    refine st1on rfl rfl rfl (not_t (c6)) (op_field_bx (off := 2) Tryz.underlying38 Tryz.sizeOf35 rfl rfl rfl (lb rfl)) (so rfl (sb rfl sn)) ?_
    refine st1on rfl rfl rfl (not_t (c6)) (op_load_bx Tryz.isAgg35 rfl (lb rfl)) (so rfl (sb rfl sn)) ?_
    obtain ⟨x7, hx7, hm⟩ := bnd hm
    refine st1on rfl rfl rfl (not_t (c6)) (op_call2 (ks := []) Tryz.func92 rfl rfl (c_impl_RdrOk h.tree x7 hx7) (.cons (.c rfl) .nil rfl) rfl rfl (.inl rfl) .nil rfl rfl (lb rfl)) (sats_opds (.cons rfl .nil) (sats_app (sats_freshL rfl) (sats_needsO obs_nil))) ?_
    refine st1on rfl rfl rfl (not_t (c6)) (op_not (lb rfl)) (so rfl sn) ?_
    refine st1 rfl (op_pick_false (lb rfl) (not_t (c6))) (so rfl (so rfl sn)) ?_
    refine mv (lb rfl) rfl ?_
    refine rg_split (b := x7) (fun c8 => ?_) (fun c8 => ?_)
    ·
     replace hm := ite_t hm c8
     refine st1on rfl rfl rfl (not_t (c8)) (op_field_bx (off := 3) Tryz.underlying38 Tryz.sizeOf36 rfl rfl rfl (lb rfl)) (so rfl (sb rfl sn)) ?_
     refine st1on rfl rfl rfl (not_t (c8)) (op_load_bx Tryz.isAgg36 rfl (lb rfl)) (so rfl (sb rfl sn)) ?_
     refine st1on rfl rfl rfl (not_t (c8)) (op_len_sh (f := (GRun.cells false)) (l := h.runs) Tryz.underlying36 (lb rfl)) (so rfl sn) ?_
     refine st1on rfl rfl rfl (not_t (c8)) (op_gtr (lb rfl)) (so rfl (so rfl sn)) ?_
     refine st1 rfl (op_pick_false (lb rfl) (not_t (c8))) (so rfl (so rfl sn)) ?_
     refine nk ?_
     refine acode_split (b := decide (5 < (h.runs.length : Int))) (fun c9 => ?_) (fun c9 => ?_)
     ·
      replace hm := ite_t hm c9
      refine acode_cond_true rfl (c9) ?_
      refine sr ?_
      refine as_ (lb rfl) rfl ?_
      refine nkt ?_
      obtain rfl := Option.some.inj hm
      exact kseq_ret (fin2_retL (.cons (.c rfl) .nil) rfl .nil rfl rfl rfl)
     ·
      replace hm := ite_f hm c9
      refine acode_cond_false rfl (c9) ?_
      refine pk ?_
      refine acode_seq ?_
      refine sr ?_
      refine fdb (off := 3) Tryz.underlying38 Tryz.sizeOf36 rfl rfl rfl (lb rfl) rfl rfl ?_
      refine ldb Tryz.isAgg36 rfl (lb rfl) rfl rfl ?_
      refine st1 rfl (op_len_sh (f := (GRun.cells false)) (l := h.runs) Tryz.underlying36 (lb rfl)) (so rfl sn) ?_
      refine mv (lb rfl) rfl ?_
      refine nk ?_
      refine acode_block ?_
      refine acode_loopk (xs := [1, 34, 35]) (ys := [1]) (S := Nat × Int) (fun z => [(36, aInt z.2)]) (fun z => []) (fun z => m_impl_EngOk_l0 h m_impl_EngOk_k1 z.1 z.2 = some rz) (fun z => z.1) (FUEL, 0) (.cons rfl (.cons rfl (.cons rfl .nil))) (.cons rfl .nil) ?em ?eo rfl ?ei ?round
      case em => exact (.cons rfl rfl .nil)
      case eo => exact .nil
      case ei => exact hm
      case round =>
       rintro ⟨n0, s0_0⟩ hm
       dsimp only at hm ⊢
       cases n0 with
       | zero => rw [m_impl_EngOk_l0] at hm; cases hm
       | succ n0 =>
        rw [m_impl_EngOk_l0] at hm
        refine sr ?_
        refine st1 rfl (op_lss (lb rfl)) (so rfl (so rfl sn)) ?_
        refine nk ?_
        refine acode_seq ?_
        refine acode_split (b := decide (s0_0 < (h.runs.length : Int))) (fun c10 => ?_) (fun c10 => ?_)
        ·
         replace hm := ite_t hm c10
         refine acode_cond_true rfl (c10) ?_
         refine pk ?_
         refine acode_seq ?_
         refine acode_block ?_
         refine sr ?_
         obtain ⟨x11, hx11, hm⟩ := bnd hm
         refine st1 rfl (op_index_shG (f := (GRun.cells false)) (l := h.runs) Tryz.underlying36 Tryz.sizeOf124 (lb rfl) hx11) (so rfl (so rfl sn)) ?_
         refine st1 rfl (op_load_pts_row Tryz.isAgg124 Tryz.sizeOf124 rfl rfl (lb rfl)) (so rfl sn) ?_
         refine st1 rfl (op_alloc Tryz.zeroValue124 rfl (lb rfl)) (sf rfl sn) ?_
         refine st1 rfl (op_store_bxS Tryz.sizeOf124 rfl rfl rfl rfl) (so rfl (so rfl (sb rfl (sats_lives rfl)))) ?_
         refine nk ?_
         refine acode_seq ?_
         refine acode_region_draw mixed rfl ?_
         refine fdb (off := 0) Tryz.underlying124 Tryz.sizeOf3 rfl rfl rfl (lb rfl) rfl rfl ?_
         refine ldb Tryz.isAgg3 rfl (lb rfl) rfl rfl ?_
         refine fdb (off := 0) Tryz.underlying38 Tryz.sizeOf34 rfl rfl rfl (lb rfl) rfl rfl ?_
         refine ldb Tryz.isAgg34 rfl (lb rfl) rfl rfl ?_
         refine st1 rfl (op_len_sh (f := (GNet.cells false)) (l := h.nets) Tryz.underlying34 (lb rfl)) (so rfl sn) ?_
         obtain ⟨g12, hm⟩ := gd_some hm
         refine st1 rfl (op_sub (lb rfl) g12) (so rfl (so rfl sn)) ?_
         obtain ⟨x13, hx13, hm⟩ := bnd hm
         refine st1 rfl (op_call2 (ks := []) Tryz.func87 rfl rfl (c_impl_in x11.net 0 ((h.nets.length : Int) - 1) x13 hx13) (.cons (.c rfl) (.cons (.c rfl) (.cons (.c rfl) .nil rfl) rfl) rfl) rfl rfl (.inl rfl) .nil rfl rfl (lb rfl)) (sats_opds (.cons rfl (.cons rfl (.cons rfl .nil))) (sats_app (sats_freshL rfl) (sats_needsO obs_nil))) ?_
         refine st1 rfl (op_not (lb rfl)) (so rfl sn) ?_
         refine mv (lb rfl) rfl ?_
         refine rg_split (b := x13) (fun c14 => ?_) (fun c14 => ?_)
         ·
          replace hm := ite_t hm c14
          refine st1on rfl rfl rfl (not_t (c14)) (op_field_bx (off := 0) Tryz.underlying38 Tryz.sizeOf34 rfl rfl rfl (lb rfl)) (so rfl (sb rfl sn)) ?_
          refine st1on rfl rfl rfl (not_t (c14)) (op_load_bx Tryz.isAgg34 rfl (lb rfl)) (so rfl (sb rfl sn)) ?_
          refine st1on rfl rfl rfl (not_t (c14)) (op_field_bx (off := 0) Tryz.underlying124 Tryz.sizeOf3 rfl rfl rfl (lb rfl)) (so rfl (sb rfl sn)) ?_
          refine st1on rfl rfl rfl (not_t (c14)) (op_load_bx Tryz.isAgg3 rfl (lb rfl)) (so rfl (sb rfl sn)) ?_
          obtain ⟨x15, hx15, hm⟩ := bnd hm
          refine st1on rfl rfl rfl (not_t (c14)) (op_index_shG (f := (GNet.cells false)) (l := h.nets) Tryz.underlying34 Tryz.sizeOf81 (lb rfl) hx15) (so rfl (so rfl sn)) ?_
          refine st1on rfl rfl rfl (not_t (c14)) (op_load_pts_row Tryz.isAgg81 Tryz.sizeOf81 rfl rfl (lb rfl)) (so rfl sn) ?_
          refine st1on rfl rfl rfl (not_t (c14)) (op_field_bx (off := 1) Tryz.underlying124 Tryz.sizeOf76 rfl rfl rfl (lb rfl)) (so rfl (sb rfl sn)) ?_
          refine st1on rfl rfl rfl (not_t (c14)) (op_load_bx_agg Tryz.isAgg76 Tryz.sizeOf76 rfl rfl (lb rfl)) (so rfl (sb rfl sn)) ?_
          obtain ⟨x16, hx16, hm⟩ := bnd hm
          refine st1on rfl rfl rfl (not_t (c14)) (op_call2 (ks := []) Tryz.func93 rfl rfl (c_impl_CasOk x15 x11.case x16 hx16) (.cons (.row rfl) (.cons ((.aggCons (.c rfl) (.aggCons (.c rfl) (.aggCons (.c rfl) (.aggCons (.c rfl) (.aggCons (.c rfl) .aggNil rfl) rfl) rfl) rfl) rfl)) .nil rfl) rfl) rfl rfl (.inl rfl) .nil rfl rfl (lb rfl)) (sats_opds (.cons rfl (.cons rfl .nil)) (sats_app (sats_freshL rfl) (sats_needsO obs_nil))) ?_
          refine st1on rfl rfl rfl (not_t (c14)) (op_not (lb rfl)) (so rfl sn) ?_
          refine st1 rfl (op_pick_false (lb rfl) (not_t (c14))) (so rfl (so rfl sn)) ?_
          refine rg_nil_draw (by kernel_rfl) ?_
          refine kseq_normal ?_
          refine acode_split (b := x16) (fun c17 => ?_) (fun c17 => ?_)
          ·
           replace hm := ite_t hm c17
           refine acode_cond_false rfl (not_t (c17)) ?_
           refine acode_skip ?_
           refine kblk_normal (kseq_normal ?_)
           refine acode_le (le_stU (env := [(1, .bx 1 0), (34, .c (.sl false 6 (h.runs.map (GRun.cells false)))), (35, aInt (h.runs.length : Int)), (36, aInt s0_0), (49, .bx 1 0), (50, .c (.sl false 2 (h.nets.map (GNet.cells false)))), (51, .bx 4 0), (52, aInt x11.net), (53, .pts [cI x15.places, .sl false 9 (x15.tasks.map (GTask.cells false))]), (54, .row [cI x15.places, .sl false 9 (x15.tasks.map (GTask.cells false))]), (55, .bx 4 1), (56, .agg [aInt x11.case.state, .c (.sl false 1 (x11.case.marks.map (fun n : Int => [cI n]))), .c (.sl false 3 (x11.case.busy.map (GItem.cells false))), .c (.sl false 1 (x11.case.data.map (fun n : Int => [cI n]))), .c (.sl false 2 (x11.case.did.map (GDid.cells false)))]), (57, aBool x16), (58, aBool (!x16))]) (obj := [(1, .box [.c (.sl false 2 (h.nets.map (GNet.cells false))), .c (.sl false 1 (h.people.map (fun n : Int => [cI n]))), .c (.sl false 7 (h.tree.map (GNode.cells false))), .c (.sl false 6 (h.runs.map (GRun.cells false)))]), (4, .box [aInt x11.net, aInt x11.case.state, .c (.sl false 1 (x11.case.marks.map (fun n : Int => [cI n]))), .c (.sl false 3 (x11.case.busy.map (GItem.cells false))), .c (.sl false 1 (x11.case.data.map (fun n : Int => [cI n]))), .c (.sl false 2 (x11.case.did.map (GDid.cells false)))])]) idn (.cons rfl rfl (.cons rfl rfl (.cons rfl rfl (.cons rfl rfl (.cons rfl rfl (.cons rfl rfl (.cons rfl rfl (.cons rfl rfl (.cons rfl rfl (.cons rfl rfl (.cons rfl rfl (.cons rfl rfl (.cons rfl rfl (.cons rfl rfl .nil)))))))))))))) (.cons rfl rfl (.inl rfl) (.cons rfl rfl (.inl rfl) .nil)) rfl) ?_
           refine acode_region ?_
           obtain ⟨g18, hm⟩ := gd_some hm
           refine st1 rfl (op_add (lb rfl) g18) (so rfl (so rfl sn)) ?_
           refine mv (lb rfl) rfl ?_
           refine rg_nil_seq ?_
           refine klg_back (n0, (s0_0 + 1)) hm (Nat.lt_succ_self _) ?_
           exact le_stU idn (.cons rfl rfl (.cons rfl rfl (.cons rfl rfl (.cons rfl rfl .nil)))) (.cons rfl rfl (.inl rfl) .nil) rfl
          ·
           replace hm := ite_f hm c17
           refine acode_cond_true rfl (not_f (c17)) ?_
           refine sr ?_
           refine as_ (lb rfl) rfl ?_
           refine nkt ?_
           obtain rfl := Option.some.inj hm
           exact kblk_ret (kseq_ret (klg_ret (kblk_ret (kseq_ret (fin2_retL (.cons (.c rfl) .nil) rfl .nil rfl rfl rfl)))))
         ·
          replace hm := ite_f hm c14
          refine st1off rfl rfl (lb rfl) rfl rfl (not_f (c14)) ?_
          refine st1off rfl rfl (lb rfl) rfl rfl (not_f (c14)) ?_
          refine st1off rfl rfl (lb rfl) rfl rfl (not_f (c14)) ?_
          refine st1off rfl rfl (lb rfl) rfl rfl (not_f (c14)) ?_
          refine st1off rfl rfl (lb rfl) rfl rfl (not_f (c14)) ?_
          refine st1off rfl rfl (lb rfl) rfl rfl (not_f (c14)) ?_
          refine st1off rfl rfl (lb rfl) rfl rfl (not_f (c14)) ?_
          refine st1off rfl rfl (lb rfl) rfl rfl (not_f (c14)) ?_
          refine st1off rfl rfl (lb rfl) rfl rfl (not_f (c14)) ?_
          refine st1off rfl rfl (lb rfl) rfl rfl (not_f (c14)) ?_
          refine st1 rfl (op_pick_true (lb rfl) (not_f (c14))) (so rfl (so rfl sn)) ?_
          refine rg_nil_draw (by kernel_rfl) ?_
          refine kseq_normal ?_
          refine acode_cond_true rfl (rfl) ?_
          refine sr ?_
          refine as_ (lb rfl) rfl ?_
          refine nkt ?_
          obtain rfl := Option.some.inj hm
          exact kblk_ret (kseq_ret (klg_ret (kblk_ret (kseq_ret (fin2_retL (.cons (.c rfl) .nil) rfl .nil rfl rfl rfl)))))
        ·
         replace hm := ite_f hm c10
         refine acode_cond_false rfl (c10) ?_
         refine acode_exit ?_
         unfold m_impl_EngOk_k1 at hm
         refine kseq_exit (klg_exit (kblk_hit (kseq_normal ?_)))
         refine sr ?_
         refine as_ (lb rfl) rfl ?_
         refine nkt ?_
         obtain rfl := Option.some.inj hm
         exact fin2_retL (.cons (.c rfl) .nil) rfl .nil rfl rfl rfl
    ·
     replace hm := ite_f hm c8
     refine st1off rfl rfl (lb rfl) rfl rfl (not_f (c8)) ?_
     refine st1off rfl rfl (lb rfl) rfl rfl (not_f (c8)) ?_
     refine st1off rfl rfl (lb rfl) rfl rfl (not_f (c8)) ?_
     refine st1off rfl rfl (lb rfl) rfl rfl (not_f (c8)) ?_
     refine st1 rfl (op_pick_true (lb rfl) (not_f (c8))) (so rfl (so rfl sn)) ?_
     refine nk ?_
     refine acode_cond_true rfl (rfl) ?_
     refine sr ?_
     refine as_ (lb rfl) rfl ?_
     refine nkt ?_
     obtain rfl := Option.some.inj hm
     exact kseq_ret (fin2_retL (.cons (.c rfl) .nil) rfl .nil rfl rfl rfl)
   ·
    replace hm := ite_f hm c6
    refine st1off rfl rfl (lb rfl) rfl rfl (not_f (c6)) ?_
    refine st1off rfl rfl (lb rfl) rfl rfl (not_f (c6)) ?_
    refine st1off rfl rfl (lb rfl) rfl rfl (not_f (c6)) ?_
    refine st1off rfl rfl (lb rfl) rfl rfl (not_f (c6)) ?_
    refine st1 rfl (op_pick_true (lb rfl) (not_f (c6))) (so rfl (so rfl sn)) ?_
    refine mv (lb rfl) rfl ?_
    refine st1off rfl rfl (lb rfl) rfl rfl (rfl) ?_
    refine st1off rfl rfl (lb rfl) rfl rfl (rfl) ?_
    refine st1off rfl rfl (lb rfl) rfl rfl (rfl) ?_
    refine st1off rfl rfl (lb rfl) rfl rfl (rfl) ?_
    refine st1 rfl (op_pick_true (lb rfl) (rfl)) (so rfl (so rfl sn)) ?_
    refine nk ?_
    refine acode_cond_true rfl (rfl) ?_
    refine sr ?_
    refine as_ (lb rfl) rfl ?_
    refine nkt ?_
    obtain rfl := Option.some.inj hm
    exact kseq_ret (fin2_retL (.cons (.c rfl) .nil) rfl .nil rfl rfl rfl)
 ·
  replace hm := ite_f hm c2
  refine st1off rfl rfl (lb rfl) rfl rfl (not_f (c2)) ?_
  refine st1off rfl rfl (lb rfl) rfl rfl (not_f (c2)) ?_
  refine st1off rfl rfl (lb rfl) rfl rfl (not_f (c2)) ?_
  refine st1 rfl (op_pick_true (lb rfl) (not_f (c2))) (so rfl (so rfl sn)) ?_
  refine mv (lb rfl) rfl ?_
  refine st1off rfl rfl (lb rfl) rfl rfl (rfl) ?_
  refine st1off rfl rfl (lb rfl) rfl rfl (rfl) ?_
  refine st1off rfl rfl (lb rfl) rfl rfl (rfl) ?_
  refine st1off rfl rfl (lb rfl) rfl rfl (rfl) ?_
  refine st1 rfl (op_pick_true (lb rfl) (rfl)) (so rfl (so rfl sn)) ?_
  refine mv (lb rfl) rfl ?_
  refine st1off rfl rfl (lb rfl) rfl rfl (rfl) ?_
  refine st1off rfl rfl (lb rfl) rfl rfl (rfl) ?_
  refine st1off rfl rfl (lb rfl) rfl rfl (rfl) ?_
  refine st1off rfl rfl (lb rfl) rfl rfl (rfl) ?_
  refine st1 rfl (op_pick_true (lb rfl) (rfl)) (so rfl (so rfl sn)) ?_
  refine mv (lb rfl) rfl ?_
  refine st1off rfl rfl (lb rfl) rfl rfl (rfl) ?_
  refine st1off rfl rfl (lb rfl) rfl rfl (rfl) ?_
  refine st1off rfl rfl (lb rfl) rfl rfl (rfl) ?_
  refine st1off rfl rfl (lb rfl) rfl rfl (rfl) ?_
  refine st1 rfl (op_pick_true (lb rfl) (rfl)) (so rfl (so rfl sn)) ?_
  refine nk ?_
  refine acode_cond_true rfl (rfl) ?_
  refine sr ?_
  refine as_ (lb rfl) rfl ?_
  refine nkt ?_
  obtain rfl := Option.some.inj hm
  exact kseq_ret (fin2_retL (.cons (.c rfl) .nil) rfl .nil rfl rfl rfl)

noncomputable def m_laws_FnExactEngOk (aH : GHouse) : Option Bool := (m_szEngHouse aH 1048576).bind fun x1 => (if decide (x1 < 0) = true then (some true) else ((m_toEngHouse aH).bind fun x3 => ((m_spec_EngOk x3).bind fun x4 => ((m_toEngHouse aH).bind fun x5 => ((m_impl_EngOk x5).bind fun x6 => (if (x6 == x4) = true then ((m_toEngHouse aH).bind fun x8 => ((m_eqEngHouse x5 x8).bind fun x9 => (if x9 = true then (some true) else (some false)))) else (some false)))))))

theorem c_laws_FnExactEngOk (aH : GHouse) (rz : Bool) (hm : m_laws_FnExactEngOk aH = some rz) : FnB Tryz.prog 6 [.row (GHouse.cells false aH)] [.c (cB rz)] [] := by
 unfold m_laws_FnExactEngOk at hm
 refine fn_intro2 (n := 27) (rvs := [.tmp 2]) Tryz.func6 rfl rfl rfl (lb rfl) rfl rfl rfl rfl rfl ?_
 refine acode_seq ?_
 refine acode_le (le_stU (env := [(0, .row [.sl false 2 (aH.nets.map (GNet.cells false)), .sl false 1 (aH.people.map (fun n : Int => [cI n])), .sl false 7 (aH.tree.map (GNode.cells false)), .sl false 6 (aH.runs.map (GRun.cells false))])]) (obj := []) idn (.cons rfl rfl .nil) .nil rfl) ?_
 refine acode_region ?_
 refine st1 rfl (op_box rfl (lb rfl)) (so rfl (sf rfl (sats_lives rfl))) ?_
 refine as_ (lb rfl) rfl ?_
 refine nk ?_
 refine sr ?_
 refine as_ (lb rfl) rfl ?_
 refine nk ?_
 refine sr ?_
 refine st1 rfl (op_load_bx_agg Tryz.isAgg27 Tryz.sizeOf27 rfl rfl (lb rfl)) (so rfl (sb rfl sn)) ?_
 refine mv (lb rfl) rfl ?_
 obtain ⟨x1, hx1, hm⟩ := bnd hm
 refine st1 rfl (op_call2 (ks := []) Tryz.func11 rfl rfl (cw_szEngHouse aH 1048576 x1 hx1) (.cons ((.aggCons (.c rfl) (.aggCons (.c rfl) (.aggCons (.c rfl) (.aggCons (.c rfl) .aggNil rfl) rfl) rfl) rfl)) (.cons (.c rfl) .nil rfl) rfl) rfl rfl (.inl rfl) .nil rfl rfl (lb rfl)) (sats_opds (.cons rfl (.cons rfl .nil)) (sats_app (sats_freshL rfl) (sats_needsO obs_nil))) ?_
 refine as_ (lb rfl) rfl ?_
 refine nk ?_
 refine acode_seq ?_
 refine sr ?_
 refine mv (lb rfl) rfl ?_
 refine st1 rfl (op_lss (lb rfl)) (so rfl (so rfl sn)) ?_
 refine nk ?_
 refine acode_split (b := decide (x1 < 0)) (fun c2 => ?_) (fun c2 => ?_)
 ·
  replace hm := ite_t hm c2
  refine acode_cond_true rfl (c2) ?_
  refine sr ?_
  refine as_ (lb rfl) rfl ?_
  refine nkt ?_
  obtain rfl := Option.some.inj hm
  exact kseq_ret (fin2_retL (.cons (.c rfl) .nil) rfl .nil rfl rfl rfl)
 ·
  replace hm := ite_f hm c2
  refine acode_cond_false rfl (c2) ?_
  refine pk ?_
  refine sr ?_
  refine st1 rfl (op_load_bx_agg Tryz.isAgg27 Tryz.sizeOf27 rfl rfl (lb rfl)) (so rfl (sb rfl sn)) ?_
  obtain ⟨x3, hx3, hm⟩ := bnd hm
  refine st1 rfl (op_call2 (ks := []) Tryz.func14 rfl rfl (cw_toEngHouse aH x3 hx3) (.cons ((.aggCons (.c rfl) (.aggCons (.c rfl) (.aggCons (.c rfl) (.aggCons (.c rfl) .aggNil rfl) rfl) rfl) rfl)) .nil rfl) rfl rfl (.inl rfl) .nil rfl rfl (lb rfl)) (sats_opds (.cons rfl .nil) (sats_app (sats_freshL rfl) (sats_needsO obs_nil))) ?_
  obtain ⟨x4, hx4, hm⟩ := bnd hm
  refine st1 rfl (op_call2 (ks := []) Tryz.func31 rfl rfl (c_spec_EngOk x3 x4 hx4) (.cons ((.aggCons (.ref rfl (rowGNet.rnobox true _) (rowGNet.rshare true _)) (.aggCons (.ref rfl (rowI.rnobox true _) (rowI.rshare true _)) (.aggCons (.ref rfl (rowGNode.rnobox true _) (rowGNode.rshare true _)) (.aggCons (.ref rfl (rowGRun.rnobox true _) (rowGRun.rshare true _)) .aggNil rfl) rfl) rfl) rfl)) .nil rfl) rfl rfl (.inr ⟨(sol_cons rfl sol_nil), fun p hp => (by cases hp)⟩) .nil rfl rfl (lb rfl)) (sats_opds (.cons rfl .nil) (sats_app (sats_freshL rfl) (sats_needsO (obs_cons rfl (obs_cons rfl (obs_cons rfl (obs_cons rfl obs_nil))))))) ?_
  refine as_ (lb rfl) rfl ?_
  refine nk ?_
  refine sr ?_
  refine st1 rfl (op_load_bx_agg Tryz.isAgg27 Tryz.sizeOf27 rfl rfl (lb rfl)) (so rfl (sb rfl sn)) ?_
  obtain ⟨x5, hx5, hm⟩ := bnd hm
  refine st1 rfl (op_call2 (ks := []) Tryz.func14 rfl rfl (cw_toEngHouse aH x5 hx5) (.cons ((.aggCons (.c rfl) (.aggCons (.c rfl) (.aggCons (.c rfl) (.aggCons (.c rfl) .aggNil rfl) rfl) rfl) rfl)) .nil rfl) rfl rfl (.inl rfl) .nil rfl rfl (lb rfl)) (sats_opds (.cons rfl .nil) (sats_app (sats_freshL rfl) (sats_needsO obs_nil))) ?_
  refine st1 rfl (op_alloc Tryz.zeroValue38 rfl (lb rfl)) (sf rfl sn) ?_
  refine st1 rfl (op_store_bxS Tryz.sizeOf38 rfl rfl rfl rfl) (so rfl (so rfl (sb rfl (sats_lives rfl)))) ?_
  refine nk ?_
  refine acode_seq ?_
  refine acode_le (le_stU (env := [(1, .bx 1 0), (4, aBool x4), (5, .bx 5 0)]) (obj := [(1, .box [.c (.sl false 2 (aH.nets.map (GNet.cells false))), .c (.sl false 1 (aH.people.map (fun n : Int => [cI n]))), .c (.sl false 7 (aH.tree.map (GNode.cells false))), .c (.sl false 6 (aH.runs.map (GRun.cells false)))]), (5, .box [.ref 16 [], .ref 10016 [], .ref 20016 [], .ref 30016 []]), (16, .arr 2 (x5.nets.map (GNet.cells true))), (10016, .arr 1 (x5.people.map (fun n : Int => [cI n]))), (20016, .arr 7 (x5.tree.map (GNode.cells true))), (30016, .arr 6 (x5.runs.map (GRun.cells true)))]) idn (.cons rfl rfl (.cons rfl rfl (.cons rfl rfl .nil))) (.cons rfl rfl (.inl rfl) (.cons rfl rfl (.inl rfl) (.cons rfl rfl (.inl rfl) (.cons rfl rfl (.inl rfl) (.cons rfl rfl (.inl rfl) (.cons rfl rfl (.inl rfl) .nil)))))) rfl) ?_
  refine acode_region ?_
  refine st1 rfl (op_load_bx_agg Tryz.isAgg38 Tryz.sizeOf38 rfl rfl (lb rfl)) (so rfl (sb rfl sn)) ?_
  obtain ⟨x6, hx6, hm⟩ := bnd hm
  refine st1 rfl (op_call2 (ks := []) Tryz.func32 rfl rfl (c_impl_EngOk x5 x6 hx6) (.cons ((.aggCons (.ref rfl (rowGNet.rnobox true _) (rowGNet.rshare true _)) (.aggCons (.ref rfl (rowI.rnobox true _) (rowI.rshare true _)) (.aggCons (.ref rfl (rowGNode.rnobox true _) (rowGNode.rshare true _)) (.aggCons (.ref rfl (rowGRun.rnobox true _) (rowGRun.rshare true _)) .aggNil rfl) rfl) rfl) rfl)) .nil rfl) rfl rfl (.inr ⟨(sol_cons rfl sol_nil), fun p hp => (by cases hp)⟩) .nil rfl rfl (lb rfl)) (sats_opds (.cons rfl .nil) (sats_app (sats_freshL rfl) (sats_needsO (obs_cons rfl (obs_cons rfl (obs_cons rfl (obs_cons rfl obs_nil))))))) ?_
  refine as_ (lb rfl) rfl ?_
  refine nk ?_
  refine acode_seq ?_
  refine sr ?_
  refine mv (lb rfl) rfl ?_
  refine mv (lb rfl) rfl ?_
  refine st1 rfl (op_neqb Tryz.underlying4 (lb rfl)) (so rfl (so rfl sn)) ?_
  refine nk ?_
  refine acode_split (b := (x6 == x4)) (fun c7 => ?_) (fun c7 => ?_)
  ·
   replace hm := ite_t hm c7
   refine acode_cond_false rfl (not_t (c7)) ?_
   refine pk ?_
   refine acode_seq ?_
   refine acode_seq ?_
   refine acode_region_draw mixed rfl ?_
   refine st1 rfl (op_load_bx_agg Tryz.isAgg38 Tryz.sizeOf38 rfl rfl (lb rfl)) (so rfl (sb rfl sn)) ?_
   refine st1 rfl (op_load_bx_agg Tryz.isAgg27 Tryz.sizeOf27 rfl rfl (lb rfl)) (so rfl (sb rfl sn)) ?_
   obtain ⟨x8, hx8, hm⟩ := bnd hm
   refine st1 rfl (op_call2 (ks := []) Tryz.func14 rfl rfl (cw_toEngHouse aH x8 hx8) (.cons ((.aggCons (.c rfl) (.aggCons (.c rfl) (.aggCons (.c rfl) (.aggCons (.c rfl) .aggNil rfl) rfl) rfl) rfl)) .nil rfl) rfl rfl (.inl rfl) .nil rfl rfl (lb rfl)) (sats_opds (.cons rfl .nil) (sats_app (sats_freshL rfl) (sats_needsO obs_nil))) ?_
   obtain ⟨x9, hx9, hm⟩ := bnd hm
   refine st1 rfl (op_call2 (ks := []) Tryz.func17 rfl rfl (cw_eqEngHouse x5 x8 x9 hx9) (.cons ((.aggCons (.ref rfl (rowGNet.rnobox true _) (rowGNet.rshare true _)) (.aggCons (.ref rfl (rowI.rnobox true _) (rowI.rshare true _)) (.aggCons (.ref rfl (rowGNode.rnobox true _) (rowGNode.rshare true _)) (.aggCons (.ref rfl (rowGRun.rnobox true _) (rowGRun.rshare true _)) .aggNil rfl) rfl) rfl) rfl)) (.cons ((.aggCons (.ref rfl (rowGNet.rnobox true _) (rowGNet.rshare true _)) (.aggCons (.ref rfl (rowI.rnobox true _) (rowI.rshare true _)) (.aggCons (.ref rfl (rowGNode.rnobox true _) (rowGNode.rshare true _)) (.aggCons (.ref rfl (rowGRun.rnobox true _) (rowGRun.rshare true _)) .aggNil rfl) rfl) rfl) rfl)) .nil rfl) rfl) rfl rfl (.inr ⟨(sol_cons rfl sol_nil), fun p hp => (by cases hp)⟩) .nil rfl rfl (lb rfl)) (sats_opds (.cons rfl (.cons rfl .nil)) (sats_app (sats_freshL rfl) (sats_needsO (obs_cons rfl (obs_cons rfl (obs_cons rfl (obs_cons rfl (obs_cons rfl (obs_cons rfl (obs_cons rfl (obs_cons rfl obs_nil))))))))))) ?_
   refine st1 rfl (op_not (lb rfl)) (so rfl sn) ?_
   refine rg_nil_draw (by kernel_rfl) ?_
   refine kseq_normal ?_
   refine acode_split (b := x9) (fun c10 => ?_) (fun c10 => ?_)
   ·
    replace hm := ite_t hm c10
    refine acode_cond_false rfl (not_t (c10)) ?_
    refine pk ?_
    refine sr ?_
    refine as_ (lb rfl) rfl ?_
    refine nkt ?_
    obtain rfl := Option.some.inj hm
    exact fin2_retL (.cons (.c rfl) .nil) rfl .nil rfl rfl rfl
   ·
    replace hm := ite_f hm c10
    refine acode_cond_true rfl (not_f (c10)) ?_
    refine sr ?_
    refine as_ (lb rfl) rfl ?_
    refine nkt ?_
    obtain rfl := Option.some.inj hm
    exact kseq_ret (fin2_retL (.cons (.c rfl) .nil) rfl .nil rfl rfl rfl)
  ·
   replace hm := ite_f hm c7
   refine acode_cond_true rfl (not_f (c7)) ?_
   refine sr ?_
   refine as_ (lb rfl) rfl ?_
   refine nkt ?_
   obtain rfl := Option.some.inj hm
   exact kseq_ret (fin2_retL (.cons (.c rfl) .nil) rfl .nil rfl rfl rfl)
end Go.Am
