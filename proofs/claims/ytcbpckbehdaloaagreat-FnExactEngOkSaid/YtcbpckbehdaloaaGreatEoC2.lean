/- Mirrors and walks, printed by gox.py. Own work. -/
import Derived.Test.YtcbpckbehdaloaaGreatEoC1
set_option maxRecDepth 100000
set_option maxHeartbeats 4000000
set_option linter.unusedVariables false
set_option linter.unusedSimpArgs false
namespace Go.Am
open Go Go.Proofs

def m_spec_RdrOk_k1 (s0_0 : Int) (bk0 : Int → Option Bool) (s1_0 : Int) : Option Bool := if ((decide (s0_0 = 0)) == (decide (s1_0 = 0))) = true then (if decide (1 < s1_0) = true then (some false) else (gd (ok64 (s0_0 + 1)) (bk0 (s0_0 + 1)))) else (some false)
def m_spec_RdrOk_l1 (tree : List GNode) (s0_0 : Int) (kx1_0 : Int → Option Bool) : Nat → Int → Int → Option Bool
  | 0, _, _ => none
  | n1 + 1, s1_0, s1_1 => if decide (s1_1 < (tree.length : Int)) = true then ((getI tree s1_1).bind fun x15 => (if decide (x15.yes = s0_0) = true then (gd (ok64 (s1_0 + 1)) ((getI tree s1_1).bind fun x18 => (if decide (x18.no = s0_0) = true then (gd (ok64 ((s1_0 + 1) + 1)) (gd (ok64 (s1_1 + 1)) ((m_spec_RdrOk_l1 tree s0_0 kx1_0 n1) ((s1_0 + 1) + 1) (s1_1 + 1)))) else (gd (ok64 (s1_1 + 1)) ((m_spec_RdrOk_l1 tree s0_0 kx1_0 n1) (s1_0 + 1) (s1_1 + 1)))))) else ((getI tree s1_1).bind fun x23 => (if decide (x23.no = s0_0) = true then (gd (ok64 (s1_0 + 1)) (gd (ok64 (s1_1 + 1)) ((m_spec_RdrOk_l1 tree s0_0 kx1_0 n1) (s1_0 + 1) (s1_1 + 1)))) else (gd (ok64 (s1_1 + 1)) ((m_spec_RdrOk_l1 tree s0_0 kx1_0 n1) s1_0 (s1_1 + 1))))))) else (kx1_0 s1_0)
def m_spec_RdrOk_k2 (s0_0 : Int) (bk0 : Int → Option Bool) (s2_0 : Int) : Option Bool := if ((decide (s0_0 = 0)) == (decide (s2_0 = 0))) = true then (if decide (1 < s2_0) = true then (some false) else (gd (ok64 (s0_0 + 1)) (bk0 (s0_0 + 1)))) else (some false)
def m_spec_RdrOk_l2 (tree : List GNode) (s0_0 : Int) (kx2_0 : Int → Option Bool) : Nat → Int → Int → Option Bool
  | 0, _, _ => none
  | n2 + 1, s2_0, s2_1 => if decide (s2_1 < (tree.length : Int)) = true then ((getI tree s2_1).bind fun x36 => (if decide (x36.yes = s0_0) = true then (gd (ok64 (s2_0 + 1)) ((getI tree s2_1).bind fun x39 => (if decide (x39.no = s0_0) = true then (gd (ok64 ((s2_0 + 1) + 1)) (gd (ok64 (s2_1 + 1)) ((m_spec_RdrOk_l2 tree s0_0 kx2_0 n2) ((s2_0 + 1) + 1) (s2_1 + 1)))) else (gd (ok64 (s2_1 + 1)) ((m_spec_RdrOk_l2 tree s0_0 kx2_0 n2) (s2_0 + 1) (s2_1 + 1)))))) else ((getI tree s2_1).bind fun x44 => (if decide (x44.no = s0_0) = true then (gd (ok64 (s2_0 + 1)) (gd (ok64 (s2_1 + 1)) ((m_spec_RdrOk_l2 tree s0_0 kx2_0 n2) (s2_0 + 1) (s2_1 + 1)))) else (gd (ok64 (s2_1 + 1)) ((m_spec_RdrOk_l2 tree s0_0 kx2_0 n2) s2_0 (s2_1 + 1))))))) else (kx2_0 s2_0)
def m_spec_RdrOk_k3 (s0_0 : Int) (bk0 : Int → Option Bool) (s3_0 : Int) : Option Bool := if ((decide (s0_0 = 0)) == (decide (s3_0 = 0))) = true then (if decide (1 < s3_0) = true then (some false) else (gd (ok64 (s0_0 + 1)) (bk0 (s0_0 + 1)))) else (some false)
def m_spec_RdrOk_l3 (tree : List GNode) (s0_0 : Int) (kx3_0 : Int → Option Bool) : Nat → Int → Int → Option Bool
  | 0, _, _ => none
  | n3 + 1, s3_0, s3_1 => if decide (s3_1 < (tree.length : Int)) = true then ((getI tree s3_1).bind fun x58 => (if decide (x58.yes = s0_0) = true then (gd (ok64 (s3_0 + 1)) ((getI tree s3_1).bind fun x61 => (if decide (x61.no = s0_0) = true then (gd (ok64 ((s3_0 + 1) + 1)) (gd (ok64 (s3_1 + 1)) ((m_spec_RdrOk_l3 tree s0_0 kx3_0 n3) ((s3_0 + 1) + 1) (s3_1 + 1)))) else (gd (ok64 (s3_1 + 1)) ((m_spec_RdrOk_l3 tree s0_0 kx3_0 n3) (s3_0 + 1) (s3_1 + 1)))))) else ((getI tree s3_1).bind fun x66 => (if decide (x66.no = s0_0) = true then (gd (ok64 (s3_0 + 1)) (gd (ok64 (s3_1 + 1)) ((m_spec_RdrOk_l3 tree s0_0 kx3_0 n3) (s3_0 + 1) (s3_1 + 1)))) else (gd (ok64 (s3_1 + 1)) ((m_spec_RdrOk_l3 tree s0_0 kx3_0 n3) s3_0 (s3_1 + 1))))))) else (kx3_0 s3_0)
def m_spec_RdrOk_k4 (s0_0 : Int) (bk0 : Int → Option Bool) (s4_0 : Int) : Option Bool := if ((decide (s0_0 = 0)) == (decide (s4_0 = 0))) = true then (if decide (1 < s4_0) = true then (some false) else (gd (ok64 (s0_0 + 1)) (bk0 (s0_0 + 1)))) else (some false)
def m_spec_RdrOk_l4 (tree : List GNode) (s0_0 : Int) (kx4_0 : Int → Option Bool) : Nat → Int → Int → Option Bool
  | 0, _, _ => none
  | n4 + 1, s4_0, s4_1 => if decide (s4_1 < (tree.length : Int)) = true then ((getI tree s4_1).bind fun x79 => (if decide (x79.yes = s0_0) = true then (gd (ok64 (s4_0 + 1)) ((getI tree s4_1).bind fun x82 => (if decide (x82.no = s0_0) = true then (gd (ok64 ((s4_0 + 1) + 1)) (gd (ok64 (s4_1 + 1)) ((m_spec_RdrOk_l4 tree s0_0 kx4_0 n4) ((s4_0 + 1) + 1) (s4_1 + 1)))) else (gd (ok64 (s4_1 + 1)) ((m_spec_RdrOk_l4 tree s0_0 kx4_0 n4) (s4_0 + 1) (s4_1 + 1)))))) else ((getI tree s4_1).bind fun x87 => (if decide (x87.no = s0_0) = true then (gd (ok64 (s4_0 + 1)) (gd (ok64 (s4_1 + 1)) ((m_spec_RdrOk_l4 tree s0_0 kx4_0 n4) (s4_0 + 1) (s4_1 + 1)))) else (gd (ok64 (s4_1 + 1)) ((m_spec_RdrOk_l4 tree s0_0 kx4_0 n4) s4_0 (s4_1 + 1))))))) else (kx4_0 s4_0)
def m_spec_RdrOk_k5  : Option Bool := some true
def m_spec_RdrOk_l0 (tree : List GNode) (kx0_0 : Option Bool) : Nat → Int → Option Bool
  | 0, _ => none
  | n0 + 1, s0_0 => if decide (s0_0 < (tree.length : Int)) = true then ((getI tree s0_0).bind fun x3 => ((m_spec_ExpOk x3.if_).bind fun x4 => (if x4 = true then ((m_spec_l1In x3.ans 0 2).bind fun x6 => (if x6 = true then ((m_spec_DatOk x3.stone).bind fun x8 => (if x8 = true then ((m_spec_ExpHolds x3.if_ x3.stone).bind fun x10 => (if x10 = true then (if decide (x3.yes = (-1)) = true then (if decide (x3.no = (-1)) = true then (m_spec_RdrOk_l1 tree s0_0 (m_spec_RdrOk_k1 s0_0 (m_spec_RdrOk_l0 tree kx0_0 n0)) FUEL 0 0) else (gd (ok64 (s0_0 + 1)) (gd (ok64 ((tree.length : Int) - 1)) ((m_spec_l1In x3.no (s0_0 + 1) ((tree.length : Int) - 1)).bind fun x33 => (if x33 = true then (m_spec_RdrOk_l2 tree s0_0 (m_spec_RdrOk_k2 s0_0 (m_spec_RdrOk_l0 tree kx0_0 n0)) FUEL 0 0) else (some false)))))) else (gd (ok64 (s0_0 + 1)) (gd (ok64 ((tree.length : Int) - 1)) ((m_spec_l1In x3.yes (s0_0 + 1) ((tree.length : Int) - 1)).bind fun x54 => (if x54 = true then (if decide (x3.no = (-1)) = true then (m_spec_RdrOk_l3 tree s0_0 (m_spec_RdrOk_k3 s0_0 (m_spec_RdrOk_l0 tree kx0_0 n0)) FUEL 0 0) else (gd (ok64 (s0_0 + 1)) (gd (ok64 ((tree.length : Int) - 1)) ((m_spec_l1In x3.no (s0_0 + 1) ((tree.length : Int) - 1)).bind fun x76 => (if x76 = true then (m_spec_RdrOk_l4 tree s0_0 (m_spec_RdrOk_k4 s0_0 (m_spec_RdrOk_l0 tree kx0_0 n0)) FUEL 0 0) else (some false)))))) else (some false)))))) else (some false))) else (some false))) else (some false))) else (some false)))) else (kx0_0)
def m_spec_RdrOk (tree : List GNode) : Option Bool := if decide (12 < (tree.length : Int)) = true then (some false) else (m_spec_RdrOk_l0 tree m_spec_RdrOk_k5 FUEL 0)

theorem c_spec_RdrOk (tree : List GNode) (rz : Bool) (hm : m_spec_RdrOk tree = some rz) : FnB Tryz.prog 84 [.c (.sl false 7 (tree.map (GNode.cells false)))] [.c (cB rz)] [] := by
 unfold m_spec_RdrOk at hm
 refine fn_intro2 (n := 107) (rvs := [.tmp 2]) Tryz.func84 rfl rfl rfl (lb rfl) rfl rfl rfl rfl rfl ?_
 refine acode_seq ?_
 refine acode_le (le_stU (env := [(0, .c (.sl false 7 (tree.map (GNode.cells false))))]) (obj := []) idn (.cons rfl rfl .nil) .nil rfl) ?_
 refine acode_region ?_
 refine as_ (lb rfl) rfl ?_
 refine nk ?_
 refine acode_seq ?_
 refine sr ?_
 refine mv (lb rfl) rfl ?_
 refine st1 rfl (op_len_sh (f := (GNode.cells false)) (l := tree) Tryz.underlying35 (lb rfl)) (so rfl sn) ?_
 refine st1 rfl (op_gtr (lb rfl)) (so rfl (so rfl sn)) ?_
 refine nk ?_
 refine acode_split (b := decide (12 < (tree.length : Int))) (fun c1 => ?_) (fun c1 => ?_)
 ·
  replace hm := ite_t hm c1
  refine acode_cond_true rfl (c1) ?_
  refine sr ?_
  refine as_ (lb rfl) rfl ?_
  refine nkt ?_
  obtain rfl := Option.some.inj hm
  exact kseq_ret (fin2_retL (.cons (.c rfl) .nil) rfl .nil rfl rfl rfl)
 ·
  replace hm := ite_f hm c1
  refine acode_cond_false rfl (c1) ?_
  refine pk ?_
  refine acode_seq ?_
  refine sr ?_
  refine as_ (lb rfl) rfl ?_
  refine nk ?_
  refine acode_block ?_
  refine acode_loopk (xs := [0]) (ys := []) (S := Nat × Int) (fun z => [(3, aInt z.2)]) (fun z => []) (fun z => m_spec_RdrOk_l0 tree m_spec_RdrOk_k5 z.1 z.2 = some rz) (fun z => z.1) (FUEL, 0) (.cons rfl .nil) .nil ?em ?eo rfl ?ei ?round
  case em => exact (.cons rfl rfl .nil)
  case eo => exact .nil
  case ei => exact hm
  case round =>
   rintro ⟨n0, s0_0⟩ hm
   dsimp only at hm ⊢
   cases n0 with
   | zero => rw [m_spec_RdrOk_l0] at hm; cases hm
   | succ n0 =>
    rw [m_spec_RdrOk_l0] at hm
    refine acode_seq ?_
    refine sr ?_
    refine mv (lb rfl) rfl ?_
    refine mv (lb rfl) rfl ?_
    refine st1 rfl (op_len_sh (f := (GNode.cells false)) (l := tree) Tryz.underlying35 (lb rfl)) (so rfl sn) ?_
    refine st1 rfl (op_lss (lb rfl)) (so rfl (so rfl sn)) ?_
    refine nk ?_
    refine acode_split (b := decide (s0_0 < (tree.length : Int))) (fun c2 => ?_) (fun c2 => ?_)
    ·
     replace hm := ite_t hm c2
     refine acode_cond_true rfl (c2) ?_
     refine pk ?_
     refine acode_seq ?_
     refine acode_block ?_
     refine sr ?_
     refine mv (lb rfl) rfl ?_
     refine mv (lb rfl) rfl ?_
     obtain ⟨x3, hx3, hm⟩ := bnd hm
     refine st1 rfl (op_index_shG (f := (GNode.cells false)) (l := tree) Tryz.underlying35 Tryz.sizeOf168 (lb rfl) hx3) (so rfl (so rfl sn)) ?_
     refine st1 rfl (op_load_pts_row Tryz.isAgg168 Tryz.sizeOf168 rfl rfl (lb rfl)) (so rfl sn) ?_
     refine st1 rfl (op_alloc Tryz.zeroValue168 rfl (lb rfl)) (sf rfl sn) ?_
     refine st1 rfl (op_store_bxS Tryz.sizeOf168 rfl rfl rfl rfl) (so rfl (so rfl (sb rfl (sats_lives rfl)))) ?_
     refine nk ?_
     refine acode_seq ?_
     refine sr ?_
     refine fdb (off := 0) Tryz.underlying168 Tryz.sizeOf42 rfl rfl rfl (lb rfl) rfl rfl ?_
     refine st1 rfl (op_load_bx_agg Tryz.isAgg42 Tryz.sizeOf42 rfl rfl (lb rfl)) (so rfl (sb rfl sn)) ?_
     obtain ⟨x4, hx4, hm⟩ := bnd hm
     refine st1 rfl (op_call2 (ks := []) Tryz.func128 rfl rfl (c_spec_ExpOk x3.if_ x4 hx4) (.cons ((.aggCons (.c rfl) (.aggCons (.c rfl) (.aggCons (.c rfl) .aggNil rfl) rfl) rfl)) .nil rfl) rfl rfl (.inl rfl) .nil rfl rfl (lb rfl)) (sats_opds (.cons rfl .nil) (sats_app (sats_freshL rfl) (sats_needsO obs_nil))) ?_
     refine st1 rfl (op_not (lb rfl)) (so rfl sn) ?_
     refine mv (lb rfl) rfl ?_
     refine rg_split (b := x4) (fun c5 => ?_) (fun c5 => ?_)
     ·
      replace hm := ite_t hm c5
      refine st1on rfl rfl rfl (not_t (c5)) (op_field_bx (off := 5) Tryz.underlying168 Tryz.sizeOf3 rfl rfl rfl (lb rfl)) (so rfl (sb rfl sn)) ?_
      refine st1on rfl rfl rfl (not_t (c5)) (op_load_bx Tryz.isAgg3 rfl (lb rfl)) (so rfl (sb rfl sn)) ?_
      obtain ⟨x6, hx6, hm⟩ := bnd hm
      refine st1on rfl rfl rfl (not_t (c5)) (op_call2 (ks := []) Tryz.func85 rfl rfl (c_spec_l1In x3.ans 0 2 x6 hx6) (.cons (.c rfl) (.cons (.c rfl) (.cons (.c rfl) .nil rfl) rfl) rfl) rfl rfl (.inl rfl) .nil rfl rfl (lb rfl)) (sats_opds (.cons rfl (.cons rfl (.cons rfl .nil))) (sats_app (sats_freshL rfl) (sats_needsO obs_nil))) ?_
      refine st1on rfl rfl rfl (not_t (c5)) (op_not (lb rfl)) (so rfl sn) ?_
      refine st1 rfl (op_pick_false (lb rfl) (not_t (c5))) (so rfl (so rfl sn)) ?_
      refine mv (lb rfl) rfl ?_
      refine rg_split (b := x6) (fun c7 => ?_) (fun c7 => ?_)
      ·
       replace hm := ite_t hm c7
       refine st1on rfl rfl rfl (not_t (c7)) (op_field_bx (off := 6) Tryz.underlying168 Tryz.sizeOf23 rfl rfl rfl (lb rfl)) (so rfl (sb rfl sn)) ?_
       refine st1on rfl rfl rfl (not_t (c7)) (op_load_bx Tryz.isAgg23 rfl (lb rfl)) (so rfl (sb rfl sn)) ?_
       obtain ⟨x8, hx8, hm⟩ := bnd hm
       refine st1on rfl rfl rfl (not_t (c7)) (op_call2 (ks := []) Tryz.func129 rfl rfl (c_spec_DatOk x3.stone x8 hx8) (.cons (.c rfl) .nil rfl) rfl rfl (.inl rfl) .nil rfl rfl (lb rfl)) (sats_opds (.cons rfl .nil) (sats_app (sats_freshL rfl) (sats_needsO obs_nil))) ?_
       refine st1on rfl rfl rfl (not_t (c7)) (op_not (lb rfl)) (so rfl sn) ?_
       refine st1 rfl (op_pick_false (lb rfl) (not_t (c7))) (so rfl (so rfl sn)) ?_
       refine mv (lb rfl) rfl ?_
       refine rg_split (b := x8) (fun c9 => ?_) (fun c9 => ?_)
       ·
        replace hm := ite_t hm c9
        refine st1on rfl rfl rfl (not_t (c9)) (op_field_bx (off := 0) Tryz.underlying168 Tryz.sizeOf42 rfl rfl rfl (lb rfl)) (so rfl (sb rfl sn)) ?_
        refine st1on rfl rfl rfl (not_t (c9)) (op_load_bx_agg Tryz.isAgg42 Tryz.sizeOf42 rfl rfl (lb rfl)) (so rfl (sb rfl sn)) ?_
        refine st1on rfl rfl rfl (not_t (c9)) (op_field_bx (off := 6) Tryz.underlying168 Tryz.sizeOf23 rfl rfl rfl (lb rfl)) (so rfl (sb rfl sn)) ?_
        refine st1on rfl rfl rfl (not_t (c9)) (op_load_bx Tryz.isAgg23 rfl (lb rfl)) (so rfl (sb rfl sn)) ?_
        obtain ⟨x10, hx10, hm⟩ := bnd hm
        refine st1on rfl rfl rfl (not_t (c9)) (op_call2 (ks := []) Tryz.func156 rfl rfl (c_spec_ExpHolds x3.if_ x3.stone x10 hx10) (.cons ((.aggCons (.c rfl) (.aggCons (.c rfl) (.aggCons (.c rfl) .aggNil rfl) rfl) rfl)) (.cons (.c rfl) .nil rfl) rfl) rfl rfl (.inl rfl) .nil rfl rfl (lb rfl)) (sats_opds (.cons rfl (.cons rfl .nil)) (sats_app (sats_freshL rfl) (sats_needsO obs_nil))) ?_
        refine st1on rfl rfl rfl (not_t (c9)) (op_not (lb rfl)) (so rfl sn) ?_
        refine st1 rfl (op_pick_false (lb rfl) (not_t (c9))) (so rfl (so rfl sn)) ?_
        refine nk ?_
        refine acode_split (b := x10) (fun c11 => ?_) (fun c11 => ?_)
        ·
         replace hm := ite_t hm c11
         refine acode_cond_false rfl (not_t (c11)) ?_
         refine pk ?_
         refine acode_seq ?_
         refine acode_seq ?_
         refine acode_le (le_stU (env := [(0, .c (.sl false 7 (tree.map (GNode.cells false)))), (3, aInt s0_0), (4, .bx 4 0), (25, .bx 4 5), (26, aInt x3.ans), (27, aBool x6), (28, aBool (!x6)), (31, .bx 4 6), (32, .c (.sl false 1 (x3.stone.map (fun n : Int => [cI n])))), (33, aBool x8), (34, aBool (!x8)), (37, .bx 4 0), (38, .agg [aInt x3.if_.op, aInt x3.if_.var, aInt x3.if_.k]), (39, .bx 4 6), (40, .c (.sl false 1 (x3.stone.map (fun n : Int => [cI n])))), (41, aBool x10), (42, aBool (!x10))]) (obj := [(4, .box [aInt x3.if_.op, aInt x3.if_.var, aInt x3.if_.k, aInt x3.yes, aInt x3.no, aInt x3.ans, .c (.sl false 1 (x3.stone.map (fun n : Int => [cI n])))])]) idn (.cons rfl rfl (.cons rfl rfl (.cons rfl rfl (.cons rfl rfl (.cons rfl rfl (.cons rfl rfl (.cons rfl rfl (.cons rfl rfl (.cons rfl rfl (.cons rfl rfl (.cons rfl rfl (.cons rfl rfl (.cons rfl rfl (.cons rfl rfl (.cons rfl rfl (.cons rfl rfl (.cons rfl rfl .nil))))))))))))))))) (.cons rfl rfl (.inl rfl) .nil) rfl) ?_
         refine acode_region ?_
         refine fdb (off := 3) Tryz.underlying168 Tryz.sizeOf3 rfl rfl rfl (lb rfl) rfl rfl ?_
         refine ldb Tryz.isAgg3 rfl (lb rfl) rfl rfl ?_
         refine st1 rfl (op_neq (lb rfl)) (so rfl (so rfl sn)) ?_
         refine mv (lb rfl) rfl ?_
         refine rg_split (b := decide (x3.yes = (-1))) (fun c12 => ?_) (fun c12 => ?_)
         ·
          replace hm := ite_t hm c12
          refine st1off rfl rfl (lb rfl) rfl rfl (not_t (c12)) ?_
          refine st1off rfl rfl (lb rfl) rfl rfl (not_t (c12)) ?_
          refine st1off rfl rfl (lb rfl) rfl rfl (not_t (c12)) ?_
          refine st1off rfl rfl (lb rfl) rfl rfl (not_t (c12)) ?_
          refine st1off rfl rfl (lb rfl) rfl rfl (not_t (c12)) ?_
          refine st1off rfl rfl (lb rfl) rfl rfl (not_t (c12)) ?_
          refine st1off rfl rfl (lb rfl) rfl rfl (not_t (c12)) ?_
          refine st1off rfl rfl (lb rfl) rfl rfl (not_t (c12)) ?_
          refine st1off rfl rfl (lb rfl) rfl rfl (not_t (c12)) ?_
          refine st1 rfl (op_pick_false (lb rfl) (not_t (c12))) (so rfl (so rfl sn)) ?_
          refine mv (lb rfl) rfl ?_
          refine st1on rfl rfl rfl (rfl) (op_field_bx (off := 4) Tryz.underlying168 Tryz.sizeOf3 rfl rfl rfl (lb rfl)) (so rfl (sb rfl sn)) ?_
          refine st1on rfl rfl rfl (rfl) (op_load_bx Tryz.isAgg3 rfl (lb rfl)) (so rfl (sb rfl sn)) ?_
          refine st1on rfl rfl rfl (rfl) (op_neq (lb rfl)) (so rfl (so rfl sn)) ?_
          refine st1on rfl rfl rfl (rfl) (op_move (lb rfl)) (so rfl sn) ?_
          refine rg_split (b := decide (x3.no = (-1))) (fun c13 => ?_) (fun c13 => ?_)
          ·
           replace hm := ite_t hm c13
           refine st1off rfl rfl (lb rfl) rfl rfl (not_t (c13)) ?_
           refine st1off rfl rfl (lb rfl) rfl rfl (not_t (c13)) ?_
           refine st1off rfl rfl (lb rfl) rfl rfl (not_t (c13)) ?_
           refine st1off rfl rfl (lb rfl) rfl rfl (not_t (c13)) ?_
           refine st1off rfl rfl (lb rfl) rfl rfl (not_t (c13)) ?_
           refine st1off rfl rfl (lb rfl) rfl rfl (not_t (c13)) ?_
           refine st1off rfl rfl (lb rfl) rfl rfl (not_t (c13)) ?_
           refine st1off rfl rfl (lb rfl) rfl rfl (not_t (c13)) ?_
           refine st1off rfl rfl (lb rfl) rfl rfl (not_t (c13)) ?_
           refine st1on rfl rfl rfl (rfl) (op_pick_false (lb rfl) (not_t (c13))) (so rfl (so rfl sn)) ?_
           refine st1 rfl (op_pick_false (lb rfl) (rfl)) (so rfl (so rfl sn)) ?_
           refine nk ?_
           refine acode_cond_false rfl (rfl) ?_
           refine pk ?_
           refine acode_seq ?_
           refine acode_le (le_stU (env := [(0, .c (.sl false 7 (tree.map (GNode.cells false)))), (3, aInt s0_0), (25, .bx 4 5), (26, aInt x3.ans), (27, aBool x6), (28, aBool (!x6)), (31, .bx 4 6), (32, .c (.sl false 1 (x3.stone.map (fun n : Int => [cI n])))), (33, aBool x8), (34, aBool (!x8)), (37, .bx 4 0), (38, .agg [aInt x3.if_.op, aInt x3.if_.var, aInt x3.if_.k]), (39, .bx 4 6), (40, .c (.sl false 1 (x3.stone.map (fun n : Int => [cI n])))), (41, aBool x10), (42, aBool (!x10)), (48, .c (.lit undef)), (49, .c (.lit undef)), (50, .c (.lit undef)), (51, .c (.lit undef)), (52, .c (.lit undef)), (53, .c (.lit undef)), (54, .c (.lit undef)), (55, .c (.lit undef)), (56, .c (.lit undef)), (59, .bx 4 4), (60, aInt x3.no), (61, aBool (!decide (x3.no = (-1)))), (62, aBool (!decide (x3.no = (-1)))), (63, .c (.lit undef)), (64, .c (.lit undef)), (65, .c (.lit undef)), (66, .c (.lit undef)), (67, .c (.lit undef)), (68, .c (.lit undef)), (69, .c (.lit undef)), (70, .c (.lit undef)), (71, .c (.lit undef)), (72, aBool false)]) (obj := [(4, .box [aInt x3.if_.op, aInt x3.if_.var, aInt x3.if_.k, aInt x3.yes, aInt x3.no, aInt x3.ans, .c (.sl false 1 (x3.stone.map (fun n : Int => [cI n])))])]) idn (.cons rfl rfl (.cons rfl rfl (.cons rfl rfl (.cons rfl rfl (.cons rfl rfl (.cons rfl rfl (.cons rfl rfl (.cons rfl rfl (.cons rfl rfl (.cons rfl rfl (.cons rfl rfl (.cons rfl rfl (.cons rfl rfl (.cons rfl rfl (.cons rfl rfl (.cons rfl rfl (.cons rfl rfl (.cons rfl rfl (.cons rfl rfl (.cons rfl rfl (.cons rfl rfl (.cons rfl rfl (.cons rfl rfl (.cons rfl rfl (.cons rfl rfl (.cons rfl rfl (.cons rfl rfl (.cons rfl rfl (.cons rfl rfl (.cons rfl rfl (.cons rfl rfl (.cons rfl rfl (.cons rfl rfl (.cons rfl rfl (.cons rfl rfl (.cons rfl rfl (.cons rfl rfl (.cons rfl rfl (.cons rfl rfl .nil))))))))))))))))))))))))))))))))))))))) (.cons rfl rfl (.inl rfl) .nil) rfl) ?_
           refine acode_region ?_
           refine as_ (lb rfl) rfl ?_
           refine nk ?_
           refine acode_seq ?_
           refine sr ?_
           refine as_ (lb rfl) rfl ?_
           refine nk ?_
           refine acode_block ?_
           refine acode_loopk (xs := [0, 3, 25, 26, 27, 28, 31, 32, 33, 34, 37, 38, 39, 40, 41, 42, 48, 49, 50, 51, 52, 53, 54, 55, 56, 59, 60, 61, 62, 63, 64, 65, 66, 67, 68, 69, 70, 71, 72]) (ys := [4]) (S := Nat × Int × Int) (fun z => [(5, aInt z.2.1), (6, aInt z.2.2)]) (fun z => []) (fun z => m_spec_RdrOk_l1 tree s0_0 (m_spec_RdrOk_k1 s0_0 (m_spec_RdrOk_l0 tree m_spec_RdrOk_k5 n0)) z.1 z.2.1 z.2.2 = some rz) (fun z => z.1) (FUEL, 0, 0) (.cons rfl (.cons rfl (.cons rfl (.cons rfl (.cons rfl (.cons rfl (.cons rfl (.cons rfl (.cons rfl (.cons rfl (.cons rfl (.cons rfl (.cons rfl (.cons rfl (.cons rfl (.cons rfl (.cons rfl (.cons rfl (.cons rfl (.cons rfl (.cons rfl (.cons rfl (.cons rfl (.cons rfl (.cons rfl (.cons rfl (.cons rfl (.cons rfl (.cons rfl (.cons rfl (.cons rfl (.cons rfl (.cons rfl (.cons rfl (.cons rfl (.cons rfl (.cons rfl (.cons rfl (.cons rfl .nil))))))))))))))))))))))))))))))))))))))) (.cons rfl .nil) ?em ?eo rfl ?ei ?round
           case em => exact (.cons rfl rfl (.cons rfl rfl .nil))
           case eo => exact .nil
           case ei => exact hm
           case round =>
            rintro ⟨n1, s1_0, s1_1⟩ hm
            dsimp only at hm ⊢
            cases n1 with
            | zero => rw [m_spec_RdrOk_l1] at hm; cases hm
            | succ n1 =>
             rw [m_spec_RdrOk_l1] at hm
             refine acode_seq ?_
             refine sr ?_
             refine mv (lb rfl) rfl ?_
             refine mv (lb rfl) rfl ?_
             refine st1 rfl (op_len_sh (f := (GNode.cells false)) (l := tree) Tryz.underlying35 (lb rfl)) (so rfl sn) ?_
             refine st1 rfl (op_lss (lb rfl)) (so rfl (so rfl sn)) ?_
             refine nk ?_
             refine acode_split (b := decide (s1_1 < (tree.length : Int))) (fun c14 => ?_) (fun c14 => ?_)
             ·
              replace hm := ite_t hm c14
              refine acode_cond_true rfl (c14) ?_
              refine pk ?_
              refine acode_seq ?_
              refine acode_block ?_
              refine acode_seq ?_
              refine sr ?_
              refine mv (lb rfl) rfl ?_
              refine mv (lb rfl) rfl ?_
              obtain ⟨x15, hx15, hm⟩ := bnd hm
              refine st1 rfl (op_index_shG (f := (GNode.cells false)) (l := tree) Tryz.underlying35 Tryz.sizeOf168 (lb rfl) hx15) (so rfl (so rfl sn)) ?_
              refine st1 rfl (op_field_pts (off := 3) Tryz.underlying168 Tryz.sizeOf3 rfl rfl rfl rfl (lb rfl)) (so rfl sn) ?_
              refine st1 rfl (op_load_pts Tryz.isAgg3 rfl (lb rfl)) (so rfl sn) ?_
              refine mv (lb rfl) rfl ?_
              refine st1 rfl (op_eql (lb rfl)) (so rfl (so rfl sn)) ?_
              refine nk ?_
              refine acode_split (b := decide (x15.yes = s0_0)) (fun c16 => ?_) (fun c16 => ?_)
              ·
               replace hm := ite_t hm c16
               refine acode_cond_true rfl (c16) ?_
               refine acode_region ?_
               refine mv (lb rfl) rfl ?_
               obtain ⟨g17, hm⟩ := gd_some hm
               refine st1 rfl (op_add (lb rfl) g17) (so rfl (so rfl sn)) ?_
               refine as_ (lb rfl) rfl ?_
               refine nk ?_
               refine sr ?_
               refine mv (lb rfl) rfl ?_
               refine mv (lb rfl) rfl ?_
               obtain ⟨x18, hx18, hm⟩ := bnd hm
               refine st1 rfl (op_index_shG (f := (GNode.cells false)) (l := tree) Tryz.underlying35 Tryz.sizeOf168 (lb rfl) hx18) (so rfl (so rfl sn)) ?_
               refine st1 rfl (op_field_pts (off := 4) Tryz.underlying168 Tryz.sizeOf3 rfl rfl rfl rfl (lb rfl)) (so rfl sn) ?_
               refine st1 rfl (op_load_pts Tryz.isAgg3 rfl (lb rfl)) (so rfl sn) ?_
               refine mv (lb rfl) rfl ?_
               refine st1 rfl (op_eql (lb rfl)) (so rfl (so rfl sn)) ?_
               refine nk ?_
               refine acode_split (b := decide (x18.no = s0_0)) (fun c19 => ?_) (fun c19 => ?_)
               ·
                replace hm := ite_t hm c19
                refine acode_cond_true rfl (c19) ?_
                refine acode_le (le_stU (env := [(0, .c (.sl false 7 (tree.map (GNode.cells false)))), (3, aInt s0_0), (5, aInt (s1_0 + 1)), (6, aInt s1_1), (25, .bx 4 5), (26, aInt x3.ans), (27, aBool x6), (28, aBool (!x6)), (31, .bx 4 6), (32, .c (.sl false 1 (x3.stone.map (fun n : Int => [cI n])))), (33, aBool x8), (34, aBool (!x8)), (37, .bx 4 0), (38, .agg [aInt x3.if_.op, aInt x3.if_.var, aInt x3.if_.k]), (39, .bx 4 6), (40, .c (.sl false 1 (x3.stone.map (fun n : Int => [cI n])))), (41, aBool x10), (42, aBool (!x10)), (48, .c (.lit undef)), (49, .c (.lit undef)), (50, .c (.lit undef)), (51, .c (.lit undef)), (52, .c (.lit undef)), (53, .c (.lit undef)), (54, .c (.lit undef)), (55, .c (.lit undef)), (56, .c (.lit undef)), (59, .bx 4 4), (60, aInt x3.no), (61, aBool (!decide (x3.no = (-1)))), (62, aBool (!decide (x3.no = (-1)))), (63, .c (.lit undef)), (64, .c (.lit undef)), (65, .c (.lit undef)), (66, .c (.lit undef)), (67, .c (.lit undef)), (68, .c (.lit undef)), (69, .c (.lit undef)), (70, .c (.lit undef)), (71, .c (.lit undef)), (72, aBool false)]) (obj := [(4, .box [aInt x3.if_.op, aInt x3.if_.var, aInt x3.if_.k, aInt x3.yes, aInt x3.no, aInt x3.ans, .c (.sl false 1 (x3.stone.map (fun n : Int => [cI n])))])]) idn (.cons rfl rfl (.cons rfl rfl (.cons rfl rfl (.cons rfl rfl (.cons rfl rfl (.cons rfl rfl (.cons rfl rfl (.cons rfl rfl (.cons rfl rfl (.cons rfl rfl (.cons rfl rfl (.cons rfl rfl (.cons rfl rfl (.cons rfl rfl (.cons rfl rfl (.cons rfl rfl (.cons rfl rfl (.cons rfl rfl (.cons rfl rfl (.cons rfl rfl (.cons rfl rfl (.cons rfl rfl (.cons rfl rfl (.cons rfl rfl (.cons rfl rfl (.cons rfl rfl (.cons rfl rfl (.cons rfl rfl (.cons rfl rfl (.cons rfl rfl (.cons rfl rfl (.cons rfl rfl (.cons rfl rfl (.cons rfl rfl (.cons rfl rfl (.cons rfl rfl (.cons rfl rfl (.cons rfl rfl (.cons rfl rfl (.cons rfl rfl (.cons rfl rfl .nil))))))))))))))))))))))))))))))))))))))))) (.cons rfl rfl (.inl rfl) .nil) rfl) ?_
                refine acode_region ?_
                refine mv (lb rfl) rfl ?_
                obtain ⟨g20, hm⟩ := gd_some hm
                refine st1 rfl (op_add (lb rfl) g20) (so rfl (so rfl sn)) ?_
                refine as_ (lb rfl) rfl ?_
                refine rg_nil_seq ?_
                refine kblk_normal (kseq_normal ?_)
                refine acode_region ?_
                refine mv (lb rfl) rfl ?_
                obtain ⟨g21, hm⟩ := gd_some hm
                refine st1 rfl (op_add (lb rfl) g21) (so rfl (so rfl sn)) ?_
                refine as_ (lb rfl) rfl ?_
                refine rg_nil_seq ?_
                refine klg_back (n1, ((s1_0 + 1) + 1), (s1_1 + 1)) hm (Nat.lt_succ_self _) ?_
                exact le_stU idn (.cons rfl rfl (.cons rfl rfl (.cons rfl rfl (.cons rfl rfl (.cons rfl rfl (.cons rfl rfl (.cons rfl rfl (.cons rfl rfl (.cons rfl rfl (.cons rfl rfl (.cons rfl rfl (.cons rfl rfl (.cons rfl rfl (.cons rfl rfl (.cons rfl rfl (.cons rfl rfl (.cons rfl rfl (.cons rfl rfl (.cons rfl rfl (.cons rfl rfl (.cons rfl rfl (.cons rfl rfl (.cons rfl rfl (.cons rfl rfl (.cons rfl rfl (.cons rfl rfl (.cons rfl rfl (.cons rfl rfl (.cons rfl rfl (.cons rfl rfl (.cons rfl rfl (.cons rfl rfl (.cons rfl rfl (.cons rfl rfl (.cons rfl rfl (.cons rfl rfl (.cons rfl rfl (.cons rfl rfl (.cons rfl rfl (.cons rfl rfl (.cons rfl rfl .nil))))))))))))))))))))))))))))))))))))))))) (.cons rfl rfl (.inl rfl) .nil) rfl
               ·
                replace hm := ite_f hm c19
                refine acode_cond_false rfl (c19) ?_
                refine acode_skip ?_
                refine kblk_normal (kseq_normal ?_)
                refine acode_region ?_
                refine mv (lb rfl) rfl ?_
                obtain ⟨g22, hm⟩ := gd_some hm
                refine st1 rfl (op_add (lb rfl) g22) (so rfl (so rfl sn)) ?_
                refine as_ (lb rfl) rfl ?_
                refine rg_nil_seq ?_
                refine klg_back (n1, (s1_0 + 1), (s1_1 + 1)) hm (Nat.lt_succ_self _) ?_
                exact le_stU idn (.cons rfl rfl (.cons rfl rfl (.cons rfl rfl (.cons rfl rfl (.cons rfl rfl (.cons rfl rfl (.cons rfl rfl (.cons rfl rfl (.cons rfl rfl (.cons rfl rfl (.cons rfl rfl (.cons rfl rfl (.cons rfl rfl (.cons rfl rfl (.cons rfl rfl (.cons rfl rfl (.cons rfl rfl (.cons rfl rfl (.cons rfl rfl (.cons rfl rfl (.cons rfl rfl (.cons rfl rfl (.cons rfl rfl (.cons rfl rfl (.cons rfl rfl (.cons rfl rfl (.cons rfl rfl (.cons rfl rfl (.cons rfl rfl (.cons rfl rfl (.cons rfl rfl (.cons rfl rfl (.cons rfl rfl (.cons rfl rfl (.cons rfl rfl (.cons rfl rfl (.cons rfl rfl (.cons rfl rfl (.cons rfl rfl (.cons rfl rfl (.cons rfl rfl .nil))))))))))))))))))))))))))))))))))))))))) (.cons rfl rfl (.inl rfl) .nil) rfl
              ·
               replace hm := ite_f hm c16
               refine acode_cond_false rfl (c16) ?_
               refine pk ?_
               refine sr ?_
               refine mv (lb rfl) rfl ?_
               refine mv (lb rfl) rfl ?_
               obtain ⟨x23, hx23, hm⟩ := bnd hm
               refine st1 rfl (op_index_shG (f := (GNode.cells false)) (l := tree) Tryz.underlying35 Tryz.sizeOf168 (lb rfl) hx23) (so rfl (so rfl sn)) ?_
               refine st1 rfl (op_field_pts (off := 4) Tryz.underlying168 Tryz.sizeOf3 rfl rfl rfl rfl (lb rfl)) (so rfl sn) ?_
               refine st1 rfl (op_load_pts Tryz.isAgg3 rfl (lb rfl)) (so rfl sn) ?_
               refine mv (lb rfl) rfl ?_
               refine st1 rfl (op_eql (lb rfl)) (so rfl (so rfl sn)) ?_
               refine nk ?_
               refine acode_split (b := decide (x23.no = s0_0)) (fun c24 => ?_) (fun c24 => ?_)
               ·
                replace hm := ite_t hm c24
                refine acode_cond_true rfl (c24) ?_
                refine acode_le (le_stU (env := [(0, .c (.sl false 7 (tree.map (GNode.cells false)))), (3, aInt s0_0), (5, aInt s1_0), (6, aInt s1_1), (25, .bx 4 5), (26, aInt x3.ans), (27, aBool x6), (28, aBool (!x6)), (31, .bx 4 6), (32, .c (.sl false 1 (x3.stone.map (fun n : Int => [cI n])))), (33, aBool x8), (34, aBool (!x8)), (37, .bx 4 0), (38, .agg [aInt x3.if_.op, aInt x3.if_.var, aInt x3.if_.k]), (39, .bx 4 6), (40, .c (.sl false 1 (x3.stone.map (fun n : Int => [cI n])))), (41, aBool x10), (42, aBool (!x10)), (48, .c (.lit undef)), (49, .c (.lit undef)), (50, .c (.lit undef)), (51, .c (.lit undef)), (52, .c (.lit undef)), (53, .c (.lit undef)), (54, .c (.lit undef)), (55, .c (.lit undef)), (56, .c (.lit undef)), (59, .bx 4 4), (60, aInt x3.no), (61, aBool (!decide (x3.no = (-1)))), (62, aBool (!decide (x3.no = (-1)))), (63, .c (.lit undef)), (64, .c (.lit undef)), (65, .c (.lit undef)), (66, .c (.lit undef)), (67, .c (.lit undef)), (68, .c (.lit undef)), (69, .c (.lit undef)), (70, .c (.lit undef)), (71, .c (.lit undef)), (72, aBool false)]) (obj := [(4, .box [aInt x3.if_.op, aInt x3.if_.var, aInt x3.if_.k, aInt x3.yes, aInt x3.no, aInt x3.ans, .c (.sl false 1 (x3.stone.map (fun n : Int => [cI n])))])]) idn (.cons rfl rfl (.cons rfl rfl (.cons rfl rfl (.cons rfl rfl (.cons rfl rfl (.cons rfl rfl (.cons rfl rfl (.cons rfl rfl (.cons rfl rfl (.cons rfl rfl (.cons rfl rfl (.cons rfl rfl (.cons rfl rfl (.cons rfl rfl (.cons rfl rfl (.cons rfl rfl (.cons rfl rfl (.cons rfl rfl (.cons rfl rfl (.cons rfl rfl (.cons rfl rfl (.cons rfl rfl (.cons rfl rfl (.cons rfl rfl (.cons rfl rfl (.cons rfl rfl (.cons rfl rfl (.cons rfl rfl (.cons rfl rfl (.cons rfl rfl (.cons rfl rfl (.cons rfl rfl (.cons rfl rfl (.cons rfl rfl (.cons rfl rfl (.cons rfl rfl (.cons rfl rfl (.cons rfl rfl (.cons rfl rfl (.cons rfl rfl (.cons rfl rfl .nil))))))))))))))))))))))))))))))))))))))))) (.cons rfl rfl (.inl rfl) .nil) rfl) ?_
                refine acode_region ?_
                refine mv (lb rfl) rfl ?_
                obtain ⟨g25, hm⟩ := gd_some hm
                refine st1 rfl (op_add (lb rfl) g25) (so rfl (so rfl sn)) ?_
                refine as_ (lb rfl) rfl ?_
                refine rg_nil_seq ?_
                refine kblk_normal (kseq_normal ?_)
                refine acode_region ?_
                refine mv (lb rfl) rfl ?_
                obtain ⟨g26, hm⟩ := gd_some hm
                refine st1 rfl (op_add (lb rfl) g26) (so rfl (so rfl sn)) ?_
                refine as_ (lb rfl) rfl ?_
                refine rg_nil_seq ?_
                refine klg_back (n1, (s1_0 + 1), (s1_1 + 1)) hm (Nat.lt_succ_self _) ?_
                exact le_stU idn (.cons rfl rfl (.cons rfl rfl (.cons rfl rfl (.cons rfl rfl (.cons rfl rfl (.cons rfl rfl (.cons rfl rfl (.cons rfl rfl (.cons rfl rfl (.cons rfl rfl (.cons rfl rfl (.cons rfl rfl (.cons rfl rfl (.cons rfl rfl (.cons rfl rfl (.cons rfl rfl (.cons rfl rfl (.cons rfl rfl (.cons rfl rfl (.cons rfl rfl (.cons rfl rfl (.cons rfl rfl (.cons rfl rfl (.cons rfl rfl (.cons rfl rfl (.cons rfl rfl (.cons rfl rfl (.cons rfl rfl (.cons rfl rfl (.cons rfl rfl (.cons rfl rfl (.cons rfl rfl (.cons rfl rfl (.cons rfl rfl (.cons rfl rfl (.cons rfl rfl (.cons rfl rfl (.cons rfl rfl (.cons rfl rfl (.cons rfl rfl (.cons rfl rfl .nil))))))))))))))))))))))))))))))))))))))))) (.cons rfl rfl (.inl rfl) .nil) rfl
               ·
                replace hm := ite_f hm c24
                refine acode_cond_false rfl (c24) ?_
                refine acode_skip ?_
                refine kblk_normal (kseq_normal ?_)
                refine acode_region ?_
                refine mv (lb rfl) rfl ?_
                obtain ⟨g27, hm⟩ := gd_some hm
                refine st1 rfl (op_add (lb rfl) g27) (so rfl (so rfl sn)) ?_
                refine as_ (lb rfl) rfl ?_
                refine rg_nil_seq ?_
                refine klg_back (n1, s1_0, (s1_1 + 1)) hm (Nat.lt_succ_self _) ?_
                exact le_stU idn (.cons rfl rfl (.cons rfl rfl (.cons rfl rfl (.cons rfl rfl (.cons rfl rfl (.cons rfl rfl (.cons rfl rfl (.cons rfl rfl (.cons rfl rfl (.cons rfl rfl (.cons rfl rfl (.cons rfl rfl (.cons rfl rfl (.cons rfl rfl (.cons rfl rfl (.cons rfl rfl (.cons rfl rfl (.cons rfl rfl (.cons rfl rfl (.cons rfl rfl (.cons rfl rfl (.cons rfl rfl (.cons rfl rfl (.cons rfl rfl (.cons rfl rfl (.cons rfl rfl (.cons rfl rfl (.cons rfl rfl (.cons rfl rfl (.cons rfl rfl (.cons rfl rfl (.cons rfl rfl (.cons rfl rfl (.cons rfl rfl (.cons rfl rfl (.cons rfl rfl (.cons rfl rfl (.cons rfl rfl (.cons rfl rfl (.cons rfl rfl (.cons rfl rfl .nil))))))))))))))))))))))))))))))))))))))))) (.cons rfl rfl (.inl rfl) .nil) rfl
             ·
              replace hm := ite_f hm c14
              refine acode_cond_false rfl (c14) ?_
              refine acode_exit ?_
              unfold m_spec_RdrOk_k1 at hm
              refine kseq_exit (klg_exit (kblk_hit (kseq_normal ?_)))
              refine sr ?_
              refine mv (lb rfl) rfl ?_
              refine st1 rfl (op_eql (lb rfl)) (so rfl (so rfl sn)) ?_
              refine mv (lb rfl) rfl ?_
              refine st1 rfl (op_eql (lb rfl)) (so rfl (so rfl sn)) ?_
              refine st1 rfl (op_neqb Tryz.underlying4 (lb rfl)) (so rfl (so rfl sn)) ?_
              refine mv (lb rfl) rfl ?_
              refine rg_split (b := ((decide (s0_0 = 0)) == (decide (s1_0 = 0)))) (fun c28 => ?_) (fun c28 => ?_)
              ·
               replace hm := ite_t hm c28
               refine st1on rfl rfl rfl (not_t (c28)) (op_move (lb rfl)) (so rfl sn) ?_
               refine st1on rfl rfl rfl (not_t (c28)) (op_gtr (lb rfl)) (so rfl (so rfl sn)) ?_
               refine st1 rfl (op_pick_false (lb rfl) (not_t (c28))) (so rfl (so rfl sn)) ?_
               refine nk ?_
               refine acode_split (b := decide (1 < s1_0)) (fun c29 => ?_) (fun c29 => ?_)
               ·
                replace hm := ite_t hm c29
                refine acode_cond_true rfl (c29) ?_
                refine acode_seq ?_
                refine acode_le (le_stU (env := []) (obj := []) idn .nil .nil rfl) ?_
                refine acode_region ?_
                refine as_ (lb rfl) rfl ?_
                refine nkt ?_
                obtain rfl := Option.some.inj hm
                exact kblk_ret (kseq_ret (klg_ret (kblk_ret (kseq_ret (fin2_retL (.cons (.c rfl) .nil) rfl .nil rfl rfl rfl)))))
               ·
                replace hm := ite_f hm c29
                refine acode_cond_false rfl (c29) ?_
                refine acode_skip ?_
                refine kblk_normal (kseq_normal ?_)
                refine acode_region ?_
                refine mv (lb rfl) rfl ?_
                obtain ⟨g30, hm⟩ := gd_some hm
                refine st1 rfl (op_add (lb rfl) g30) (so rfl (so rfl sn)) ?_
                refine as_ (lb rfl) rfl ?_
                refine rg_nil_seq ?_
                refine klg_back (n0, (s0_0 + 1)) hm (Nat.lt_succ_self _) ?_
                exact le_stU idn (.cons rfl rfl (.cons rfl rfl .nil)) .nil rfl
              ·
               replace hm := ite_f hm c28
               refine st1off rfl rfl (lb rfl) rfl rfl (not_f (c28)) ?_
               refine st1off rfl rfl (lb rfl) rfl rfl (not_f (c28)) ?_
               refine st1 rfl (op_pick_true (lb rfl) (not_f (c28))) (so rfl (so rfl sn)) ?_
               refine nk ?_
               refine acode_cond_true rfl (rfl) ?_
               refine sr ?_
               refine as_ (lb rfl) rfl ?_
               refine nkt ?_
               obtain rfl := Option.some.inj hm
               exact kblk_ret (kseq_ret (klg_ret (kblk_ret (kseq_ret (fin2_retL (.cons (.c rfl) .nil) rfl .nil rfl rfl rfl)))))
          ·
           replace hm := ite_f hm c13
           refine st1on rfl rfl rfl (not_f (c13)) (op_field_bx (off := 4) Tryz.underlying168 Tryz.sizeOf3 rfl rfl rfl (lb rfl)) (so rfl (sb rfl sn)) ?_
           refine st1on rfl rfl rfl (not_f (c13)) (op_load_bx Tryz.isAgg3 rfl (lb rfl)) (so rfl (sb rfl sn)) ?_
           refine st1on rfl rfl rfl (not_f (c13)) (op_move (lb rfl)) (so rfl sn) ?_
           obtain ⟨g31, hm⟩ := gd_some hm
           refine st1on rfl rfl rfl (not_f (c13)) (op_add (lb rfl) g31) (so rfl (so rfl sn)) ?_
           refine st1on rfl rfl rfl (not_f (c13)) (op_move (lb rfl)) (so rfl sn) ?_
           refine st1on rfl rfl rfl (not_f (c13)) (op_len_sh (f := (GNode.cells false)) (l := tree) Tryz.underlying35 (lb rfl)) (so rfl sn) ?_
           obtain ⟨g32, hm⟩ := gd_some hm
           refine st1on rfl rfl rfl (not_f (c13)) (op_sub (lb rfl) g32) (so rfl (so rfl sn)) ?_
           obtain ⟨x33, hx33, hm⟩ := bnd hm
           refine st1on rfl rfl rfl (not_f (c13)) (op_call2 (ks := []) Tryz.func85 rfl rfl (c_spec_l1In x3.no (s0_0 + 1) ((tree.length : Int) - 1) x33 hx33) (.cons (.c rfl) (.cons (.c rfl) (.cons (.c rfl) .nil rfl) rfl) rfl) rfl rfl (.inl rfl) .nil rfl rfl (lb rfl)) (sats_opds (.cons rfl (.cons rfl (.cons rfl .nil))) (sats_app (sats_freshL rfl) (sats_needsO obs_nil))) ?_
           refine st1on rfl rfl rfl (not_f (c13)) (op_not (lb rfl)) (so rfl sn) ?_
           refine st1on rfl rfl rfl (rfl) (op_pick_true (lb rfl) (not_f (c13))) (so rfl (so rfl sn)) ?_
           refine st1 rfl (op_pick_false (lb rfl) (rfl)) (so rfl (so rfl sn)) ?_
           refine nk ?_
           refine acode_split (b := x33) (fun c34 => ?_) (fun c34 => ?_)
           ·
            replace hm := ite_t hm c34
            refine acode_cond_false rfl (not_t (c34)) ?_
            refine pk ?_
            refine sr ?_
            refine as_ (lb rfl) rfl ?_
            refine nk ?_
            refine acode_seq ?_
            refine sr ?_
            refine as_ (lb rfl) rfl ?_
            refine nk ?_
            refine acode_block ?_
            refine acode_loopk (xs := [0, 3, 25, 26, 27, 28, 31, 32, 33, 34, 37, 38, 39, 40, 41, 42, 48, 49, 50, 51, 52, 53, 54, 55, 56, 59, 60, 61, 62, 63, 64, 65, 66, 67, 68, 69, 70, 71, 72]) (ys := [4]) (S := Nat × Int × Int) (fun z => [(5, aInt z.2.1), (6, aInt z.2.2)]) (fun z => []) (fun z => m_spec_RdrOk_l2 tree s0_0 (m_spec_RdrOk_k2 s0_0 (m_spec_RdrOk_l0 tree m_spec_RdrOk_k5 n0)) z.1 z.2.1 z.2.2 = some rz) (fun z => z.1) (FUEL, 0, 0) (.cons rfl (.cons rfl (.cons rfl (.cons rfl (.cons rfl (.cons rfl (.cons rfl (.cons rfl (.cons rfl (.cons rfl (.cons rfl (.cons rfl (.cons rfl (.cons rfl (.cons rfl (.cons rfl (.cons rfl (.cons rfl (.cons rfl (.cons rfl (.cons rfl (.cons rfl (.cons rfl (.cons rfl (.cons rfl (.cons rfl (.cons rfl (.cons rfl (.cons rfl (.cons rfl (.cons rfl (.cons rfl (.cons rfl (.cons rfl (.cons rfl (.cons rfl (.cons rfl (.cons rfl (.cons rfl .nil))))))))))))))))))))))))))))))))))))))) (.cons rfl .nil) ?em ?eo rfl ?ei ?round
            case em => exact (.cons rfl rfl (.cons rfl rfl .nil))
            case eo => exact .nil
            case ei => exact hm
            case round =>
             rintro ⟨n2, s2_0, s2_1⟩ hm
             dsimp only at hm ⊢
             cases n2 with
             | zero => rw [m_spec_RdrOk_l2] at hm; cases hm
             | succ n2 =>
              rw [m_spec_RdrOk_l2] at hm
              refine acode_seq ?_
              refine sr ?_
              refine mv (lb rfl) rfl ?_
              refine mv (lb rfl) rfl ?_
              refine st1 rfl (op_len_sh (f := (GNode.cells false)) (l := tree) Tryz.underlying35 (lb rfl)) (so rfl sn) ?_
              refine st1 rfl (op_lss (lb rfl)) (so rfl (so rfl sn)) ?_
              refine nk ?_
              refine acode_split (b := decide (s2_1 < (tree.length : Int))) (fun c35 => ?_) (fun c35 => ?_)
              ·
               replace hm := ite_t hm c35
               refine acode_cond_true rfl (c35) ?_
               refine pk ?_
               refine acode_seq ?_
               refine acode_block ?_
               refine acode_seq ?_
               refine sr ?_
               refine mv (lb rfl) rfl ?_
               refine mv (lb rfl) rfl ?_
               obtain ⟨x36, hx36, hm⟩ := bnd hm
               refine st1 rfl (op_index_shG (f := (GNode.cells false)) (l := tree) Tryz.underlying35 Tryz.sizeOf168 (lb rfl) hx36) (so rfl (so rfl sn)) ?_
               refine st1 rfl (op_field_pts (off := 3) Tryz.underlying168 Tryz.sizeOf3 rfl rfl rfl rfl (lb rfl)) (so rfl sn) ?_
               refine st1 rfl (op_load_pts Tryz.isAgg3 rfl (lb rfl)) (so rfl sn) ?_
               refine mv (lb rfl) rfl ?_
               refine st1 rfl (op_eql (lb rfl)) (so rfl (so rfl sn)) ?_
               refine nk ?_
               refine acode_split (b := decide (x36.yes = s0_0)) (fun c37 => ?_) (fun c37 => ?_)
               ·
                replace hm := ite_t hm c37
                refine acode_cond_true rfl (c37) ?_
                refine acode_region ?_
                refine mv (lb rfl) rfl ?_
                obtain ⟨g38, hm⟩ := gd_some hm
                refine st1 rfl (op_add (lb rfl) g38) (so rfl (so rfl sn)) ?_
                refine as_ (lb rfl) rfl ?_
                refine nk ?_
                refine sr ?_
                refine mv (lb rfl) rfl ?_
                refine mv (lb rfl) rfl ?_
                obtain ⟨x39, hx39, hm⟩ := bnd hm
                refine st1 rfl (op_index_shG (f := (GNode.cells false)) (l := tree) Tryz.underlying35 Tryz.sizeOf168 (lb rfl) hx39) (so rfl (so rfl sn)) ?_
                refine st1 rfl (op_field_pts (off := 4) Tryz.underlying168 Tryz.sizeOf3 rfl rfl rfl rfl (lb rfl)) (so rfl sn) ?_
                refine st1 rfl (op_load_pts Tryz.isAgg3 rfl (lb rfl)) (so rfl sn) ?_
                refine mv (lb rfl) rfl ?_
                refine st1 rfl (op_eql (lb rfl)) (so rfl (so rfl sn)) ?_
                refine nk ?_
                refine acode_split (b := decide (x39.no = s0_0)) (fun c40 => ?_) (fun c40 => ?_)
                ·
                 replace hm := ite_t hm c40
                 refine acode_cond_true rfl (c40) ?_
                 refine acode_le (le_stU (env := [(0, .c (.sl false 7 (tree.map (GNode.cells false)))), (3, aInt s0_0), (5, aInt (s2_0 + 1)), (6, aInt s2_1), (25, .bx 4 5), (26, aInt x3.ans), (27, aBool x6), (28, aBool (!x6)), (31, .bx 4 6), (32, .c (.sl false 1 (x3.stone.map (fun n : Int => [cI n])))), (33, aBool x8), (34, aBool (!x8)), (37, .bx 4 0), (38, .agg [aInt x3.if_.op, aInt x3.if_.var, aInt x3.if_.k]), (39, .bx 4 6), (40, .c (.sl false 1 (x3.stone.map (fun n : Int => [cI n])))), (41, aBool x10), (42, aBool (!x10)), (48, .c (.lit undef)), (49, .c (.lit undef)), (50, .c (.lit undef)), (51, .c (.lit undef)), (52, .c (.lit undef)), (53, .c (.lit undef)), (54, .c (.lit undef)), (55, .c (.lit undef)), (56, .c (.lit undef)), (59, .bx 4 4), (60, aInt x3.no), (61, aBool (!decide (x3.no = (-1)))), (62, aBool (!decide (x3.no = (-1)))), (63, .bx 4 4), (64, aInt x3.no), (65, aInt s0_0), (66, aInt (s0_0 + 1)), (67, .c (.sl false 7 (tree.map (GNode.cells false)))), (68, aInt (tree.length : Int)), (69, aInt ((tree.length : Int) - 1)), (70, aBool x33), (71, aBool (!x33)), (72, aBool (!x33))]) (obj := [(4, .box [aInt x3.if_.op, aInt x3.if_.var, aInt x3.if_.k, aInt x3.yes, aInt x3.no, aInt x3.ans, .c (.sl false 1 (x3.stone.map (fun n : Int => [cI n])))])]) idn (.cons rfl rfl (.cons rfl rfl (.cons rfl rfl (.cons rfl rfl (.cons rfl rfl (.cons rfl rfl (.cons rfl rfl (.cons rfl rfl (.cons rfl rfl (.cons rfl rfl (.cons rfl rfl (.cons rfl rfl (.cons rfl rfl (.cons rfl rfl (.cons rfl rfl (.cons rfl rfl (.cons rfl rfl (.cons rfl rfl (.cons rfl rfl (.cons rfl rfl (.cons rfl rfl (.cons rfl rfl (.cons rfl rfl (.cons rfl rfl (.cons rfl rfl (.cons rfl rfl (.cons rfl rfl (.cons rfl rfl (.cons rfl rfl (.cons rfl rfl (.cons rfl rfl (.cons rfl rfl (.cons rfl rfl (.cons rfl rfl (.cons rfl rfl (.cons rfl rfl (.cons rfl rfl (.cons rfl rfl (.cons rfl rfl (.cons rfl rfl (.cons rfl rfl .nil))))))))))))))))))))))))))))))))))))))))) (.cons rfl rfl (.inl rfl) .nil) rfl) ?_
                 refine acode_region ?_
                 refine mv (lb rfl) rfl ?_
                 obtain ⟨g41, hm⟩ := gd_some hm
                 refine st1 rfl (op_add (lb rfl) g41) (so rfl (so rfl sn)) ?_
                 refine as_ (lb rfl) rfl ?_
                 refine rg_nil_seq ?_
                 refine kblk_normal (kseq_normal ?_)
                 refine acode_region ?_
                 refine mv (lb rfl) rfl ?_
                 obtain ⟨g42, hm⟩ := gd_some hm
                 refine st1 rfl (op_add (lb rfl) g42) (so rfl (so rfl sn)) ?_
                 refine as_ (lb rfl) rfl ?_
                 refine rg_nil_seq ?_
                 refine klg_back (n2, ((s2_0 + 1) + 1), (s2_1 + 1)) hm (Nat.lt_succ_self _) ?_
                 exact le_stU idn (.cons rfl rfl (.cons rfl rfl (.cons rfl rfl (.cons rfl rfl (.cons rfl rfl (.cons rfl rfl (.cons rfl rfl (.cons rfl rfl (.cons rfl rfl (.cons rfl rfl (.cons rfl rfl (.cons rfl rfl (.cons rfl rfl (.cons rfl rfl (.cons rfl rfl (.cons rfl rfl (.cons rfl rfl (.cons rfl rfl (.cons rfl rfl (.cons rfl rfl (.cons rfl rfl (.cons rfl rfl (.cons rfl rfl (.cons rfl rfl (.cons rfl rfl (.cons rfl rfl (.cons rfl rfl (.cons rfl rfl (.cons rfl rfl (.cons rfl rfl (.cons rfl rfl (.cons rfl rfl (.cons rfl rfl (.cons rfl rfl (.cons rfl rfl (.cons rfl rfl (.cons rfl rfl (.cons rfl rfl (.cons rfl rfl (.cons rfl rfl (.cons rfl rfl .nil))))))))))))))))))))))))))))))))))))))))) (.cons rfl rfl (.inl rfl) .nil) rfl
                ·
                 replace hm := ite_f hm c40
                 refine acode_cond_false rfl (c40) ?_
                 refine acode_skip ?_
                 refine kblk_normal (kseq_normal ?_)
                 refine acode_region ?_
                 refine mv (lb rfl) rfl ?_
                 obtain ⟨g43, hm⟩ := gd_some hm
                 refine st1 rfl (op_add (lb rfl) g43) (so rfl (so rfl sn)) ?_
                 refine as_ (lb rfl) rfl ?_
                 refine rg_nil_seq ?_
                 refine klg_back (n2, (s2_0 + 1), (s2_1 + 1)) hm (Nat.lt_succ_self _) ?_
                 exact le_stU idn (.cons rfl rfl (.cons rfl rfl (.cons rfl rfl (.cons rfl rfl (.cons rfl rfl (.cons rfl rfl (.cons rfl rfl (.cons rfl rfl (.cons rfl rfl (.cons rfl rfl (.cons rfl rfl (.cons rfl rfl (.cons rfl rfl (.cons rfl rfl (.cons rfl rfl (.cons rfl rfl (.cons rfl rfl (.cons rfl rfl (.cons rfl rfl (.cons rfl rfl (.cons rfl rfl (.cons rfl rfl (.cons rfl rfl (.cons rfl rfl (.cons rfl rfl (.cons rfl rfl (.cons rfl rfl (.cons rfl rfl (.cons rfl rfl (.cons rfl rfl (.cons rfl rfl (.cons rfl rfl (.cons rfl rfl (.cons rfl rfl (.cons rfl rfl (.cons rfl rfl (.cons rfl rfl (.cons rfl rfl (.cons rfl rfl (.cons rfl rfl (.cons rfl rfl .nil))))))))))))))))))))))))))))))))))))))))) (.cons rfl rfl (.inl rfl) .nil) rfl
               ·
                replace hm := ite_f hm c37
                refine acode_cond_false rfl (c37) ?_
                refine pk ?_
                refine sr ?_
                refine mv (lb rfl) rfl ?_
                refine mv (lb rfl) rfl ?_
                obtain ⟨x44, hx44, hm⟩ := bnd hm
                refine st1 rfl (op_index_shG (f := (GNode.cells false)) (l := tree) Tryz.underlying35 Tryz.sizeOf168 (lb rfl) hx44) (so rfl (so rfl sn)) ?_
                refine st1 rfl (op_field_pts (off := 4) Tryz.underlying168 Tryz.sizeOf3 rfl rfl rfl rfl (lb rfl)) (so rfl sn) ?_
                refine st1 rfl (op_load_pts Tryz.isAgg3 rfl (lb rfl)) (so rfl sn) ?_
                refine mv (lb rfl) rfl ?_
                refine st1 rfl (op_eql (lb rfl)) (so rfl (so rfl sn)) ?_
                refine nk ?_
                refine acode_split (b := decide (x44.no = s0_0)) (fun c45 => ?_) (fun c45 => ?_)
                ·
                 replace hm := ite_t hm c45
                 refine acode_cond_true rfl (c45) ?_
                 refine acode_le (le_stU (env := [(0, .c (.sl false 7 (tree.map (GNode.cells false)))), (3, aInt s0_0), (5, aInt s2_0), (6, aInt s2_1), (25, .bx 4 5), (26, aInt x3.ans), (27, aBool x6), (28, aBool (!x6)), (31, .bx 4 6), (32, .c (.sl false 1 (x3.stone.map (fun n : Int => [cI n])))), (33, aBool x8), (34, aBool (!x8)), (37, .bx 4 0), (38, .agg [aInt x3.if_.op, aInt x3.if_.var, aInt x3.if_.k]), (39, .bx 4 6), (40, .c (.sl false 1 (x3.stone.map (fun n : Int => [cI n])))), (41, aBool x10), (42, aBool (!x10)), (48, .c (.lit undef)), (49, .c (.lit undef)), (50, .c (.lit undef)), (51, .c (.lit undef)), (52, .c (.lit undef)), (53, .c (.lit undef)), (54, .c (.lit undef)), (55, .c (.lit undef)), (56, .c (.lit undef)), (59, .bx 4 4), (60, aInt x3.no), (61, aBool (!decide (x3.no = (-1)))), (62, aBool (!decide (x3.no = (-1)))), (63, .bx 4 4), (64, aInt x3.no), (65, aInt s0_0), (66, aInt (s0_0 + 1)), (67, .c (.sl false 7 (tree.map (GNode.cells false)))), (68, aInt (tree.length : Int)), (69, aInt ((tree.length : Int) - 1)), (70, aBool x33), (71, aBool (!x33)), (72, aBool (!x33))]) (obj := [(4, .box [aInt x3.if_.op, aInt x3.if_.var, aInt x3.if_.k, aInt x3.yes, aInt x3.no, aInt x3.ans, .c (.sl false 1 (x3.stone.map (fun n : Int => [cI n])))])]) idn (.cons rfl rfl (.cons rfl rfl (.cons rfl rfl (.cons rfl rfl (.cons rfl rfl (.cons rfl rfl (.cons rfl rfl (.cons rfl rfl (.cons rfl rfl (.cons rfl rfl (.cons rfl rfl (.cons rfl rfl (.cons rfl rfl (.cons rfl rfl (.cons rfl rfl (.cons rfl rfl (.cons rfl rfl (.cons rfl rfl (.cons rfl rfl (.cons rfl rfl (.cons rfl rfl (.cons rfl rfl (.cons rfl rfl (.cons rfl rfl (.cons rfl rfl (.cons rfl rfl (.cons rfl rfl (.cons rfl rfl (.cons rfl rfl (.cons rfl rfl (.cons rfl rfl (.cons rfl rfl (.cons rfl rfl (.cons rfl rfl (.cons rfl rfl (.cons rfl rfl (.cons rfl rfl (.cons rfl rfl (.cons rfl rfl (.cons rfl rfl (.cons rfl rfl .nil))))))))))))))))))))))))))))))))))))))))) (.cons rfl rfl (.inl rfl) .nil) rfl) ?_
                 refine acode_region ?_
                 refine mv (lb rfl) rfl ?_
                 obtain ⟨g46, hm⟩ := gd_some hm
                 refine st1 rfl (op_add (lb rfl) g46) (so rfl (so rfl sn)) ?_
                 refine as_ (lb rfl) rfl ?_
                 refine rg_nil_seq ?_
                 refine kblk_normal (kseq_normal ?_)
                 refine acode_region ?_
                 refine mv (lb rfl) rfl ?_
                 obtain ⟨g47, hm⟩ := gd_some hm
                 refine st1 rfl (op_add (lb rfl) g47) (so rfl (so rfl sn)) ?_
                 refine as_ (lb rfl) rfl ?_
                 refine rg_nil_seq ?_
                 refine klg_back (n2, (s2_0 + 1), (s2_1 + 1)) hm (Nat.lt_succ_self _) ?_
                 exact le_stU idn (.cons rfl rfl (.cons rfl rfl (.cons rfl rfl (.cons rfl rfl (.cons rfl rfl (.cons rfl rfl (.cons rfl rfl (.cons rfl rfl (.cons rfl rfl (.cons rfl rfl (.cons rfl rfl (.cons rfl rfl (.cons rfl rfl (.cons rfl rfl (.cons rfl rfl (.cons rfl rfl (.cons rfl rfl (.cons rfl rfl (.cons rfl rfl (.cons rfl rfl (.cons rfl rfl (.cons rfl rfl (.cons rfl rfl (.cons rfl rfl (.cons rfl rfl (.cons rfl rfl (.cons rfl rfl (.cons rfl rfl (.cons rfl rfl (.cons rfl rfl (.cons rfl rfl (.cons rfl rfl (.cons rfl rfl (.cons rfl rfl (.cons rfl rfl (.cons rfl rfl (.cons rfl rfl (.cons rfl rfl (.cons rfl rfl (.cons rfl rfl (.cons rfl rfl .nil))))))))))))))))))))))))))))))))))))))))) (.cons rfl rfl (.inl rfl) .nil) rfl
                ·
                 replace hm := ite_f hm c45
                 refine acode_cond_false rfl (c45) ?_
                 refine acode_skip ?_
                 refine kblk_normal (kseq_normal ?_)
                 refine acode_region ?_
                 refine mv (lb rfl) rfl ?_
                 obtain ⟨g48, hm⟩ := gd_some hm
                 refine st1 rfl (op_add (lb rfl) g48) (so rfl (so rfl sn)) ?_
                 refine as_ (lb rfl) rfl ?_
                 refine rg_nil_seq ?_
                 refine klg_back (n2, s2_0, (s2_1 + 1)) hm (Nat.lt_succ_self _) ?_
                 exact le_stU idn (.cons rfl rfl (.cons rfl rfl (.cons rfl rfl (.cons rfl rfl (.cons rfl rfl (.cons rfl rfl (.cons rfl rfl (.cons rfl rfl (.cons rfl rfl (.cons rfl rfl (.cons rfl rfl (.cons rfl rfl (.cons rfl rfl (.cons rfl rfl (.cons rfl rfl (.cons rfl rfl (.cons rfl rfl (.cons rfl rfl (.cons rfl rfl (.cons rfl rfl (.cons rfl rfl (.cons rfl rfl (.cons rfl rfl (.cons rfl rfl (.cons rfl rfl (.cons rfl rfl (.cons rfl rfl (.cons rfl rfl (.cons rfl rfl (.cons rfl rfl (.cons rfl rfl (.cons rfl rfl (.cons rfl rfl (.cons rfl rfl (.cons rfl rfl (.cons rfl rfl (.cons rfl rfl (.cons rfl rfl (.cons rfl rfl (.cons rfl rfl (.cons rfl rfl .nil))))))))))))))))))))))))))))))))))))))))) (.cons rfl rfl (.inl rfl) .nil) rfl
              ·
               replace hm := ite_f hm c35
               refine acode_cond_false rfl (c35) ?_
               refine acode_exit ?_
               unfold m_spec_RdrOk_k2 at hm
               refine kseq_exit (klg_exit (kblk_hit (kseq_normal ?_)))
               refine sr ?_
               refine mv (lb rfl) rfl ?_
               refine st1 rfl (op_eql (lb rfl)) (so rfl (so rfl sn)) ?_
               refine mv (lb rfl) rfl ?_
               refine st1 rfl (op_eql (lb rfl)) (so rfl (so rfl sn)) ?_
               refine st1 rfl (op_neqb Tryz.underlying4 (lb rfl)) (so rfl (so rfl sn)) ?_
               refine mv (lb rfl) rfl ?_
               refine rg_split (b := ((decide (s0_0 = 0)) == (decide (s2_0 = 0)))) (fun c49 => ?_) (fun c49 => ?_)
               ·
                replace hm := ite_t hm c49
                refine st1on rfl rfl rfl (not_t (c49)) (op_move (lb rfl)) (so rfl sn) ?_
                refine st1on rfl rfl rfl (not_t (c49)) (op_gtr (lb rfl)) (so rfl (so rfl sn)) ?_
                refine st1 rfl (op_pick_false (lb rfl) (not_t (c49))) (so rfl (so rfl sn)) ?_
                refine nk ?_
                refine acode_split (b := decide (1 < s2_0)) (fun c50 => ?_) (fun c50 => ?_)
                ·
                 replace hm := ite_t hm c50
                 refine acode_cond_true rfl (c50) ?_
                 refine acode_seq ?_
                 refine acode_le (le_stU (env := []) (obj := []) idn .nil .nil rfl) ?_
                 refine acode_region ?_
                 refine as_ (lb rfl) rfl ?_
                 refine nkt ?_
                 obtain rfl := Option.some.inj hm
                 exact kblk_ret (kseq_ret (klg_ret (kblk_ret (kseq_ret (fin2_retL (.cons (.c rfl) .nil) rfl .nil rfl rfl rfl)))))
                ·
                 replace hm := ite_f hm c50
                 refine acode_cond_false rfl (c50) ?_
                 refine acode_skip ?_
                 refine kblk_normal (kseq_normal ?_)
                 refine acode_region ?_
                 refine mv (lb rfl) rfl ?_
                 obtain ⟨g51, hm⟩ := gd_some hm
                 refine st1 rfl (op_add (lb rfl) g51) (so rfl (so rfl sn)) ?_
                 refine as_ (lb rfl) rfl ?_
                 refine rg_nil_seq ?_
                 refine klg_back (n0, (s0_0 + 1)) hm (Nat.lt_succ_self _) ?_
                 exact le_stU idn (.cons rfl rfl (.cons rfl rfl .nil)) .nil rfl
               ·
                replace hm := ite_f hm c49
                refine st1off rfl rfl (lb rfl) rfl rfl (not_f (c49)) ?_
                refine st1off rfl rfl (lb rfl) rfl rfl (not_f (c49)) ?_
                refine st1 rfl (op_pick_true (lb rfl) (not_f (c49))) (so rfl (so rfl sn)) ?_
                refine nk ?_
                refine acode_cond_true rfl (rfl) ?_
                refine sr ?_
                refine as_ (lb rfl) rfl ?_
                refine nkt ?_
                obtain rfl := Option.some.inj hm
                exact kblk_ret (kseq_ret (klg_ret (kblk_ret (kseq_ret (fin2_retL (.cons (.c rfl) .nil) rfl .nil rfl rfl rfl)))))
           ·
            replace hm := ite_f hm c34
            refine acode_cond_true rfl (not_f (c34)) ?_
            refine sr ?_
            refine as_ (lb rfl) rfl ?_
            refine nkt ?_
            obtain rfl := Option.some.inj hm
            exact kseq_ret (kblk_ret (kseq_ret (klg_ret (kblk_ret (kseq_ret (fin2_retL (.cons (.c rfl) .nil) rfl .nil rfl rfl rfl))))))
         ·
          replace hm := ite_f hm c12
          refine st1on rfl rfl rfl (not_f (c12)) (op_field_bx (off := 3) Tryz.underlying168 Tryz.sizeOf3 rfl rfl rfl (lb rfl)) (so rfl (sb rfl sn)) ?_
          refine st1on rfl rfl rfl (not_f (c12)) (op_load_bx Tryz.isAgg3 rfl (lb rfl)) (so rfl (sb rfl sn)) ?_
          refine st1on rfl rfl rfl (not_f (c12)) (op_move (lb rfl)) (so rfl sn) ?_
          obtain ⟨g52, hm⟩ := gd_some hm
          refine st1on rfl rfl rfl (not_f (c12)) (op_add (lb rfl) g52) (so rfl (so rfl sn)) ?_
          refine st1on rfl rfl rfl (not_f (c12)) (op_move (lb rfl)) (so rfl sn) ?_
          refine st1on rfl rfl rfl (not_f (c12)) (op_len_sh (f := (GNode.cells false)) (l := tree) Tryz.underlying35 (lb rfl)) (so rfl sn) ?_
          obtain ⟨g53, hm⟩ := gd_some hm
          refine st1on rfl rfl rfl (not_f (c12)) (op_sub (lb rfl) g53) (so rfl (so rfl sn)) ?_
          obtain ⟨x54, hx54, hm⟩ := bnd hm
          refine st1on rfl rfl rfl (not_f (c12)) (op_call2 (ks := []) Tryz.func85 rfl rfl (c_spec_l1In x3.yes (s0_0 + 1) ((tree.length : Int) - 1) x54 hx54) (.cons (.c rfl) (.cons (.c rfl) (.cons (.c rfl) .nil rfl) rfl) rfl) rfl rfl (.inl rfl) .nil rfl rfl (lb rfl)) (sats_opds (.cons rfl (.cons rfl (.cons rfl .nil))) (sats_app (sats_freshL rfl) (sats_needsO obs_nil))) ?_
          refine st1on rfl rfl rfl (not_f (c12)) (op_not (lb rfl)) (so rfl sn) ?_
          refine st1 rfl (op_pick_true (lb rfl) (not_f (c12))) (so rfl (so rfl sn)) ?_
          refine mv (lb rfl) rfl ?_
          refine rg_split (b := x54) (fun c55 => ?_) (fun c55 => ?_)
          ·
           replace hm := ite_t hm c55
           refine st1on rfl rfl rfl (not_t (c55)) (op_field_bx (off := 4) Tryz.underlying168 Tryz.sizeOf3 rfl rfl rfl (lb rfl)) (so rfl (sb rfl sn)) ?_
           refine st1on rfl rfl rfl (not_t (c55)) (op_load_bx Tryz.isAgg3 rfl (lb rfl)) (so rfl (sb rfl sn)) ?_
           refine st1on rfl rfl rfl (not_t (c55)) (op_neq (lb rfl)) (so rfl (so rfl sn)) ?_
           refine st1on rfl rfl rfl (not_t (c55)) (op_move (lb rfl)) (so rfl sn) ?_
           refine rg_split (b := decide (x3.no = (-1))) (fun c56 => ?_) (fun c56 => ?_)
           ·
            replace hm := ite_t hm c56
            refine st1off rfl rfl (lb rfl) rfl rfl (not_t (c56)) ?_
            refine st1off rfl rfl (lb rfl) rfl rfl (not_t (c56)) ?_
            refine st1off rfl rfl (lb rfl) rfl rfl (not_t (c56)) ?_
            refine st1off rfl rfl (lb rfl) rfl rfl (not_t (c56)) ?_
            refine st1off rfl rfl (lb rfl) rfl rfl (not_t (c56)) ?_
            refine st1off rfl rfl (lb rfl) rfl rfl (not_t (c56)) ?_
            refine st1off rfl rfl (lb rfl) rfl rfl (not_t (c56)) ?_
            refine st1off rfl rfl (lb rfl) rfl rfl (not_t (c56)) ?_
            refine st1off rfl rfl (lb rfl) rfl rfl (not_t (c56)) ?_
            refine st1on rfl rfl rfl (not_t (c55)) (op_pick_false (lb rfl) (not_t (c56))) (so rfl (so rfl sn)) ?_
            refine st1 rfl (op_pick_false (lb rfl) (not_t (c55))) (so rfl (so rfl sn)) ?_
            refine nk ?_
            refine acode_cond_false rfl (rfl) ?_
            refine pk ?_
            refine sr ?_
            refine as_ (lb rfl) rfl ?_
            refine nk ?_
            refine acode_seq ?_
            refine sr ?_
            refine as_ (lb rfl) rfl ?_
            refine nk ?_
            refine acode_block ?_
            refine acode_loopk (xs := [0, 3, 25, 26, 27, 28, 31, 32, 33, 34, 37, 38, 39, 40, 41, 42, 48, 49, 50, 51, 52, 53, 54, 55, 56, 59, 60, 61, 62, 63, 64, 65, 66, 67, 68, 69, 70, 71, 72]) (ys := [4]) (S := Nat × Int × Int) (fun z => [(5, aInt z.2.1), (6, aInt z.2.2)]) (fun z => []) (fun z => m_spec_RdrOk_l3 tree s0_0 (m_spec_RdrOk_k3 s0_0 (m_spec_RdrOk_l0 tree m_spec_RdrOk_k5 n0)) z.1 z.2.1 z.2.2 = some rz) (fun z => z.1) (FUEL, 0, 0) (.cons rfl (.cons rfl (.cons rfl (.cons rfl (.cons rfl (.cons rfl (.cons rfl (.cons rfl (.cons rfl (.cons rfl (.cons rfl (.cons rfl (.cons rfl (.cons rfl (.cons rfl (.cons rfl (.cons rfl (.cons rfl (.cons rfl (.cons rfl (.cons rfl (.cons rfl (.cons rfl (.cons rfl (.cons rfl (.cons rfl (.cons rfl (.cons rfl (.cons rfl (.cons rfl (.cons rfl (.cons rfl (.cons rfl (.cons rfl (.cons rfl (.cons rfl (.cons rfl (.cons rfl (.cons rfl .nil))))))))))))))))))))))))))))))))))))))) (.cons rfl .nil) ?em ?eo rfl ?ei ?round
            case em => exact (.cons rfl rfl (.cons rfl rfl .nil))
            case eo => exact .nil
            case ei => exact hm
            case round =>
             rintro ⟨n3, s3_0, s3_1⟩ hm
             dsimp only at hm ⊢
             cases n3 with
             | zero => rw [m_spec_RdrOk_l3] at hm; cases hm
             | succ n3 =>
              rw [m_spec_RdrOk_l3] at hm
              refine acode_seq ?_
              refine sr ?_
              refine mv (lb rfl) rfl ?_
              refine mv (lb rfl) rfl ?_
              refine st1 rfl (op_len_sh (f := (GNode.cells false)) (l := tree) Tryz.underlying35 (lb rfl)) (so rfl sn) ?_
              refine st1 rfl (op_lss (lb rfl)) (so rfl (so rfl sn)) ?_
              refine nk ?_
              refine acode_split (b := decide (s3_1 < (tree.length : Int))) (fun c57 => ?_) (fun c57 => ?_)
              ·
               replace hm := ite_t hm c57
               refine acode_cond_true rfl (c57) ?_
               refine pk ?_
               refine acode_seq ?_
               refine acode_block ?_
               refine acode_seq ?_
               refine sr ?_
               refine mv (lb rfl) rfl ?_
               refine mv (lb rfl) rfl ?_
               obtain ⟨x58, hx58, hm⟩ := bnd hm
               refine st1 rfl (op_index_shG (f := (GNode.cells false)) (l := tree) Tryz.underlying35 Tryz.sizeOf168 (lb rfl) hx58) (so rfl (so rfl sn)) ?_
               refine st1 rfl (op_field_pts (off := 3) Tryz.underlying168 Tryz.sizeOf3 rfl rfl rfl rfl (lb rfl)) (so rfl sn) ?_
               refine st1 rfl (op_load_pts Tryz.isAgg3 rfl (lb rfl)) (so rfl sn) ?_
               refine mv (lb rfl) rfl ?_
               refine st1 rfl (op_eql (lb rfl)) (so rfl (so rfl sn)) ?_
               refine nk ?_
               refine acode_split (b := decide (x58.yes = s0_0)) (fun c59 => ?_) (fun c59 => ?_)
               ·
                replace hm := ite_t hm c59
                refine acode_cond_true rfl (c59) ?_
                refine acode_region ?_
                refine mv (lb rfl) rfl ?_
                obtain ⟨g60, hm⟩ := gd_some hm
                refine st1 rfl (op_add (lb rfl) g60) (so rfl (so rfl sn)) ?_
                refine as_ (lb rfl) rfl ?_
                refine nk ?_
                refine sr ?_
                refine mv (lb rfl) rfl ?_
                refine mv (lb rfl) rfl ?_
                obtain ⟨x61, hx61, hm⟩ := bnd hm
                refine st1 rfl (op_index_shG (f := (GNode.cells false)) (l := tree) Tryz.underlying35 Tryz.sizeOf168 (lb rfl) hx61) (so rfl (so rfl sn)) ?_
                refine st1 rfl (op_field_pts (off := 4) Tryz.underlying168 Tryz.sizeOf3 rfl rfl rfl rfl (lb rfl)) (so rfl sn) ?_
                refine st1 rfl (op_load_pts Tryz.isAgg3 rfl (lb rfl)) (so rfl sn) ?_
                refine mv (lb rfl) rfl ?_
                refine st1 rfl (op_eql (lb rfl)) (so rfl (so rfl sn)) ?_
                refine nk ?_
                refine acode_split (b := decide (x61.no = s0_0)) (fun c62 => ?_) (fun c62 => ?_)
                ·
                 replace hm := ite_t hm c62
                 refine acode_cond_true rfl (c62) ?_
                 refine acode_le (le_stU (env := [(0, .c (.sl false 7 (tree.map (GNode.cells false)))), (3, aInt s0_0), (5, aInt (s3_0 + 1)), (6, aInt s3_1), (25, .bx 4 5), (26, aInt x3.ans), (27, aBool x6), (28, aBool (!x6)), (31, .bx 4 6), (32, .c (.sl false 1 (x3.stone.map (fun n : Int => [cI n])))), (33, aBool x8), (34, aBool (!x8)), (37, .bx 4 0), (38, .agg [aInt x3.if_.op, aInt x3.if_.var, aInt x3.if_.k]), (39, .bx 4 6), (40, .c (.sl false 1 (x3.stone.map (fun n : Int => [cI n])))), (41, aBool x10), (42, aBool (!x10)), (48, .bx 4 3), (49, aInt x3.yes), (50, aInt s0_0), (51, aInt (s0_0 + 1)), (52, .c (.sl false 7 (tree.map (GNode.cells false)))), (53, aInt (tree.length : Int)), (54, aInt ((tree.length : Int) - 1)), (55, aBool x54), (56, aBool (!x54)), (59, .bx 4 4), (60, aInt x3.no), (61, aBool (!decide (x3.no = (-1)))), (62, aBool (!decide (x3.no = (-1)))), (63, .c (.lit undef)), (64, .c (.lit undef)), (65, .c (.lit undef)), (66, .c (.lit undef)), (67, .c (.lit undef)), (68, .c (.lit undef)), (69, .c (.lit undef)), (70, .c (.lit undef)), (71, .c (.lit undef)), (72, aBool false)]) (obj := [(4, .box [aInt x3.if_.op, aInt x3.if_.var, aInt x3.if_.k, aInt x3.yes, aInt x3.no, aInt x3.ans, .c (.sl false 1 (x3.stone.map (fun n : Int => [cI n])))])]) idn (.cons rfl rfl (.cons rfl rfl (.cons rfl rfl (.cons rfl rfl (.cons rfl rfl (.cons rfl rfl (.cons rfl rfl (.cons rfl rfl (.cons rfl rfl (.cons rfl rfl (.cons rfl rfl (.cons rfl rfl (.cons rfl rfl (.cons rfl rfl (.cons rfl rfl (.cons rfl rfl (.cons rfl rfl (.cons rfl rfl (.cons rfl rfl (.cons rfl rfl (.cons rfl rfl (.cons rfl rfl (.cons rfl rfl (.cons rfl rfl (.cons rfl rfl (.cons rfl rfl (.cons rfl rfl (.cons rfl rfl (.cons rfl rfl (.cons rfl rfl (.cons rfl rfl (.cons rfl rfl (.cons rfl rfl (.cons rfl rfl (.cons rfl rfl (.cons rfl rfl (.cons rfl rfl (.cons rfl rfl (.cons rfl rfl (.cons rfl rfl (.cons rfl rfl .nil))))))))))))))))))))))))))))))))))))))))) (.cons rfl rfl (.inl rfl) .nil) rfl) ?_
                 refine acode_region ?_
                 refine mv (lb rfl) rfl ?_
                 obtain ⟨g63, hm⟩ := gd_some hm
                 refine st1 rfl (op_add (lb rfl) g63) (so rfl (so rfl sn)) ?_
                 refine as_ (lb rfl) rfl ?_
                 refine rg_nil_seq ?_
                 refine kblk_normal (kseq_normal ?_)
                 refine acode_region ?_
                 refine mv (lb rfl) rfl ?_
                 obtain ⟨g64, hm⟩ := gd_some hm
                 refine st1 rfl (op_add (lb rfl) g64) (so rfl (so rfl sn)) ?_
                 refine as_ (lb rfl) rfl ?_
                 refine rg_nil_seq ?_
                 refine klg_back (n3, ((s3_0 + 1) + 1), (s3_1 + 1)) hm (Nat.lt_succ_self _) ?_
                 exact le_stU idn (.cons rfl rfl (.cons rfl rfl (.cons rfl rfl (.cons rfl rfl (.cons rfl rfl (.cons rfl rfl (.cons rfl rfl (.cons rfl rfl (.cons rfl rfl (.cons rfl rfl (.cons rfl rfl (.cons rfl rfl (.cons rfl rfl (.cons rfl rfl (.cons rfl rfl (.cons rfl rfl (.cons rfl rfl (.cons rfl rfl (.cons rfl rfl (.cons rfl rfl (.cons rfl rfl (.cons rfl rfl (.cons rfl rfl (.cons rfl rfl (.cons rfl rfl (.cons rfl rfl (.cons rfl rfl (.cons rfl rfl (.cons rfl rfl (.cons rfl rfl (.cons rfl rfl (.cons rfl rfl (.cons rfl rfl (.cons rfl rfl (.cons rfl rfl (.cons rfl rfl (.cons rfl rfl (.cons rfl rfl (.cons rfl rfl (.cons rfl rfl (.cons rfl rfl .nil))))))))))))))))))))))))))))))))))))))))) (.cons rfl rfl (.inl rfl) .nil) rfl
                ·
                 replace hm := ite_f hm c62
                 refine acode_cond_false rfl (c62) ?_
                 refine acode_skip ?_
                 refine kblk_normal (kseq_normal ?_)
                 refine acode_region ?_
                 refine mv (lb rfl) rfl ?_
                 obtain ⟨g65, hm⟩ := gd_some hm
                 refine st1 rfl (op_add (lb rfl) g65) (so rfl (so rfl sn)) ?_
                 refine as_ (lb rfl) rfl ?_
                 refine rg_nil_seq ?_
                 refine klg_back (n3, (s3_0 + 1), (s3_1 + 1)) hm (Nat.lt_succ_self _) ?_
                 exact le_stU idn (.cons rfl rfl (.cons rfl rfl (.cons rfl rfl (.cons rfl rfl (.cons rfl rfl (.cons rfl rfl (.cons rfl rfl (.cons rfl rfl (.cons rfl rfl (.cons rfl rfl (.cons rfl rfl (.cons rfl rfl (.cons rfl rfl (.cons rfl rfl (.cons rfl rfl (.cons rfl rfl (.cons rfl rfl (.cons rfl rfl (.cons rfl rfl (.cons rfl rfl (.cons rfl rfl (.cons rfl rfl (.cons rfl rfl (.cons rfl rfl (.cons rfl rfl (.cons rfl rfl (.cons rfl rfl (.cons rfl rfl (.cons rfl rfl (.cons rfl rfl (.cons rfl rfl (.cons rfl rfl (.cons rfl rfl (.cons rfl rfl (.cons rfl rfl (.cons rfl rfl (.cons rfl rfl (.cons rfl rfl (.cons rfl rfl (.cons rfl rfl (.cons rfl rfl .nil))))))))))))))))))))))))))))))))))))))))) (.cons rfl rfl (.inl rfl) .nil) rfl
               ·
                replace hm := ite_f hm c59
                refine acode_cond_false rfl (c59) ?_
                refine pk ?_
                refine sr ?_
                refine mv (lb rfl) rfl ?_
                refine mv (lb rfl) rfl ?_
                obtain ⟨x66, hx66, hm⟩ := bnd hm
                refine st1 rfl (op_index_shG (f := (GNode.cells false)) (l := tree) Tryz.underlying35 Tryz.sizeOf168 (lb rfl) hx66) (so rfl (so rfl sn)) ?_
                refine st1 rfl (op_field_pts (off := 4) Tryz.underlying168 Tryz.sizeOf3 rfl rfl rfl rfl (lb rfl)) (so rfl sn) ?_
                refine st1 rfl (op_load_pts Tryz.isAgg3 rfl (lb rfl)) (so rfl sn) ?_
                refine mv (lb rfl) rfl ?_
                refine st1 rfl (op_eql (lb rfl)) (so rfl (so rfl sn)) ?_
                refine nk ?_
                refine acode_split (b := decide (x66.no = s0_0)) (fun c67 => ?_) (fun c67 => ?_)
                ·
                 replace hm := ite_t hm c67
                 refine acode_cond_true rfl (c67) ?_
                 refine acode_le (le_stU (env := [(0, .c (.sl false 7 (tree.map (GNode.cells false)))), (3, aInt s0_0), (5, aInt s3_0), (6, aInt s3_1), (25, .bx 4 5), (26, aInt x3.ans), (27, aBool x6), (28, aBool (!x6)), (31, .bx 4 6), (32, .c (.sl false 1 (x3.stone.map (fun n : Int => [cI n])))), (33, aBool x8), (34, aBool (!x8)), (37, .bx 4 0), (38, .agg [aInt x3.if_.op, aInt x3.if_.var, aInt x3.if_.k]), (39, .bx 4 6), (40, .c (.sl false 1 (x3.stone.map (fun n : Int => [cI n])))), (41, aBool x10), (42, aBool (!x10)), (48, .bx 4 3), (49, aInt x3.yes), (50, aInt s0_0), (51, aInt (s0_0 + 1)), (52, .c (.sl false 7 (tree.map (GNode.cells false)))), (53, aInt (tree.length : Int)), (54, aInt ((tree.length : Int) - 1)), (55, aBool x54), (56, aBool (!x54)), (59, .bx 4 4), (60, aInt x3.no), (61, aBool (!decide (x3.no = (-1)))), (62, aBool (!decide (x3.no = (-1)))), (63, .c (.lit undef)), (64, .c (.lit undef)), (65, .c (.lit undef)), (66, .c (.lit undef)), (67, .c (.lit undef)), (68, .c (.lit undef)), (69, .c (.lit undef)), (70, .c (.lit undef)), (71, .c (.lit undef)), (72, aBool false)]) (obj := [(4, .box [aInt x3.if_.op, aInt x3.if_.var, aInt x3.if_.k, aInt x3.yes, aInt x3.no, aInt x3.ans, .c (.sl false 1 (x3.stone.map (fun n : Int => [cI n])))])]) idn (.cons rfl rfl (.cons rfl rfl (.cons rfl rfl (.cons rfl rfl (.cons rfl rfl (.cons rfl rfl (.cons rfl rfl (.cons rfl rfl (.cons rfl rfl (.cons rfl rfl (.cons rfl rfl (.cons rfl rfl (.cons rfl rfl (.cons rfl rfl (.cons rfl rfl (.cons rfl rfl (.cons rfl rfl (.cons rfl rfl (.cons rfl rfl (.cons rfl rfl (.cons rfl rfl (.cons rfl rfl (.cons rfl rfl (.cons rfl rfl (.cons rfl rfl (.cons rfl rfl (.cons rfl rfl (.cons rfl rfl (.cons rfl rfl (.cons rfl rfl (.cons rfl rfl (.cons rfl rfl (.cons rfl rfl (.cons rfl rfl (.cons rfl rfl (.cons rfl rfl (.cons rfl rfl (.cons rfl rfl (.cons rfl rfl (.cons rfl rfl (.cons rfl rfl .nil))))))))))))))))))))))))))))))))))))))))) (.cons rfl rfl (.inl rfl) .nil) rfl) ?_
                 refine acode_region ?_
                 refine mv (lb rfl) rfl ?_
                 obtain ⟨g68, hm⟩ := gd_some hm
                 refine st1 rfl (op_add (lb rfl) g68) (so rfl (so rfl sn)) ?_
                 refine as_ (lb rfl) rfl ?_
                 refine rg_nil_seq ?_
                 refine kblk_normal (kseq_normal ?_)
                 refine acode_region ?_
                 refine mv (lb rfl) rfl ?_
                 obtain ⟨g69, hm⟩ := gd_some hm
                 refine st1 rfl (op_add (lb rfl) g69) (so rfl (so rfl sn)) ?_
                 refine as_ (lb rfl) rfl ?_
                 refine rg_nil_seq ?_
                 refine klg_back (n3, (s3_0 + 1), (s3_1 + 1)) hm (Nat.lt_succ_self _) ?_
                 exact le_stU idn (.cons rfl rfl (.cons rfl rfl (.cons rfl rfl (.cons rfl rfl (.cons rfl rfl (.cons rfl rfl (.cons rfl rfl (.cons rfl rfl (.cons rfl rfl (.cons rfl rfl (.cons rfl rfl (.cons rfl rfl (.cons rfl rfl (.cons rfl rfl (.cons rfl rfl (.cons rfl rfl (.cons rfl rfl (.cons rfl rfl (.cons rfl rfl (.cons rfl rfl (.cons rfl rfl (.cons rfl rfl (.cons rfl rfl (.cons rfl rfl (.cons rfl rfl (.cons rfl rfl (.cons rfl rfl (.cons rfl rfl (.cons rfl rfl (.cons rfl rfl (.cons rfl rfl (.cons rfl rfl (.cons rfl rfl (.cons rfl rfl (.cons rfl rfl (.cons rfl rfl (.cons rfl rfl (.cons rfl rfl (.cons rfl rfl (.cons rfl rfl (.cons rfl rfl .nil))))))))))))))))))))))))))))))))))))))))) (.cons rfl rfl (.inl rfl) .nil) rfl
                ·
                 replace hm := ite_f hm c67
                 refine acode_cond_false rfl (c67) ?_
                 refine acode_skip ?_
                 refine kblk_normal (kseq_normal ?_)
                 refine acode_region ?_
                 refine mv (lb rfl) rfl ?_
                 obtain ⟨g70, hm⟩ := gd_some hm
                 refine st1 rfl (op_add (lb rfl) g70) (so rfl (so rfl sn)) ?_
                 refine as_ (lb rfl) rfl ?_
                 refine rg_nil_seq ?_
                 refine klg_back (n3, s3_0, (s3_1 + 1)) hm (Nat.lt_succ_self _) ?_
                 exact le_stU idn (.cons rfl rfl (.cons rfl rfl (.cons rfl rfl (.cons rfl rfl (.cons rfl rfl (.cons rfl rfl (.cons rfl rfl (.cons rfl rfl (.cons rfl rfl (.cons rfl rfl (.cons rfl rfl (.cons rfl rfl (.cons rfl rfl (.cons rfl rfl (.cons rfl rfl (.cons rfl rfl (.cons rfl rfl (.cons rfl rfl (.cons rfl rfl (.cons rfl rfl (.cons rfl rfl (.cons rfl rfl (.cons rfl rfl (.cons rfl rfl (.cons rfl rfl (.cons rfl rfl (.cons rfl rfl (.cons rfl rfl (.cons rfl rfl (.cons rfl rfl (.cons rfl rfl (.cons rfl rfl (.cons rfl rfl (.cons rfl rfl (.cons rfl rfl (.cons rfl rfl (.cons rfl rfl (.cons rfl rfl (.cons rfl rfl (.cons rfl rfl (.cons rfl rfl .nil))))))))))))))))))))))))))))))))))))))))) (.cons rfl rfl (.inl rfl) .nil) rfl
              ·
               replace hm := ite_f hm c57
               refine acode_cond_false rfl (c57) ?_
               refine acode_exit ?_
               unfold m_spec_RdrOk_k3 at hm
               refine kseq_exit (klg_exit (kblk_hit (kseq_normal ?_)))
               refine sr ?_
               refine mv (lb rfl) rfl ?_
               refine st1 rfl (op_eql (lb rfl)) (so rfl (so rfl sn)) ?_
               refine mv (lb rfl) rfl ?_
               refine st1 rfl (op_eql (lb rfl)) (so rfl (so rfl sn)) ?_
               refine st1 rfl (op_neqb Tryz.underlying4 (lb rfl)) (so rfl (so rfl sn)) ?_
               refine mv (lb rfl) rfl ?_
               refine rg_split (b := ((decide (s0_0 = 0)) == (decide (s3_0 = 0)))) (fun c71 => ?_) (fun c71 => ?_)
               ·
                replace hm := ite_t hm c71
                refine st1on rfl rfl rfl (not_t (c71)) (op_move (lb rfl)) (so rfl sn) ?_
                refine st1on rfl rfl rfl (not_t (c71)) (op_gtr (lb rfl)) (so rfl (so rfl sn)) ?_
                refine st1 rfl (op_pick_false (lb rfl) (not_t (c71))) (so rfl (so rfl sn)) ?_
                refine nk ?_
                refine acode_split (b := decide (1 < s3_0)) (fun c72 => ?_) (fun c72 => ?_)
                ·
                 replace hm := ite_t hm c72
                 refine acode_cond_true rfl (c72) ?_
                 refine acode_seq ?_
                 refine acode_le (le_stU (env := []) (obj := []) idn .nil .nil rfl) ?_
                 refine acode_region ?_
                 refine as_ (lb rfl) rfl ?_
                 refine nkt ?_
                 obtain rfl := Option.some.inj hm
                 exact kblk_ret (kseq_ret (klg_ret (kblk_ret (kseq_ret (fin2_retL (.cons (.c rfl) .nil) rfl .nil rfl rfl rfl)))))
                ·
                 replace hm := ite_f hm c72
                 refine acode_cond_false rfl (c72) ?_
                 refine acode_skip ?_
                 refine kblk_normal (kseq_normal ?_)
                 refine acode_region ?_
                 refine mv (lb rfl) rfl ?_
                 obtain ⟨g73, hm⟩ := gd_some hm
                 refine st1 rfl (op_add (lb rfl) g73) (so rfl (so rfl sn)) ?_
                 refine as_ (lb rfl) rfl ?_
                 refine rg_nil_seq ?_
                 refine klg_back (n0, (s0_0 + 1)) hm (Nat.lt_succ_self _) ?_
                 exact le_stU idn (.cons rfl rfl (.cons rfl rfl .nil)) .nil rfl
               ·
                replace hm := ite_f hm c71
                refine st1off rfl rfl (lb rfl) rfl rfl (not_f (c71)) ?_
                refine st1off rfl rfl (lb rfl) rfl rfl (not_f (c71)) ?_
                refine st1 rfl (op_pick_true (lb rfl) (not_f (c71))) (so rfl (so rfl sn)) ?_
                refine nk ?_
                refine acode_cond_true rfl (rfl) ?_
                refine sr ?_
                refine as_ (lb rfl) rfl ?_
                refine nkt ?_
                obtain rfl := Option.some.inj hm
                exact kblk_ret (kseq_ret (klg_ret (kblk_ret (kseq_ret (fin2_retL (.cons (.c rfl) .nil) rfl .nil rfl rfl rfl)))))
           ·
            replace hm := ite_f hm c56
            refine st1on rfl rfl rfl (not_f (c56)) (op_field_bx (off := 4) Tryz.underlying168 Tryz.sizeOf3 rfl rfl rfl (lb rfl)) (so rfl (sb rfl sn)) ?_
            refine st1on rfl rfl rfl (not_f (c56)) (op_load_bx Tryz.isAgg3 rfl (lb rfl)) (so rfl (sb rfl sn)) ?_
            refine st1on rfl rfl rfl (not_f (c56)) (op_move (lb rfl)) (so rfl sn) ?_
            obtain ⟨g74, hm⟩ := gd_some hm
            refine st1on rfl rfl rfl (not_f (c56)) (op_add (lb rfl) g74) (so rfl (so rfl sn)) ?_
            refine st1on rfl rfl rfl (not_f (c56)) (op_move (lb rfl)) (so rfl sn) ?_
            refine st1on rfl rfl rfl (not_f (c56)) (op_len_sh (f := (GNode.cells false)) (l := tree) Tryz.underlying35 (lb rfl)) (so rfl sn) ?_
            obtain ⟨g75, hm⟩ := gd_some hm
            refine st1on rfl rfl rfl (not_f (c56)) (op_sub (lb rfl) g75) (so rfl (so rfl sn)) ?_
            obtain ⟨x76, hx76, hm⟩ := bnd hm
            refine st1on rfl rfl rfl (not_f (c56)) (op_call2 (ks := []) Tryz.func85 rfl rfl (c_spec_l1In x3.no (s0_0 + 1) ((tree.length : Int) - 1) x76 hx76) (.cons (.c rfl) (.cons (.c rfl) (.cons (.c rfl) .nil rfl) rfl) rfl) rfl rfl (.inl rfl) .nil rfl rfl (lb rfl)) (sats_opds (.cons rfl (.cons rfl (.cons rfl .nil))) (sats_app (sats_freshL rfl) (sats_needsO obs_nil))) ?_
            refine st1on rfl rfl rfl (not_f (c56)) (op_not (lb rfl)) (so rfl sn) ?_
            refine st1on rfl rfl rfl (not_t (c55)) (op_pick_true (lb rfl) (not_f (c56))) (so rfl (so rfl sn)) ?_
            refine st1 rfl (op_pick_false (lb rfl) (not_t (c55))) (so rfl (so rfl sn)) ?_
            refine nk ?_
            refine acode_split (b := x76) (fun c77 => ?_) (fun c77 => ?_)
            ·
             replace hm := ite_t hm c77
             refine acode_cond_false rfl (not_t (c77)) ?_
             refine pk ?_
             refine sr ?_
             refine as_ (lb rfl) rfl ?_
             refine nk ?_
             refine acode_seq ?_
             refine sr ?_
             refine as_ (lb rfl) rfl ?_
             refine nk ?_
             refine acode_block ?_
             refine acode_loopk (xs := [0, 3, 25, 26, 27, 28, 31, 32, 33, 34, 37, 38, 39, 40, 41, 42, 48, 49, 50, 51, 52, 53, 54, 55, 56, 59, 60, 61, 62, 63, 64, 65, 66, 67, 68, 69, 70, 71, 72]) (ys := [4]) (S := Nat × Int × Int) (fun z => [(5, aInt z.2.1), (6, aInt z.2.2)]) (fun z => []) (fun z => m_spec_RdrOk_l4 tree s0_0 (m_spec_RdrOk_k4 s0_0 (m_spec_RdrOk_l0 tree m_spec_RdrOk_k5 n0)) z.1 z.2.1 z.2.2 = some rz) (fun z => z.1) (FUEL, 0, 0) (.cons rfl (.cons rfl (.cons rfl (.cons rfl (.cons rfl (.cons rfl (.cons rfl (.cons rfl (.cons rfl (.cons rfl (.cons rfl (.cons rfl (.cons rfl (.cons rfl (.cons rfl (.cons rfl (.cons rfl (.cons rfl (.cons rfl (.cons rfl (.cons rfl (.cons rfl (.cons rfl (.cons rfl (.cons rfl (.cons rfl (.cons rfl (.cons rfl (.cons rfl (.cons rfl (.cons rfl (.cons rfl (.cons rfl (.cons rfl (.cons rfl (.cons rfl (.cons rfl (.cons rfl (.cons rfl .nil))))))))))))))))))))))))))))))))))))))) (.cons rfl .nil) ?em ?eo rfl ?ei ?round
             case em => exact (.cons rfl rfl (.cons rfl rfl .nil))
             case eo => exact .nil
             case ei => exact hm
             case round =>
              rintro ⟨n4, s4_0, s4_1⟩ hm
              dsimp only at hm ⊢
              cases n4 with
              | zero => rw [m_spec_RdrOk_l4] at hm; cases hm
              | succ n4 =>
               rw [m_spec_RdrOk_l4] at hm
               refine acode_seq ?_
               refine sr ?_
               refine mv (lb rfl) rfl ?_
               refine mv (lb rfl) rfl ?_
               refine st1 rfl (op_len_sh (f := (GNode.cells false)) (l := tree) Tryz.underlying35 (lb rfl)) (so rfl sn) ?_
               refine st1 rfl (op_lss (lb rfl)) (so rfl (so rfl sn)) ?_
               refine nk ?_
               refine acode_split (b := decide (s4_1 < (tree.length : Int))) (fun c78 => ?_) (fun c78 => ?_)
               ·
                replace hm := ite_t hm c78
                refine acode_cond_true rfl (c78) ?_
                refine pk ?_
                refine acode_seq ?_
                refine acode_block ?_
                refine acode_seq ?_
                refine sr ?_
                refine mv (lb rfl) rfl ?_
                refine mv (lb rfl) rfl ?_
                obtain ⟨x79, hx79, hm⟩ := bnd hm
                refine st1 rfl (op_index_shG (f := (GNode.cells false)) (l := tree) Tryz.underlying35 Tryz.sizeOf168 (lb rfl) hx79) (so rfl (so rfl sn)) ?_
                refine st1 rfl (op_field_pts (off := 3) Tryz.underlying168 Tryz.sizeOf3 rfl rfl rfl rfl (lb rfl)) (so rfl sn) ?_
                refine st1 rfl (op_load_pts Tryz.isAgg3 rfl (lb rfl)) (so rfl sn) ?_
                refine mv (lb rfl) rfl ?_
                refine st1 rfl (op_eql (lb rfl)) (so rfl (so rfl sn)) ?_
                refine nk ?_
                refine acode_split (b := decide (x79.yes = s0_0)) (fun c80 => ?_) (fun c80 => ?_)
                ·
                 replace hm := ite_t hm c80
                 refine acode_cond_true rfl (c80) ?_
                 refine acode_region ?_
                 refine mv (lb rfl) rfl ?_
                 obtain ⟨g81, hm⟩ := gd_some hm
                 refine st1 rfl (op_add (lb rfl) g81) (so rfl (so rfl sn)) ?_
                 refine as_ (lb rfl) rfl ?_
                 refine nk ?_
                 refine sr ?_
                 refine mv (lb rfl) rfl ?_
                 refine mv (lb rfl) rfl ?_
                 obtain ⟨x82, hx82, hm⟩ := bnd hm
                 refine st1 rfl (op_index_shG (f := (GNode.cells false)) (l := tree) Tryz.underlying35 Tryz.sizeOf168 (lb rfl) hx82) (so rfl (so rfl sn)) ?_
                 refine st1 rfl (op_field_pts (off := 4) Tryz.underlying168 Tryz.sizeOf3 rfl rfl rfl rfl (lb rfl)) (so rfl sn) ?_
                 refine st1 rfl (op_load_pts Tryz.isAgg3 rfl (lb rfl)) (so rfl sn) ?_
                 refine mv (lb rfl) rfl ?_
                 refine st1 rfl (op_eql (lb rfl)) (so rfl (so rfl sn)) ?_
                 refine nk ?_
                 refine acode_split (b := decide (x82.no = s0_0)) (fun c83 => ?_) (fun c83 => ?_)
                 ·
                  replace hm := ite_t hm c83
                  refine acode_cond_true rfl (c83) ?_
                  refine acode_le (le_stU (env := [(0, .c (.sl false 7 (tree.map (GNode.cells false)))), (3, aInt s0_0), (5, aInt (s4_0 + 1)), (6, aInt s4_1), (25, .bx 4 5), (26, aInt x3.ans), (27, aBool x6), (28, aBool (!x6)), (31, .bx 4 6), (32, .c (.sl false 1 (x3.stone.map (fun n : Int => [cI n])))), (33, aBool x8), (34, aBool (!x8)), (37, .bx 4 0), (38, .agg [aInt x3.if_.op, aInt x3.if_.var, aInt x3.if_.k]), (39, .bx 4 6), (40, .c (.sl false 1 (x3.stone.map (fun n : Int => [cI n])))), (41, aBool x10), (42, aBool (!x10)), (48, .bx 4 3), (49, aInt x3.yes), (50, aInt s0_0), (51, aInt (s0_0 + 1)), (52, .c (.sl false 7 (tree.map (GNode.cells false)))), (53, aInt (tree.length : Int)), (54, aInt ((tree.length : Int) - 1)), (55, aBool x54), (56, aBool (!x54)), (59, .bx 4 4), (60, aInt x3.no), (61, aBool (!decide (x3.no = (-1)))), (62, aBool (!decide (x3.no = (-1)))), (63, .bx 4 4), (64, aInt x3.no), (65, aInt s0_0), (66, aInt (s0_0 + 1)), (67, .c (.sl false 7 (tree.map (GNode.cells false)))), (68, aInt (tree.length : Int)), (69, aInt ((tree.length : Int) - 1)), (70, aBool x76), (71, aBool (!x76)), (72, aBool (!x76))]) (obj := [(4, .box [aInt x3.if_.op, aInt x3.if_.var, aInt x3.if_.k, aInt x3.yes, aInt x3.no, aInt x3.ans, .c (.sl false 1 (x3.stone.map (fun n : Int => [cI n])))])]) idn (.cons rfl rfl (.cons rfl rfl (.cons rfl rfl (.cons rfl rfl (.cons rfl rfl (.cons rfl rfl (.cons rfl rfl (.cons rfl rfl (.cons rfl rfl (.cons rfl rfl (.cons rfl rfl (.cons rfl rfl (.cons rfl rfl (.cons rfl rfl (.cons rfl rfl (.cons rfl rfl (.cons rfl rfl (.cons rfl rfl (.cons rfl rfl (.cons rfl rfl (.cons rfl rfl (.cons rfl rfl (.cons rfl rfl (.cons rfl rfl (.cons rfl rfl (.cons rfl rfl (.cons rfl rfl (.cons rfl rfl (.cons rfl rfl (.cons rfl rfl (.cons rfl rfl (.cons rfl rfl (.cons rfl rfl (.cons rfl rfl (.cons rfl rfl (.cons rfl rfl (.cons rfl rfl (.cons rfl rfl (.cons rfl rfl (.cons rfl rfl (.cons rfl rfl .nil))))))))))))))))))))))))))))))))))))))))) (.cons rfl rfl (.inl rfl) .nil) rfl) ?_
                  refine acode_region ?_
                  refine mv (lb rfl) rfl ?_
                  obtain ⟨g84, hm⟩ := gd_some hm
                  refine st1 rfl (op_add (lb rfl) g84) (so rfl (so rfl sn)) ?_
                  refine as_ (lb rfl) rfl ?_
                  refine rg_nil_seq ?_
                  refine kblk_normal (kseq_normal ?_)
                  refine acode_region ?_
                  refine mv (lb rfl) rfl ?_
                  obtain ⟨g85, hm⟩ := gd_some hm
                  refine st1 rfl (op_add (lb rfl) g85) (so rfl (so rfl sn)) ?_
                  refine as_ (lb rfl) rfl ?_
                  refine rg_nil_seq ?_
                  refine klg_back (n4, ((s4_0 + 1) + 1), (s4_1 + 1)) hm (Nat.lt_succ_self _) ?_
                  exact le_stU idn (.cons rfl rfl (.cons rfl rfl (.cons rfl rfl (.cons rfl rfl (.cons rfl rfl (.cons rfl rfl (.cons rfl rfl (.cons rfl rfl (.cons rfl rfl (.cons rfl rfl (.cons rfl rfl (.cons rfl rfl (.cons rfl rfl (.cons rfl rfl (.cons rfl rfl (.cons rfl rfl (.cons rfl rfl (.cons rfl rfl (.cons rfl rfl (.cons rfl rfl (.cons rfl rfl (.cons rfl rfl (.cons rfl rfl (.cons rfl rfl (.cons rfl rfl (.cons rfl rfl (.cons rfl rfl (.cons rfl rfl (.cons rfl rfl (.cons rfl rfl (.cons rfl rfl (.cons rfl rfl (.cons rfl rfl (.cons rfl rfl (.cons rfl rfl (.cons rfl rfl (.cons rfl rfl (.cons rfl rfl (.cons rfl rfl (.cons rfl rfl (.cons rfl rfl .nil))))))))))))))))))))))))))))))))))))))))) (.cons rfl rfl (.inl rfl) .nil) rfl
                 ·
                  replace hm := ite_f hm c83
                  refine acode_cond_false rfl (c83) ?_
                  refine acode_skip ?_
                  refine kblk_normal (kseq_normal ?_)
                  refine acode_region ?_
                  refine mv (lb rfl) rfl ?_
                  obtain ⟨g86, hm⟩ := gd_some hm
                  refine st1 rfl (op_add (lb rfl) g86) (so rfl (so rfl sn)) ?_
                  refine as_ (lb rfl) rfl ?_
                  refine rg_nil_seq ?_
                  refine klg_back (n4, (s4_0 + 1), (s4_1 + 1)) hm (Nat.lt_succ_self _) ?_
                  exact le_stU idn (.cons rfl rfl (.cons rfl rfl (.cons rfl rfl (.cons rfl rfl (.cons rfl rfl (.cons rfl rfl (.cons rfl rfl (.cons rfl rfl (.cons rfl rfl (.cons rfl rfl (.cons rfl rfl (.cons rfl rfl (.cons rfl rfl (.cons rfl rfl (.cons rfl rfl (.cons rfl rfl (.cons rfl rfl (.cons rfl rfl (.cons rfl rfl (.cons rfl rfl (.cons rfl rfl (.cons rfl rfl (.cons rfl rfl (.cons rfl rfl (.cons rfl rfl (.cons rfl rfl (.cons rfl rfl (.cons rfl rfl (.cons rfl rfl (.cons rfl rfl (.cons rfl rfl (.cons rfl rfl (.cons rfl rfl (.cons rfl rfl (.cons rfl rfl (.cons rfl rfl (.cons rfl rfl (.cons rfl rfl (.cons rfl rfl (.cons rfl rfl (.cons rfl rfl .nil))))))))))))))))))))))))))))))))))))))))) (.cons rfl rfl (.inl rfl) .nil) rfl
                ·
                 replace hm := ite_f hm c80
                 refine acode_cond_false rfl (c80) ?_
                 refine pk ?_
                 refine sr ?_
                 refine mv (lb rfl) rfl ?_
                 refine mv (lb rfl) rfl ?_
                 obtain ⟨x87, hx87, hm⟩ := bnd hm
                 refine st1 rfl (op_index_shG (f := (GNode.cells false)) (l := tree) Tryz.underlying35 Tryz.sizeOf168 (lb rfl) hx87) (so rfl (so rfl sn)) ?_
                 refine st1 rfl (op_field_pts (off := 4) Tryz.underlying168 Tryz.sizeOf3 rfl rfl rfl rfl (lb rfl)) (so rfl sn) ?_
                 refine st1 rfl (op_load_pts Tryz.isAgg3 rfl (lb rfl)) (so rfl sn) ?_
                 refine mv (lb rfl) rfl ?_
                 refine st1 rfl (op_eql (lb rfl)) (so rfl (so rfl sn)) ?_
                 refine nk ?_
                 refine acode_split (b := decide (x87.no = s0_0)) (fun c88 => ?_) (fun c88 => ?_)
                 ·
                  replace hm := ite_t hm c88
                  refine acode_cond_true rfl (c88) ?_
                  refine acode_le (le_stU (env := [(0, .c (.sl false 7 (tree.map (GNode.cells false)))), (3, aInt s0_0), (5, aInt s4_0), (6, aInt s4_1), (25, .bx 4 5), (26, aInt x3.ans), (27, aBool x6), (28, aBool (!x6)), (31, .bx 4 6), (32, .c (.sl false 1 (x3.stone.map (fun n : Int => [cI n])))), (33, aBool x8), (34, aBool (!x8)), (37, .bx 4 0), (38, .agg [aInt x3.if_.op, aInt x3.if_.var, aInt x3.if_.k]), (39, .bx 4 6), (40, .c (.sl false 1 (x3.stone.map (fun n : Int => [cI n])))), (41, aBool x10), (42, aBool (!x10)), (48, .bx 4 3), (49, aInt x3.yes), (50, aInt s0_0), (51, aInt (s0_0 + 1)), (52, .c (.sl false 7 (tree.map (GNode.cells false)))), (53, aInt (tree.length : Int)), (54, aInt ((tree.length : Int) - 1)), (55, aBool x54), (56, aBool (!x54)), (59, .bx 4 4), (60, aInt x3.no), (61, aBool (!decide (x3.no = (-1)))), (62, aBool (!decide (x3.no = (-1)))), (63, .bx 4 4), (64, aInt x3.no), (65, aInt s0_0), (66, aInt (s0_0 + 1)), (67, .c (.sl false 7 (tree.map (GNode.cells false)))), (68, aInt (tree.length : Int)), (69, aInt ((tree.length : Int) - 1)), (70, aBool x76), (71, aBool (!x76)), (72, aBool (!x76))]) (obj := [(4, .box [aInt x3.if_.op, aInt x3.if_.var, aInt x3.if_.k, aInt x3.yes, aInt x3.no, aInt x3.ans, .c (.sl false 1 (x3.stone.map (fun n : Int => [cI n])))])]) idn (.cons rfl rfl (.cons rfl rfl (.cons rfl rfl (.cons rfl rfl (.cons rfl rfl (.cons rfl rfl (.cons rfl rfl (.cons rfl rfl (.cons rfl rfl (.cons rfl rfl (.cons rfl rfl (.cons rfl rfl (.cons rfl rfl (.cons rfl rfl (.cons rfl rfl (.cons rfl rfl (.cons rfl rfl (.cons rfl rfl (.cons rfl rfl (.cons rfl rfl (.cons rfl rfl (.cons rfl rfl (.cons rfl rfl (.cons rfl rfl (.cons rfl rfl (.cons rfl rfl (.cons rfl rfl (.cons rfl rfl (.cons rfl rfl (.cons rfl rfl (.cons rfl rfl (.cons rfl rfl (.cons rfl rfl (.cons rfl rfl (.cons rfl rfl (.cons rfl rfl (.cons rfl rfl (.cons rfl rfl (.cons rfl rfl (.cons rfl rfl (.cons rfl rfl .nil))))))))))))))))))))))))))))))))))))))))) (.cons rfl rfl (.inl rfl) .nil) rfl) ?_
                  refine acode_region ?_
                  refine mv (lb rfl) rfl ?_
                  obtain ⟨g89, hm⟩ := gd_some hm
                  refine st1 rfl (op_add (lb rfl) g89) (so rfl (so rfl sn)) ?_
                  refine as_ (lb rfl) rfl ?_
                  refine rg_nil_seq ?_
                  refine kblk_normal (kseq_normal ?_)
                  refine acode_region ?_
                  refine mv (lb rfl) rfl ?_
                  obtain ⟨g90, hm⟩ := gd_some hm
                  refine st1 rfl (op_add (lb rfl) g90) (so rfl (so rfl sn)) ?_
                  refine as_ (lb rfl) rfl ?_
                  refine rg_nil_seq ?_
                  refine klg_back (n4, (s4_0 + 1), (s4_1 + 1)) hm (Nat.lt_succ_self _) ?_
                  exact le_stU idn (.cons rfl rfl (.cons rfl rfl (.cons rfl rfl (.cons rfl rfl (.cons rfl rfl (.cons rfl rfl (.cons rfl rfl (.cons rfl rfl (.cons rfl rfl (.cons rfl rfl (.cons rfl rfl (.cons rfl rfl (.cons rfl rfl (.cons rfl rfl (.cons rfl rfl (.cons rfl rfl (.cons rfl rfl (.cons rfl rfl (.cons rfl rfl (.cons rfl rfl (.cons rfl rfl (.cons rfl rfl (.cons rfl rfl (.cons rfl rfl (.cons rfl rfl (.cons rfl rfl (.cons rfl rfl (.cons rfl rfl (.cons rfl rfl (.cons rfl rfl (.cons rfl rfl (.cons rfl rfl (.cons rfl rfl (.cons rfl rfl (.cons rfl rfl (.cons rfl rfl (.cons rfl rfl (.cons rfl rfl (.cons rfl rfl (.cons rfl rfl (.cons rfl rfl .nil))))))))))))))))))))))))))))))))))))))))) (.cons rfl rfl (.inl rfl) .nil) rfl
                 ·
                  replace hm := ite_f hm c88
                  refine acode_cond_false rfl (c88) ?_
                  refine acode_skip ?_
                  refine kblk_normal (kseq_normal ?_)
                  refine acode_region ?_
                  refine mv (lb rfl) rfl ?_
                  obtain ⟨g91, hm⟩ := gd_some hm
                  refine st1 rfl (op_add (lb rfl) g91) (so rfl (so rfl sn)) ?_
                  refine as_ (lb rfl) rfl ?_
                  refine rg_nil_seq ?_
                  refine klg_back (n4, s4_0, (s4_1 + 1)) hm (Nat.lt_succ_self _) ?_
                  exact le_stU idn (.cons rfl rfl (.cons rfl rfl (.cons rfl rfl (.cons rfl rfl (.cons rfl rfl (.cons rfl rfl (.cons rfl rfl (.cons rfl rfl (.cons rfl rfl (.cons rfl rfl (.cons rfl rfl (.cons rfl rfl (.cons rfl rfl (.cons rfl rfl (.cons rfl rfl (.cons rfl rfl (.cons rfl rfl (.cons rfl rfl (.cons rfl rfl (.cons rfl rfl (.cons rfl rfl (.cons rfl rfl (.cons rfl rfl (.cons rfl rfl (.cons rfl rfl (.cons rfl rfl (.cons rfl rfl (.cons rfl rfl (.cons rfl rfl (.cons rfl rfl (.cons rfl rfl (.cons rfl rfl (.cons rfl rfl (.cons rfl rfl (.cons rfl rfl (.cons rfl rfl (.cons rfl rfl (.cons rfl rfl (.cons rfl rfl (.cons rfl rfl (.cons rfl rfl .nil))))))))))))))))))))))))))))))))))))))))) (.cons rfl rfl (.inl rfl) .nil) rfl
               ·
                replace hm := ite_f hm c78
                refine acode_cond_false rfl (c78) ?_
                refine acode_exit ?_
                unfold m_spec_RdrOk_k4 at hm
                refine kseq_exit (klg_exit (kblk_hit (kseq_normal ?_)))
                refine sr ?_
                refine mv (lb rfl) rfl ?_
                refine st1 rfl (op_eql (lb rfl)) (so rfl (so rfl sn)) ?_
                refine mv (lb rfl) rfl ?_
                refine st1 rfl (op_eql (lb rfl)) (so rfl (so rfl sn)) ?_
                refine st1 rfl (op_neqb Tryz.underlying4 (lb rfl)) (so rfl (so rfl sn)) ?_
                refine mv (lb rfl) rfl ?_
                refine rg_split (b := ((decide (s0_0 = 0)) == (decide (s4_0 = 0)))) (fun c92 => ?_) (fun c92 => ?_)
                ·
                 replace hm := ite_t hm c92
                 refine st1on rfl rfl rfl (not_t (c92)) (op_move (lb rfl)) (so rfl sn) ?_
                 refine st1on rfl rfl rfl (not_t (c92)) (op_gtr (lb rfl)) (so rfl (so rfl sn)) ?_
                 refine st1 rfl (op_pick_false (lb rfl) (not_t (c92))) (so rfl (so rfl sn)) ?_
                 refine nk ?_
                 refine acode_split (b := decide (1 < s4_0)) (fun c93 => ?_) (fun c93 => ?_)
                 ·
                  replace hm := ite_t hm c93
                  refine acode_cond_true rfl (c93) ?_
                  refine acode_seq ?_
                  refine acode_le (le_stU (env := []) (obj := []) idn .nil .nil rfl) ?_
                  refine acode_region ?_
                  refine as_ (lb rfl) rfl ?_
                  refine nkt ?_
                  obtain rfl := Option.some.inj hm
                  exact kblk_ret (kseq_ret (klg_ret (kblk_ret (kseq_ret (fin2_retL (.cons (.c rfl) .nil) rfl .nil rfl rfl rfl)))))
                 ·
                  replace hm := ite_f hm c93
                  refine acode_cond_false rfl (c93) ?_
                  refine acode_skip ?_
                  refine kblk_normal (kseq_normal ?_)
                  refine acode_region ?_
                  refine mv (lb rfl) rfl ?_
                  obtain ⟨g94, hm⟩ := gd_some hm
                  refine st1 rfl (op_add (lb rfl) g94) (so rfl (so rfl sn)) ?_
                  refine as_ (lb rfl) rfl ?_
                  refine rg_nil_seq ?_
                  refine klg_back (n0, (s0_0 + 1)) hm (Nat.lt_succ_self _) ?_
                  exact le_stU idn (.cons rfl rfl (.cons rfl rfl .nil)) .nil rfl
                ·
                 replace hm := ite_f hm c92
                 refine st1off rfl rfl (lb rfl) rfl rfl (not_f (c92)) ?_
                 refine st1off rfl rfl (lb rfl) rfl rfl (not_f (c92)) ?_
                 refine st1 rfl (op_pick_true (lb rfl) (not_f (c92))) (so rfl (so rfl sn)) ?_
                 refine nk ?_
                 refine acode_cond_true rfl (rfl) ?_
                 refine sr ?_
                 refine as_ (lb rfl) rfl ?_
                 refine nkt ?_
                 obtain rfl := Option.some.inj hm
                 exact kblk_ret (kseq_ret (klg_ret (kblk_ret (kseq_ret (fin2_retL (.cons (.c rfl) .nil) rfl .nil rfl rfl rfl)))))
            ·
             replace hm := ite_f hm c77
             refine acode_cond_true rfl (not_f (c77)) ?_
             refine sr ?_
             refine as_ (lb rfl) rfl ?_
             refine nkt ?_
             obtain rfl := Option.some.inj hm
             exact kseq_ret (kblk_ret (kseq_ret (klg_ret (kblk_ret (kseq_ret (fin2_retL (.cons (.c rfl) .nil) rfl .nil rfl rfl rfl))))))
          ·
           replace hm := ite_f hm c55
           refine st1off rfl rfl (lb rfl) rfl rfl (not_f (c55)) ?_
           refine st1off rfl rfl (lb rfl) rfl rfl (not_f (c55)) ?_
           refine st1off rfl rfl (lb rfl) rfl rfl (not_f (c55)) ?_
           refine st1off rfl rfl (lb rfl) rfl rfl (not_f (c55)) ?_
           refine st1und rfl rfl (lb rfl) rfl rfl ?_
           refine st1und rfl rfl (lb rfl) rfl rfl ?_
           refine st1und rfl rfl (lb rfl) rfl rfl ?_
           refine st1und rfl rfl (lb rfl) rfl rfl ?_
           refine st1und rfl rfl (lb rfl) rfl rfl ?_
           refine st1und rfl rfl (lb rfl) rfl rfl ?_
           refine st1und rfl rfl (lb rfl) rfl rfl ?_
           refine st1und rfl rfl (lb rfl) rfl rfl ?_
           refine st1und rfl rfl (lb rfl) rfl rfl ?_
           refine st1off rfl rfl (lb rfl) rfl rfl (not_f (c55)) ?_
           refine st1 rfl (op_pick_true (lb rfl) (not_f (c55))) (so rfl (so rfl sn)) ?_
           refine nk ?_
           refine acode_cond_true rfl (rfl) ?_
           refine sr ?_
           refine as_ (lb rfl) rfl ?_
           refine nkt ?_
           obtain rfl := Option.some.inj hm
           exact kseq_ret (kblk_ret (kseq_ret (klg_ret (kblk_ret (kseq_ret (fin2_retL (.cons (.c rfl) .nil) rfl .nil rfl rfl rfl))))))
        ·
         replace hm := ite_f hm c11
         refine acode_cond_true rfl (not_f (c11)) ?_
         refine sr ?_
         refine as_ (lb rfl) rfl ?_
         refine nkt ?_
         obtain rfl := Option.some.inj hm
         exact kseq_ret (kblk_ret (kseq_ret (klg_ret (kblk_ret (kseq_ret (fin2_retL (.cons (.c rfl) .nil) rfl .nil rfl rfl rfl))))))
       ·
        replace hm := ite_f hm c9
        refine st1off rfl rfl (lb rfl) rfl rfl (not_f (c9)) ?_
        refine st1off rfl rfl (lb rfl) rfl rfl (not_f (c9)) ?_
        refine st1off rfl rfl (lb rfl) rfl rfl (not_f (c9)) ?_
        refine st1off rfl rfl (lb rfl) rfl rfl (not_f (c9)) ?_
        refine st1off rfl rfl (lb rfl) rfl rfl (not_f (c9)) ?_
        refine st1off rfl rfl (lb rfl) rfl rfl (not_f (c9)) ?_
        refine st1 rfl (op_pick_true (lb rfl) (not_f (c9))) (so rfl (so rfl sn)) ?_
        refine nk ?_
        refine acode_cond_true rfl (rfl) ?_
        refine sr ?_
        refine as_ (lb rfl) rfl ?_
        refine nkt ?_
        obtain rfl := Option.some.inj hm
        exact kseq_ret (kblk_ret (kseq_ret (klg_ret (kblk_ret (kseq_ret (fin2_retL (.cons (.c rfl) .nil) rfl .nil rfl rfl rfl))))))
      ·
       replace hm := ite_f hm c7
       refine st1off rfl rfl (lb rfl) rfl rfl (not_f (c7)) ?_
       refine st1off rfl rfl (lb rfl) rfl rfl (not_f (c7)) ?_
       refine st1off rfl rfl (lb rfl) rfl rfl (not_f (c7)) ?_
       refine st1off rfl rfl (lb rfl) rfl rfl (not_f (c7)) ?_
       refine st1 rfl (op_pick_true (lb rfl) (not_f (c7))) (so rfl (so rfl sn)) ?_
       refine mv (lb rfl) rfl ?_
       refine st1off rfl rfl (lb rfl) rfl rfl (rfl) ?_
       refine st1off rfl rfl (lb rfl) rfl rfl (rfl) ?_
       refine st1off rfl rfl (lb rfl) rfl rfl (rfl) ?_
       refine st1off rfl rfl (lb rfl) rfl rfl (rfl) ?_
       refine st1off rfl rfl (lb rfl) rfl rfl (rfl) ?_
       refine st1off rfl rfl (lb rfl) rfl rfl (rfl) ?_
       refine st1 rfl (op_pick_true (lb rfl) (rfl)) (so rfl (so rfl sn)) ?_
       refine nk ?_
       refine acode_cond_true rfl (rfl) ?_
       refine sr ?_
       refine as_ (lb rfl) rfl ?_
       refine nkt ?_
       obtain rfl := Option.some.inj hm
       exact kseq_ret (kblk_ret (kseq_ret (klg_ret (kblk_ret (kseq_ret (fin2_retL (.cons (.c rfl) .nil) rfl .nil rfl rfl rfl))))))
     ·
      replace hm := ite_f hm c5
      refine st1off rfl rfl (lb rfl) rfl rfl (not_f (c5)) ?_
      refine st1off rfl rfl (lb rfl) rfl rfl (not_f (c5)) ?_
      refine st1off rfl rfl (lb rfl) rfl rfl (not_f (c5)) ?_
      refine st1off rfl rfl (lb rfl) rfl rfl (not_f (c5)) ?_
      refine st1 rfl (op_pick_true (lb rfl) (not_f (c5))) (so rfl (so rfl sn)) ?_
      refine mv (lb rfl) rfl ?_
      refine st1off rfl rfl (lb rfl) rfl rfl (rfl) ?_
      refine st1off rfl rfl (lb rfl) rfl rfl (rfl) ?_
      refine st1off rfl rfl (lb rfl) rfl rfl (rfl) ?_
      refine st1off rfl rfl (lb rfl) rfl rfl (rfl) ?_
      refine st1 rfl (op_pick_true (lb rfl) (rfl)) (so rfl (so rfl sn)) ?_
      refine mv (lb rfl) rfl ?_
      refine st1off rfl rfl (lb rfl) rfl rfl (rfl) ?_
      refine st1off rfl rfl (lb rfl) rfl rfl (rfl) ?_
      refine st1off rfl rfl (lb rfl) rfl rfl (rfl) ?_
      refine st1off rfl rfl (lb rfl) rfl rfl (rfl) ?_
      refine st1off rfl rfl (lb rfl) rfl rfl (rfl) ?_
      refine st1off rfl rfl (lb rfl) rfl rfl (rfl) ?_
      refine st1 rfl (op_pick_true (lb rfl) (rfl)) (so rfl (so rfl sn)) ?_
      refine nk ?_
      refine acode_cond_true rfl (rfl) ?_
      refine sr ?_
      refine as_ (lb rfl) rfl ?_
      refine nkt ?_
      obtain rfl := Option.some.inj hm
      exact kseq_ret (kblk_ret (kseq_ret (klg_ret (kblk_ret (kseq_ret (fin2_retL (.cons (.c rfl) .nil) rfl .nil rfl rfl rfl))))))
    ·
     replace hm := ite_f hm c2
     refine acode_cond_false rfl (c2) ?_
     refine acode_exit ?_
     unfold m_spec_RdrOk_k5 at hm
     refine kseq_exit (klg_exit (kblk_hit (kseq_normal ?_)))
     refine sr ?_
     refine as_ (lb rfl) rfl ?_
     refine nkt ?_
     obtain rfl := Option.some.inj hm
     exact fin2_retL (.cons (.c rfl) .nil) rfl .nil rfl rfl rfl

def m_impl_isAnswer (ans : Int) : Option Bool := (m_impl_in ans 0 2).bind fun x1 => (some x1)

theorem c_impl_isAnswer (ans : Int) (rz : Bool) (hm : m_impl_isAnswer ans = some rz) : FnB Tryz.prog 139 [.c (cI ans)] [.c (cB rz)] [] := by
 unfold m_impl_isAnswer at hm
 refine fn_intro2 (n := 5) (rvs := [.tmp 2]) Tryz.func139 rfl rfl rfl (lb rfl) rfl rfl rfl rfl rfl ?_
 refine acode_seq ?_
 refine acode_le (le_stU (env := [(0, aInt ans)]) (obj := []) idn (.cons rfl rfl .nil) .nil rfl) ?_
 refine acode_region ?_
 refine as_ (lb rfl) rfl ?_
 refine nk ?_
 refine sr ?_
 refine mv (lb rfl) rfl ?_
 obtain ⟨x1, hx1, hm⟩ := bnd hm
 refine st1 rfl (op_call2 (ks := []) Tryz.func87 rfl rfl (c_impl_in ans 0 2 x1 hx1) (.cons (.c rfl) (.cons (.c rfl) (.cons (.c rfl) .nil rfl) rfl) rfl) rfl rfl (.inl rfl) .nil rfl rfl (lb rfl)) (sats_opds (.cons rfl (.cons rfl (.cons rfl .nil))) (sats_app (sats_freshL rfl) (sats_needsO obs_nil))) ?_
 refine as_ (lb rfl) rfl ?_
 refine nkt ?_
 obtain rfl := Option.some.inj hm
 exact fin2_retL (.cons (.c rfl) .nil) rfl .nil rfl rfl rfl

def m_spec_l9Nets_k1  : Option Bool := some true
def m_spec_l9Nets_l0 (nets : List GNet) (kx0_0 : Option Bool) : Nat → Int → Option Bool
  | 0, _ => none
  | n0 + 1, s0_0 => if decide (s0_0 < (nets.length : Int)) = true then ((getI nets s0_0).bind fun x4 => ((m_spec_NetOk x4).bind fun x5 => (if x5 = true then (gd (ok64 (s0_0 + 1)) ((m_spec_l9Nets_l0 nets kx0_0 n0) (s0_0 + 1))) else (some false)))) else (kx0_0)
def m_spec_l9Nets (nets : List GNet) : Option Bool := (m_spec_l1In (nets.length : Int) 1 3).bind fun x1 => (if x1 = true then (m_spec_l9Nets_l0 nets m_spec_l9Nets_k1 FUEL 0) else (some false))

theorem c_spec_l9Nets (nets : List GNet) (rz : Bool) (hm : m_spec_l9Nets nets = some rz) : FnB Tryz.prog 82 [.c (.sl false 2 (nets.map (GNet.cells false)))] [.c (cB rz)] [] := by
 unfold m_spec_l9Nets at hm
 refine fn_intro2 (n := 20) (rvs := [.tmp 2]) Tryz.func82 rfl rfl rfl (lb rfl) rfl rfl rfl rfl rfl ?_
 refine acode_seq ?_
 refine acode_le (le_stU (env := [(0, .c (.sl false 2 (nets.map (GNet.cells false))))]) (obj := []) idn (.cons rfl rfl .nil) .nil rfl) ?_
 refine acode_region ?_
 refine as_ (lb rfl) rfl ?_
 refine nk ?_
 refine acode_seq ?_
 refine sr ?_
 refine mv (lb rfl) rfl ?_
 refine st1 rfl (op_len_sh (f := (GNet.cells false)) (l := nets) Tryz.underlying34 (lb rfl)) (so rfl sn) ?_
 obtain ⟨x1, hx1, hm⟩ := bnd hm
 refine st1 rfl (op_call2 (ks := []) Tryz.func85 rfl rfl (c_spec_l1In (nets.length : Int) 1 3 x1 hx1) (.cons (.c rfl) (.cons (.c rfl) (.cons (.c rfl) .nil rfl) rfl) rfl) rfl rfl (.inl rfl) .nil rfl rfl (lb rfl)) (sats_opds (.cons rfl (.cons rfl (.cons rfl .nil))) (sats_app (sats_freshL rfl) (sats_needsO obs_nil))) ?_
 refine st1 rfl (op_not (lb rfl)) (so rfl sn) ?_
 refine nk ?_
 refine acode_split (b := x1) (fun c2 => ?_) (fun c2 => ?_)
 ·
  replace hm := ite_t hm c2
  refine acode_cond_false rfl (not_t (c2)) ?_
  refine pk ?_
  refine acode_seq ?_
  refine sr ?_
  refine as_ (lb rfl) rfl ?_
  refine nk ?_
  refine acode_block ?_
  refine acode_loopk (xs := [0]) (ys := []) (S := Nat × Int) (fun z => [(3, aInt z.2)]) (fun z => []) (fun z => m_spec_l9Nets_l0 nets m_spec_l9Nets_k1 z.1 z.2 = some rz) (fun z => z.1) (FUEL, 0) (.cons rfl .nil) .nil ?em ?eo rfl ?ei ?round
  case em => exact (.cons rfl rfl .nil)
  case eo => exact .nil
  case ei => exact hm
  case round =>
   rintro ⟨n0, s0_0⟩ hm
   dsimp only at hm ⊢
   cases n0 with
   | zero => rw [m_spec_l9Nets_l0] at hm; cases hm
   | succ n0 =>
    rw [m_spec_l9Nets_l0] at hm
    refine acode_seq ?_
    refine sr ?_
    refine mv (lb rfl) rfl ?_
    refine mv (lb rfl) rfl ?_
    refine st1 rfl (op_len_sh (f := (GNet.cells false)) (l := nets) Tryz.underlying34 (lb rfl)) (so rfl sn) ?_
    refine st1 rfl (op_lss (lb rfl)) (so rfl (so rfl sn)) ?_
    refine nk ?_
    refine acode_split (b := decide (s0_0 < (nets.length : Int))) (fun c3 => ?_) (fun c3 => ?_)
    ·
     replace hm := ite_t hm c3
     refine acode_cond_true rfl (c3) ?_
     refine pk ?_
     refine acode_seq ?_
     refine acode_block ?_
     refine sr ?_
     refine mv (lb rfl) rfl ?_
     refine mv (lb rfl) rfl ?_
     obtain ⟨x4, hx4, hm⟩ := bnd hm
     refine st1 rfl (op_index_shG (f := (GNet.cells false)) (l := nets) Tryz.underlying34 Tryz.sizeOf81 (lb rfl) hx4) (so rfl (so rfl sn)) ?_
     refine st1 rfl (op_load_pts_row Tryz.isAgg81 Tryz.sizeOf81 rfl rfl (lb rfl)) (so rfl sn) ?_
     obtain ⟨x5, hx5, hm⟩ := bnd hm
     refine st1 rfl (op_call2 (ks := []) Tryz.func155 rfl rfl (c_spec_NetOk x4 x5 hx5) (.cons (.row rfl) .nil rfl) rfl rfl (.inl rfl) .nil rfl rfl (lb rfl)) (sats_opds (.cons rfl .nil) (sats_app (sats_freshL rfl) (sats_needsO obs_nil))) ?_
     refine st1 rfl (op_not (lb rfl)) (so rfl sn) ?_
     refine nk ?_
     refine acode_split (b := x5) (fun c6 => ?_) (fun c6 => ?_)
     ·
      replace hm := ite_t hm c6
      refine acode_cond_false rfl (not_t (c6)) ?_
      refine acode_skip ?_
      refine kblk_normal (kseq_normal ?_)
      refine acode_region ?_
      refine mv (lb rfl) rfl ?_
      obtain ⟨g7, hm⟩ := gd_some hm
      refine st1 rfl (op_add (lb rfl) g7) (so rfl (so rfl sn)) ?_
      refine as_ (lb rfl) rfl ?_
      refine rg_nil_seq ?_
      refine klg_back (n0, (s0_0 + 1)) hm (Nat.lt_succ_self _) ?_
      exact le_stU idn (.cons rfl rfl (.cons rfl rfl .nil)) .nil rfl
     ·
      replace hm := ite_f hm c6
      refine acode_cond_true rfl (not_f (c6)) ?_
      refine sr ?_
      refine as_ (lb rfl) rfl ?_
      refine nkt ?_
      obtain rfl := Option.some.inj hm
      exact kblk_ret (kseq_ret (klg_ret (kblk_ret (kseq_ret (fin2_retL (.cons (.c rfl) .nil) rfl .nil rfl rfl rfl)))))
    ·
     replace hm := ite_f hm c3
     refine acode_cond_false rfl (c3) ?_
     refine acode_exit ?_
     unfold m_spec_l9Nets_k1 at hm
     refine kseq_exit (klg_exit (kblk_hit (kseq_normal ?_)))
     refine sr ?_
     refine as_ (lb rfl) rfl ?_
     refine nkt ?_
     obtain rfl := Option.some.inj hm
     exact fin2_retL (.cons (.c rfl) .nil) rfl .nil rfl rfl rfl
 ·
  replace hm := ite_f hm c2
  refine acode_cond_true rfl (not_f (c2)) ?_
  refine acode_seq ?_
  refine acode_le (le_stU (env := []) (obj := []) idn .nil .nil rfl) ?_
  refine acode_region ?_
  refine as_ (lb rfl) rfl ?_
  refine nkt ?_
  obtain rfl := Option.some.inj hm
  exact kseq_ret (fin2_retL (.cons (.c rfl) .nil) rfl .nil rfl rfl rfl)

def m_spec_EngOk_k1  : Option Bool := some true
def m_spec_EngOk_l0 (h : GHouse) (kx0_0 : Option Bool) : Nat → Int → Option Bool
  | 0, _ => none
  | n0 + 1, s0_0 => if decide (s0_0 < (h.runs.length : Int)) = true then ((getI h.runs s0_0).bind fun x9 => (gd (ok64 ((h.nets.length : Int) - 1)) ((m_spec_l1In x9.net 0 ((h.nets.length : Int) - 1)).bind fun x11 => (if x11 = true then ((getI h.runs s0_0).bind fun x13 => ((getI h.nets x13.net).bind fun x14 => ((getI h.runs s0_0).bind fun x15 => ((m_spec_CasOk x14 x15.case).bind fun x16 => (if x16 = true then (gd (ok64 (s0_0 + 1)) ((m_spec_EngOk_l0 h kx0_0 n0) (s0_0 + 1))) else (some false)))))) else (some false))))) else (kx0_0)
def m_spec_EngOk (h : GHouse) : Option Bool := (m_spec_l9Nets h.nets).bind fun x1 => (if x1 = true then ((m_spec_PplOk h.people).bind fun x3 => (if x3 = true then ((m_spec_RdrOk h.tree).bind fun x5 => (if x5 = true then (if decide (5 < (h.runs.length : Int)) = true then (some false) else (m_spec_EngOk_l0 h m_spec_EngOk_k1 FUEL 0)) else (some false))) else (some false))) else (some false))

theorem c_spec_EngOk (h : GHouse) (rz : Bool) (hm : m_spec_EngOk h = some rz) : FnB Tryz.prog 31 [.row (GHouse.cells false h)] [.c (cB rz)] [] := by
 unfold m_spec_EngOk at hm
 refine fn_intro2 (n := 65) (rvs := [.tmp 2]) Tryz.func31 rfl rfl rfl (lb rfl) rfl rfl rfl rfl rfl ?_
 refine acode_seq ?_
 refine acode_le (le_stU (env := [(0, .row [.sl false 2 (h.nets.map (GNet.cells false)), .sl false 1 (h.people.map (fun n : Int => [cI n])), .sl false 7 (h.tree.map (GNode.cells false)), .sl false 6 (h.runs.map (GRun.cells false))])]) (obj := []) idn (.cons rfl rfl .nil) .nil rfl) ?_
 refine acode_region ?_
 refine st1 rfl (op_box rfl (lb rfl)) (so rfl (sf rfl (sats_lives rfl))) ?_
 refine as_ (lb rfl) rfl ?_
 refine nk ?_
 refine acode_seq ?_
 refine sr ?_
 refine fdb (off := 0) Tryz.underlying38 Tryz.sizeOf34 rfl rfl rfl (lb rfl) rfl rfl ?_
 refine ldb Tryz.isAgg34 rfl (lb rfl) rfl rfl ?_
 obtain ⟨x1, hx1, hm⟩ := bnd hm
 refine st1 rfl (op_call2 (ks := []) Tryz.func82 rfl rfl (c_spec_l9Nets h.nets x1 hx1) (.cons (.c rfl) .nil rfl) rfl rfl (.inl rfl) .nil rfl rfl (lb rfl)) (sats_opds (.cons rfl .nil) (sats_app (sats_freshL rfl) (sats_needsO obs_nil))) ?_
 refine st1 rfl (op_not (lb rfl)) (so rfl sn) ?_
 refine mv (lb rfl) rfl ?_
 refine rg_split (b := x1) (fun c2 => ?_) (fun c2 => ?_)
 ·
  replace hm := ite_t hm c2
  refine st1on rfl rfl rfl (not_t (c2)) (op_field_bx (off := 1) Tryz.underlying38 Tryz.sizeOf23 rfl rfl rfl (lb rfl)) (so rfl (sb rfl sn)) ?_
  refine st1on rfl rfl rfl (not_t (c2)) (op_load_bx Tryz.isAgg23 rfl (lb rfl)) (so rfl (sb rfl sn)) ?_
  obtain ⟨x3, hx3, hm⟩ := bnd hm
  refine st1on rfl rfl rfl (not_t (c2)) (op_call2 (ks := []) Tryz.func83 rfl rfl (c_spec_PplOk h.people x3 hx3) (.cons (.c rfl) .nil rfl) rfl rfl (.inl rfl) .nil rfl rfl (lb rfl)) (sats_opds (.cons rfl .nil) (sats_app (sats_freshL rfl) (sats_needsO obs_nil))) ?_
  refine st1on rfl rfl rfl (not_t (c2)) (op_not (lb rfl)) (so rfl sn) ?_
  refine st1 rfl (op_pick_false (lb rfl) (not_t (c2))) (so rfl (so rfl sn)) ?_
  refine mv (lb rfl) rfl ?_
  refine rg_split (b := x3) (fun c4 => ?_) (fun c4 => ?_)
  ·
   replace hm := ite_t hm c4
   refine st1on rfl rfl rfl (not_t (c4)) (op_field_bx (off := 2) Tryz.underlying38 Tryz.sizeOf35 rfl rfl rfl (lb rfl)) (so rfl (sb rfl sn)) ?_
   refine st1on rfl rfl rfl (not_t (c4)) (op_load_bx Tryz.isAgg35 rfl (lb rfl)) (so rfl (sb rfl sn)) ?_
   obtain ⟨x5, hx5, hm⟩ := bnd hm
   refine st1on rfl rfl rfl (not_t (c4)) (op_call2 (ks := []) Tryz.func84 rfl rfl (c_spec_RdrOk h.tree x5 hx5) (.cons (.c rfl) .nil rfl) rfl rfl (.inl rfl) .nil rfl rfl (lb rfl)) (sats_opds (.cons rfl .nil) (sats_app (sats_freshL rfl) (sats_needsO obs_nil))) ?_
   refine st1on rfl rfl rfl (not_t (c4)) (op_not (lb rfl)) (so rfl sn) ?_
   refine st1 rfl (op_pick_false (lb rfl) (not_t (c4))) (so rfl (so rfl sn)) ?_
   refine mv (lb rfl) rfl ?_
   refine rg_split (b := x5) (fun c6 => ?_) (fun c6 => ?_)
   ·
    replace hm := ite_t hm c6
    refine st1on rfl rfl rfl (not_t (c6)) (op_field_bx (off := 3) Tryz.underlying38 Tryz.sizeOf36 rfl rfl rfl (lb rfl)) (so rfl (sb rfl sn)) ?_
    refine st1on rfl rfl rfl (not_t (c6)) (op_load_bx Tryz.isAgg36 rfl (lb rfl)) (so rfl (sb rfl sn)) ?_
    refine st1on rfl rfl rfl (not_t (c6)) (op_len_sh (f := (GRun.cells false)) (l := h.runs) Tryz.underlying36 (lb rfl)) (so rfl sn) ?_
    refine st1on rfl rfl rfl (not_t (c6)) (op_gtr (lb rfl)) (so rfl (so rfl sn)) ?_
    refine st1 rfl (op_pick_false (lb rfl) (not_t (c6))) (so rfl (so rfl sn)) ?_
    refine nk ?_
    refine acode_split (b := decide (5 < (h.runs.length : Int))) (fun c7 => ?_) (fun c7 => ?_)
    ·
     replace hm := ite_t hm c7
     refine acode_cond_true rfl (c7) ?_
     refine acode_seq ?_
     refine acode_le (le_stU (env := []) (obj := []) idn .nil .nil rfl) ?_
     refine acode_region ?_
     refine as_ (lb rfl) rfl ?_
     refine nkt ?_
     obtain rfl := Option.some.inj hm
     exact kseq_ret (fin2_retL (.cons (.c rfl) .nil) rfl .nil rfl rfl rfl)
    ·
     replace hm := ite_f hm c7
     refine acode_cond_false rfl (c7) ?_
     refine pk ?_
     refine acode_seq ?_
     refine sr ?_
     refine as_ (lb rfl) rfl ?_
     refine nk ?_
     refine acode_block ?_
     refine acode_loopk (xs := [1]) (ys := [1]) (S := Nat × Int) (fun z => [(3, aInt z.2)]) (fun z => []) (fun z => m_spec_EngOk_l0 h m_spec_EngOk_k1 z.1 z.2 = some rz) (fun z => z.1) (FUEL, 0) (.cons rfl .nil) (.cons rfl .nil) ?em ?eo rfl ?ei ?round
     case em => exact (.cons rfl rfl .nil)
     case eo => exact .nil
     case ei => exact hm
     case round =>
      rintro ⟨n0, s0_0⟩ hm
      dsimp only at hm ⊢
      cases n0 with
      | zero => rw [m_spec_EngOk_l0] at hm; cases hm
      | succ n0 =>
       rw [m_spec_EngOk_l0] at hm
       refine acode_seq ?_
       refine sr ?_
       refine mv (lb rfl) rfl ?_
       refine fdb (off := 3) Tryz.underlying38 Tryz.sizeOf36 rfl rfl rfl (lb rfl) rfl rfl ?_
       refine ldb Tryz.isAgg36 rfl (lb rfl) rfl rfl ?_
       refine st1 rfl (op_len_sh (f := (GRun.cells false)) (l := h.runs) Tryz.underlying36 (lb rfl)) (so rfl sn) ?_
       refine st1 rfl (op_lss (lb rfl)) (so rfl (so rfl sn)) ?_
       refine nk ?_
       refine acode_split (b := decide (s0_0 < (h.runs.length : Int))) (fun c8 => ?_) (fun c8 => ?_)
       ·
        replace hm := ite_t hm c8
        refine acode_cond_true rfl (c8) ?_
        refine pk ?_
        refine acode_seq ?_
        refine acode_block ?_
        refine acode_seq ?_
        refine acode_region_draw mixed rfl ?_
        refine fdb (off := 3) Tryz.underlying38 Tryz.sizeOf36 rfl rfl rfl (lb rfl) rfl rfl ?_
        refine ldb Tryz.isAgg36 rfl (lb rfl) rfl rfl ?_
        refine mv (lb rfl) rfl ?_
        obtain ⟨x9, hx9, hm⟩ := bnd hm
        refine st1 rfl (op_index_shG (f := (GRun.cells false)) (l := h.runs) Tryz.underlying36 Tryz.sizeOf124 (lb rfl) hx9) (so rfl (so rfl sn)) ?_
        refine st1 rfl (op_field_pts (off := 0) Tryz.underlying124 Tryz.sizeOf3 rfl rfl rfl rfl (lb rfl)) (so rfl sn) ?_
        refine st1 rfl (op_load_pts Tryz.isAgg3 rfl (lb rfl)) (so rfl sn) ?_
        refine fdb (off := 0) Tryz.underlying38 Tryz.sizeOf34 rfl rfl rfl (lb rfl) rfl rfl ?_
        refine ldb Tryz.isAgg34 rfl (lb rfl) rfl rfl ?_
        refine st1 rfl (op_len_sh (f := (GNet.cells false)) (l := h.nets) Tryz.underlying34 (lb rfl)) (so rfl sn) ?_
        obtain ⟨g10, hm⟩ := gd_some hm
        refine st1 rfl (op_sub (lb rfl) g10) (so rfl (so rfl sn)) ?_
        obtain ⟨x11, hx11, hm⟩ := bnd hm
        refine st1 rfl (op_call2 (ks := []) Tryz.func85 rfl rfl (c_spec_l1In x9.net 0 ((h.nets.length : Int) - 1) x11 hx11) (.cons (.c rfl) (.cons (.c rfl) (.cons (.c rfl) .nil rfl) rfl) rfl) rfl rfl (.inl rfl) .nil rfl rfl (lb rfl)) (sats_opds (.cons rfl (.cons rfl (.cons rfl .nil))) (sats_app (sats_freshL rfl) (sats_needsO obs_nil))) ?_
        refine st1 rfl (op_not (lb rfl)) (so rfl sn) ?_
        refine mv (lb rfl) rfl ?_
        refine rg_split (b := x11) (fun c12 => ?_) (fun c12 => ?_)
        ·
         replace hm := ite_t hm c12
         refine st1on rfl rfl rfl (not_t (c12)) (op_field_bx (off := 0) Tryz.underlying38 Tryz.sizeOf34 rfl rfl rfl (lb rfl)) (so rfl (sb rfl sn)) ?_
         refine st1on rfl rfl rfl (not_t (c12)) (op_load_bx Tryz.isAgg34 rfl (lb rfl)) (so rfl (sb rfl sn)) ?_
         refine st1on rfl rfl rfl (not_t (c12)) (op_field_bx (off := 3) Tryz.underlying38 Tryz.sizeOf36 rfl rfl rfl (lb rfl)) (so rfl (sb rfl sn)) ?_
         refine st1on rfl rfl rfl (not_t (c12)) (op_load_bx Tryz.isAgg36 rfl (lb rfl)) (so rfl (sb rfl sn)) ?_
         refine st1on rfl rfl rfl (not_t (c12)) (op_move (lb rfl)) (so rfl sn) ?_
         obtain ⟨x13, hx13, hm⟩ := bnd hm
         refine st1on rfl rfl rfl (not_t (c12)) (op_index_shG (f := (GRun.cells false)) (l := h.runs) Tryz.underlying36 Tryz.sizeOf124 (lb rfl) hx13) (so rfl (so rfl sn)) ?_
         refine st1on rfl rfl rfl (not_t (c12)) (op_field_pts (off := 0) Tryz.underlying124 Tryz.sizeOf3 rfl rfl rfl rfl (lb rfl)) (so rfl sn) ?_
         refine st1on rfl rfl rfl (not_t (c12)) (op_load_pts Tryz.isAgg3 rfl (lb rfl)) (so rfl sn) ?_
         obtain ⟨x14, hx14, hm⟩ := bnd hm
         refine st1on rfl rfl rfl (not_t (c12)) (op_index_shG (f := (GNet.cells false)) (l := h.nets) Tryz.underlying34 Tryz.sizeOf81 (lb rfl) hx14) (so rfl (so rfl sn)) ?_
         refine st1on rfl rfl rfl (not_t (c12)) (op_load_pts_row Tryz.isAgg81 Tryz.sizeOf81 rfl rfl (lb rfl)) (so rfl sn) ?_
         refine st1on rfl rfl rfl (not_t (c12)) (op_field_bx (off := 3) Tryz.underlying38 Tryz.sizeOf36 rfl rfl rfl (lb rfl)) (so rfl (sb rfl sn)) ?_
         refine st1on rfl rfl rfl (not_t (c12)) (op_load_bx Tryz.isAgg36 rfl (lb rfl)) (so rfl (sb rfl sn)) ?_
         refine st1on rfl rfl rfl (not_t (c12)) (op_move (lb rfl)) (so rfl sn) ?_
         obtain ⟨x15, hx15, hm⟩ := bnd hm
         refine st1on rfl rfl rfl (not_t (c12)) (op_index_shG (f := (GRun.cells false)) (l := h.runs) Tryz.underlying36 Tryz.sizeOf124 (lb rfl) hx15) (so rfl (so rfl sn)) ?_
         refine st1on rfl rfl rfl (not_t (c12)) (op_field_pts (off := 1) Tryz.underlying124 Tryz.sizeOf76 rfl rfl rfl rfl (lb rfl)) (so rfl sn) ?_
         refine st1on rfl rfl rfl (not_t (c12)) (op_load_pts_row Tryz.isAgg76 Tryz.sizeOf76 rfl rfl (lb rfl)) (so rfl sn) ?_
         obtain ⟨x16, hx16, hm⟩ := bnd hm
         refine st1on rfl rfl rfl (not_t (c12)) (op_call2 (ks := []) Tryz.func86 rfl rfl (c_spec_CasOk x14 x15.case x16 hx16) (.cons (.row rfl) (.cons (.row rfl) .nil rfl) rfl) rfl rfl (.inl rfl) .nil rfl rfl (lb rfl)) (sats_opds (.cons rfl (.cons rfl .nil)) (sats_app (sats_freshL rfl) (sats_needsO obs_nil))) ?_
         refine st1on rfl rfl rfl (not_t (c12)) (op_not (lb rfl)) (so rfl sn) ?_
         refine st1 rfl (op_pick_false (lb rfl) (not_t (c12))) (so rfl (so rfl sn)) ?_
         refine rg_nil_draw (by kernel_rfl) ?_
         refine kseq_normal ?_
         refine acode_split (b := x16) (fun c17 => ?_) (fun c17 => ?_)
         ·
          replace hm := ite_t hm c17
          refine acode_cond_false rfl (not_t (c17)) ?_
          refine acode_skip ?_
          refine kblk_normal (kseq_normal ?_)
          refine acode_le (le_stU (env := [(1, .bx 1 0), (3, aInt s0_0), (46, .bx 1 0), (47, .c (.sl false 2 (h.nets.map (GNet.cells false)))), (48, .bx 1 3), (49, .c (.sl false 6 (h.runs.map (GRun.cells false)))), (50, aInt s0_0), (51, .pts [cI x13.net, cI x13.case.state, .sl false 1 (x13.case.marks.map (fun n : Int => [cI n])), .sl false 3 (x13.case.busy.map (GItem.cells false)), .sl false 1 (x13.case.data.map (fun n : Int => [cI n])), .sl false 2 (x13.case.did.map (GDid.cells false))]), (52, .pts [cI x13.net, cI x13.case.state, .sl false 1 (x13.case.marks.map (fun n : Int => [cI n])), .sl false 3 (x13.case.busy.map (GItem.cells false)), .sl false 1 (x13.case.data.map (fun n : Int => [cI n])), .sl false 2 (x13.case.did.map (GDid.cells false))]), (53, aInt x13.net), (54, .pts [cI x14.places, .sl false 9 (x14.tasks.map (GTask.cells false))]), (55, .row [cI x14.places, .sl false 9 (x14.tasks.map (GTask.cells false))]), (56, .bx 1 3), (57, .c (.sl false 6 (h.runs.map (GRun.cells false)))), (58, aInt s0_0), (59, .pts [cI x15.net, cI x15.case.state, .sl false 1 (x15.case.marks.map (fun n : Int => [cI n])), .sl false 3 (x15.case.busy.map (GItem.cells false)), .sl false 1 (x15.case.data.map (fun n : Int => [cI n])), .sl false 2 (x15.case.did.map (GDid.cells false))]), (60, .pts [cI x15.case.state, .sl false 1 (x15.case.marks.map (fun n : Int => [cI n])), .sl false 3 (x15.case.busy.map (GItem.cells false)), .sl false 1 (x15.case.data.map (fun n : Int => [cI n])), .sl false 2 (x15.case.did.map (GDid.cells false))]), (61, .row [cI x15.case.state, .sl false 1 (x15.case.marks.map (fun n : Int => [cI n])), .sl false 3 (x15.case.busy.map (GItem.cells false)), .sl false 1 (x15.case.data.map (fun n : Int => [cI n])), .sl false 2 (x15.case.did.map (GDid.cells false))]), (62, aBool x16), (63, aBool (!x16))]) (obj := [(1, .box [.c (.sl false 2 (h.nets.map (GNet.cells false))), .c (.sl false 1 (h.people.map (fun n : Int => [cI n]))), .c (.sl false 7 (h.tree.map (GNode.cells false))), .c (.sl false 6 (h.runs.map (GRun.cells false)))])]) idn (.cons rfl rfl (.cons rfl rfl (.cons rfl rfl (.cons rfl rfl (.cons rfl rfl (.cons rfl rfl (.cons rfl rfl (.cons rfl rfl (.cons rfl rfl (.cons rfl rfl (.cons rfl rfl (.cons rfl rfl (.cons rfl rfl (.cons rfl rfl (.cons rfl rfl (.cons rfl rfl (.cons rfl rfl (.cons rfl rfl (.cons rfl rfl (.cons rfl rfl .nil)))))))))))))))))))) (.cons rfl rfl (.inl rfl) .nil) rfl) ?_
          refine acode_region ?_
          refine mv (lb rfl) rfl ?_
          obtain ⟨g18, hm⟩ := gd_some hm
          refine st1 rfl (op_add (lb rfl) g18) (so rfl (so rfl sn)) ?_
          refine as_ (lb rfl) rfl ?_
          refine rg_nil_seq ?_
          refine klg_back (n0, (s0_0 + 1)) hm (Nat.lt_succ_self _) ?_
          exact le_stU idn (.cons rfl rfl (.cons rfl rfl .nil)) (.cons rfl rfl (.inl rfl) .nil) rfl
         ·
          replace hm := ite_f hm c17
          refine acode_cond_true rfl (not_f (c17)) ?_
          refine sr ?_
          refine as_ (lb rfl) rfl ?_
          refine nkt ?_
          obtain rfl := Option.some.inj hm
          exact kblk_ret (kseq_ret (klg_ret (kblk_ret (kseq_ret (fin2_retL (.cons (.c rfl) .nil) rfl .nil rfl rfl rfl)))))
        ·
         replace hm := ite_f hm c12
         refine st1off rfl rfl (lb rfl) rfl rfl (not_f (c12)) ?_
         refine st1off rfl rfl (lb rfl) rfl rfl (not_f (c12)) ?_
         refine st1off rfl rfl (lb rfl) rfl rfl (not_f (c12)) ?_
         refine st1off rfl rfl (lb rfl) rfl rfl (not_f (c12)) ?_
         refine st1off rfl rfl (lb rfl) rfl rfl (not_f (c12)) ?_
         refine st1off rfl rfl (lb rfl) rfl rfl (not_f (c12)) ?_
         refine st1off rfl rfl (lb rfl) rfl rfl (not_f (c12)) ?_
         refine st1off rfl rfl (lb rfl) rfl rfl (not_f (c12)) ?_
         refine st1off rfl rfl (lb rfl) rfl rfl (not_f (c12)) ?_
         refine st1off rfl rfl (lb rfl) rfl rfl (not_f (c12)) ?_
         refine st1off rfl rfl (lb rfl) rfl rfl (not_f (c12)) ?_
         refine st1off rfl rfl (lb rfl) rfl rfl (not_f (c12)) ?_
         refine st1off rfl rfl (lb rfl) rfl rfl (not_f (c12)) ?_
         refine st1off rfl rfl (lb rfl) rfl rfl (not_f (c12)) ?_
         refine st1off rfl rfl (lb rfl) rfl rfl (not_f (c12)) ?_
         refine st1off rfl rfl (lb rfl) rfl rfl (not_f (c12)) ?_
         refine st1off rfl rfl (lb rfl) rfl rfl (not_f (c12)) ?_
         refine st1off rfl rfl (lb rfl) rfl rfl (not_f (c12)) ?_
         refine st1 rfl (op_pick_true (lb rfl) (not_f (c12))) (so rfl (so rfl sn)) ?_
         refine rg_nil_draw (by kernel_rfl) ?_
         refine kseq_normal ?_
         refine acode_cond_true rfl (rfl) ?_
         refine sr ?_
         refine as_ (lb rfl) rfl ?_
         refine nkt ?_
         obtain rfl := Option.some.inj hm
         exact kblk_ret (kseq_ret (klg_ret (kblk_ret (kseq_ret (fin2_retL (.cons (.c rfl) .nil) rfl .nil rfl rfl rfl)))))
       ·
        replace hm := ite_f hm c8
        refine acode_cond_false rfl (c8) ?_
        refine acode_exit ?_
        unfold m_spec_EngOk_k1 at hm
        refine kseq_exit (klg_exit (kblk_hit (kseq_normal ?_)))
        refine sr ?_
        refine as_ (lb rfl) rfl ?_
        refine nkt ?_
        obtain rfl := Option.some.inj hm
        exact fin2_retL (.cons (.c rfl) .nil) rfl .nil rfl rfl rfl
   ·
    replace hm := ite_f hm c6
    refine st1off rfl rfl (lb rfl) rfl rfl (not_f (c6)) ?_
    refine st1off rfl rfl (lb rfl) rfl rfl (not_f (c6)) ?_
    refine st1off rfl rfl (lb rfl) rfl rfl (not_f (c6)) ?_
    refine st1off rfl rfl (lb rfl) rfl rfl (not_f (c6)) ?_
    refine st1 rfl (op_pick_true (lb rfl) (not_f (c6))) (so rfl (so rfl sn)) ?_
    refine nk ?_
    refine acode_cond_true rfl (rfl) ?_
    refine sr ?_
    refine as_ (lb rfl) rfl ?_
    refine nkt ?_
    obtain rfl := Option.some.inj hm
    exact kseq_ret (fin2_retL (.cons (.c rfl) .nil) rfl .nil rfl rfl rfl)
  ·
   replace hm := ite_f hm c4
   refine st1off rfl rfl (lb rfl) rfl rfl (not_f (c4)) ?_
   refine st1off rfl rfl (lb rfl) rfl rfl (not_f (c4)) ?_
   refine st1off rfl rfl (lb rfl) rfl rfl (not_f (c4)) ?_
   refine st1off rfl rfl (lb rfl) rfl rfl (not_f (c4)) ?_
   refine st1 rfl (op_pick_true (lb rfl) (not_f (c4))) (so rfl (so rfl sn)) ?_
   refine mv (lb rfl) rfl ?_
   refine st1off rfl rfl (lb rfl) rfl rfl (rfl) ?_
   refine st1off rfl rfl (lb rfl) rfl rfl (rfl) ?_
   refine st1off rfl rfl (lb rfl) rfl rfl (rfl) ?_
   refine st1off rfl rfl (lb rfl) rfl rfl (rfl) ?_
   refine st1 rfl (op_pick_true (lb rfl) (rfl)) (so rfl (so rfl sn)) ?_
   refine nk ?_
   refine acode_cond_true rfl (rfl) ?_
   refine sr ?_
   refine as_ (lb rfl) rfl ?_
   refine nkt ?_
   obtain rfl := Option.some.inj hm
   exact kseq_ret (fin2_retL (.cons (.c rfl) .nil) rfl .nil rfl rfl rfl)
 ·
  replace hm := ite_f hm c2
  refine st1off rfl rfl (lb rfl) rfl rfl (not_f (c2)) ?_
  refine st1off rfl rfl (lb rfl) rfl rfl (not_f (c2)) ?_
  refine st1off rfl rfl (lb rfl) rfl rfl (not_f (c2)) ?_
  refine st1off rfl rfl (lb rfl) rfl rfl (not_f (c2)) ?_
  refine st1 rfl (op_pick_true (lb rfl) (not_f (c2))) (so rfl (so rfl sn)) ?_
  refine mv (lb rfl) rfl ?_
  refine st1off rfl rfl (lb rfl) rfl rfl (rfl) ?_
  refine st1off rfl rfl (lb rfl) rfl rfl (rfl) ?_
  refine st1off rfl rfl (lb rfl) rfl rfl (rfl) ?_
  refine st1off rfl rfl (lb rfl) rfl rfl (rfl) ?_
  refine st1 rfl (op_pick_true (lb rfl) (rfl)) (so rfl (so rfl sn)) ?_
  refine mv (lb rfl) rfl ?_
  refine st1off rfl rfl (lb rfl) rfl rfl (rfl) ?_
  refine st1off rfl rfl (lb rfl) rfl rfl (rfl) ?_
  refine st1off rfl rfl (lb rfl) rfl rfl (rfl) ?_
  refine st1off rfl rfl (lb rfl) rfl rfl (rfl) ?_
  refine st1 rfl (op_pick_true (lb rfl) (rfl)) (so rfl (so rfl sn)) ?_
  refine nk ?_
  refine acode_cond_true rfl (rfl) ?_
  refine sr ?_
  refine as_ (lb rfl) rfl ?_
  refine nkt ?_
  obtain rfl := Option.some.inj hm
  exact kseq_ret (fin2_retL (.cons (.c rfl) .nil) rfl .nil rfl rfl rfl)

def m_IndexFunc_I_k1  : Option Int := some (-1)
def m_IndexFunc_I_l0 (s : List Int) (p : Int → Option Bool) (kx0_0 : Option Int) : Nat → Int → Option Int
  | 0, _ => none
  | n0 + 1, s0_0 => if decide (s0_0 < (s.length : Int)) = true then ((getI s s0_0).bind fun x2 => ((p x2).bind fun x3 => (if x3 = true then (some s0_0) else (gd (ok64 (s0_0 + 1)) ((m_IndexFunc_I_l0 s p kx0_0 n0) (s0_0 + 1)))))) else (kx0_0)
def m_IndexFunc_I (s : List Int) (p : Int → Option Bool) : Option Int := m_IndexFunc_I_l0 s p m_IndexFunc_I_k1 FUEL 0

theorem c_IndexFunc_I {fid : FuncId} {caps : List Arg} (hfk : FnOk Tryz.prog fid) (hcap : plainArgs caps = true) (s : List Int) (p : Int → Option Bool) (hp : ∀ x y, p x = some y → FnB Tryz.prog fid ((.c (cI x)) :: caps) [.c (cB y)] []) (rz : Int) (hm : m_IndexFunc_I s p = some rz) : FnB Tryz.prog 211 [.c (.sl false 1 (s.map (fun n : Int => [cI n]))), .fn fid caps] [.c (cI rz)] [] := by
 unfold m_IndexFunc_I at hm
 refine fn_intro2 (n := 19) (rvs := [.tmp 4]) Tryz.func211 rfl rfl rfl (lb rfl) (by simp [Arg.par, hcap]) rfl rfl rfl (by simp [parOpens, parOpen, AV.ids, idsL_argAVs]) ?_
 refine acode_seq ?_
 refine acode_le (le_stU (env := [(0, .c (.sl false 1 (s.map (fun n : Int => [cI n])))), (1, .fn fid (argAVs caps))]) (obj := []) idn (.cons rfl rfl (.cons rfl (ren_fnp _) .nil)) .nil rfl) ?_
 refine acode_region ?_
 refine as_ (lb rfl) rfl ?_
 refine nk ?_
 refine acode_seq ?_
 refine sr ?_
 refine mv (lb rfl) rfl ?_
 refine st1 rfl (op_len_sh (f := (fun n : Int => [cI n])) (l := s) Tryz.underlying23 (lb rfl)) (so rfl sn) ?_
 refine mv (lb rfl) rfl ?_
 refine nk ?_
 refine acode_block ?_
 refine acode_loopk (xs := [0, 1, 7]) (ys := []) (S := Nat × Int) (fun z => [(8, aInt z.2)]) (fun z => []) (fun z => m_IndexFunc_I_l0 s p m_IndexFunc_I_k1 z.1 z.2 = some rz) (fun z => z.1) (FUEL, 0) (.cons rfl (.cons rfl (.cons rfl .nil))) .nil ?em ?eo rfl ?ei ?round
 case em => exact (.cons rfl rfl .nil)
 case eo => exact .nil
 case ei => exact hm
 case round =>
  rintro ⟨n0, s0_0⟩ hm
  dsimp only at hm ⊢
  cases n0 with
  | zero => rw [m_IndexFunc_I_l0] at hm; cases hm
  | succ n0 =>
   rw [m_IndexFunc_I_l0] at hm
   refine sr ?_
   refine st1 rfl (op_lss (lb rfl)) (so rfl (so rfl sn)) ?_
   refine nk ?_
   refine acode_seq ?_
   refine acode_split (b := decide (s0_0 < (s.length : Int))) (fun c1 => ?_) (fun c1 => ?_)
   ·
    replace hm := ite_t hm c1
    refine acode_cond_true rfl (c1) ?_
    refine pk ?_
    refine acode_seq ?_
    refine acode_block ?_
    refine sr ?_
    refine mv (lb rfl) rfl ?_
    refine as_ (lb rfl) rfl ?_
    refine nk ?_
    refine sr ?_
    refine mv (lb rfl) rfl ?_
    refine mv (lb rfl) rfl ?_
    refine mv (lb rfl) rfl ?_
    obtain ⟨x2, hx2, hm⟩ := bnd hm
    refine st1 rfl (op_index_shG (f := (fun n : Int => [cI n])) (l := s) Tryz.underlying23 Tryz.sizeOf3 (lb rfl) hx2) (so rfl (so rfl sn)) ?_
    refine st1 rfl (op_load_pts Tryz.isAgg3 rfl (lb rfl)) (so rfl sn) ?_
    obtain ⟨x3, hx3, hm⟩ := bnd hm
    refine st1 rfl (op_callP hfk hcap (hp _ x3 hx3) (.c rfl) (lb rfl)) (so rfl (sats_opds (.cons rfl .nil) (sats_app (sats_freshL rfl) (sats_needsO obs_nil)))) ?_
    refine nk ?_
    refine acode_split (b := x3) (fun c4 => ?_) (fun c4 => ?_)
    ·
     replace hm := ite_t hm c4
     refine acode_cond_true rfl (c4) ?_
     refine sr ?_
     refine mv (lb rfl) rfl ?_
     refine as_ (lb rfl) rfl ?_
     refine nkt ?_
     obtain rfl := Option.some.inj hm
     exact kblk_ret (kseq_ret (klg_ret (kblk_ret (kseq_ret (fin2_retL (.cons (.c rfl) .nil) rfl .nil rfl rfl rfl)))))
    ·
     replace hm := ite_f hm c4
     refine acode_cond_false rfl (c4) ?_
     refine acode_skip ?_
     refine kblk_normal (kseq_normal ?_)
     refine acode_region ?_
     obtain ⟨g5, hm⟩ := gd_some hm
     refine st1 rfl (op_add (lb rfl) g5) (so rfl (so rfl sn)) ?_
     refine mv (lb rfl) rfl ?_
     refine rg_nil_seq ?_
     refine klg_back (n0, (s0_0 + 1)) hm (Nat.lt_succ_self _) ?_
     exact le_stU idn (.cons rfl rfl (.cons rfl rfl (.cons rfl (ren_fnp _) (.cons rfl rfl .nil)))) .nil rfl
   ·
    replace hm := ite_f hm c1
    refine acode_cond_false rfl (c1) ?_
    refine acode_exit ?_
    unfold m_IndexFunc_I_k1 at hm
    refine kseq_exit (klg_exit (kblk_hit (kseq_normal ?_)))
    refine sr ?_
    refine as_ (lb rfl) rfl ?_
    refine nkt ?_
    obtain rfl := Option.some.inj hm
    exact fin2_retL (.cons (.c rfl) .nil) rfl .nil rfl rfl rfl

def m_ContainsFunc_I (s : List Int) (p : Int → Option Bool) : Option Bool := (m_IndexFunc_I s p).bind fun x1 => (some (decide (0 ≤ x1)))

theorem c_ContainsFunc_I {fid : FuncId} {caps : List Arg} (hfk : FnOk Tryz.prog fid) (hcap : plainArgs caps = true) (s : List Int) (p : Int → Option Bool) (hp : ∀ x y, p x = some y → FnB Tryz.prog fid ((.c (cI x)) :: caps) [.c (cB y)] []) (rz : Bool) (hm : m_ContainsFunc_I s p = some rz) : FnB Tryz.prog 164 [.c (.sl false 1 (s.map (fun n : Int => [cI n]))), .fn fid caps] [.c (cB rz)] [] := by
 unfold m_ContainsFunc_I at hm
 refine fn_intro2 (n := 9) (rvs := [.tmp 4]) Tryz.func164 rfl rfl rfl (lb rfl) (by simp [Arg.par, hcap]) rfl rfl rfl (by simp [parOpens, parOpen, AV.ids, idsL_argAVs]) ?_
 refine acode_seq ?_
 refine acode_le (le_stU (env := [(0, .c (.sl false 1 (s.map (fun n : Int => [cI n])))), (1, .fn fid (argAVs caps))]) (obj := []) idn (.cons rfl rfl (.cons rfl (ren_fnp _) .nil)) .nil rfl) ?_
 refine acode_region ?_
 refine as_ (lb rfl) rfl ?_
 refine nk ?_
 refine sr ?_
 refine mv (lb rfl) rfl ?_
 refine mv (lb rfl) rfl ?_
 obtain ⟨x1, hx1, hm⟩ := bnd hm
 refine st1 rfl (op_call2 (ks := []) Tryz.func211 rfl rfl (c_IndexFunc_I hfk hcap s p hp x1 hx1) (.cons (.c rfl) (.cons (giv_argAVs fid caps hcap) .nil rfl) rfl) rfl rfl (.inl rfl) .nil rfl rfl (lb rfl)) (sats_opds (.cons rfl (.cons rfl .nil)) (sats_app (sats_freshL rfl) (sats_needsO obs_nil))) ?_
 refine st1 rfl (op_geq (lb rfl)) (so rfl (so rfl sn)) ?_
 refine as_ (lb rfl) rfl ?_
 refine nkt ?_
 obtain rfl := Option.some.inj hm
 exact fin2_retL (.cons (.c rfl) .nil) rfl .nil rfl rfl rfl

def m_IndexFunc_GReq_k1  : Option Int := some (-1)
def m_IndexFunc_GReq_l0 (s : List GReq) (p : GReq → Option Bool) (kx0_0 : Option Int) : Nat → Int → Option Int
  | 0, _ => none
  | n0 + 1, s0_0 => if decide (s0_0 < (s.length : Int)) = true then ((getI s s0_0).bind fun x2 => ((p x2).bind fun x3 => (if x3 = true then (some s0_0) else (gd (ok64 (s0_0 + 1)) ((m_IndexFunc_GReq_l0 s p kx0_0 n0) (s0_0 + 1)))))) else (kx0_0)
def m_IndexFunc_GReq (s : List GReq) (p : GReq → Option Bool) : Option Int := m_IndexFunc_GReq_l0 s p m_IndexFunc_GReq_k1 FUEL 0


def m_ContainsFunc_GReq (s : List GReq) (p : GReq → Option Bool) : Option Bool := (m_IndexFunc_GReq s p).bind fun x1 => (some (decide (0 ≤ x1)))


def m_IndexFunc_GTask_k1  : Option Int := some (-1)
def m_IndexFunc_GTask_l0 (s : List GTask) (p : GTask → Option Bool) (kx0_0 : Option Int) : Nat → Int → Option Int
  | 0, _ => none
  | n0 + 1, s0_0 => if decide (s0_0 < (s.length : Int)) = true then ((getI s s0_0).bind fun x2 => ((p x2).bind fun x3 => (if x3 = true then (some s0_0) else (gd (ok64 (s0_0 + 1)) ((m_IndexFunc_GTask_l0 s p kx0_0 n0) (s0_0 + 1)))))) else (kx0_0)
def m_IndexFunc_GTask (s : List GTask) (p : GTask → Option Bool) : Option Int := m_IndexFunc_GTask_l0 s p m_IndexFunc_GTask_k1 FUEL 0

theorem c_IndexFunc_GTask {fid : FuncId} {caps : List Arg} (hfk : FnOk Tryz.prog fid) (hcap : plainArgs caps = true) (s : List GTask) (p : GTask → Option Bool) (hp : ∀ x y, p x = some y → FnB Tryz.prog fid ((.row (GTask.cells false x)) :: caps) [.c (cB y)] []) (rz : Int) (hm : m_IndexFunc_GTask s p = some rz) : FnB Tryz.prog 206 [.c (.sl false 9 (s.map (GTask.cells false))), .fn fid caps] [.c (cI rz)] [] := by
 unfold m_IndexFunc_GTask at hm
 refine fn_intro2 (n := 19) (rvs := [.tmp 4]) Tryz.func206 rfl rfl rfl (lb rfl) (by simp [Arg.par, hcap]) rfl rfl rfl (by simp [parOpens, parOpen, AV.ids, idsL_argAVs]) ?_
 refine acode_seq ?_
 refine acode_le (le_stU (env := [(0, .c (.sl false 9 (s.map (GTask.cells false)))), (1, .fn fid (argAVs caps))]) (obj := []) idn (.cons rfl rfl (.cons rfl (ren_fnp _) .nil)) .nil rfl) ?_
 refine acode_region ?_
 refine as_ (lb rfl) rfl ?_
 refine nk ?_
 refine acode_seq ?_
 refine sr ?_
 refine mv (lb rfl) rfl ?_
 refine st1 rfl (op_len_sh (f := (GTask.cells false)) (l := s) Tryz.underlying79 (lb rfl)) (so rfl sn) ?_
 refine mv (lb rfl) rfl ?_
 refine nk ?_
 refine acode_block ?_
 refine acode_loopk (xs := [0, 1, 7]) (ys := []) (S := Nat × Int) (fun z => [(8, aInt z.2)]) (fun z => []) (fun z => m_IndexFunc_GTask_l0 s p m_IndexFunc_GTask_k1 z.1 z.2 = some rz) (fun z => z.1) (FUEL, 0) (.cons rfl (.cons rfl (.cons rfl .nil))) .nil ?em ?eo rfl ?ei ?round
 case em => exact (.cons rfl rfl .nil)
 case eo => exact .nil
 case ei => exact hm
 case round =>
  rintro ⟨n0, s0_0⟩ hm
  dsimp only at hm ⊢
  cases n0 with
  | zero => rw [m_IndexFunc_GTask_l0] at hm; cases hm
  | succ n0 =>
   rw [m_IndexFunc_GTask_l0] at hm
   refine sr ?_
   refine st1 rfl (op_lss (lb rfl)) (so rfl (so rfl sn)) ?_
   refine nk ?_
   refine acode_seq ?_
   refine acode_split (b := decide (s0_0 < (s.length : Int))) (fun c1 => ?_) (fun c1 => ?_)
   ·
    replace hm := ite_t hm c1
    refine acode_cond_true rfl (c1) ?_
    refine pk ?_
    refine acode_seq ?_
    refine acode_block ?_
    refine sr ?_
    refine mv (lb rfl) rfl ?_
    refine as_ (lb rfl) rfl ?_
    refine nk ?_
    refine sr ?_
    refine mv (lb rfl) rfl ?_
    refine mv (lb rfl) rfl ?_
    refine mv (lb rfl) rfl ?_
    obtain ⟨x2, hx2, hm⟩ := bnd hm
    refine st1 rfl (op_index_shG (f := (GTask.cells false)) (l := s) Tryz.underlying79 Tryz.sizeOf187 (lb rfl) hx2) (so rfl (so rfl sn)) ?_
    refine st1 rfl (op_load_pts_row Tryz.isAgg187 Tryz.sizeOf187 rfl rfl (lb rfl)) (so rfl sn) ?_
    obtain ⟨x3, hx3, hm⟩ := bnd hm
    refine st1 rfl (op_callP hfk hcap (hp _ x3 hx3) (.row rfl) (lb rfl)) (so rfl (sats_opds (.cons rfl .nil) (sats_app (sats_freshL rfl) (sats_needsO obs_nil)))) ?_
    refine nk ?_
    refine acode_split (b := x3) (fun c4 => ?_) (fun c4 => ?_)
    ·
     replace hm := ite_t hm c4
     refine acode_cond_true rfl (c4) ?_
     refine sr ?_
     refine mv (lb rfl) rfl ?_
     refine as_ (lb rfl) rfl ?_
     refine nkt ?_
     obtain rfl := Option.some.inj hm
     exact kblk_ret (kseq_ret (klg_ret (kblk_ret (kseq_ret (fin2_retL (.cons (.c rfl) .nil) rfl .nil rfl rfl rfl)))))
    ·
     replace hm := ite_f hm c4
     refine acode_cond_false rfl (c4) ?_
     refine acode_skip ?_
     refine kblk_normal (kseq_normal ?_)
     refine acode_region ?_
     obtain ⟨g5, hm⟩ := gd_some hm
     refine st1 rfl (op_add (lb rfl) g5) (so rfl (so rfl sn)) ?_
     refine mv (lb rfl) rfl ?_
     refine rg_nil_seq ?_
     refine klg_back (n0, (s0_0 + 1)) hm (Nat.lt_succ_self _) ?_
     exact le_stU idn (.cons rfl rfl (.cons rfl rfl (.cons rfl (ren_fnp _) (.cons rfl rfl .nil)))) .nil rfl
   ·
    replace hm := ite_f hm c1
    refine acode_cond_false rfl (c1) ?_
    refine acode_exit ?_
    unfold m_IndexFunc_GTask_k1 at hm
    refine kseq_exit (klg_exit (kblk_hit (kseq_normal ?_)))
    refine sr ?_
    refine as_ (lb rfl) rfl ?_
    refine nkt ?_
    obtain rfl := Option.some.inj hm
    exact fin2_retL (.cons (.c rfl) .nil) rfl .nil rfl rfl rfl

def m_ContainsFunc_GTask (s : List GTask) (p : GTask → Option Bool) : Option Bool := (m_IndexFunc_GTask s p).bind fun x1 => (some (decide (0 ≤ x1)))

theorem c_ContainsFunc_GTask {fid : FuncId} {caps : List Arg} (hfk : FnOk Tryz.prog fid) (hcap : plainArgs caps = true) (s : List GTask) (p : GTask → Option Bool) (hp : ∀ x y, p x = some y → FnB Tryz.prog fid ((.row (GTask.cells false x)) :: caps) [.c (cB y)] []) (rz : Bool) (hm : m_ContainsFunc_GTask s p = some rz) : FnB Tryz.prog 161 [.c (.sl false 9 (s.map (GTask.cells false))), .fn fid caps] [.c (cB rz)] [] := by
 unfold m_ContainsFunc_GTask at hm
 refine fn_intro2 (n := 9) (rvs := [.tmp 4]) Tryz.func161 rfl rfl rfl (lb rfl) (by simp [Arg.par, hcap]) rfl rfl rfl (by simp [parOpens, parOpen, AV.ids, idsL_argAVs]) ?_
 refine acode_seq ?_
 refine acode_le (le_stU (env := [(0, .c (.sl false 9 (s.map (GTask.cells false)))), (1, .fn fid (argAVs caps))]) (obj := []) idn (.cons rfl rfl (.cons rfl (ren_fnp _) .nil)) .nil rfl) ?_
 refine acode_region ?_
 refine as_ (lb rfl) rfl ?_
 refine nk ?_
 refine sr ?_
 refine mv (lb rfl) rfl ?_
 refine mv (lb rfl) rfl ?_
 obtain ⟨x1, hx1, hm⟩ := bnd hm
 refine st1 rfl (op_call2 (ks := []) Tryz.func206 rfl rfl (c_IndexFunc_GTask hfk hcap s p hp x1 hx1) (.cons (.c rfl) (.cons (giv_argAVs fid caps hcap) .nil rfl) rfl) rfl rfl (.inl rfl) .nil rfl rfl (lb rfl)) (sats_opds (.cons rfl (.cons rfl .nil)) (sats_app (sats_freshL rfl) (sats_needsO obs_nil))) ?_
 refine st1 rfl (op_geq (lb rfl)) (so rfl (so rfl sn)) ?_
 refine as_ (lb rfl) rfl ?_
 refine nkt ?_
 obtain rfl := Option.some.inj hm
 exact fin2_retL (.cons (.c rfl) .nil) rfl .nil rfl rfl rfl

def m_IndexFunc_GNet_k1  : Option Int := some (-1)
def m_IndexFunc_GNet_l0 (s : List GNet) (p : GNet → Option Bool) (kx0_0 : Option Int) : Nat → Int → Option Int
  | 0, _ => none
  | n0 + 1, s0_0 => if decide (s0_0 < (s.length : Int)) = true then ((getI s s0_0).bind fun x2 => ((p x2).bind fun x3 => (if x3 = true then (some s0_0) else (gd (ok64 (s0_0 + 1)) ((m_IndexFunc_GNet_l0 s p kx0_0 n0) (s0_0 + 1)))))) else (kx0_0)
def m_IndexFunc_GNet (s : List GNet) (p : GNet → Option Bool) : Option Int := m_IndexFunc_GNet_l0 s p m_IndexFunc_GNet_k1 FUEL 0

theorem c_IndexFunc_GNet {fid : FuncId} {caps : List Arg} (hfk : FnOk Tryz.prog fid) (hcap : plainArgs caps = true) (s : List GNet) (p : GNet → Option Bool) (hp : ∀ x y, p x = some y → FnB Tryz.prog fid ((.row (GNet.cells false x)) :: caps) [.c (cB y)] []) (rz : Int) (hm : m_IndexFunc_GNet s p = some rz) : FnB Tryz.prog 159 [.c (.sl false 2 (s.map (GNet.cells false))), .fn fid caps] [.c (cI rz)] [] := by
 unfold m_IndexFunc_GNet at hm
 refine fn_intro2 (n := 19) (rvs := [.tmp 4]) Tryz.func159 rfl rfl rfl (lb rfl) (by simp [Arg.par, hcap]) rfl rfl rfl (by simp [parOpens, parOpen, AV.ids, idsL_argAVs]) ?_
 refine acode_seq ?_
 refine acode_le (le_stU (env := [(0, .c (.sl false 2 (s.map (GNet.cells false)))), (1, .fn fid (argAVs caps))]) (obj := []) idn (.cons rfl rfl (.cons rfl (ren_fnp _) .nil)) .nil rfl) ?_
 refine acode_region ?_
 refine as_ (lb rfl) rfl ?_
 refine nk ?_
 refine acode_seq ?_
 refine sr ?_
 refine mv (lb rfl) rfl ?_
 refine st1 rfl (op_len_sh (f := (GNet.cells false)) (l := s) Tryz.underlying34 (lb rfl)) (so rfl sn) ?_
 refine mv (lb rfl) rfl ?_
 refine nk ?_
 refine acode_block ?_
 refine acode_loopk (xs := [0, 1, 7]) (ys := []) (S := Nat × Int) (fun z => [(8, aInt z.2)]) (fun z => []) (fun z => m_IndexFunc_GNet_l0 s p m_IndexFunc_GNet_k1 z.1 z.2 = some rz) (fun z => z.1) (FUEL, 0) (.cons rfl (.cons rfl (.cons rfl .nil))) .nil ?em ?eo rfl ?ei ?round
 case em => exact (.cons rfl rfl .nil)
 case eo => exact .nil
 case ei => exact hm
 case round =>
  rintro ⟨n0, s0_0⟩ hm
  dsimp only at hm ⊢
  cases n0 with
  | zero => rw [m_IndexFunc_GNet_l0] at hm; cases hm
  | succ n0 =>
   rw [m_IndexFunc_GNet_l0] at hm
   refine sr ?_
   refine st1 rfl (op_lss (lb rfl)) (so rfl (so rfl sn)) ?_
   refine nk ?_
   refine acode_seq ?_
   refine acode_split (b := decide (s0_0 < (s.length : Int))) (fun c1 => ?_) (fun c1 => ?_)
   ·
    replace hm := ite_t hm c1
    refine acode_cond_true rfl (c1) ?_
    refine pk ?_
    refine acode_seq ?_
    refine acode_block ?_
    refine sr ?_
    refine mv (lb rfl) rfl ?_
    refine as_ (lb rfl) rfl ?_
    refine nk ?_
    refine sr ?_
    refine mv (lb rfl) rfl ?_
    refine mv (lb rfl) rfl ?_
    refine mv (lb rfl) rfl ?_
    obtain ⟨x2, hx2, hm⟩ := bnd hm
    refine st1 rfl (op_index_shG (f := (GNet.cells false)) (l := s) Tryz.underlying34 Tryz.sizeOf81 (lb rfl) hx2) (so rfl (so rfl sn)) ?_
    refine st1 rfl (op_load_pts_row Tryz.isAgg81 Tryz.sizeOf81 rfl rfl (lb rfl)) (so rfl sn) ?_
    obtain ⟨x3, hx3, hm⟩ := bnd hm
    refine st1 rfl (op_callP hfk hcap (hp _ x3 hx3) (.row rfl) (lb rfl)) (so rfl (sats_opds (.cons rfl .nil) (sats_app (sats_freshL rfl) (sats_needsO obs_nil)))) ?_
    refine nk ?_
    refine acode_split (b := x3) (fun c4 => ?_) (fun c4 => ?_)
    ·
     replace hm := ite_t hm c4
     refine acode_cond_true rfl (c4) ?_
     refine sr ?_
     refine mv (lb rfl) rfl ?_
     refine as_ (lb rfl) rfl ?_
     refine nkt ?_
     obtain rfl := Option.some.inj hm
     exact kblk_ret (kseq_ret (klg_ret (kblk_ret (kseq_ret (fin2_retL (.cons (.c rfl) .nil) rfl .nil rfl rfl rfl)))))
    ·
     replace hm := ite_f hm c4
     refine acode_cond_false rfl (c4) ?_
     refine acode_skip ?_
     refine kblk_normal (kseq_normal ?_)
     refine acode_region ?_
     obtain ⟨g5, hm⟩ := gd_some hm
     refine st1 rfl (op_add (lb rfl) g5) (so rfl (so rfl sn)) ?_
     refine mv (lb rfl) rfl ?_
     refine rg_nil_seq ?_
     refine klg_back (n0, (s0_0 + 1)) hm (Nat.lt_succ_self _) ?_
     exact le_stU idn (.cons rfl rfl (.cons rfl rfl (.cons rfl (ren_fnp _) (.cons rfl rfl .nil)))) .nil rfl
   ·
    replace hm := ite_f hm c1
    refine acode_cond_false rfl (c1) ?_
    refine acode_exit ?_
    unfold m_IndexFunc_GNet_k1 at hm
    refine kseq_exit (klg_exit (kblk_hit (kseq_normal ?_)))
    refine sr ?_
    refine as_ (lb rfl) rfl ?_
    refine nkt ?_
    obtain rfl := Option.some.inj hm
    exact fin2_retL (.cons (.c rfl) .nil) rfl .nil rfl rfl rfl

def m_ContainsFunc_GNet (s : List GNet) (p : GNet → Option Bool) : Option Bool := (m_IndexFunc_GNet s p).bind fun x1 => (some (decide (0 ≤ x1)))

theorem c_ContainsFunc_GNet {fid : FuncId} {caps : List Arg} (hfk : FnOk Tryz.prog fid) (hcap : plainArgs caps = true) (s : List GNet) (p : GNet → Option Bool) (hp : ∀ x y, p x = some y → FnB Tryz.prog fid ((.row (GNet.cells false x)) :: caps) [.c (cB y)] []) (rz : Bool) (hm : m_ContainsFunc_GNet s p = some rz) : FnB Tryz.prog 88 [.c (.sl false 2 (s.map (GNet.cells false))), .fn fid caps] [.c (cB rz)] [] := by
 unfold m_ContainsFunc_GNet at hm
 refine fn_intro2 (n := 9) (rvs := [.tmp 4]) Tryz.func88 rfl rfl rfl (lb rfl) (by simp [Arg.par, hcap]) rfl rfl rfl (by simp [parOpens, parOpen, AV.ids, idsL_argAVs]) ?_
 refine acode_seq ?_
 refine acode_le (le_stU (env := [(0, .c (.sl false 2 (s.map (GNet.cells false)))), (1, .fn fid (argAVs caps))]) (obj := []) idn (.cons rfl rfl (.cons rfl (ren_fnp _) .nil)) .nil rfl) ?_
 refine acode_region ?_
 refine as_ (lb rfl) rfl ?_
 refine nk ?_
 refine sr ?_
 refine mv (lb rfl) rfl ?_
 refine mv (lb rfl) rfl ?_
 obtain ⟨x1, hx1, hm⟩ := bnd hm
 refine st1 rfl (op_call2 (ks := []) Tryz.func159 rfl rfl (c_IndexFunc_GNet hfk hcap s p hp x1 hx1) (.cons (.c rfl) (.cons (giv_argAVs fid caps hcap) .nil rfl) rfl) rfl rfl (.inl rfl) .nil rfl rfl (lb rfl)) (sats_opds (.cons rfl (.cons rfl .nil)) (sats_app (sats_freshL rfl) (sats_needsO obs_nil))) ?_
 refine st1 rfl (op_geq (lb rfl)) (so rfl (so rfl sn)) ?_
 refine as_ (lb rfl) rfl ?_
 refine nkt ?_
 obtain rfl := Option.some.inj hm
 exact fin2_retL (.cons (.c rfl) .nil) rfl .nil rfl rfl rfl

def m_IndexFunc_GItem_k1  : Option Int := some (-1)
def m_IndexFunc_GItem_l0 (s : List GItem) (p : GItem → Option Bool) (kx0_0 : Option Int) : Nat → Int → Option Int
  | 0, _ => none
  | n0 + 1, s0_0 => if decide (s0_0 < (s.length : Int)) = true then ((getI s s0_0).bind fun x2 => ((p x2).bind fun x3 => (if x3 = true then (some s0_0) else (gd (ok64 (s0_0 + 1)) ((m_IndexFunc_GItem_l0 s p kx0_0 n0) (s0_0 + 1)))))) else (kx0_0)
def m_IndexFunc_GItem (s : List GItem) (p : GItem → Option Bool) : Option Int := m_IndexFunc_GItem_l0 s p m_IndexFunc_GItem_k1 FUEL 0


def m_ContainsFunc_GItem (s : List GItem) (p : GItem → Option Bool) : Option Bool := (m_IndexFunc_GItem s p).bind fun x1 => (some (decide (0 ≤ x1)))


def m_Index_I_k1  : Option Int := some (-1)
def m_Index_I_l0 (s : List Int) (v : Int) (kx0_0 : Option Int) : Nat → Int → Option Int
  | 0, _ => none
  | n0 + 1, s0_0 => if decide (s0_0 < (s.length : Int)) = true then ((getI s s0_0).bind fun x2 => (if decide (v = x2) = true then (some s0_0) else (gd (ok64 (s0_0 + 1)) ((m_Index_I_l0 s v kx0_0 n0) (s0_0 + 1))))) else (kx0_0)
def m_Index_I (s : List Int) (v : Int) : Option Int := m_Index_I_l0 s v m_Index_I_k1 FUEL 0

theorem c_Index_I (s : List Int) (v : Int) (rz : Int) (hm : m_Index_I s v = some rz) : FnB Tryz.prog 179 [.c (.sl false 1 (s.map (fun n : Int => [cI n]))), .c (cI v)] [.c (cI rz)] [] := by
 unfold m_Index_I at hm
 refine fn_intro2 (n := 19) (rvs := [.tmp 4]) Tryz.func179 rfl rfl rfl (lb rfl) rfl rfl rfl rfl rfl ?_
 refine acode_seq ?_
 refine acode_le (le_stU (env := [(0, .c (.sl false 1 (s.map (fun n : Int => [cI n])))), (1, aInt v)]) (obj := []) idn (.cons rfl rfl (.cons rfl rfl .nil)) .nil rfl) ?_
 refine acode_region ?_
 refine as_ (lb rfl) rfl ?_
 refine nk ?_
 refine acode_seq ?_
 refine sr ?_
 refine mv (lb rfl) rfl ?_
 refine st1 rfl (op_len_sh (f := (fun n : Int => [cI n])) (l := s) Tryz.underlying23 (lb rfl)) (so rfl sn) ?_
 refine mv (lb rfl) rfl ?_
 refine nk ?_
 refine acode_block ?_
 refine acode_loopk (xs := [0, 1, 7]) (ys := []) (S := Nat × Int) (fun z => [(8, aInt z.2)]) (fun z => []) (fun z => m_Index_I_l0 s v m_Index_I_k1 z.1 z.2 = some rz) (fun z => z.1) (FUEL, 0) (.cons rfl (.cons rfl (.cons rfl .nil))) .nil ?em ?eo rfl ?ei ?round
 case em => exact (.cons rfl rfl .nil)
 case eo => exact .nil
 case ei => exact hm
 case round =>
  rintro ⟨n0, s0_0⟩ hm
  dsimp only at hm ⊢
  cases n0 with
  | zero => rw [m_Index_I_l0] at hm; cases hm
  | succ n0 =>
   rw [m_Index_I_l0] at hm
   refine sr ?_
   refine st1 rfl (op_lss (lb rfl)) (so rfl (so rfl sn)) ?_
   refine nk ?_
   refine acode_seq ?_
   refine acode_split (b := decide (s0_0 < (s.length : Int))) (fun c1 => ?_) (fun c1 => ?_)
   ·
    replace hm := ite_t hm c1
    refine acode_cond_true rfl (c1) ?_
    refine pk ?_
    refine acode_seq ?_
    refine acode_block ?_
    refine sr ?_
    refine mv (lb rfl) rfl ?_
    refine as_ (lb rfl) rfl ?_
    refine nk ?_
    refine sr ?_
    refine mv (lb rfl) rfl ?_
    refine mv (lb rfl) rfl ?_
    refine mv (lb rfl) rfl ?_
    obtain ⟨x2, hx2, hm⟩ := bnd hm
    refine st1 rfl (op_index_shG (f := (fun n : Int => [cI n])) (l := s) Tryz.underlying23 Tryz.sizeOf3 (lb rfl) hx2) (so rfl (so rfl sn)) ?_
    refine st1 rfl (op_load_pts Tryz.isAgg3 rfl (lb rfl)) (so rfl sn) ?_
    refine st1 rfl (op_eql (lb rfl)) (so rfl (so rfl sn)) ?_
    refine nk ?_
    refine acode_split (b := decide (v = x2)) (fun c3 => ?_) (fun c3 => ?_)
    ·
     replace hm := ite_t hm c3
     refine acode_cond_true rfl (c3) ?_
     refine sr ?_
     refine mv (lb rfl) rfl ?_
     refine as_ (lb rfl) rfl ?_
     refine nkt ?_
     obtain rfl := Option.some.inj hm
     exact kblk_ret (kseq_ret (klg_ret (kblk_ret (kseq_ret (fin2_retL (.cons (.c rfl) .nil) rfl .nil rfl rfl rfl)))))
    ·
     replace hm := ite_f hm c3
     refine acode_cond_false rfl (c3) ?_
     refine acode_skip ?_
     refine kblk_normal (kseq_normal ?_)
     refine acode_region ?_
     obtain ⟨g4, hm⟩ := gd_some hm
     refine st1 rfl (op_add (lb rfl) g4) (so rfl (so rfl sn)) ?_
     refine mv (lb rfl) rfl ?_
     refine rg_nil_seq ?_
     refine klg_back (n0, (s0_0 + 1)) hm (Nat.lt_succ_self _) ?_
     exact le_stU idn (.cons rfl rfl (.cons rfl rfl (.cons rfl rfl (.cons rfl rfl .nil)))) .nil rfl
   ·
    replace hm := ite_f hm c1
    refine acode_cond_false rfl (c1) ?_
    refine acode_exit ?_
    unfold m_Index_I_k1 at hm
    refine kseq_exit (klg_exit (kblk_hit (kseq_normal ?_)))
    refine sr ?_
    refine as_ (lb rfl) rfl ?_
    refine nkt ?_
    obtain rfl := Option.some.inj hm
    exact fin2_retL (.cons (.c rfl) .nil) rfl .nil rfl rfl rfl

def m_Contains_I (s : List Int) (v : Int) : Option Bool := (m_Index_I s v).bind fun x1 => (some (decide (0 ≤ x1)))

theorem c_Contains_I (s : List Int) (v : Int) (rz : Bool) (hm : m_Contains_I s v = some rz) : FnB Tryz.prog 108 [.c (.sl false 1 (s.map (fun n : Int => [cI n]))), .c (cI v)] [.c (cB rz)] [] := by
 unfold m_Contains_I at hm
 refine fn_intro2 (n := 9) (rvs := [.tmp 4]) Tryz.func108 rfl rfl rfl (lb rfl) rfl rfl rfl rfl rfl ?_
 refine acode_seq ?_
 refine acode_le (le_stU (env := [(0, .c (.sl false 1 (s.map (fun n : Int => [cI n])))), (1, aInt v)]) (obj := []) idn (.cons rfl rfl (.cons rfl rfl .nil)) .nil rfl) ?_
 refine acode_region ?_
 refine as_ (lb rfl) rfl ?_
 refine nk ?_
 refine sr ?_
 refine mv (lb rfl) rfl ?_
 refine mv (lb rfl) rfl ?_
 obtain ⟨x1, hx1, hm⟩ := bnd hm
 refine st1 rfl (op_call2 (ks := []) Tryz.func179 rfl rfl (c_Index_I s v x1 hx1) (.cons (.c rfl) (.cons (.c rfl) .nil rfl) rfl) rfl rfl (.inl rfl) .nil rfl rfl (lb rfl)) (sats_opds (.cons rfl (.cons rfl .nil)) (sats_app (sats_freshL rfl) (sats_needsO obs_nil))) ?_
 refine st1 rfl (op_geq (lb rfl)) (so rfl (so rfl sn)) ?_
 refine as_ (lb rfl) rfl ?_
 refine nkt ?_
 obtain rfl := Option.some.inj hm
 exact fin2_retL (.cons (.c rfl) .nil) rfl .nil rfl rfl rfl

def m_impl_DatOk_1 (n : Int) : Option Bool := (m_impl_isDatum n).bind fun x1 => (some (!x1))

theorem c_impl_DatOk_1 (n : Int) (rz : Bool) (hm : m_impl_DatOk_1 n = some rz) : FnB Tryz.prog 198 [.c (cI n)] [.c (cB rz)] [] := by
 unfold m_impl_DatOk_1 at hm
 refine fn_intro2 (n := 6) (rvs := [.tmp 2]) Tryz.func198 rfl rfl rfl (lb rfl) rfl rfl rfl rfl rfl ?_
 refine acode_seq ?_
 refine acode_le (le_stU (env := [(0, aInt n)]) (obj := []) idn (.cons rfl rfl .nil) .nil rfl) ?_
 refine acode_region ?_
 refine as_ (lb rfl) rfl ?_
 refine nk ?_
 refine sr ?_
 refine mv (lb rfl) rfl ?_
 obtain ⟨x1, hx1, hm⟩ := bnd hm
 refine st1 rfl (op_call2 (ks := []) Tryz.func137 rfl rfl (c_impl_isDatum n x1 hx1) (.cons (.c rfl) .nil rfl) rfl rfl (.inl rfl) .nil rfl rfl (lb rfl)) (sats_opds (.cons rfl .nil) (sats_app (sats_freshL rfl) (sats_needsO obs_nil))) ?_
 refine st1 rfl (op_not (lb rfl)) (so rfl sn) ?_
 refine as_ (lb rfl) rfl ?_
 refine nkt ?_
 obtain rfl := Option.some.inj hm
 exact fin2_retL (.cons (.c rfl) .nil) rfl .nil rfl rfl rfl

def m_impl_DatOk (data : List Int) : Option Bool := if decide ((data.length : Int) = 3) = true then ((m_ContainsFunc_I data (fun z => m_impl_DatOk_1 z )).bind fun x2 => (some (!x2))) else (some false)

theorem c_impl_DatOk (data : List Int) (rz : Bool) (hm : m_impl_DatOk data = some rz) : FnB Tryz.prog 140 [.c (.sl false 1 (data.map (fun n : Int => [cI n])))] [.c (cB rz)] [] := by
 unfold m_impl_DatOk at hm
 refine fn_intro2 (n := 11) (rvs := [.tmp 2]) Tryz.func140 rfl rfl rfl (lb rfl) rfl rfl rfl rfl rfl ?_
 refine acode_seq ?_
 refine acode_le (le_stU (env := [(0, .c (.sl false 1 (data.map (fun n : Int => [cI n]))))]) (obj := []) idn (.cons rfl rfl .nil) .nil rfl) ?_
 refine acode_region ?_
 refine as_ (lb rfl) rfl ?_
 refine nk ?_
 refine sr ?_
 refine mv (lb rfl) rfl ?_
 refine st1 rfl (op_len_sh (f := (fun n : Int => [cI n])) (l := data) Tryz.underlying23 (lb rfl)) (so rfl sn) ?_
 refine st1 rfl (op_eql (lb rfl)) (so rfl (so rfl sn)) ?_
 refine mv (lb rfl) rfl ?_
 refine rg_split (b := decide ((data.length : Int) = 3)) (fun c1 => ?_) (fun c1 => ?_)
 ·
  replace hm := ite_t hm c1
  refine st1on rfl rfl rfl (c1) (op_move (lb rfl)) (so rfl sn) ?_
  obtain ⟨x2, hx2, hm⟩ := bnd hm
  refine st1on rfl rfl rfl (c1) (op_call2 (ks := []) Tryz.func164 rfl rfl (c_ContainsFunc_I ⟨_, _, Tryz.func198, rfl, rfl⟩ rfl data (fun z => m_impl_DatOk_1 z ) (fun z y hz => c_impl_DatOk_1 z  y hz) x2 hx2) (.cons (.c rfl) (.cons .fnNil .nil rfl) rfl) rfl rfl (.inl rfl) .nil rfl rfl (lb rfl)) (sats_opds (.cons rfl (.cons rfl .nil)) (sats_app (sats_freshL rfl) (sats_needsO obs_nil))) ?_
  refine st1on rfl rfl rfl (c1) (op_not (lb rfl)) (so rfl sn) ?_
  refine st1 rfl (op_pick_true (lb rfl) (c1)) (so rfl (so rfl sn)) ?_
  refine as_ (lb rfl) rfl ?_
  refine nkt ?_
  obtain rfl := Option.some.inj hm
  exact fin2_retL (.cons (.c rfl) .nil) rfl .nil rfl rfl rfl
 ·
  replace hm := ite_f hm c1
  refine st1off rfl rfl (lb rfl) rfl rfl (c1) ?_
  refine st1off rfl rfl (lb rfl) rfl rfl (c1) ?_
  refine st1off rfl rfl (lb rfl) rfl rfl (c1) ?_
  refine st1 rfl (op_pick_false (lb rfl) (c1)) (so rfl (so rfl sn)) ?_
  refine as_ (lb rfl) rfl ?_
  refine nkt ?_
  obtain rfl := Option.some.inj hm
  exact fin2_retL (.cons (.c rfl) .nil) rfl .nil rfl rfl rfl

def m_impl_ExpHolds (e : GAsk) (data : List Int) : Option Bool := (m_impl_ExpOk e).bind fun x1 => (if x1 = true then ((m_impl_DatOk data).bind fun x3 => (if x3 = true then (if decide (e.op = 1) = true then ((getI data e.var).bind fun x6 => (some (decide (x6 < e.k)))) else (if decide (e.op = 2) = true then ((getI data e.var).bind fun x8 => (some (decide (x8 = e.k)))) else (if decide (e.op = 3) = true then ((getI data e.var).bind fun x10 => (some (decide (e.k < x10)))) else (some true)))) else (some false))) else (some false))

theorem c_impl_ExpHolds (e : GAsk) (data : List Int) (rz : Bool) (hm : m_impl_ExpHolds e data = some rz) : FnB Tryz.prog 166 [.row (GAsk.cells false e), .c (.sl false 1 (data.map (fun n : Int => [cI n])))] [.c (cB rz)] [] := by
 unfold m_impl_ExpHolds at hm
 refine fn_intro2 (n := 45) (rvs := [.tmp 4]) Tryz.func166 rfl rfl rfl (lb rfl) rfl rfl rfl rfl rfl ?_
 refine acode_seq ?_
 refine acode_le (le_stU (env := [(0, .row [cI e.op, cI e.var, cI e.k]), (1, .c (.sl false 1 (data.map (fun n : Int => [cI n]))))]) (obj := []) idn (.cons rfl rfl (.cons rfl rfl .nil)) .nil rfl) ?_
 refine acode_region ?_
 refine st1 rfl (op_box rfl (lb rfl)) (so rfl (sf rfl (sats_lives rfl))) ?_
 refine as_ (lb rfl) rfl ?_
 refine nk ?_
 refine acode_seq ?_
 refine sr ?_
 refine st1 rfl (op_load_bx_agg Tryz.isAgg42 Tryz.sizeOf42 rfl rfl (lb rfl)) (so rfl (sb rfl sn)) ?_
 obtain ⟨x1, hx1, hm⟩ := bnd hm
 refine st1 rfl (op_call2 (ks := []) Tryz.func138 rfl rfl (c_impl_ExpOk e x1 hx1) (.cons ((.aggCons (.c rfl) (.aggCons (.c rfl) (.aggCons (.c rfl) .aggNil rfl) rfl) rfl)) .nil rfl) rfl rfl (.inl rfl) .nil rfl rfl (lb rfl)) (sats_opds (.cons rfl .nil) (sats_app (sats_freshL rfl) (sats_needsO obs_nil))) ?_
 refine st1 rfl (op_not (lb rfl)) (so rfl sn) ?_
 refine mv (lb rfl) rfl ?_
 refine rg_split (b := x1) (fun c2 => ?_) (fun c2 => ?_)
 ·
  replace hm := ite_t hm c2
  refine st1on rfl rfl rfl (not_t (c2)) (op_move (lb rfl)) (so rfl sn) ?_
  obtain ⟨x3, hx3, hm⟩ := bnd hm
  refine st1on rfl rfl rfl (not_t (c2)) (op_call2 (ks := []) Tryz.func140 rfl rfl (c_impl_DatOk data x3 hx3) (.cons (.c rfl) .nil rfl) rfl rfl (.inl rfl) .nil rfl rfl (lb rfl)) (sats_opds (.cons rfl .nil) (sats_app (sats_freshL rfl) (sats_needsO obs_nil))) ?_
  refine st1on rfl rfl rfl (not_t (c2)) (op_not (lb rfl)) (so rfl sn) ?_
  refine st1 rfl (op_pick_false (lb rfl) (not_t (c2))) (so rfl (so rfl sn)) ?_
  refine nk ?_
  refine acode_split (b := x3) (fun c4 => ?_) (fun c4 => ?_)
  ·
   replace hm := ite_t hm c4
   refine acode_cond_false rfl (not_t (c4)) ?_
   refine pk ?_
   refine acode_seq ?_
   refine sr ?_
   refine fdb (off := 0) Tryz.underlying42 Tryz.sizeOf3 rfl rfl rfl (lb rfl) rfl rfl ?_
   refine ldb Tryz.isAgg3 rfl (lb rfl) rfl rfl ?_
   refine nk ?_
   refine acode_block ?_
   refine sr ?_
   refine st1 rfl (op_eql (lb rfl)) (so rfl (so rfl sn)) ?_
   refine as_ (lb rfl) rfl ?_
   refine nk ?_
   refine acode_split (b := decide (e.op = 1)) (fun c5 => ?_) (fun c5 => ?_)
   ·
    replace hm := ite_t hm c5
    refine acode_cond_true rfl (c5) ?_
    refine acode_seq ?_
    refine acode_region_draw mixed rfl ?_
    refine mv (lb rfl) rfl ?_
    refine fdb (off := 1) Tryz.underlying42 Tryz.sizeOf3 rfl rfl rfl (lb rfl) rfl rfl ?_
    refine ldb Tryz.isAgg3 rfl (lb rfl) rfl rfl ?_
    obtain ⟨x6, hx6, hm⟩ := bnd hm
    refine st1 rfl (op_index_shG (f := (fun n : Int => [cI n])) (l := data) Tryz.underlying23 Tryz.sizeOf3 (lb rfl) hx6) (so rfl (so rfl sn)) ?_
    refine st1 rfl (op_load_pts Tryz.isAgg3 rfl (lb rfl)) (so rfl sn) ?_
    refine fdb (off := 2) Tryz.underlying42 Tryz.sizeOf3 rfl rfl rfl (lb rfl) rfl rfl ?_
    refine ldb Tryz.isAgg3 rfl (lb rfl) rfl rfl ?_
    refine st1 rfl (op_lss (lb rfl)) (so rfl (so rfl sn)) ?_
    refine as_ (lb rfl) rfl ?_
    refine rg_nil_draw (by kernel_rfl) ?_
    refine kseq_normal ?_
    refine acode_ret ?_
    obtain rfl := Option.some.inj hm
    exact kblk_ret (kseq_ret (fin2_retL (.cons (.c rfl) .nil) rfl .nil rfl rfl rfl))
   ·
    replace hm := ite_f hm c5
    refine acode_cond_false rfl (c5) ?_
    refine acode_seq ?_
    refine acode_le (le_stU (env := [(1, .c (.sl false 1 (data.map (fun n : Int => [cI n])))), (2, .bx 2 0), (14, aInt e.op)]) (obj := [(2, .box [aInt e.op, aInt e.var, aInt e.k])]) idn (.cons rfl rfl (.cons rfl rfl (.cons rfl rfl .nil))) (.cons rfl rfl (.inl rfl) .nil) rfl) ?_
    refine acode_region ?_
    refine st1 rfl (op_eql (lb rfl)) (so rfl (so rfl sn)) ?_
    refine as_ (lb rfl) rfl ?_
    refine nk ?_
    refine acode_split (b := decide (e.op = 2)) (fun c7 => ?_) (fun c7 => ?_)
    ·
     replace hm := ite_t hm c7
     refine acode_cond_true rfl (c7) ?_
     refine acode_seq ?_
     refine acode_region_draw mixed rfl ?_
     refine mv (lb rfl) rfl ?_
     refine fdb (off := 1) Tryz.underlying42 Tryz.sizeOf3 rfl rfl rfl (lb rfl) rfl rfl ?_
     refine ldb Tryz.isAgg3 rfl (lb rfl) rfl rfl ?_
     obtain ⟨x8, hx8, hm⟩ := bnd hm
     refine st1 rfl (op_index_shG (f := (fun n : Int => [cI n])) (l := data) Tryz.underlying23 Tryz.sizeOf3 (lb rfl) hx8) (so rfl (so rfl sn)) ?_
     refine st1 rfl (op_load_pts Tryz.isAgg3 rfl (lb rfl)) (so rfl sn) ?_
     refine fdb (off := 2) Tryz.underlying42 Tryz.sizeOf3 rfl rfl rfl (lb rfl) rfl rfl ?_
     refine ldb Tryz.isAgg3 rfl (lb rfl) rfl rfl ?_
     refine st1 rfl (op_eql (lb rfl)) (so rfl (so rfl sn)) ?_
     refine as_ (lb rfl) rfl ?_
     refine rg_nil_draw (by kernel_rfl) ?_
     refine kseq_normal ?_
     refine acode_ret ?_
     obtain rfl := Option.some.inj hm
     exact kblk_ret (kseq_ret (fin2_retL (.cons (.c rfl) .nil) rfl .nil rfl rfl rfl))
    ·
     replace hm := ite_f hm c7
     refine acode_cond_false rfl (c7) ?_
     refine sr ?_
     refine st1 rfl (op_eql (lb rfl)) (so rfl (so rfl sn)) ?_
     refine as_ (lb rfl) rfl ?_
     refine nk ?_
     refine acode_split (b := decide (e.op = 3)) (fun c9 => ?_) (fun c9 => ?_)
     ·
      replace hm := ite_t hm c9
      refine acode_cond_true rfl (c9) ?_
      refine acode_seq ?_
      refine acode_region_draw mixed rfl ?_
      refine mv (lb rfl) rfl ?_
      refine fdb (off := 1) Tryz.underlying42 Tryz.sizeOf3 rfl rfl rfl (lb rfl) rfl rfl ?_
      refine ldb Tryz.isAgg3 rfl (lb rfl) rfl rfl ?_
      obtain ⟨x10, hx10, hm⟩ := bnd hm
      refine st1 rfl (op_index_shG (f := (fun n : Int => [cI n])) (l := data) Tryz.underlying23 Tryz.sizeOf3 (lb rfl) hx10) (so rfl (so rfl sn)) ?_
      refine st1 rfl (op_load_pts Tryz.isAgg3 rfl (lb rfl)) (so rfl sn) ?_
      refine fdb (off := 2) Tryz.underlying42 Tryz.sizeOf3 rfl rfl rfl (lb rfl) rfl rfl ?_
      refine ldb Tryz.isAgg3 rfl (lb rfl) rfl rfl ?_
      refine st1 rfl (op_gtr (lb rfl)) (so rfl (so rfl sn)) ?_
      refine as_ (lb rfl) rfl ?_
      refine rg_nil_draw (by kernel_rfl) ?_
      refine kseq_normal ?_
      refine acode_ret ?_
      obtain rfl := Option.some.inj hm
      exact kblk_ret (kseq_ret (fin2_retL (.cons (.c rfl) .nil) rfl .nil rfl rfl rfl))
     ·
      replace hm := ite_f hm c9
      refine acode_cond_false rfl (c9) ?_
      refine acode_skip ?_
      refine kblk_normal (kseq_normal ?_)
      refine acode_seq ?_
      refine acode_le (le_stU (env := []) (obj := []) idn .nil .nil rfl) ?_
      refine acode_region ?_
      refine as_ (lb rfl) rfl ?_
      refine nkt ?_
      obtain rfl := Option.some.inj hm
      exact fin2_retL (.cons (.c rfl) .nil) rfl .nil rfl rfl rfl
  ·
   replace hm := ite_f hm c4
   refine acode_cond_true rfl (not_f (c4)) ?_
   refine sr ?_
   refine as_ (lb rfl) rfl ?_
   refine nkt ?_
   obtain rfl := Option.some.inj hm
   exact kseq_ret (fin2_retL (.cons (.c rfl) .nil) rfl .nil rfl rfl rfl)
 ·
  replace hm := ite_f hm c2
  refine st1off rfl rfl (lb rfl) rfl rfl (not_f (c2)) ?_
  refine st1off rfl rfl (lb rfl) rfl rfl (not_f (c2)) ?_
  refine st1off rfl rfl (lb rfl) rfl rfl (not_f (c2)) ?_
  refine st1 rfl (op_pick_true (lb rfl) (not_f (c2))) (so rfl (so rfl sn)) ?_
  refine nk ?_
  refine acode_cond_true rfl (rfl) ?_
  refine sr ?_
  refine as_ (lb rfl) rfl ?_
  refine nkt ?_
  obtain rfl := Option.some.inj hm
  exact kseq_ret (fin2_retL (.cons (.c rfl) .nil) rfl .nil rfl rfl rfl)

def m_impl_ascends_k1  : Option Bool := some true
def m_impl_ascends_l0 (list : List Int) (places : Int) (without : List Int) (kx0_0 : Option Bool) : Nat → Int → Int → Option Bool
  | 0, _, _ => none
  | n0 + 1, s0_0, s0_1 => if decide (s0_0 < (list.length : Int)) = true then ((getI list s0_0).bind fun x2 => (gd (ok64 (s0_1 + 1)) (gd (ok64 (places - 1)) ((m_impl_in x2 (s0_1 + 1) (places - 1)).bind fun x5 => (if x5 = true then ((m_Contains_I without x2).bind fun x7 => (if x7 = true then (some false) else (gd (ok64 (s0_0 + 1)) ((m_impl_ascends_l0 list places without kx0_0 n0) (s0_0 + 1) x2)))) else (some false)))))) else (kx0_0)
def m_impl_ascends (list : List Int) (places : Int) (without : List Int) : Option Bool := m_impl_ascends_l0 list places without m_impl_ascends_k1 FUEL 0 (-1)

theorem c_impl_ascends (list : List Int) (places : Int) (without : List Int) (rz : Bool) (hm : m_impl_ascends list places without = some rz) : FnB Tryz.prog 208 [.c (.sl false 1 (list.map (fun n : Int => [cI n]))), .c (cI places), .c (.sl false 1 (without.map (fun n : Int => [cI n])))] [.c (cB rz)] [] := by
 unfold m_impl_ascends at hm
 refine fn_intro2 (n := 30) (rvs := [.tmp 6]) Tryz.func208 rfl rfl rfl (lb rfl) rfl rfl rfl rfl rfl ?_
 refine acode_seq ?_
 refine acode_le (le_stU (env := [(0, .c (.sl false 1 (list.map (fun n : Int => [cI n])))), (1, aInt places), (2, .c (.sl false 1 (without.map (fun n : Int => [cI n]))))]) (obj := []) idn (.cons rfl rfl (.cons rfl rfl (.cons rfl rfl .nil))) .nil rfl) ?_
 refine acode_region ?_
 refine as_ (lb rfl) rfl ?_
 refine nk ?_
 refine sr ?_
 refine as_ (lb rfl) rfl ?_
 refine nk ?_
 refine acode_seq ?_
 refine sr ?_
 refine mv (lb rfl) rfl ?_
 refine st1 rfl (op_len_sh (f := (fun n : Int => [cI n])) (l := list) Tryz.underlying23 (lb rfl)) (so rfl sn) ?_
 refine mv (lb rfl) rfl ?_
 refine nk ?_
 refine acode_block ?_
 refine acode_loopk (xs := [1, 2, 10, 11]) (ys := []) (S := Nat × Int × Int) (fun z => [(7, aInt z.2.2), (12, aInt z.2.1)]) (fun z => []) (fun z => m_impl_ascends_l0 list places without m_impl_ascends_k1 z.1 z.2.1 z.2.2 = some rz) (fun z => z.1) (FUEL, 0, (-1)) (.cons rfl (.cons rfl (.cons rfl (.cons rfl .nil)))) .nil ?em ?eo rfl ?ei ?round
 case em => exact (.cons rfl rfl (.cons rfl rfl .nil))
 case eo => exact .nil
 case ei => exact hm
 case round =>
  rintro ⟨n0, s0_0, s0_1⟩ hm
  dsimp only at hm ⊢
  cases n0 with
  | zero => rw [m_impl_ascends_l0] at hm; cases hm
  | succ n0 =>
   rw [m_impl_ascends_l0] at hm
   refine sr ?_
   refine st1 rfl (op_lss (lb rfl)) (so rfl (so rfl sn)) ?_
   refine nk ?_
   refine acode_seq ?_
   refine acode_split (b := decide (s0_0 < (list.length : Int))) (fun c1 => ?_) (fun c1 => ?_)
   ·
    replace hm := ite_t hm c1
    refine acode_cond_true rfl (c1) ?_
    refine pk ?_
    refine acode_seq ?_
    refine acode_block ?_
    refine sr ?_
    obtain ⟨x2, hx2, hm⟩ := bnd hm
    refine st1 rfl (op_index_shG (f := (fun n : Int => [cI n])) (l := list) Tryz.underlying23 Tryz.sizeOf3 (lb rfl) hx2) (so rfl (so rfl sn)) ?_
    refine st1 rfl (op_load_pts Tryz.isAgg3 rfl (lb rfl)) (so rfl sn) ?_
    refine as_ (lb rfl) rfl ?_
    refine nk ?_
    refine acode_seq ?_
    refine sr ?_
    refine mv (lb rfl) rfl ?_
    refine mv (lb rfl) rfl ?_
    obtain ⟨g3, hm⟩ := gd_some hm
    refine st1 rfl (op_add (lb rfl) g3) (so rfl (so rfl sn)) ?_
    refine mv (lb rfl) rfl ?_
    obtain ⟨g4, hm⟩ := gd_some hm
    refine st1 rfl (op_sub (lb rfl) g4) (so rfl (so rfl sn)) ?_
    obtain ⟨x5, hx5, hm⟩ := bnd hm
    refine st1 rfl (op_call2 (ks := []) Tryz.func87 rfl rfl (c_impl_in x2 (s0_1 + 1) (places - 1) x5 hx5) (.cons (.c rfl) (.cons (.c rfl) (.cons (.c rfl) .nil rfl) rfl) rfl) rfl rfl (.inl rfl) .nil rfl rfl (lb rfl)) (sats_opds (.cons rfl (.cons rfl (.cons rfl .nil))) (sats_app (sats_freshL rfl) (sats_needsO obs_nil))) ?_
    refine st1 rfl (op_not (lb rfl)) (so rfl sn) ?_
    refine mv (lb rfl) rfl ?_
    refine rg_split (b := x5) (fun c6 => ?_) (fun c6 => ?_)
    ·
     replace hm := ite_t hm c6
     refine st1on rfl rfl rfl (not_t (c6)) (op_move (lb rfl)) (so rfl sn) ?_
     refine st1on rfl rfl rfl (not_t (c6)) (op_move (lb rfl)) (so rfl sn) ?_
     obtain ⟨x7, hx7, hm⟩ := bnd hm
     refine st1on rfl rfl rfl (not_t (c6)) (op_call2 (ks := []) Tryz.func108 rfl rfl (c_Contains_I without x2 x7 hx7) (.cons (.c rfl) (.cons (.c rfl) .nil rfl) rfl) rfl rfl (.inl rfl) .nil rfl rfl (lb rfl)) (sats_opds (.cons rfl (.cons rfl .nil)) (sats_app (sats_freshL rfl) (sats_needsO obs_nil))) ?_
     refine st1 rfl (op_pick_false (lb rfl) (not_t (c6))) (so rfl (so rfl sn)) ?_
     refine nk ?_
     refine acode_split (b := x7) (fun c8 => ?_) (fun c8 => ?_)
     ·
      replace hm := ite_t hm c8
      refine acode_cond_true rfl (c8) ?_
      refine acode_seq ?_
      refine acode_le (le_stU (env := []) (obj := []) idn .nil .nil rfl) ?_
      refine acode_region ?_
      refine as_ (lb rfl) rfl ?_
      refine nkt ?_
      obtain rfl := Option.some.inj hm
      exact kseq_ret (kblk_ret (kseq_ret (klg_ret (kblk_ret (kseq_ret (fin2_retL (.cons (.c rfl) .nil) rfl .nil rfl rfl rfl))))))
     ·
      replace hm := ite_f hm c8
      refine acode_cond_false rfl (c8) ?_
      refine pk ?_
      refine acode_region ?_
      refine mv (lb rfl) rfl ?_
      refine as_ (lb rfl) rfl ?_
      refine rg_nil_seq ?_
      refine kblk_normal (kseq_normal ?_)
      refine acode_region ?_
      obtain ⟨g9, hm⟩ := gd_some hm
      refine st1 rfl (op_add (lb rfl) g9) (so rfl (so rfl sn)) ?_
      refine mv (lb rfl) rfl ?_
      refine rg_nil_seq ?_
      refine klg_back (n0, (s0_0 + 1), x2) hm (Nat.lt_succ_self _) ?_
      exact le_stU idn (.cons rfl rfl (.cons rfl rfl (.cons rfl rfl (.cons rfl rfl (.cons rfl rfl (.cons rfl rfl .nil)))))) .nil rfl
    ·
     replace hm := ite_f hm c6
     refine st1off rfl rfl (lb rfl) rfl rfl (not_f (c6)) ?_
     refine st1off rfl rfl (lb rfl) rfl rfl (not_f (c6)) ?_
     refine st1off rfl rfl (lb rfl) rfl rfl (not_f (c6)) ?_
     refine st1 rfl (op_pick_true (lb rfl) (not_f (c6))) (so rfl (so rfl sn)) ?_
     refine nk ?_
     refine acode_cond_true rfl (rfl) ?_
     refine sr ?_
     refine as_ (lb rfl) rfl ?_
     refine nkt ?_
     obtain rfl := Option.some.inj hm
     exact kseq_ret (kblk_ret (kseq_ret (klg_ret (kblk_ret (kseq_ret (fin2_retL (.cons (.c rfl) .nil) rfl .nil rfl rfl rfl))))))
   ·
    replace hm := ite_f hm c1
    refine acode_cond_false rfl (c1) ?_
    refine acode_exit ?_
    unfold m_impl_ascends_k1 at hm
    refine kseq_exit (klg_exit (kblk_hit (kseq_normal ?_)))
    refine sr ?_
    refine as_ (lb rfl) rfl ?_
    refine nkt ?_
    obtain rfl := Option.some.inj hm
    exact fin2_retL (.cons (.c rfl) .nil) rfl .nil rfl rfl rfl
end Go.Am
