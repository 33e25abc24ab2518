/- Mirrors and walks, printed by gox.py. Own work. -/
import Derived.Test.YtcbpckbehdaloaaAmYm
import Derived.Test.YtcbpckbehdaloaaAmSb
import Derived.Test.YtcbpckbehdaloaaAmYj
import Derived.Test.YtcbpckbehdaloaaAmYk
import Derived.Test.YtcbpckbehdaloaaAmYl
import Derived.Test.YtcbpckbehdaloaaCsDw
set_option maxRecDepth 100000
set_option maxHeartbeats 4000000
set_option linter.unusedVariables false
set_option linter.unusedSimpArgs false
namespace Go.Am
open Go Go.Proofs

def m_spec_l1In (n : Int) (low : Int) (high : Int) : Option Bool := if decide (low ≤ n) = true then (some (decide (n ≤ high))) else (some false)

theorem c_spec_l1In (n : Int) (low : Int) (high : Int) (rz : Bool) (hm : m_spec_l1In n low high = some rz) : FnB Try.prog 93 [.c (cI n), .c (cI low), .c (cI high)] [.c (cB rz)] [] := by
 unfold m_spec_l1In at hm
 refine fn_intro2 (n := 15) (rvs := [.tmp 6]) Try.func93 rfl rfl rfl (lb rfl) rfl rfl rfl rfl rfl ?_
 refine acode_seq ?_
 refine acode_le (le_stU (env := [(0, aInt n), (1, aInt low), (2, aInt high)]) (obj := []) idn (.cons rfl rfl (.cons rfl rfl (.cons rfl rfl .nil))) .nil rfl) ?_
 refine acode_region ?_
 refine as_ (lb rfl) rfl ?_
 refine nk ?_
 refine sr ?_
 refine mv (lb rfl) rfl ?_
 refine mv (lb rfl) rfl ?_
 refine st1 rfl (op_geq (lb rfl)) (so rfl (so rfl sn)) ?_
 refine mv (lb rfl) rfl ?_
 refine rg_split (b := decide (low ≤ n)) (fun c1 => ?_) (fun c1 => ?_)
 ·
  replace hm := ite_t hm c1
  refine st1on rfl rfl rfl (c1) (op_move (lb rfl)) (so rfl sn) ?_
  refine st1on rfl rfl rfl (c1) (op_move (lb rfl)) (so rfl sn) ?_
  refine st1on rfl rfl rfl (c1) (op_leq (lb rfl)) (so rfl (so rfl sn)) ?_
  refine st1 rfl (op_pick_true (lb rfl) (c1)) (so rfl (so rfl sn)) ?_
  refine as_ (lb rfl) rfl ?_
  refine nkt ?_
  obtain rfl := Option.some.inj hm
  exact fin2_retL (.cons (.c rfl) .nil) rfl .nil rfl rfl rfl
 ·
  replace hm := ite_f hm c1
  refine st1off rfl rfl (lb rfl) rfl rfl (c1) ?_
  refine st1off rfl rfl (lb rfl) rfl rfl (c1) ?_
  refine st1off rfl rfl (lb rfl) rfl rfl (c1) ?_
  refine st1 rfl (op_pick_false (lb rfl) (c1)) (so rfl (so rfl sn)) ?_
  refine as_ (lb rfl) rfl ?_
  refine nkt ?_
  obtain rfl := Option.some.inj hm
  exact fin2_retL (.cons (.c rfl) .nil) rfl .nil rfl rfl rfl

def m_spec_DatOk_k1  : Option Bool := some true
def m_spec_DatOk_l0 (data : List Int) (kx0_0 : Option Bool) : Nat → Int → Option Bool
  | 0, _ => none
  | n0 + 1, s0_0 => if decide (s0_0 < (data.length : Int)) = true then ((getI data s0_0).bind fun x3 => ((m_spec_l1In x3 (-99) 99).bind fun x4 => (if x4 = true then (gd (ok64 (s0_0 + 1)) ((m_spec_DatOk_l0 data kx0_0 n0) (s0_0 + 1))) else (some false)))) else (kx0_0)
def m_spec_DatOk (data : List Int) : Option Bool := if decide ((data.length : Int) = 3) = true then (m_spec_DatOk_l0 data m_spec_DatOk_k1 FUEL 0) else (some false)

theorem c_spec_DatOk (data : List Int) (rz : Bool) (hm : m_spec_DatOk data = some rz) : FnB Try.prog 104 [.c (.sl false 1 (data.map (fun n : Int => [cI n])))] [.c (cB rz)] [] := by
 unfold m_spec_DatOk at hm
 refine fn_intro2 (n := 19) (rvs := [.tmp 2]) Try.func104 rfl rfl rfl (lb rfl) rfl rfl rfl rfl rfl ?_
 refine acode_seq ?_
 refine acode_le (le_stU (env := [(0, .c (.sl false 1 (data.map (fun n : Int => [cI n]))))]) (obj := []) idn (.cons rfl rfl .nil) .nil rfl) ?_
 refine acode_region ?_
 refine as_ (lb rfl) rfl ?_
 refine nk ?_
 refine acode_seq ?_
 refine sr ?_
 refine mv (lb rfl) rfl ?_
 refine st1 rfl (op_len_sh (f := (fun n : Int => [cI n])) (l := data) Try.underlying34 (lb rfl)) (so rfl sn) ?_
 refine st1 rfl (op_neq (lb rfl)) (so rfl (so rfl sn)) ?_
 refine nk ?_
 refine acode_split (b := decide ((data.length : Int) = 3)) (fun c1 => ?_) (fun c1 => ?_)
 ·
  replace hm := ite_t hm c1
  refine acode_cond_false rfl (not_t (c1)) ?_
  refine pk ?_
  refine acode_seq ?_
  refine sr ?_
  refine as_ (lb rfl) rfl ?_
  refine nk ?_
  refine acode_block ?_
  refine acode_loopk (xs := [0]) (ys := []) (S := Nat × Int) (fun z => [(3, aInt z.2)]) (fun z => []) (fun z => m_spec_DatOk_l0 data m_spec_DatOk_k1 z.1 z.2 = some rz) (fun z => z.1) (FUEL, 0) (.cons rfl .nil) .nil ?em ?eo rfl ?ei ?round
  case em => exact (.cons rfl rfl .nil)
  case eo => exact .nil
  case ei => exact hm
  case round =>
   rintro ⟨n0, s0_0⟩ hm
   dsimp only at hm ⊢
   cases n0 with
   | zero => rw [m_spec_DatOk_l0] at hm; cases hm
   | succ n0 =>
    rw [m_spec_DatOk_l0] at hm
    refine acode_seq ?_
    refine sr ?_
    refine mv (lb rfl) rfl ?_
    refine mv (lb rfl) rfl ?_
    refine st1 rfl (op_len_sh (f := (fun n : Int => [cI n])) (l := data) Try.underlying34 (lb rfl)) (so rfl sn) ?_
    refine st1 rfl (op_lss (lb rfl)) (so rfl (so rfl sn)) ?_
    refine nk ?_
    refine acode_split (b := decide (s0_0 < (data.length : Int))) (fun c2 => ?_) (fun c2 => ?_)
    ·
     replace hm := ite_t hm c2
     refine acode_cond_true rfl (c2) ?_
     refine pk ?_
     refine acode_seq ?_
     refine acode_block ?_
     refine sr ?_
     refine mv (lb rfl) rfl ?_
     refine mv (lb rfl) rfl ?_
     obtain ⟨x3, hx3, hm⟩ := bnd hm
     refine st1 rfl (op_index_shG (f := (fun n : Int => [cI n])) (l := data) Try.underlying34 Try.sizeOf3 (lb rfl) hx3) (so rfl (so rfl sn)) ?_
     refine st1 rfl (op_load_pts Try.isAgg3 rfl (lb rfl)) (so rfl sn) ?_
     obtain ⟨x4, hx4, hm⟩ := bnd hm
     refine st1 rfl (op_call2 (ks := []) Try.func93 rfl rfl (c_spec_l1In x3 (-99) 99 x4 hx4) (.cons (.c rfl) (.cons (.c rfl) (.cons (.c rfl) .nil rfl) rfl) rfl) rfl rfl (.inl rfl) .nil rfl rfl (lb rfl)) (sats_opds (.cons rfl (.cons rfl (.cons rfl .nil))) (sats_app (sats_freshL rfl) (sats_needsO obs_nil))) ?_
     refine st1 rfl (op_not (lb rfl)) (so rfl sn) ?_
     refine nk ?_
     refine acode_split (b := x4) (fun c5 => ?_) (fun c5 => ?_)
     ·
      replace hm := ite_t hm c5
      refine acode_cond_false rfl (not_t (c5)) ?_
      refine acode_skip ?_
      refine kblk_normal (kseq_normal ?_)
      refine acode_region ?_
      refine mv (lb rfl) rfl ?_
      obtain ⟨g6, hm⟩ := gd_some hm
      refine st1 rfl (op_add (lb rfl) g6) (so rfl (so rfl sn)) ?_
      refine as_ (lb rfl) rfl ?_
      refine rg_nil_seq ?_
      refine klg_back (n0, (s0_0 + 1)) hm (Nat.lt_succ_self _) ?_
      exact le_stU idn (.cons rfl rfl (.cons rfl rfl .nil)) .nil rfl
     ·
      replace hm := ite_f hm c5
      refine acode_cond_true rfl (not_f (c5)) ?_
      refine sr ?_
      refine as_ (lb rfl) rfl ?_
      refine nkt ?_
      obtain rfl := Option.some.inj hm
      exact kblk_ret (kseq_ret (klg_ret (kblk_ret (kseq_ret (fin2_retL (.cons (.c rfl) .nil) rfl .nil rfl rfl rfl)))))
    ·
     replace hm := ite_f hm c2
     refine acode_cond_false rfl (c2) ?_
     refine acode_exit ?_
     unfold m_spec_DatOk_k1 at hm
     refine kseq_exit (klg_exit (kblk_hit (kseq_normal ?_)))
     refine sr ?_
     refine as_ (lb rfl) rfl ?_
     refine nkt ?_
     obtain rfl := Option.some.inj hm
     exact fin2_retL (.cons (.c rfl) .nil) rfl .nil rfl rfl rfl
 ·
  replace hm := ite_f hm c1
  refine acode_cond_true rfl (not_f (c1)) ?_
  refine acode_seq ?_
  refine acode_le (le_stU (env := []) (obj := []) idn .nil .nil rfl) ?_
  refine acode_region ?_
  refine as_ (lb rfl) rfl ?_
  refine nkt ?_
  obtain rfl := Option.some.inj hm
  exact kseq_ret (fin2_retL (.cons (.c rfl) .nil) rfl .nil rfl rfl rfl)

def m_spec_ExpOk (e : GAsk) : Option Bool := if decide (e.op = 0) = true then (some (decide ([e.op, e.var, e.k] = [0, 0, 0]))) else ((m_spec_l1In e.op 1 3).bind fun x2 => (if x2 = true then ((m_spec_l1In e.var 0 2).bind fun x4 => (if x4 = true then ((m_spec_l1In e.k (-99) 99).bind fun x6 => (some x6)) else (some false))) else (some false)))

theorem c_spec_ExpOk (e : GAsk) (rz : Bool) (hm : m_spec_ExpOk e = some rz) : FnB Try.prog 103 [.row (GAsk.cells false e)] [.c (cB rz)] [] := by
 unfold m_spec_ExpOk at hm
 refine fn_intro2 (n := 22) (rvs := [.tmp 2]) Try.func103 rfl rfl rfl (lb rfl) rfl rfl rfl rfl rfl ?_
 refine acode_seq ?_
 refine acode_le (le_stU (env := [(0, .row [cI e.op, cI e.var, cI e.k])]) (obj := []) idn (.cons rfl rfl .nil) .nil rfl) ?_
 refine acode_region ?_
 refine st1 rfl (op_box rfl (lb rfl)) (so rfl (sf rfl (sats_lives rfl))) ?_
 refine as_ (lb rfl) rfl ?_
 refine nk ?_
 refine acode_seq ?_
 refine sr ?_
 refine fdb (off := 0) Try.underlying88 Try.sizeOf3 rfl rfl rfl (lb rfl) rfl rfl ?_
 refine ldb Try.isAgg3 rfl (lb rfl) rfl rfl ?_
 refine st1 rfl (op_eql (lb rfl)) (so rfl (so rfl sn)) ?_
 refine nk ?_
 refine acode_split (b := decide (e.op = 0)) (fun c1 => ?_) (fun c1 => ?_)
 ·
  replace hm := ite_t hm c1
  refine acode_cond_true rfl (c1) ?_
  refine sr ?_
  refine st1 rfl (op_load_bx_agg Try.isAgg88 Try.sizeOf88 rfl rfl (lb rfl)) (so rfl (sb rfl sn)) ?_
  refine st1 rfl (op_build (places := [(0, 1), (1, 1), (2, 1)]) (built88) rfl rfl (lb rfl)) (sats_opds .nil (sats_lives rfl)) ?_
  refine st1 rfl (op_eql_flat (us := [e.op, e.var, e.k]) (vs := [0, 0, 0]) (eqfacts88).1 (eqfacts88).2.1 (eqfacts88).2.2.1 Try.underlying3 Try.isAgg3 (eqfacts88).2.2.2 (.agg (.cons (.cons (.cons .nil)))) (.agg (.cons (.cons (.cons .nil)))) rfl rfl (lb rfl)) (so rfl (so rfl sn)) ?_
  refine as_ (lb rfl) rfl ?_
  refine nkt ?_
  obtain rfl := Option.some.inj hm
  exact kseq_ret (fin2_retL (.cons (.c rfl) .nil) rfl .nil rfl rfl rfl)
 ·
  replace hm := ite_f hm c1
  refine acode_cond_false rfl (c1) ?_
  refine pk ?_
  refine sr ?_
  refine fdb (off := 0) Try.underlying88 Try.sizeOf3 rfl rfl rfl (lb rfl) rfl rfl ?_
  refine ldb Try.isAgg3 rfl (lb rfl) rfl rfl ?_
  obtain ⟨x2, hx2, hm⟩ := bnd hm
  refine st1 rfl (op_call2 (ks := []) Try.func93 rfl rfl (c_spec_l1In e.op 1 3 x2 hx2) (.cons (.c rfl) (.cons (.c rfl) (.cons (.c rfl) .nil rfl) rfl) rfl) rfl rfl (.inl rfl) .nil rfl rfl (lb rfl)) (sats_opds (.cons rfl (.cons rfl (.cons rfl .nil))) (sats_app (sats_freshL rfl) (sats_needsO obs_nil))) ?_
  refine mv (lb rfl) rfl ?_
  refine rg_split (b := x2) (fun c3 => ?_) (fun c3 => ?_)
  ·
   replace hm := ite_t hm c3
   refine st1on rfl rfl rfl (c3) (op_field_bx (off := 1) Try.underlying88 Try.sizeOf3 rfl rfl rfl (lb rfl)) (so rfl (sb rfl sn)) ?_
   refine st1on rfl rfl rfl (c3) (op_load_bx Try.isAgg3 rfl (lb rfl)) (so rfl (sb rfl sn)) ?_
   obtain ⟨x4, hx4, hm⟩ := bnd hm
   refine st1on rfl rfl rfl (c3) (op_call2 (ks := []) Try.func93 rfl rfl (c_spec_l1In e.var 0 2 x4 hx4) (.cons (.c rfl) (.cons (.c rfl) (.cons (.c rfl) .nil rfl) rfl) rfl) rfl rfl (.inl rfl) .nil rfl rfl (lb rfl)) (sats_opds (.cons rfl (.cons rfl (.cons rfl .nil))) (sats_app (sats_freshL rfl) (sats_needsO obs_nil))) ?_
   refine st1 rfl (op_pick_true (lb rfl) (c3)) (so rfl (so rfl sn)) ?_
   refine mv (lb rfl) rfl ?_
   refine rg_split (b := x4) (fun c5 => ?_) (fun c5 => ?_)
   ·
    replace hm := ite_t hm c5
    refine st1on rfl rfl rfl (c5) (op_field_bx (off := 2) Try.underlying88 Try.sizeOf3 rfl rfl rfl (lb rfl)) (so rfl (sb rfl sn)) ?_
    refine st1on rfl rfl rfl (c5) (op_load_bx Try.isAgg3 rfl (lb rfl)) (so rfl (sb rfl sn)) ?_
    obtain ⟨x6, hx6, hm⟩ := bnd hm
    refine st1on rfl rfl rfl (c5) (op_call2 (ks := []) Try.func93 rfl rfl (c_spec_l1In e.k (-99) 99 x6 hx6) (.cons (.c rfl) (.cons (.c rfl) (.cons (.c rfl) .nil rfl) rfl) rfl) rfl rfl (.inl rfl) .nil rfl rfl (lb rfl)) (sats_opds (.cons rfl (.cons rfl (.cons rfl .nil))) (sats_app (sats_freshL rfl) (sats_needsO obs_nil))) ?_
    refine st1 rfl (op_pick_true (lb rfl) (c5)) (so rfl (so rfl sn)) ?_
    refine as_ (lb rfl) rfl ?_
    refine nkt ?_
    obtain rfl := Option.some.inj hm
    exact fin2_retL (.cons (.c rfl) .nil) rfl .nil rfl rfl rfl
   ·
    replace hm := ite_f hm c5
    refine st1off rfl rfl (lb rfl) rfl rfl (c5) ?_
    refine st1off rfl rfl (lb rfl) rfl rfl (c5) ?_
    refine st1off rfl rfl (lb rfl) rfl rfl (c5) ?_
    refine st1 rfl (op_pick_false (lb rfl) (c5)) (so rfl (so rfl sn)) ?_
    refine as_ (lb rfl) rfl ?_
    refine nkt ?_
    obtain rfl := Option.some.inj hm
    exact fin2_retL (.cons (.c rfl) .nil) rfl .nil rfl rfl rfl
  ·
   replace hm := ite_f hm c3
   refine st1off rfl rfl (lb rfl) rfl rfl (c3) ?_
   refine st1off rfl rfl (lb rfl) rfl rfl (c3) ?_
   refine st1off rfl rfl (lb rfl) rfl rfl (c3) ?_
   refine st1 rfl (op_pick_false (lb rfl) (c3)) (so rfl (so rfl sn)) ?_
   refine mv (lb rfl) rfl ?_
   refine st1off rfl rfl (lb rfl) rfl rfl (rfl) ?_
   refine st1off rfl rfl (lb rfl) rfl rfl (rfl) ?_
   refine st1off rfl rfl (lb rfl) rfl rfl (rfl) ?_
   refine st1 rfl (op_pick_false (lb rfl) (rfl)) (so rfl (so rfl sn)) ?_
   refine as_ (lb rfl) rfl ?_
   refine nkt ?_
   obtain rfl := Option.some.inj hm
   exact fin2_retL (.cons (.c rfl) .nil) rfl .nil rfl rfl rfl

def m_spec_ExpHolds (e : GAsk) (data : List Int) : Option Bool := (m_spec_ExpOk e).bind fun x1 => (if x1 = true then ((m_spec_DatOk data).bind fun x3 => (if x3 = true then (if decide (e.op = 1) = true then ((getI data e.var).bind fun x6 => (some (decide (x6 < e.k)))) else (if decide (e.op = 2) = true then ((getI data e.var).bind fun x8 => (some (decide (x8 = e.k)))) else (if decide (e.op = 3) = true then ((getI data e.var).bind fun x10 => (some (decide (e.k < x10)))) else (some true)))) else (some false))) else (some false))


def m_impl_in (n : Int) (low : Int) (high : Int) : Option Bool := if decide (low ≤ n) = true then (some (decide (n ≤ high))) else (some false)

theorem c_impl_in (n : Int) (low : Int) (high : Int) (rz : Bool) (hm : m_impl_in n low high = some rz) : FnB Try.prog 52 [.c (cI n), .c (cI low), .c (cI high)] [.c (cB rz)] [] := by
 unfold m_impl_in at hm
 refine fn_intro2 (n := 15) (rvs := [.tmp 6]) Try.func52 rfl rfl rfl (lb rfl) rfl rfl rfl rfl rfl ?_
 refine acode_seq ?_
 refine acode_le (le_stU (env := [(0, aInt n), (1, aInt low), (2, aInt high)]) (obj := []) idn (.cons rfl rfl (.cons rfl rfl (.cons rfl rfl .nil))) .nil rfl) ?_
 refine acode_region ?_
 refine as_ (lb rfl) rfl ?_
 refine nk ?_
 refine sr ?_
 refine mv (lb rfl) rfl ?_
 refine mv (lb rfl) rfl ?_
 refine st1 rfl (op_leq (lb rfl)) (so rfl (so rfl sn)) ?_
 refine mv (lb rfl) rfl ?_
 refine rg_split (b := decide (low ≤ n)) (fun c1 => ?_) (fun c1 => ?_)
 ·
  replace hm := ite_t hm c1
  refine st1on rfl rfl rfl (c1) (op_move (lb rfl)) (so rfl sn) ?_
  refine st1on rfl rfl rfl (c1) (op_move (lb rfl)) (so rfl sn) ?_
  refine st1on rfl rfl rfl (c1) (op_leq (lb rfl)) (so rfl (so rfl sn)) ?_
  refine st1 rfl (op_pick_true (lb rfl) (c1)) (so rfl (so rfl sn)) ?_
  refine as_ (lb rfl) rfl ?_
  refine nkt ?_
  obtain rfl := Option.some.inj hm
  exact fin2_retL (.cons (.c rfl) .nil) rfl .nil rfl rfl rfl
 ·
  replace hm := ite_f hm c1
  refine st1off rfl rfl (lb rfl) rfl rfl (c1) ?_
  refine st1off rfl rfl (lb rfl) rfl rfl (c1) ?_
  refine st1off rfl rfl (lb rfl) rfl rfl (c1) ?_
  refine st1 rfl (op_pick_false (lb rfl) (c1)) (so rfl (so rfl sn)) ?_
  refine as_ (lb rfl) rfl ?_
  refine nkt ?_
  obtain rfl := Option.some.inj hm
  exact fin2_retL (.cons (.c rfl) .nil) rfl .nil rfl rfl rfl

def m_impl_isDatum (n : Int) : Option Bool := (m_impl_in n (-99) 99).bind fun x1 => (some x1)

theorem c_impl_isDatum (n : Int) (rz : Bool) (hm : m_impl_isDatum n = some rz) : FnB Try.prog 96 [.c (cI n)] [.c (cB rz)] [] := by
 unfold m_impl_isDatum at hm
 refine fn_intro2 (n := 5) (rvs := [.tmp 2]) Try.func96 rfl rfl rfl (lb rfl) rfl rfl rfl rfl rfl ?_
 refine acode_seq ?_
 refine acode_le (le_stU (env := [(0, aInt n)]) (obj := []) idn (.cons rfl rfl .nil) .nil rfl) ?_
 refine acode_region ?_
 refine as_ (lb rfl) rfl ?_
 refine nk ?_
 refine sr ?_
 refine mv (lb rfl) rfl ?_
 obtain ⟨x1, hx1, hm⟩ := bnd hm
 refine st1 rfl (op_call2 (ks := []) Try.func52 rfl rfl (c_impl_in n (-99) 99 x1 hx1) (.cons (.c rfl) (.cons (.c rfl) (.cons (.c rfl) .nil rfl) rfl) rfl) rfl rfl (.inl rfl) .nil rfl rfl (lb rfl)) (sats_opds (.cons rfl (.cons rfl (.cons rfl .nil))) (sats_app (sats_freshL rfl) (sats_needsO obs_nil))) ?_
 refine as_ (lb rfl) rfl ?_
 refine nkt ?_
 obtain rfl := Option.some.inj hm
 exact fin2_retL (.cons (.c rfl) .nil) rfl .nil rfl rfl rfl

def m_impl_cloneInts (list : List Int) : Option (List Int) := gd (([] : List Int).length + list.length ≤ SMALL) (some (([] : List Int) ++ list))

theorem c_impl_cloneInts (list : List Int) (rz : (List Int)) (hm : m_impl_cloneInts list = some rz) : FnB Try.prog 80 [.c (.sl false 1 (list.map (fun n : Int => [cI n])))] [.c (.sl true 1 (rz.map (fun n : Int => [cI n])))] [] := by
 unfold m_impl_cloneInts at hm
 refine fn_intro2 (n := 5) (rvs := [.tmp 2]) Try.func80 rfl rfl rfl (lb rfl) rfl rfl rfl rfl rfl ?_
 refine acode_seq ?_
 refine acode_le (le_stU (env := [(0, .c (.sl false 1 (list.map (fun n : Int => [cI n]))))]) (obj := []) idn (.cons rfl rfl .nil) .nil rfl) ?_
 refine acode_region ?_
 refine as_ (lb rfl) rfl ?_
 refine nk ?_
 refine sr ?_
 refine mv (lb rfl) rfl ?_
 obtain ⟨g1, hm⟩ := gd_some hm
 refine st1 rfl (op_appendG (rowsA := (([] : List Int).map (fun n : Int => [cI n]))) (rowsB := (list.map (fun n : Int => [cI n]))) (rows := ((([] : List Int) ++ list).map (fun n : Int => [cI n]))) (elem34) Try.underlying34 .nil .sh rfl (okAll (rowI.rok true _)) rfl (lenG g1) (lb rfl) appG) (so rfl (so rfl (sf rfl (sats_objs all_nil sn)))) ?_
 refine as_ (lb rfl) rfl ?_
 refine nkt ?_
 obtain rfl := Option.some.inj hm
 exact fin2_retL (.cons (.ref rfl rfl) .nil) rfl .nil rfl rfl rfl

def m_impl_ExpOk (e : GAsk) : Option Bool := if decide (e.op = 0) = true then (if decide (e.var = 0) = true then (some (decide (e.k = 0))) else (some false)) else ((m_impl_in e.op 1 3).bind fun x3 => (if x3 = true then ((m_impl_in e.var 0 2).bind fun x5 => (if x5 = true then ((m_impl_isDatum e.k).bind fun x7 => (some x7)) else (some false))) else (some false)))

theorem c_impl_ExpOk (e : GAsk) (rz : Bool) (hm : m_impl_ExpOk e = some rz) : FnB Try.prog 106 [.row (GAsk.cells false e)] [.c (cB rz)] [] := by
 unfold m_impl_ExpOk at hm
 refine fn_intro2 (n := 27) (rvs := [.tmp 2]) Try.func106 rfl rfl rfl (lb rfl) rfl rfl rfl rfl rfl ?_
 refine acode_seq ?_
 refine acode_le (le_stU (env := [(0, .row [cI e.op, cI e.var, cI e.k])]) (obj := []) idn (.cons rfl rfl .nil) .nil rfl) ?_
 refine acode_region ?_
 refine st1 rfl (op_box rfl (lb rfl)) (so rfl (sf rfl (sats_lives rfl))) ?_
 refine as_ (lb rfl) rfl ?_
 refine nk ?_
 refine acode_seq ?_
 refine sr ?_
 refine fdb (off := 0) Try.underlying88 Try.sizeOf3 rfl rfl rfl (lb rfl) rfl rfl ?_
 refine ldb Try.isAgg3 rfl (lb rfl) rfl rfl ?_
 refine st1 rfl (op_eql (lb rfl)) (so rfl (so rfl sn)) ?_
 refine nk ?_
 refine acode_split (b := decide (e.op = 0)) (fun c1 => ?_) (fun c1 => ?_)
 ·
  replace hm := ite_t hm c1
  refine acode_cond_true rfl (c1) ?_
  refine sr ?_
  refine fdb (off := 1) Try.underlying88 Try.sizeOf3 rfl rfl rfl (lb rfl) rfl rfl ?_
  refine ldb Try.isAgg3 rfl (lb rfl) rfl rfl ?_
  refine st1 rfl (op_eql (lb rfl)) (so rfl (so rfl sn)) ?_
  refine mv (lb rfl) rfl ?_
  refine rg_split (b := decide (e.var = 0)) (fun c2 => ?_) (fun c2 => ?_)
  ·
   replace hm := ite_t hm c2
   refine st1on rfl rfl rfl (c2) (op_field_bx (off := 2) Try.underlying88 Try.sizeOf3 rfl rfl rfl (lb rfl)) (so rfl (sb rfl sn)) ?_
   refine st1on rfl rfl rfl (c2) (op_load_bx Try.isAgg3 rfl (lb rfl)) (so rfl (sb rfl sn)) ?_
   refine st1on rfl rfl rfl (c2) (op_eql (lb rfl)) (so rfl (so rfl sn)) ?_
   refine st1 rfl (op_pick_true (lb rfl) (c2)) (so rfl (so rfl sn)) ?_
   refine as_ (lb rfl) rfl ?_
   refine nkt ?_
   obtain rfl := Option.some.inj hm
   exact kseq_ret (fin2_retL (.cons (.c rfl) .nil) rfl .nil rfl rfl rfl)
  ·
   replace hm := ite_f hm c2
   refine st1off rfl rfl (lb rfl) rfl rfl (c2) ?_
   refine st1off rfl rfl (lb rfl) rfl rfl (c2) ?_
   refine st1off rfl rfl (lb rfl) rfl rfl (c2) ?_
   refine st1 rfl (op_pick_false (lb rfl) (c2)) (so rfl (so rfl sn)) ?_
   refine as_ (lb rfl) rfl ?_
   refine nkt ?_
   obtain rfl := Option.some.inj hm
   exact kseq_ret (fin2_retL (.cons (.c rfl) .nil) rfl .nil rfl rfl rfl)
 ·
  replace hm := ite_f hm c1
  refine acode_cond_false rfl (c1) ?_
  refine pk ?_
  refine sr ?_
  refine fdb (off := 0) Try.underlying88 Try.sizeOf3 rfl rfl rfl (lb rfl) rfl rfl ?_
  refine ldb Try.isAgg3 rfl (lb rfl) rfl rfl ?_
  obtain ⟨x3, hx3, hm⟩ := bnd hm
  refine st1 rfl (op_call2 (ks := []) Try.func52 rfl rfl (c_impl_in e.op 1 3 x3 hx3) (.cons (.c rfl) (.cons (.c rfl) (.cons (.c rfl) .nil rfl) rfl) rfl) rfl rfl (.inl rfl) .nil rfl rfl (lb rfl)) (sats_opds (.cons rfl (.cons rfl (.cons rfl .nil))) (sats_app (sats_freshL rfl) (sats_needsO obs_nil))) ?_
  refine mv (lb rfl) rfl ?_
  refine rg_split (b := x3) (fun c4 => ?_) (fun c4 => ?_)
  ·
   replace hm := ite_t hm c4
   refine st1on rfl rfl rfl (c4) (op_field_bx (off := 1) Try.underlying88 Try.sizeOf3 rfl rfl rfl (lb rfl)) (so rfl (sb rfl sn)) ?_
   refine st1on rfl rfl rfl (c4) (op_load_bx Try.isAgg3 rfl (lb rfl)) (so rfl (sb rfl sn)) ?_
   obtain ⟨x5, hx5, hm⟩ := bnd hm
   refine st1on rfl rfl rfl (c4) (op_call2 (ks := []) Try.func52 rfl rfl (c_impl_in e.var 0 2 x5 hx5) (.cons (.c rfl) (.cons (.c rfl) (.cons (.c rfl) .nil rfl) rfl) rfl) rfl rfl (.inl rfl) .nil rfl rfl (lb rfl)) (sats_opds (.cons rfl (.cons rfl (.cons rfl .nil))) (sats_app (sats_freshL rfl) (sats_needsO obs_nil))) ?_
   refine st1 rfl (op_pick_true (lb rfl) (c4)) (so rfl (so rfl sn)) ?_
   refine mv (lb rfl) rfl ?_
   refine rg_split (b := x5) (fun c6 => ?_) (fun c6 => ?_)
   ·
    replace hm := ite_t hm c6
    refine st1on rfl rfl rfl (c6) (op_field_bx (off := 2) Try.underlying88 Try.sizeOf3 rfl rfl rfl (lb rfl)) (so rfl (sb rfl sn)) ?_
    refine st1on rfl rfl rfl (c6) (op_load_bx Try.isAgg3 rfl (lb rfl)) (so rfl (sb rfl sn)) ?_
    obtain ⟨x7, hx7, hm⟩ := bnd hm
    refine st1on rfl rfl rfl (c6) (op_call2 (ks := []) Try.func96 rfl rfl (c_impl_isDatum e.k x7 hx7) (.cons (.c rfl) .nil rfl) rfl rfl (.inl rfl) .nil rfl rfl (lb rfl)) (sats_opds (.cons rfl .nil) (sats_app (sats_freshL rfl) (sats_needsO obs_nil))) ?_
    refine st1 rfl (op_pick_true (lb rfl) (c6)) (so rfl (so rfl sn)) ?_
    refine as_ (lb rfl) rfl ?_
    refine nkt ?_
    obtain rfl := Option.some.inj hm
    exact fin2_retL (.cons (.c rfl) .nil) rfl .nil rfl rfl rfl
   ·
    replace hm := ite_f hm c6
    refine st1off rfl rfl (lb rfl) rfl rfl (c6) ?_
    refine st1off rfl rfl (lb rfl) rfl rfl (c6) ?_
    refine st1off rfl rfl (lb rfl) rfl rfl (c6) ?_
    refine st1 rfl (op_pick_false (lb rfl) (c6)) (so rfl (so rfl sn)) ?_
    refine as_ (lb rfl) rfl ?_
    refine nkt ?_
    obtain rfl := Option.some.inj hm
    exact fin2_retL (.cons (.c rfl) .nil) rfl .nil rfl rfl rfl
  ·
   replace hm := ite_f hm c4
   refine st1off rfl rfl (lb rfl) rfl rfl (c4) ?_
   refine st1off rfl rfl (lb rfl) rfl rfl (c4) ?_
   refine st1off rfl rfl (lb rfl) rfl rfl (c4) ?_
   refine st1 rfl (op_pick_false (lb rfl) (c4)) (so rfl (so rfl sn)) ?_
   refine mv (lb rfl) rfl ?_
   refine st1off rfl rfl (lb rfl) rfl rfl (rfl) ?_
   refine st1off rfl rfl (lb rfl) rfl rfl (rfl) ?_
   refine st1off rfl rfl (lb rfl) rfl rfl (rfl) ?_
   refine st1 rfl (op_pick_false (lb rfl) (rfl)) (so rfl (so rfl sn)) ?_
   refine as_ (lb rfl) rfl ?_
   refine nkt ?_
   obtain rfl := Option.some.inj hm
   exact fin2_retL (.cons (.c rfl) .nil) rfl .nil rfl rfl rfl

def m_spec_l2Rises_k1  : Option Bool := some true
def m_spec_l2Rises_l0 (list : List Int) (low : Int) (high : Int) (kx0_0 : Option Bool) : Nat → Int → Option Bool
  | 0, _ => none
  | n0 + 1, s0_0 => if decide (s0_0 < (list.length : Int)) = true then ((getI list s0_0).bind fun x4 => ((m_spec_l1In x4 low high).bind fun x5 => (if x5 = true then (if decide (0 < s0_0) = true then (gd (ok64 (s0_0 - 1)) ((getI list (s0_0 - 1)).bind fun x9 => ((getI list s0_0).bind fun x10 => (if decide (x10 ≤ x9) = true then (some false) else (gd (ok64 (s0_0 + 1)) ((m_spec_l2Rises_l0 list low high kx0_0 n0) (s0_0 + 1))))))) else (gd (ok64 (s0_0 + 1)) ((m_spec_l2Rises_l0 list low high kx0_0 n0) (s0_0 + 1)))) else (some false)))) else (kx0_0)
def m_spec_l2Rises (list : List Int) (least : Int) (most : Int) (low : Int) (high : Int) : Option Bool := (m_spec_l1In (list.length : Int) least most).bind fun x1 => (if x1 = true then (m_spec_l2Rises_l0 list low high m_spec_l2Rises_k1 FUEL 0) else (some false))

theorem c_spec_l2Rises (list : List Int) (least : Int) (most : Int) (low : Int) (high : Int) (rz : Bool) (hm : m_spec_l2Rises list least most low high = some rz) : FnB Try.prog 152 [.c (.sl false 1 (list.map (fun n : Int => [cI n]))), .c (cI least), .c (cI most), .c (cI low), .c (cI high)] [.c (cB rz)] [] := by
 unfold m_spec_l2Rises at hm
 refine fn_intro2 (n := 48) (rvs := [.tmp 10]) Try.func152 rfl rfl rfl (lb rfl) rfl rfl rfl rfl rfl ?_
 refine acode_seq ?_
 refine acode_le (le_stU (env := [(0, .c (.sl false 1 (list.map (fun n : Int => [cI n])))), (1, aInt least), (2, aInt most), (3, aInt low), (4, aInt high)]) (obj := []) idn (.cons rfl rfl (.cons rfl rfl (.cons rfl rfl (.cons rfl rfl (.cons rfl rfl .nil))))) .nil rfl) ?_
 refine acode_region ?_
 refine as_ (lb rfl) rfl ?_
 refine nk ?_
 refine acode_seq ?_
 refine sr ?_
 refine mv (lb rfl) rfl ?_
 refine st1 rfl (op_len_sh (f := (fun n : Int => [cI n])) (l := list) Try.underlying34 (lb rfl)) (so rfl sn) ?_
 refine mv (lb rfl) rfl ?_
 refine mv (lb rfl) rfl ?_
 obtain ⟨x1, hx1, hm⟩ := bnd hm
 refine st1 rfl (op_call2 (ks := []) Try.func93 rfl rfl (c_spec_l1In (list.length : Int) least most x1 hx1) (.cons (.c rfl) (.cons (.c rfl) (.cons (.c rfl) .nil rfl) rfl) rfl) rfl rfl (.inl rfl) .nil rfl rfl (lb rfl)) (sats_opds (.cons rfl (.cons rfl (.cons rfl .nil))) (sats_app (sats_freshL rfl) (sats_needsO obs_nil))) ?_
 refine st1 rfl (op_not (lb rfl)) (so rfl sn) ?_
 refine nk ?_
 refine acode_split (b := x1) (fun c2 => ?_) (fun c2 => ?_)
 ·
  replace hm := ite_t hm c2
  refine acode_cond_false rfl (not_t (c2)) ?_
  refine pk ?_
  refine acode_seq ?_
  refine sr ?_
  refine as_ (lb rfl) rfl ?_
  refine nk ?_
  refine acode_block ?_
  refine acode_loopk (xs := [0, 3, 4]) (ys := []) (S := Nat × Int) (fun z => [(11, aInt z.2)]) (fun z => []) (fun z => m_spec_l2Rises_l0 list low high m_spec_l2Rises_k1 z.1 z.2 = some rz) (fun z => z.1) (FUEL, 0) (.cons rfl (.cons rfl (.cons rfl .nil))) .nil ?em ?eo rfl ?ei ?round
  case em => exact (.cons rfl rfl .nil)
  case eo => exact .nil
  case ei => exact hm
  case round =>
   rintro ⟨n0, s0_0⟩ hm
   dsimp only at hm ⊢
   cases n0 with
   | zero => rw [m_spec_l2Rises_l0] at hm; cases hm
   | succ n0 =>
    rw [m_spec_l2Rises_l0] at hm
    refine acode_seq ?_
    refine sr ?_
    refine mv (lb rfl) rfl ?_
    refine mv (lb rfl) rfl ?_
    refine st1 rfl (op_len_sh (f := (fun n : Int => [cI n])) (l := list) Try.underlying34 (lb rfl)) (so rfl sn) ?_
    refine st1 rfl (op_lss (lb rfl)) (so rfl (so rfl sn)) ?_
    refine nk ?_
    refine acode_split (b := decide (s0_0 < (list.length : Int))) (fun c3 => ?_) (fun c3 => ?_)
    ·
     replace hm := ite_t hm c3
     refine acode_cond_true rfl (c3) ?_
     refine pk ?_
     refine acode_seq ?_
     refine acode_block ?_
     refine acode_seq ?_
     refine acode_region_draw mixed rfl ?_
     refine mv (lb rfl) rfl ?_
     refine mv (lb rfl) rfl ?_
     obtain ⟨x4, hx4, hm⟩ := bnd hm
     refine st1 rfl (op_index_shG (f := (fun n : Int => [cI n])) (l := list) Try.underlying34 Try.sizeOf3 (lb rfl) hx4) (so rfl (so rfl sn)) ?_
     refine st1 rfl (op_load_pts Try.isAgg3 rfl (lb rfl)) (so rfl sn) ?_
     refine mv (lb rfl) rfl ?_
     refine mv (lb rfl) rfl ?_
     obtain ⟨x5, hx5, hm⟩ := bnd hm
     refine st1 rfl (op_call2 (ks := []) Try.func93 rfl rfl (c_spec_l1In x4 low high x5 hx5) (.cons (.c rfl) (.cons (.c rfl) (.cons (.c rfl) .nil rfl) rfl) rfl) rfl rfl (.inl rfl) .nil rfl rfl (lb rfl)) (sats_opds (.cons rfl (.cons rfl (.cons rfl .nil))) (sats_app (sats_freshL rfl) (sats_needsO obs_nil))) ?_
     refine st1 rfl (op_not (lb rfl)) (so rfl sn) ?_
     refine mv (lb rfl) rfl ?_
     refine rg_split (b := x5) (fun c6 => ?_) (fun c6 => ?_)
     ·
      replace hm := ite_t hm c6
      refine st1on rfl rfl rfl (not_t (c6)) (op_move (lb rfl)) (so rfl sn) ?_
      refine st1on rfl rfl rfl (not_t (c6)) (op_gtr (lb rfl)) (so rfl (so rfl sn)) ?_
      refine st1on rfl rfl rfl (not_t (c6)) (op_move (lb rfl)) (so rfl sn) ?_
      refine rg_split (b := decide (0 < s0_0)) (fun c7 => ?_) (fun c7 => ?_)
      ·
       replace hm := ite_t hm c7
       refine st1on rfl rfl rfl (c7) (op_move (lb rfl)) (so rfl sn) ?_
       refine st1on rfl rfl rfl (c7) (op_move (lb rfl)) (so rfl sn) ?_
       obtain ⟨g8, hm⟩ := gd_some hm
       refine st1on rfl rfl rfl (c7) (op_sub (lb rfl) g8) (so rfl (so rfl sn)) ?_
       obtain ⟨x9, hx9, hm⟩ := bnd hm
       refine st1on rfl rfl rfl (c7) (op_index_shG (f := (fun n : Int => [cI n])) (l := list) Try.underlying34 Try.sizeOf3 (lb rfl) hx9) (so rfl (so rfl sn)) ?_
       refine st1on rfl rfl rfl (c7) (op_load_pts Try.isAgg3 rfl (lb rfl)) (so rfl sn) ?_
       refine st1on rfl rfl rfl (c7) (op_move (lb rfl)) (so rfl sn) ?_
       refine st1on rfl rfl rfl (c7) (op_move (lb rfl)) (so rfl sn) ?_
       obtain ⟨x10, hx10, hm⟩ := bnd hm
       refine st1on rfl rfl rfl (c7) (op_index_shG (f := (fun n : Int => [cI n])) (l := list) Try.underlying34 Try.sizeOf3 (lb rfl) hx10) (so rfl (so rfl sn)) ?_
       refine st1on rfl rfl rfl (c7) (op_load_pts Try.isAgg3 rfl (lb rfl)) (so rfl sn) ?_
       refine st1on rfl rfl rfl (c7) (op_geq (lb rfl)) (so rfl (so rfl sn)) ?_
       refine st1on rfl rfl rfl (not_t (c6)) (op_pick_true (lb rfl) (c7)) (so rfl (so rfl sn)) ?_
       refine st1 rfl (op_pick_false (lb rfl) (not_t (c6))) (so rfl (so rfl sn)) ?_
       refine rg_nil_draw (by kernel_rfl) ?_
       refine kseq_normal ?_
       refine acode_split (b := decide (x10 ≤ x9)) (fun c11 => ?_) (fun c11 => ?_)
       ·
        replace hm := ite_t hm c11
        refine acode_cond_true rfl (c11) ?_
        refine acode_seq ?_
        refine acode_le (le_stU (env := []) (obj := []) idn .nil .nil rfl) ?_
        refine acode_region ?_
        refine as_ (lb rfl) rfl ?_
        refine nkt ?_
        obtain rfl := Option.some.inj hm
        exact kblk_ret (kseq_ret (klg_ret (kblk_ret (kseq_ret (fin2_retL (.cons (.c rfl) .nil) rfl .nil rfl rfl rfl)))))
       ·
        replace hm := ite_f hm c11
        refine acode_cond_false rfl (c11) ?_
        refine acode_skip ?_
        refine kblk_normal (kseq_normal ?_)
        refine acode_region ?_
        refine mv (lb rfl) rfl ?_
        obtain ⟨g12, hm⟩ := gd_some hm
        refine st1 rfl (op_add (lb rfl) g12) (so rfl (so rfl sn)) ?_
        refine as_ (lb rfl) rfl ?_
        refine rg_nil_seq ?_
        refine klg_back (n0, (s0_0 + 1)) hm (Nat.lt_succ_self _) ?_
        exact le_stU idn (.cons rfl rfl (.cons rfl rfl (.cons rfl rfl (.cons rfl rfl .nil)))) .nil rfl
      ·
       replace hm := ite_f hm c7
       refine st1off rfl rfl (lb rfl) rfl rfl (c7) ?_
       refine st1off rfl rfl (lb rfl) rfl rfl (c7) ?_
       refine st1off rfl rfl (lb rfl) rfl rfl (c7) ?_
       refine st1off rfl rfl (lb rfl) rfl rfl (c7) ?_
       refine st1off rfl rfl (lb rfl) rfl rfl (c7) ?_
       refine st1off rfl rfl (lb rfl) rfl rfl (c7) ?_
       refine st1off rfl rfl (lb rfl) rfl rfl (c7) ?_
       refine st1off rfl rfl (lb rfl) rfl rfl (c7) ?_
       refine st1off rfl rfl (lb rfl) rfl rfl (c7) ?_
       refine st1off rfl rfl (lb rfl) rfl rfl (c7) ?_
       refine st1on rfl rfl rfl (not_t (c6)) (op_pick_false (lb rfl) (c7)) (so rfl (so rfl sn)) ?_
       refine st1 rfl (op_pick_false (lb rfl) (not_t (c6))) (so rfl (so rfl sn)) ?_
       refine rg_nil_draw (by kernel_rfl) ?_
       refine kseq_normal ?_
       refine acode_cond_false rfl (rfl) ?_
       refine acode_skip ?_
       refine kblk_normal (kseq_normal ?_)
       refine acode_region ?_
       refine mv (lb rfl) rfl ?_
       obtain ⟨g13, hm⟩ := gd_some hm
       refine st1 rfl (op_add (lb rfl) g13) (so rfl (so rfl sn)) ?_
       refine as_ (lb rfl) rfl ?_
       refine rg_nil_seq ?_
       refine klg_back (n0, (s0_0 + 1)) hm (Nat.lt_succ_self _) ?_
       exact le_stU idn (.cons rfl rfl (.cons rfl rfl (.cons rfl rfl (.cons rfl rfl .nil)))) .nil rfl
     ·
      replace hm := ite_f hm c6
      refine st1off rfl rfl (lb rfl) rfl rfl (not_f (c6)) ?_
      refine st1off rfl rfl (lb rfl) rfl rfl (not_f (c6)) ?_
      refine st1off rfl rfl (lb rfl) rfl rfl (not_f (c6)) ?_
      refine st1und rfl rfl (lb rfl) rfl rfl ?_
      refine st1und rfl rfl (lb rfl) rfl rfl ?_
      refine st1und rfl rfl (lb rfl) rfl rfl ?_
      refine st1und rfl rfl (lb rfl) rfl rfl ?_
      refine st1und rfl rfl (lb rfl) rfl rfl ?_
      refine st1und rfl rfl (lb rfl) rfl rfl ?_
      refine st1und rfl rfl (lb rfl) rfl rfl ?_
      refine st1und rfl rfl (lb rfl) rfl rfl ?_
      refine st1und rfl rfl (lb rfl) rfl rfl ?_
      refine st1und rfl rfl (lb rfl) rfl rfl ?_
      refine st1off rfl rfl (lb rfl) rfl rfl (not_f (c6)) ?_
      refine st1 rfl (op_pick_true (lb rfl) (not_f (c6))) (so rfl (so rfl sn)) ?_
      refine rg_nil_draw (by kernel_rfl) ?_
      refine kseq_normal ?_
      refine acode_cond_true rfl (rfl) ?_
      refine sr ?_
      refine as_ (lb rfl) rfl ?_
      refine nkt ?_
      obtain rfl := Option.some.inj hm
      exact kblk_ret (kseq_ret (klg_ret (kblk_ret (kseq_ret (fin2_retL (.cons (.c rfl) .nil) rfl .nil rfl rfl rfl)))))
    ·
     replace hm := ite_f hm c3
     refine acode_cond_false rfl (c3) ?_
     refine acode_exit ?_
     unfold m_spec_l2Rises_k1 at hm
     refine kseq_exit (klg_exit (kblk_hit (kseq_normal ?_)))
     refine sr ?_
     refine as_ (lb rfl) rfl ?_
     refine nkt ?_
     obtain rfl := Option.some.inj hm
     exact fin2_retL (.cons (.c rfl) .nil) rfl .nil rfl rfl rfl
 ·
  replace hm := ite_f hm c2
  refine acode_cond_true rfl (not_f (c2)) ?_
  refine sr ?_
  refine as_ (lb rfl) rfl ?_
  refine nkt ?_
  obtain rfl := Option.some.inj hm
  exact kseq_ret (fin2_retL (.cons (.c rfl) .nil) rfl .nil rfl rfl rfl)

def m_spec_l2Has_k1  : Option Bool := some false
def m_spec_l2Has_l0 (list : List Int) (n : Int) (kx0_0 : Option Bool) : Nat → Int → Option Bool
  | 0, _ => none
  | n0 + 1, s0_0 => if decide (s0_0 < (list.length : Int)) = true then ((getI list s0_0).bind fun x2 => (if decide (x2 = n) = true then (some true) else (gd (ok64 (s0_0 + 1)) ((m_spec_l2Has_l0 list n kx0_0 n0) (s0_0 + 1))))) else (kx0_0)
def m_spec_l2Has (list : List Int) (n : Int) : Option Bool := m_spec_l2Has_l0 list n m_spec_l2Has_k1 FUEL 0

theorem c_spec_l2Has (list : List Int) (n : Int) (rz : Bool) (hm : m_spec_l2Has list n = some rz) : FnB Try.prog 153 [.c (.sl false 1 (list.map (fun n : Int => [cI n]))), .c (cI n)] [.c (cB rz)] [] := by
 unfold m_spec_l2Has at hm
 refine fn_intro2 (n := 18) (rvs := [.tmp 4]) Try.func153 rfl rfl rfl (lb rfl) rfl rfl rfl rfl rfl ?_
 refine acode_seq ?_
 refine acode_le (le_stU (env := [(0, .c (.sl false 1 (list.map (fun n : Int => [cI n])))), (1, aInt n)]) (obj := []) idn (.cons rfl rfl (.cons rfl rfl .nil)) .nil rfl) ?_
 refine acode_region ?_
 refine as_ (lb rfl) rfl ?_
 refine nk ?_
 refine acode_seq ?_
 refine sr ?_
 refine as_ (lb rfl) rfl ?_
 refine nk ?_
 refine acode_block ?_
 refine acode_loopk (xs := [0, 1]) (ys := []) (S := Nat × Int) (fun z => [(5, aInt z.2)]) (fun z => []) (fun z => m_spec_l2Has_l0 list n m_spec_l2Has_k1 z.1 z.2 = some rz) (fun z => z.1) (FUEL, 0) (.cons rfl (.cons rfl .nil)) .nil ?em ?eo rfl ?ei ?round
 case em => exact (.cons rfl rfl .nil)
 case eo => exact .nil
 case ei => exact hm
 case round =>
  rintro ⟨n0, s0_0⟩ hm
  dsimp only at hm ⊢
  cases n0 with
  | zero => rw [m_spec_l2Has_l0] at hm; cases hm
  | succ n0 =>
   rw [m_spec_l2Has_l0] at hm
   refine acode_seq ?_
   refine sr ?_
   refine mv (lb rfl) rfl ?_
   refine mv (lb rfl) rfl ?_
   refine st1 rfl (op_len_sh (f := (fun n : Int => [cI n])) (l := list) Try.underlying34 (lb rfl)) (so rfl sn) ?_
   refine st1 rfl (op_lss (lb rfl)) (so rfl (so rfl sn)) ?_
   refine nk ?_
   refine acode_split (b := decide (s0_0 < (list.length : Int))) (fun c1 => ?_) (fun c1 => ?_)
   ·
    replace hm := ite_t hm c1
    refine acode_cond_true rfl (c1) ?_
    refine pk ?_
    refine acode_seq ?_
    refine acode_block ?_
    refine sr ?_
    refine mv (lb rfl) rfl ?_
    refine mv (lb rfl) rfl ?_
    obtain ⟨x2, hx2, hm⟩ := bnd hm
    refine st1 rfl (op_index_shG (f := (fun n : Int => [cI n])) (l := list) Try.underlying34 Try.sizeOf3 (lb rfl) hx2) (so rfl (so rfl sn)) ?_
    refine st1 rfl (op_load_pts Try.isAgg3 rfl (lb rfl)) (so rfl sn) ?_
    refine mv (lb rfl) rfl ?_
    refine st1 rfl (op_eql (lb rfl)) (so rfl (so rfl sn)) ?_
    refine nk ?_
    refine acode_split (b := decide (x2 = n)) (fun c3 => ?_) (fun c3 => ?_)
    ·
     replace hm := ite_t hm c3
     refine acode_cond_true rfl (c3) ?_
     refine sr ?_
     refine as_ (lb rfl) rfl ?_
     refine nkt ?_
     obtain rfl := Option.some.inj hm
     exact kblk_ret (kseq_ret (klg_ret (kblk_ret (kseq_ret (fin2_retL (.cons (.c rfl) .nil) rfl .nil rfl rfl rfl)))))
    ·
     replace hm := ite_f hm c3
     refine acode_cond_false rfl (c3) ?_
     refine acode_skip ?_
     refine kblk_normal (kseq_normal ?_)
     refine acode_region ?_
     refine mv (lb rfl) rfl ?_
     obtain ⟨g4, hm⟩ := gd_some hm
     refine st1 rfl (op_add (lb rfl) g4) (so rfl (so rfl sn)) ?_
     refine as_ (lb rfl) rfl ?_
     refine rg_nil_seq ?_
     refine klg_back (n0, (s0_0 + 1)) hm (Nat.lt_succ_self _) ?_
     exact le_stU idn (.cons rfl rfl (.cons rfl rfl (.cons rfl rfl .nil))) .nil rfl
   ·
    replace hm := ite_f hm c1
    refine acode_cond_false rfl (c1) ?_
    refine acode_exit ?_
    unfold m_spec_l2Has_k1 at hm
    refine kseq_exit (klg_exit (kblk_hit (kseq_normal ?_)))
    refine sr ?_
    refine as_ (lb rfl) rfl ?_
    refine nkt ?_
    obtain rfl := Option.some.inj hm
    exact fin2_retL (.cons (.c rfl) .nil) rfl .nil rfl rfl rfl

def m_spec_l2Flows_k1 (s0_0 : Int) (bk0 : Int → Option Bool) : Option Bool := gd (ok64 (s0_0 + 1)) (bk0 (s0_0 + 1))
def m_spec_l2Flows_l1 (t : GTask) (s0_0 : Int) (x4 : GFlow) (kx1_0 : Option Bool) : Nat → Int → Option Bool
  | 0, _ => none
  | n1 + 1, s1_0 => if decide (s1_0 < s0_0) = true then ((getI t.out s1_0).bind fun x14 => (if decide (x14.to = x4.to) = true then (some false) else (gd (ok64 (s1_0 + 1)) ((m_spec_l2Flows_l1 t s0_0 x4 kx1_0 n1) (s1_0 + 1))))) else (kx1_0)
def m_spec_l2Flows_k2 (s0_0 : Int) (bk0 : Int → Option Bool) : Option Bool := gd (ok64 (s0_0 + 1)) (bk0 (s0_0 + 1))
def m_spec_l2Flows_l2 (t : GTask) (s0_0 : Int) (x4 : GFlow) (kx2_0 : Option Bool) : Nat → Int → Option Bool
  | 0, _ => none
  | n2 + 1, s2_0 => if decide (s2_0 < s0_0) = true then ((getI t.out s2_0).bind fun x25 => (if decide (x25.to = x4.to) = true then (some false) else (gd (ok64 (s2_0 + 1)) ((m_spec_l2Flows_l2 t s0_0 x4 kx2_0 n2) (s2_0 + 1))))) else (kx2_0)
def m_spec_l2Flows_k3  : Option Bool := some true
def m_spec_l2Flows_l0 (t : GTask) (places : Int) (kx0_0 : Option Bool) : Nat → Int → Option Bool
  | 0, _ => none
  | n0 + 1, s0_0 => if decide (s0_0 < (t.out.length : Int)) = true then ((getI t.out s0_0).bind fun x4 => (gd (ok64 ((t.out.length : Int) - 1)) (if decide (s0_0 = ((t.out.length : Int) - 1)) = true then (gd (ok64 (places - 1)) ((m_spec_l1In x4.to 1 (places - 1)).bind fun x8 => (if x8 = true then ((m_spec_ExpOk x4.if_).bind fun x10 => (if x10 = true then (if (true == (decide (x4.if_.op = 0))) = true then (m_spec_l2Flows_l1 t s0_0 x4 (m_spec_l2Flows_k1 s0_0 (m_spec_l2Flows_l0 t places kx0_0 n0)) FUEL 0) else (some false)) else (some false))) else (some false)))) else (gd (ok64 (places - 1)) ((m_spec_l1In x4.to 1 (places - 1)).bind fun x19 => (if x19 = true then ((m_spec_ExpOk x4.if_).bind fun x21 => (if x21 = true then (if ((decide (t.split = 1)) == (decide (x4.if_.op = 0))) = true then (m_spec_l2Flows_l2 t s0_0 x4 (m_spec_l2Flows_k2 s0_0 (m_spec_l2Flows_l0 t places kx0_0 n0)) FUEL 0) else (some false)) else (some false))) else (some false))))))) else (kx0_0)
def m_spec_l2Flows (t : GTask) (places : Int) : Option Bool := (m_spec_l1In (t.out.length : Int) 1 3).bind fun x1 => (if x1 = true then (m_spec_l2Flows_l0 t places m_spec_l2Flows_k3 FUEL 0) else (some false))

theorem c_spec_l2Flows (t : GTask) (places : Int) (rz : Bool) (hm : m_spec_l2Flows t places = some rz) : FnB Try.prog 154 [.row (GTask.cells false t), .c (cI places)] [.c (cB rz)] [] := by
 unfold m_spec_l2Flows at hm
 refine fn_intro2 (n := 71) (rvs := [.tmp 4]) Try.func154 rfl rfl rfl (lb rfl) rfl rfl rfl rfl rfl ?_
 refine acode_seq ?_
 refine acode_le (le_stU (env := [(0, .row [cI t.join, cI t.split, .sl false 1 (t.in_.map (fun n : Int => [cI n])), .sl false 4 (t.out.map (GFlow.cells false)), .sl false 1 (t.clear.map (fun n : Int => [cI n])), cI t.role, cI t.apart, cI t.all, cI t.need]), (1, aInt places)]) (obj := []) idn (.cons rfl rfl (.cons rfl rfl .nil)) .nil rfl) ?_
 refine acode_region ?_
 refine st1 rfl (op_box rfl (lb rfl)) (so rfl (sf rfl (sats_lives rfl))) ?_
 refine as_ (lb rfl) rfl ?_
 refine nk ?_
 refine acode_seq ?_
 refine sr ?_
 refine fdb (off := 3) Try.underlying119 Try.sizeOf117 rfl rfl rfl (lb rfl) rfl rfl ?_
 refine ldb Try.isAgg117 rfl (lb rfl) rfl rfl ?_
 refine st1 rfl (op_len_sh (f := (GFlow.cells false)) (l := t.out) Try.underlying117 (lb rfl)) (so rfl sn) ?_
 obtain ⟨x1, hx1, hm⟩ := bnd hm
 refine st1 rfl (op_call2 (ks := []) Try.func93 rfl rfl (c_spec_l1In (t.out.length : Int) 1 3 x1 hx1) (.cons (.c rfl) (.cons (.c rfl) (.cons (.c rfl) .nil rfl) rfl) rfl) rfl rfl (.inl rfl) .nil rfl rfl (lb rfl)) (sats_opds (.cons rfl (.cons rfl (.cons rfl .nil))) (sats_app (sats_freshL rfl) (sats_needsO obs_nil))) ?_
 refine st1 rfl (op_not (lb rfl)) (so rfl sn) ?_
 refine nk ?_
 refine acode_split (b := x1) (fun c2 => ?_) (fun c2 => ?_)
 ·
  replace hm := ite_t hm c2
  refine acode_cond_false rfl (not_t (c2)) ?_
  refine pk ?_
  refine acode_seq ?_
  refine sr ?_
  refine as_ (lb rfl) rfl ?_
  refine nk ?_
  refine acode_block ?_
  refine acode_loopk (xs := [1, 2]) (ys := [2]) (S := Nat × Int) (fun z => [(5, aInt z.2)]) (fun z => []) (fun z => m_spec_l2Flows_l0 t places m_spec_l2Flows_k3 z.1 z.2 = some rz) (fun z => z.1) (FUEL, 0) (.cons rfl (.cons rfl .nil)) (.cons rfl .nil) ?em ?eo rfl ?ei ?round
  case em => exact (.cons rfl rfl .nil)
  case eo => exact .nil
  case ei => exact hm
  case round =>
   rintro ⟨n0, s0_0⟩ hm
   dsimp only at hm ⊢
   cases n0 with
   | zero => rw [m_spec_l2Flows_l0] at hm; cases hm
   | succ n0 =>
    rw [m_spec_l2Flows_l0] at hm
    refine acode_seq ?_
    refine sr ?_
    refine mv (lb rfl) rfl ?_
    refine fdb (off := 3) Try.underlying119 Try.sizeOf117 rfl rfl rfl (lb rfl) rfl rfl ?_
    refine ldb Try.isAgg117 rfl (lb rfl) rfl rfl ?_
    refine st1 rfl (op_len_sh (f := (GFlow.cells false)) (l := t.out) Try.underlying117 (lb rfl)) (so rfl sn) ?_
    refine st1 rfl (op_lss (lb rfl)) (so rfl (so rfl sn)) ?_
    refine nk ?_
    refine acode_split (b := decide (s0_0 < (t.out.length : Int))) (fun c3 => ?_) (fun c3 => ?_)
    ·
     replace hm := ite_t hm c3
     refine acode_cond_true rfl (c3) ?_
     refine pk ?_
     refine acode_seq ?_
     refine acode_block ?_
     refine sr ?_
     refine fdb (off := 3) Try.underlying119 Try.sizeOf117 rfl rfl rfl (lb rfl) rfl rfl ?_
     refine ldb Try.isAgg117 rfl (lb rfl) rfl rfl ?_
     refine mv (lb rfl) rfl ?_
     obtain ⟨x4, hx4, hm⟩ := bnd hm
     refine st1 rfl (op_index_shG (f := (GFlow.cells false)) (l := t.out) Try.underlying117 Try.sizeOf181 (lb rfl) hx4) (so rfl (so rfl sn)) ?_
     refine st1 rfl (op_load_pts_row Try.isAgg181 Try.sizeOf181 rfl rfl (lb rfl)) (so rfl sn) ?_
     refine st1 rfl (op_alloc Try.zeroValue181 rfl (lb rfl)) (sf rfl sn) ?_
     refine st1 rfl (op_store_bxS Try.sizeOf181 rfl rfl rfl rfl) (so rfl (so rfl (sb rfl (sats_lives rfl)))) ?_
     refine nk ?_
     refine sr ?_
     refine mv (lb rfl) rfl ?_
     refine fdb (off := 3) Try.underlying119 Try.sizeOf117 rfl rfl rfl (lb rfl) rfl rfl ?_
     refine ldb Try.isAgg117 rfl (lb rfl) rfl rfl ?_
     refine st1 rfl (op_len_sh (f := (GFlow.cells false)) (l := t.out) Try.underlying117 (lb rfl)) (so rfl sn) ?_
     obtain ⟨g5, hm⟩ := gd_some hm
     refine st1 rfl (op_sub (lb rfl) g5) (so rfl (so rfl sn)) ?_
     refine st1 rfl (op_eql (lb rfl)) (so rfl (so rfl sn)) ?_
     refine mv (lb rfl) rfl ?_
     refine rg_split (b := decide (s0_0 = ((t.out.length : Int) - 1))) (fun c6 => ?_) (fun c6 => ?_)
     ·
      replace hm := ite_t hm c6
      refine st1off rfl rfl (lb rfl) rfl rfl (c6) ?_
      refine st1off rfl rfl (lb rfl) rfl rfl (c6) ?_
      refine st1off rfl rfl (lb rfl) rfl rfl (c6) ?_
      refine st1 rfl (op_pick_true (lb rfl) (c6)) (so rfl (so rfl sn)) ?_
      refine as_ (lb rfl) rfl ?_
      refine nk ?_
      refine acode_seq ?_
      refine acode_seq ?_
      refine acode_le (le_stU (env := [(1, aInt places), (2, .bx 2 0), (5, aInt s0_0), (6, .bx 6 0), (7, aBool true), (33, .c (.lit undef)), (34, .c (.lit undef)), (35, .c (.lit undef))]) (obj := [(2, .box [aInt t.join, aInt t.split, .c (.sl false 1 (t.in_.map (fun n : Int => [cI n]))), .c (.sl false 4 (t.out.map (GFlow.cells false))), .c (.sl false 1 (t.clear.map (fun n : Int => [cI n]))), aInt t.role, aInt t.apart, aInt t.all, aInt t.need]), (6, .box [aInt x4.to, aInt x4.if_.op, aInt x4.if_.var, aInt x4.if_.k])]) idn (.cons rfl rfl (.cons rfl rfl (.cons rfl rfl (.cons rfl rfl (.cons rfl rfl (.cons rfl rfl (.cons rfl rfl (.cons rfl rfl .nil)))))))) (.cons rfl rfl (.inl rfl) (.cons rfl rfl (.inl rfl) .nil)) rfl) ?_
      refine acode_region ?_
      refine fdb (off := 0) Try.underlying181 Try.sizeOf3 rfl rfl rfl (lb rfl) rfl rfl ?_
      refine ldb Try.isAgg3 rfl (lb rfl) rfl rfl ?_
      refine mv (lb rfl) rfl ?_
      obtain ⟨g7, hm⟩ := gd_some hm
      refine st1 rfl (op_sub (lb rfl) g7) (so rfl (so rfl sn)) ?_
      obtain ⟨x8, hx8, hm⟩ := bnd hm
      refine st1 rfl (op_call2 (ks := []) Try.func93 rfl rfl (c_spec_l1In x4.to 1 (places - 1) x8 hx8) (.cons (.c rfl) (.cons (.c rfl) (.cons (.c rfl) .nil rfl) rfl) rfl) rfl rfl (.inl rfl) .nil rfl rfl (lb rfl)) (sats_opds (.cons rfl (.cons rfl (.cons rfl .nil))) (sats_app (sats_freshL rfl) (sats_needsO obs_nil))) ?_
      refine st1 rfl (op_not (lb rfl)) (so rfl sn) ?_
      refine mv (lb rfl) rfl ?_
      refine rg_split (b := x8) (fun c9 => ?_) (fun c9 => ?_)
      ·
       replace hm := ite_t hm c9
       refine st1on rfl rfl rfl (not_t (c9)) (op_field_bx (off := 1) Try.underlying181 Try.sizeOf88 rfl rfl rfl (lb rfl)) (so rfl (sb rfl sn)) ?_
       refine st1on rfl rfl rfl (not_t (c9)) (op_load_bx_agg Try.isAgg88 Try.sizeOf88 rfl rfl (lb rfl)) (so rfl (sb rfl sn)) ?_
       obtain ⟨x10, hx10, hm⟩ := bnd hm
       refine st1on rfl rfl rfl (not_t (c9)) (op_call2 (ks := []) Try.func103 rfl rfl (c_spec_ExpOk x4.if_ x10 hx10) (.cons ((.aggCons (.c rfl) (.aggCons (.c rfl) (.aggCons (.c rfl) .aggNil rfl) rfl) rfl)) .nil rfl) rfl rfl (.inl rfl) .nil rfl rfl (lb rfl)) (sats_opds (.cons rfl .nil) (sats_app (sats_freshL rfl) (sats_needsO obs_nil))) ?_
       refine st1on rfl rfl rfl (not_t (c9)) (op_not (lb rfl)) (so rfl sn) ?_
       refine st1 rfl (op_pick_false (lb rfl) (not_t (c9))) (so rfl (so rfl sn)) ?_
       refine mv (lb rfl) rfl ?_
       refine rg_split (b := x10) (fun c11 => ?_) (fun c11 => ?_)
       ·
        replace hm := ite_t hm c11
        refine st1on rfl rfl rfl (not_t (c11)) (op_move (lb rfl)) (so rfl sn) ?_
        refine st1on rfl rfl rfl (not_t (c11)) (op_field_bx (off := 1) Try.underlying181 Try.sizeOf88 rfl rfl rfl (lb rfl)) (so rfl (sb rfl sn)) ?_
        refine st1on rfl rfl rfl (not_t (c11)) (op_field_bx (off := 0) Try.underlying88 Try.sizeOf3 rfl rfl rfl (lb rfl)) (so rfl (sb rfl sn)) ?_
        refine st1on rfl rfl rfl (not_t (c11)) (op_load_bx Try.isAgg3 rfl (lb rfl)) (so rfl (sb rfl sn)) ?_
        refine st1on rfl rfl rfl (not_t (c11)) (op_eql (lb rfl)) (so rfl (so rfl sn)) ?_
        refine st1on rfl rfl rfl (not_t (c11)) (op_neqb Try.underlying4 (lb rfl)) (so rfl (so rfl sn)) ?_
        refine st1 rfl (op_pick_false (lb rfl) (not_t (c11))) (so rfl (so rfl sn)) ?_
        refine nk ?_
        refine acode_split (b := (true == (decide (x4.if_.op = 0)))) (fun c12 => ?_) (fun c12 => ?_)
        ·
         replace hm := ite_t hm c12
         refine acode_cond_false rfl (not_t (c12)) ?_
         refine pk ?_
         refine acode_seq ?_
         refine acode_le (le_stU (env := [(1, aInt places), (2, .bx 2 0), (5, aInt s0_0), (6, .bx 6 0), (33, .c (.lit undef)), (34, .c (.lit undef)), (35, .c (.lit undef)), (44, .bx 6 1), (45, .agg [aInt x4.if_.op, aInt x4.if_.var, aInt x4.if_.k]), (46, aBool x10), (47, aBool (!x10)), (50, aBool true), (51, .bx 6 1), (52, .bx 6 1), (53, aInt x4.if_.op), (54, aBool (decide (x4.if_.op = 0))), (55, aBool (!(true == (decide (x4.if_.op = 0)))))]) (obj := [(2, .box [aInt t.join, aInt t.split, .c (.sl false 1 (t.in_.map (fun n : Int => [cI n]))), .c (.sl false 4 (t.out.map (GFlow.cells false))), .c (.sl false 1 (t.clear.map (fun n : Int => [cI n]))), aInt t.role, aInt t.apart, aInt t.all, aInt t.need]), (6, .box [aInt x4.to, aInt x4.if_.op, aInt x4.if_.var, aInt x4.if_.k])]) idn (.cons rfl rfl (.cons rfl rfl (.cons rfl rfl (.cons rfl rfl (.cons rfl rfl (.cons rfl rfl (.cons rfl rfl (.cons rfl rfl (.cons rfl rfl (.cons rfl rfl (.cons rfl rfl (.cons rfl rfl (.cons rfl rfl (.cons rfl rfl (.cons rfl rfl (.cons rfl rfl (.cons rfl rfl .nil))))))))))))))))) (.cons rfl rfl (.inl rfl) (.cons rfl rfl (.inl rfl) .nil)) rfl) ?_
         refine acode_region ?_
         refine as_ (lb rfl) rfl ?_
         refine nk ?_
         refine acode_block ?_
         refine acode_loopk (xs := [1, 2, 5, 6, 33, 34, 35, 44, 45, 46, 47, 50, 51, 52, 53, 54, 55]) (ys := [2, 6]) (S := Nat × Int) (fun z => [(8, aInt z.2)]) (fun z => []) (fun z => m_spec_l2Flows_l1 t s0_0 x4 (m_spec_l2Flows_k1 s0_0 (m_spec_l2Flows_l0 t places m_spec_l2Flows_k3 n0)) z.1 z.2 = some rz) (fun z => z.1) (FUEL, 0) (.cons rfl (.cons rfl (.cons rfl (.cons rfl (.cons rfl (.cons rfl (.cons rfl (.cons rfl (.cons rfl (.cons rfl (.cons rfl (.cons rfl (.cons rfl (.cons rfl (.cons rfl (.cons rfl (.cons rfl .nil))))))))))))))))) (.cons rfl (.cons rfl .nil)) ?em ?eo rfl ?ei ?round
         case em => exact (.cons rfl rfl .nil)
         case eo => exact .nil
         case ei => exact hm
         case round =>
          rintro ⟨n1, s1_0⟩ hm
          dsimp only at hm ⊢
          cases n1 with
          | zero => rw [m_spec_l2Flows_l1] at hm; cases hm
          | succ n1 =>
           rw [m_spec_l2Flows_l1] at hm
           refine acode_seq ?_
           refine sr ?_
           refine mv (lb rfl) rfl ?_
           refine mv (lb rfl) rfl ?_
           refine st1 rfl (op_lss (lb rfl)) (so rfl (so rfl sn)) ?_
           refine nk ?_
           refine acode_split (b := decide (s1_0 < s0_0)) (fun c13 => ?_) (fun c13 => ?_)
           ·
            replace hm := ite_t hm c13
            refine acode_cond_true rfl (c13) ?_
            refine pk ?_
            refine acode_seq ?_
            refine acode_block ?_
            refine acode_seq ?_
            refine acode_region_draw mixed rfl ?_
            refine fdb (off := 3) Try.underlying119 Try.sizeOf117 rfl rfl rfl (lb rfl) rfl rfl ?_
            refine ldb Try.isAgg117 rfl (lb rfl) rfl rfl ?_
            refine mv (lb rfl) rfl ?_
            obtain ⟨x14, hx14, hm⟩ := bnd hm
            refine st1 rfl (op_index_shG (f := (GFlow.cells false)) (l := t.out) Try.underlying117 Try.sizeOf181 (lb rfl) hx14) (so rfl (so rfl sn)) ?_
            refine st1 rfl (op_field_pts (off := 0) Try.underlying181 Try.sizeOf3 rfl rfl rfl rfl (lb rfl)) (so rfl sn) ?_
            refine st1 rfl (op_load_pts Try.isAgg3 rfl (lb rfl)) (so rfl sn) ?_
            refine fdb (off := 0) Try.underlying181 Try.sizeOf3 rfl rfl rfl (lb rfl) rfl rfl ?_
            refine ldb Try.isAgg3 rfl (lb rfl) rfl rfl ?_
            refine st1 rfl (op_eql (lb rfl)) (so rfl (so rfl sn)) ?_
            refine rg_nil_draw (by kernel_rfl) ?_
            refine kseq_normal ?_
            refine acode_split (b := decide (x14.to = x4.to)) (fun c15 => ?_) (fun c15 => ?_)
            ·
             replace hm := ite_t hm c15
             refine acode_cond_true rfl (c15) ?_
             refine sr ?_
             refine as_ (lb rfl) rfl ?_
             refine nkt ?_
             obtain rfl := Option.some.inj hm
             exact kblk_ret (kseq_ret (klg_ret (kblk_ret (kblk_ret (kseq_ret (klg_ret (kblk_ret (kseq_ret (fin2_retL (.cons (.c rfl) .nil) rfl .nil rfl rfl rfl)))))))))
            ·
             replace hm := ite_f hm c15
             refine acode_cond_false rfl (c15) ?_
             refine acode_skip ?_
             refine kblk_normal (kseq_normal ?_)
             refine acode_region ?_
             refine mv (lb rfl) rfl ?_
             obtain ⟨g16, hm⟩ := gd_some hm
             refine st1 rfl (op_add (lb rfl) g16) (so rfl (so rfl sn)) ?_
             refine as_ (lb rfl) rfl ?_
             refine rg_nil_seq ?_
             refine klg_back (n1, (s1_0 + 1)) hm (Nat.lt_succ_self _) ?_
             exact le_stU idn (.cons rfl rfl (.cons rfl rfl (.cons rfl rfl (.cons rfl rfl (.cons rfl rfl (.cons rfl rfl (.cons rfl rfl (.cons rfl rfl (.cons rfl rfl (.cons rfl rfl (.cons rfl rfl (.cons rfl rfl (.cons rfl rfl (.cons rfl rfl (.cons rfl rfl (.cons rfl rfl (.cons rfl rfl (.cons rfl rfl .nil)))))))))))))))))) (.cons rfl rfl (.inl rfl) (.cons rfl rfl (.inl rfl) .nil)) rfl
           ·
            replace hm := ite_f hm c13
            refine acode_cond_false rfl (c13) ?_
            refine acode_exit ?_
            unfold m_spec_l2Flows_k1 at hm
            refine kseq_exit (klg_exit (kblk_hit (kblk_normal (kseq_normal ?_))))
            refine acode_le (le_stU (env := [(1, aInt places), (2, .bx 2 0), (5, aInt s0_0), (33, .c (.lit undef)), (34, .c (.lit undef)), (35, .c (.lit undef)), (44, .bx 6 1), (45, .agg [aInt x4.if_.op, aInt x4.if_.var, aInt x4.if_.k]), (46, aBool x10), (47, aBool (!x10)), (50, aBool true), (51, .bx 6 1), (52, .bx 6 1), (53, aInt x4.if_.op), (54, aBool (decide (x4.if_.op = 0))), (55, aBool (!(true == (decide (x4.if_.op = 0)))))]) (obj := [(2, .box [aInt t.join, aInt t.split, .c (.sl false 1 (t.in_.map (fun n : Int => [cI n]))), .c (.sl false 4 (t.out.map (GFlow.cells false))), .c (.sl false 1 (t.clear.map (fun n : Int => [cI n]))), aInt t.role, aInt t.apart, aInt t.all, aInt t.need]), (6, .box [aInt x4.to, aInt x4.if_.op, aInt x4.if_.var, aInt x4.if_.k])]) idn (.cons rfl rfl (.cons rfl rfl (.cons rfl rfl (.cons rfl rfl (.cons rfl rfl (.cons rfl rfl (.cons rfl rfl (.cons rfl rfl (.cons rfl rfl (.cons rfl rfl (.cons rfl rfl (.cons rfl rfl (.cons rfl rfl (.cons rfl rfl (.cons rfl rfl (.cons rfl rfl .nil)))))))))))))))) (.cons rfl rfl (.inl rfl) (.cons rfl rfl (.inl rfl) .nil)) rfl) ?_
            refine acode_region ?_
            refine mv (lb rfl) rfl ?_
            obtain ⟨g17, hm⟩ := gd_some hm
            refine st1 rfl (op_add (lb rfl) g17) (so rfl (so rfl sn)) ?_
            refine as_ (lb rfl) rfl ?_
            refine rg_nil_seq ?_
            refine klg_back (n0, (s0_0 + 1)) hm (Nat.lt_succ_self _) ?_
            exact le_stU idn (.cons rfl rfl (.cons rfl rfl (.cons rfl rfl .nil))) (.cons rfl rfl (.inl rfl) .nil) rfl
        ·
         replace hm := ite_f hm c12
         refine acode_cond_true rfl (not_f (c12)) ?_
         refine sr ?_
         refine as_ (lb rfl) rfl ?_
         refine nkt ?_
         obtain rfl := Option.some.inj hm
         exact kseq_ret (kblk_ret (kseq_ret (klg_ret (kblk_ret (kseq_ret (fin2_retL (.cons (.c rfl) .nil) rfl .nil rfl rfl rfl))))))
       ·
        replace hm := ite_f hm c11
        refine st1off rfl rfl (lb rfl) rfl rfl (not_f (c11)) ?_
        refine st1off rfl rfl (lb rfl) rfl rfl (not_f (c11)) ?_
        refine st1off rfl rfl (lb rfl) rfl rfl (not_f (c11)) ?_
        refine st1off rfl rfl (lb rfl) rfl rfl (not_f (c11)) ?_
        refine st1off rfl rfl (lb rfl) rfl rfl (not_f (c11)) ?_
        refine st1off rfl rfl (lb rfl) rfl rfl (not_f (c11)) ?_
        refine st1 rfl (op_pick_true (lb rfl) (not_f (c11))) (so rfl (so rfl sn)) ?_
        refine nk ?_
        refine acode_cond_true rfl (rfl) ?_
        refine sr ?_
        refine as_ (lb rfl) rfl ?_
        refine nkt ?_
        obtain rfl := Option.some.inj hm
        exact kseq_ret (kblk_ret (kseq_ret (klg_ret (kblk_ret (kseq_ret (fin2_retL (.cons (.c rfl) .nil) rfl .nil rfl rfl rfl))))))
      ·
       replace hm := ite_f hm c9
       refine st1off rfl rfl (lb rfl) rfl rfl (not_f (c9)) ?_
       refine st1off rfl rfl (lb rfl) rfl rfl (not_f (c9)) ?_
       refine st1off rfl rfl (lb rfl) rfl rfl (not_f (c9)) ?_
       refine st1off rfl rfl (lb rfl) rfl rfl (not_f (c9)) ?_
       refine st1 rfl (op_pick_true (lb rfl) (not_f (c9))) (so rfl (so rfl sn)) ?_
       refine mv (lb rfl) rfl ?_
       refine st1off rfl rfl (lb rfl) rfl rfl (rfl) ?_
       refine st1off rfl rfl (lb rfl) rfl rfl (rfl) ?_
       refine st1off rfl rfl (lb rfl) rfl rfl (rfl) ?_
       refine st1off rfl rfl (lb rfl) rfl rfl (rfl) ?_
       refine st1off rfl rfl (lb rfl) rfl rfl (rfl) ?_
       refine st1off rfl rfl (lb rfl) rfl rfl (rfl) ?_
       refine st1 rfl (op_pick_true (lb rfl) (rfl)) (so rfl (so rfl sn)) ?_
       refine nk ?_
       refine acode_cond_true rfl (rfl) ?_
       refine sr ?_
       refine as_ (lb rfl) rfl ?_
       refine nkt ?_
       obtain rfl := Option.some.inj hm
       exact kseq_ret (kblk_ret (kseq_ret (klg_ret (kblk_ret (kseq_ret (fin2_retL (.cons (.c rfl) .nil) rfl .nil rfl rfl rfl))))))
     ·
      replace hm := ite_f hm c6
      refine st1on rfl rfl rfl (c6) (op_field_bx (off := 1) Try.underlying119 Try.sizeOf3 rfl rfl rfl (lb rfl)) (so rfl (sb rfl sn)) ?_
      refine st1on rfl rfl rfl (c6) (op_load_bx Try.isAgg3 rfl (lb rfl)) (so rfl (sb rfl sn)) ?_
      refine st1on rfl rfl rfl (c6) (op_eql (lb rfl)) (so rfl (so rfl sn)) ?_
      refine st1 rfl (op_pick_false (lb rfl) (c6)) (so rfl (so rfl sn)) ?_
      refine as_ (lb rfl) rfl ?_
      refine nk ?_
      refine acode_seq ?_
      refine sr ?_
      refine fdb (off := 0) Try.underlying181 Try.sizeOf3 rfl rfl rfl (lb rfl) rfl rfl ?_
      refine ldb Try.isAgg3 rfl (lb rfl) rfl rfl ?_
      refine mv (lb rfl) rfl ?_
      obtain ⟨g18, hm⟩ := gd_some hm
      refine st1 rfl (op_sub (lb rfl) g18) (so rfl (so rfl sn)) ?_
      obtain ⟨x19, hx19, hm⟩ := bnd hm
      refine st1 rfl (op_call2 (ks := []) Try.func93 rfl rfl (c_spec_l1In x4.to 1 (places - 1) x19 hx19) (.cons (.c rfl) (.cons (.c rfl) (.cons (.c rfl) .nil rfl) rfl) rfl) rfl rfl (.inl rfl) .nil rfl rfl (lb rfl)) (sats_opds (.cons rfl (.cons rfl (.cons rfl .nil))) (sats_app (sats_freshL rfl) (sats_needsO obs_nil))) ?_
      refine st1 rfl (op_not (lb rfl)) (so rfl sn) ?_
      refine mv (lb rfl) rfl ?_
      refine rg_split (b := x19) (fun c20 => ?_) (fun c20 => ?_)
      ·
       replace hm := ite_t hm c20
       refine st1on rfl rfl rfl (not_t (c20)) (op_field_bx (off := 1) Try.underlying181 Try.sizeOf88 rfl rfl rfl (lb rfl)) (so rfl (sb rfl sn)) ?_
       refine st1on rfl rfl rfl (not_t (c20)) (op_load_bx_agg Try.isAgg88 Try.sizeOf88 rfl rfl (lb rfl)) (so rfl (sb rfl sn)) ?_
       obtain ⟨x21, hx21, hm⟩ := bnd hm
       refine st1on rfl rfl rfl (not_t (c20)) (op_call2 (ks := []) Try.func103 rfl rfl (c_spec_ExpOk x4.if_ x21 hx21) (.cons ((.aggCons (.c rfl) (.aggCons (.c rfl) (.aggCons (.c rfl) .aggNil rfl) rfl) rfl)) .nil rfl) rfl rfl (.inl rfl) .nil rfl rfl (lb rfl)) (sats_opds (.cons rfl .nil) (sats_app (sats_freshL rfl) (sats_needsO obs_nil))) ?_
       refine st1on rfl rfl rfl (not_t (c20)) (op_not (lb rfl)) (so rfl sn) ?_
       refine st1 rfl (op_pick_false (lb rfl) (not_t (c20))) (so rfl (so rfl sn)) ?_
       refine mv (lb rfl) rfl ?_
       refine rg_split (b := x21) (fun c22 => ?_) (fun c22 => ?_)
       ·
        replace hm := ite_t hm c22
        refine st1on rfl rfl rfl (not_t (c22)) (op_move (lb rfl)) (so rfl sn) ?_
        refine st1on rfl rfl rfl (not_t (c22)) (op_field_bx (off := 1) Try.underlying181 Try.sizeOf88 rfl rfl rfl (lb rfl)) (so rfl (sb rfl sn)) ?_
        refine st1on rfl rfl rfl (not_t (c22)) (op_field_bx (off := 0) Try.underlying88 Try.sizeOf3 rfl rfl rfl (lb rfl)) (so rfl (sb rfl sn)) ?_
        refine st1on rfl rfl rfl (not_t (c22)) (op_load_bx Try.isAgg3 rfl (lb rfl)) (so rfl (sb rfl sn)) ?_
        refine st1on rfl rfl rfl (not_t (c22)) (op_eql (lb rfl)) (so rfl (so rfl sn)) ?_
        refine st1on rfl rfl rfl (not_t (c22)) (op_neqb Try.underlying4 (lb rfl)) (so rfl (so rfl sn)) ?_
        refine st1 rfl (op_pick_false (lb rfl) (not_t (c22))) (so rfl (so rfl sn)) ?_
        refine nk ?_
        refine acode_split (b := ((decide (t.split = 1)) == (decide (x4.if_.op = 0)))) (fun c23 => ?_) (fun c23 => ?_)
        ·
         replace hm := ite_t hm c23
         refine acode_cond_false rfl (not_t (c23)) ?_
         refine pk ?_
         refine acode_seq ?_
         refine acode_le (le_stU (env := [(1, aInt places), (2, .bx 2 0), (5, aInt s0_0), (6, .bx 6 0), (33, .bx 2 1), (34, aInt t.split), (35, aBool (decide (t.split = 1))), (44, .bx 6 1), (45, .agg [aInt x4.if_.op, aInt x4.if_.var, aInt x4.if_.k]), (46, aBool x21), (47, aBool (!x21)), (50, aBool (decide (t.split = 1))), (51, .bx 6 1), (52, .bx 6 1), (53, aInt x4.if_.op), (54, aBool (decide (x4.if_.op = 0))), (55, aBool (!((decide (t.split = 1)) == (decide (x4.if_.op = 0)))))]) (obj := [(2, .box [aInt t.join, aInt t.split, .c (.sl false 1 (t.in_.map (fun n : Int => [cI n]))), .c (.sl false 4 (t.out.map (GFlow.cells false))), .c (.sl false 1 (t.clear.map (fun n : Int => [cI n]))), aInt t.role, aInt t.apart, aInt t.all, aInt t.need]), (6, .box [aInt x4.to, aInt x4.if_.op, aInt x4.if_.var, aInt x4.if_.k])]) idn (.cons rfl rfl (.cons rfl rfl (.cons rfl rfl (.cons rfl rfl (.cons rfl rfl (.cons rfl rfl (.cons rfl rfl (.cons rfl rfl (.cons rfl rfl (.cons rfl rfl (.cons rfl rfl (.cons rfl rfl (.cons rfl rfl (.cons rfl rfl (.cons rfl rfl (.cons rfl rfl (.cons rfl rfl .nil))))))))))))))))) (.cons rfl rfl (.inl rfl) (.cons rfl rfl (.inl rfl) .nil)) rfl) ?_
         refine acode_region ?_
         refine as_ (lb rfl) rfl ?_
         refine nk ?_
         refine acode_block ?_
         refine acode_loopk (xs := [1, 2, 5, 6, 33, 34, 35, 44, 45, 46, 47, 50, 51, 52, 53, 54, 55]) (ys := [2, 6]) (S := Nat × Int) (fun z => [(8, aInt z.2)]) (fun z => []) (fun z => m_spec_l2Flows_l2 t s0_0 x4 (m_spec_l2Flows_k2 s0_0 (m_spec_l2Flows_l0 t places m_spec_l2Flows_k3 n0)) z.1 z.2 = some rz) (fun z => z.1) (FUEL, 0) (.cons rfl (.cons rfl (.cons rfl (.cons rfl (.cons rfl (.cons rfl (.cons rfl (.cons rfl (.cons rfl (.cons rfl (.cons rfl (.cons rfl (.cons rfl (.cons rfl (.cons rfl (.cons rfl (.cons rfl .nil))))))))))))))))) (.cons rfl (.cons rfl .nil)) ?em ?eo rfl ?ei ?round
         case em => exact (.cons rfl rfl .nil)
         case eo => exact .nil
         case ei => exact hm
         case round =>
          rintro ⟨n2, s2_0⟩ hm
          dsimp only at hm ⊢
          cases n2 with
          | zero => rw [m_spec_l2Flows_l2] at hm; cases hm
          | succ n2 =>
           rw [m_spec_l2Flows_l2] at hm
           refine acode_seq ?_
           refine sr ?_
           refine mv (lb rfl) rfl ?_
           refine mv (lb rfl) rfl ?_
           refine st1 rfl (op_lss (lb rfl)) (so rfl (so rfl sn)) ?_
           refine nk ?_
           refine acode_split (b := decide (s2_0 < s0_0)) (fun c24 => ?_) (fun c24 => ?_)
           ·
            replace hm := ite_t hm c24
            refine acode_cond_true rfl (c24) ?_
            refine pk ?_
            refine acode_seq ?_
            refine acode_block ?_
            refine acode_seq ?_
            refine acode_region_draw mixed rfl ?_
            refine fdb (off := 3) Try.underlying119 Try.sizeOf117 rfl rfl rfl (lb rfl) rfl rfl ?_
            refine ldb Try.isAgg117 rfl (lb rfl) rfl rfl ?_
            refine mv (lb rfl) rfl ?_
            obtain ⟨x25, hx25, hm⟩ := bnd hm
            refine st1 rfl (op_index_shG (f := (GFlow.cells false)) (l := t.out) Try.underlying117 Try.sizeOf181 (lb rfl) hx25) (so rfl (so rfl sn)) ?_
            refine st1 rfl (op_field_pts (off := 0) Try.underlying181 Try.sizeOf3 rfl rfl rfl rfl (lb rfl)) (so rfl sn) ?_
            refine st1 rfl (op_load_pts Try.isAgg3 rfl (lb rfl)) (so rfl sn) ?_
            refine fdb (off := 0) Try.underlying181 Try.sizeOf3 rfl rfl rfl (lb rfl) rfl rfl ?_
            refine ldb Try.isAgg3 rfl (lb rfl) rfl rfl ?_
            refine st1 rfl (op_eql (lb rfl)) (so rfl (so rfl sn)) ?_
            refine rg_nil_draw (by kernel_rfl) ?_
            refine kseq_normal ?_
            refine acode_split (b := decide (x25.to = x4.to)) (fun c26 => ?_) (fun c26 => ?_)
            ·
             replace hm := ite_t hm c26
             refine acode_cond_true rfl (c26) ?_
             refine sr ?_
             refine as_ (lb rfl) rfl ?_
             refine nkt ?_
             obtain rfl := Option.some.inj hm
             exact kblk_ret (kseq_ret (klg_ret (kblk_ret (kblk_ret (kseq_ret (klg_ret (kblk_ret (kseq_ret (fin2_retL (.cons (.c rfl) .nil) rfl .nil rfl rfl rfl)))))))))
            ·
             replace hm := ite_f hm c26
             refine acode_cond_false rfl (c26) ?_
             refine acode_skip ?_
             refine kblk_normal (kseq_normal ?_)
             refine acode_region ?_
             refine mv (lb rfl) rfl ?_
             obtain ⟨g27, hm⟩ := gd_some hm
             refine st1 rfl (op_add (lb rfl) g27) (so rfl (so rfl sn)) ?_
             refine as_ (lb rfl) rfl ?_
             refine rg_nil_seq ?_
             refine klg_back (n2, (s2_0 + 1)) hm (Nat.lt_succ_self _) ?_
             exact le_stU idn (.cons rfl rfl (.cons rfl rfl (.cons rfl rfl (.cons rfl rfl (.cons rfl rfl (.cons rfl rfl (.cons rfl rfl (.cons rfl rfl (.cons rfl rfl (.cons rfl rfl (.cons rfl rfl (.cons rfl rfl (.cons rfl rfl (.cons rfl rfl (.cons rfl rfl (.cons rfl rfl (.cons rfl rfl (.cons rfl rfl .nil)))))))))))))))))) (.cons rfl rfl (.inl rfl) (.cons rfl rfl (.inl rfl) .nil)) rfl
           ·
            replace hm := ite_f hm c24
            refine acode_cond_false rfl (c24) ?_
            refine acode_exit ?_
            unfold m_spec_l2Flows_k2 at hm
            refine kseq_exit (klg_exit (kblk_hit (kblk_normal (kseq_normal ?_))))
            refine acode_le (le_stU (env := [(1, aInt places), (2, .bx 2 0), (5, aInt s0_0), (33, .bx 2 1), (34, aInt t.split), (35, aBool (decide (t.split = 1))), (44, .bx 6 1), (45, .agg [aInt x4.if_.op, aInt x4.if_.var, aInt x4.if_.k]), (46, aBool x21), (47, aBool (!x21)), (50, aBool (decide (t.split = 1))), (51, .bx 6 1), (52, .bx 6 1), (53, aInt x4.if_.op), (54, aBool (decide (x4.if_.op = 0))), (55, aBool (!((decide (t.split = 1)) == (decide (x4.if_.op = 0)))))]) (obj := [(2, .box [aInt t.join, aInt t.split, .c (.sl false 1 (t.in_.map (fun n : Int => [cI n]))), .c (.sl false 4 (t.out.map (GFlow.cells false))), .c (.sl false 1 (t.clear.map (fun n : Int => [cI n]))), aInt t.role, aInt t.apart, aInt t.all, aInt t.need]), (6, .box [aInt x4.to, aInt x4.if_.op, aInt x4.if_.var, aInt x4.if_.k])]) idn (.cons rfl rfl (.cons rfl rfl (.cons rfl rfl (.cons rfl rfl (.cons rfl rfl (.cons rfl rfl (.cons rfl rfl (.cons rfl rfl (.cons rfl rfl (.cons rfl rfl (.cons rfl rfl (.cons rfl rfl (.cons rfl rfl (.cons rfl rfl (.cons rfl rfl (.cons rfl rfl .nil)))))))))))))))) (.cons rfl rfl (.inl rfl) (.cons rfl rfl (.inl rfl) .nil)) rfl) ?_
            refine acode_region ?_
            refine mv (lb rfl) rfl ?_
            obtain ⟨g28, hm⟩ := gd_some hm
            refine st1 rfl (op_add (lb rfl) g28) (so rfl (so rfl sn)) ?_
            refine as_ (lb rfl) rfl ?_
            refine rg_nil_seq ?_
            refine klg_back (n0, (s0_0 + 1)) hm (Nat.lt_succ_self _) ?_
            exact le_stU idn (.cons rfl rfl (.cons rfl rfl (.cons rfl rfl .nil))) (.cons rfl rfl (.inl rfl) .nil) rfl
        ·
         replace hm := ite_f hm c23
         refine acode_cond_true rfl (not_f (c23)) ?_
         refine sr ?_
         refine as_ (lb rfl) rfl ?_
         refine nkt ?_
         obtain rfl := Option.some.inj hm
         exact kseq_ret (kblk_ret (kseq_ret (klg_ret (kblk_ret (kseq_ret (fin2_retL (.cons (.c rfl) .nil) rfl .nil rfl rfl rfl))))))
       ·
        replace hm := ite_f hm c22
        refine st1off rfl rfl (lb rfl) rfl rfl (not_f (c22)) ?_
        refine st1off rfl rfl (lb rfl) rfl rfl (not_f (c22)) ?_
        refine st1off rfl rfl (lb rfl) rfl rfl (not_f (c22)) ?_
        refine st1off rfl rfl (lb rfl) rfl rfl (not_f (c22)) ?_
        refine st1off rfl rfl (lb rfl) rfl rfl (not_f (c22)) ?_
        refine st1off rfl rfl (lb rfl) rfl rfl (not_f (c22)) ?_
        refine st1 rfl (op_pick_true (lb rfl) (not_f (c22))) (so rfl (so rfl sn)) ?_
        refine nk ?_
        refine acode_cond_true rfl (rfl) ?_
        refine sr ?_
        refine as_ (lb rfl) rfl ?_
        refine nkt ?_
        obtain rfl := Option.some.inj hm
        exact kseq_ret (kblk_ret (kseq_ret (klg_ret (kblk_ret (kseq_ret (fin2_retL (.cons (.c rfl) .nil) rfl .nil rfl rfl rfl))))))
      ·
       replace hm := ite_f hm c20
       refine st1off rfl rfl (lb rfl) rfl rfl (not_f (c20)) ?_
       refine st1off rfl rfl (lb rfl) rfl rfl (not_f (c20)) ?_
       refine st1off rfl rfl (lb rfl) rfl rfl (not_f (c20)) ?_
       refine st1off rfl rfl (lb rfl) rfl rfl (not_f (c20)) ?_
       refine st1 rfl (op_pick_true (lb rfl) (not_f (c20))) (so rfl (so rfl sn)) ?_
       refine mv (lb rfl) rfl ?_
       refine st1off rfl rfl (lb rfl) rfl rfl (rfl) ?_
       refine st1off rfl rfl (lb rfl) rfl rfl (rfl) ?_
       refine st1off rfl rfl (lb rfl) rfl rfl (rfl) ?_
       refine st1off rfl rfl (lb rfl) rfl rfl (rfl) ?_
       refine st1off rfl rfl (lb rfl) rfl rfl (rfl) ?_
       refine st1off rfl rfl (lb rfl) rfl rfl (rfl) ?_
       refine st1 rfl (op_pick_true (lb rfl) (rfl)) (so rfl (so rfl sn)) ?_
       refine nk ?_
       refine acode_cond_true rfl (rfl) ?_
       refine sr ?_
       refine as_ (lb rfl) rfl ?_
       refine nkt ?_
       obtain rfl := Option.some.inj hm
       exact kseq_ret (kblk_ret (kseq_ret (klg_ret (kblk_ret (kseq_ret (fin2_retL (.cons (.c rfl) .nil) rfl .nil rfl rfl rfl))))))
    ·
     replace hm := ite_f hm c3
     refine acode_cond_false rfl (c3) ?_
     refine acode_exit ?_
     unfold m_spec_l2Flows_k3 at hm
     refine kseq_exit (klg_exit (kblk_hit (kseq_normal ?_)))
     refine sr ?_
     refine as_ (lb rfl) rfl ?_
     refine nkt ?_
     obtain rfl := Option.some.inj hm
     exact fin2_retL (.cons (.c rfl) .nil) rfl .nil rfl rfl rfl
 ·
  replace hm := ite_f hm c2
  refine acode_cond_true rfl (not_f (c2)) ?_
  refine sr ?_
  refine as_ (lb rfl) rfl ?_
  refine nkt ?_
  obtain rfl := Option.some.inj hm
  exact kseq_ret (fin2_retL (.cons (.c rfl) .nil) rfl .nil rfl rfl rfl)

def m_spec_l2Task (t : GTask) (places : Int) (tasks : Int) : Option Bool := (m_spec_l1In t.join 1 3).bind fun x1 => (if x1 = true then ((m_spec_l1In t.split 1 3).bind fun x3 => (if x3 = true then (gd (ok64 (places - 1)) ((m_spec_l2Rises t.in_ 1 3 0 (places - 1)).bind fun x6 => (if x6 = true then ((m_spec_l2Has t.in_ 1).bind fun x8 => (if x8 = true then (some false) else ((m_spec_l2Flows t places).bind fun x10 => (if x10 = true then (gd (ok64 (places - 1)) ((m_spec_l2Rises t.clear 0 places 2 (places - 1)).bind fun x13 => (if x13 = true then ((m_spec_l1In t.role 1 3).bind fun x15 => (if x15 = true then (gd (ok64 (tasks - 1)) ((m_spec_l1In t.apart (-1) (tasks - 1)).bind fun x18 => (if x18 = true then ((m_spec_l1In t.all 1 3).bind fun x20 => (if x20 = true then ((m_spec_l1In t.need 1 t.all).bind fun x22 => (some x22)) else (some false))) else (some false)))) else (some false))) else (some false)))) else (some false))))) else (some false)))) else (some false))) else (some false))

theorem c_spec_l2Task (t : GTask) (places : Int) (tasks : Int) (rz : Bool) (hm : m_spec_l2Task t places tasks = some rz) : FnB Try.prog 145 [.row (GTask.cells false t), .c (cI places), .c (cI tasks)] [.c (cB rz)] [] := by
 unfold m_spec_l2Task at hm
 refine fn_intro2 (n := 66) (rvs := [.tmp 6]) Try.func145 rfl rfl rfl (lb rfl) rfl rfl rfl rfl rfl ?_
 refine acode_seq ?_
 refine acode_le (le_stU (env := [(0, .row [cI t.join, cI t.split, .sl false 1 (t.in_.map (fun n : Int => [cI n])), .sl false 4 (t.out.map (GFlow.cells false)), .sl false 1 (t.clear.map (fun n : Int => [cI n])), cI t.role, cI t.apart, cI t.all, cI t.need]), (1, aInt places), (2, aInt tasks)]) (obj := []) idn (.cons rfl rfl (.cons rfl rfl (.cons rfl rfl .nil))) .nil rfl) ?_
 refine acode_region ?_
 refine st1 rfl (op_box rfl (lb rfl)) (so rfl (sf rfl (sats_lives rfl))) ?_
 refine as_ (lb rfl) rfl ?_
 refine nk ?_
 refine acode_seq ?_
 refine sr ?_
 refine fdb (off := 0) Try.underlying119 Try.sizeOf3 rfl rfl rfl (lb rfl) rfl rfl ?_
 refine ldb Try.isAgg3 rfl (lb rfl) rfl rfl ?_
 obtain ⟨x1, hx1, hm⟩ := bnd hm
 refine st1 rfl (op_call2 (ks := []) Try.func93 rfl rfl (c_spec_l1In t.join 1 3 x1 hx1) (.cons (.c rfl) (.cons (.c rfl) (.cons (.c rfl) .nil rfl) rfl) rfl) rfl rfl (.inl rfl) .nil rfl rfl (lb rfl)) (sats_opds (.cons rfl (.cons rfl (.cons rfl .nil))) (sats_app (sats_freshL rfl) (sats_needsO obs_nil))) ?_
 refine st1 rfl (op_not (lb rfl)) (so rfl sn) ?_
 refine mv (lb rfl) rfl ?_
 refine rg_split (b := x1) (fun c2 => ?_) (fun c2 => ?_)
 ·
  replace hm := ite_t hm c2
  refine st1on rfl rfl rfl (not_t (c2)) (op_field_bx (off := 1) Try.underlying119 Try.sizeOf3 rfl rfl rfl (lb rfl)) (so rfl (sb rfl sn)) ?_
  refine st1on rfl rfl rfl (not_t (c2)) (op_load_bx Try.isAgg3 rfl (lb rfl)) (so rfl (sb rfl sn)) ?_
  obtain ⟨x3, hx3, hm⟩ := bnd hm
  refine st1on rfl rfl rfl (not_t (c2)) (op_call2 (ks := []) Try.func93 rfl rfl (c_spec_l1In t.split 1 3 x3 hx3) (.cons (.c rfl) (.cons (.c rfl) (.cons (.c rfl) .nil rfl) rfl) rfl) rfl rfl (.inl rfl) .nil rfl rfl (lb rfl)) (sats_opds (.cons rfl (.cons rfl (.cons rfl .nil))) (sats_app (sats_freshL rfl) (sats_needsO obs_nil))) ?_
  refine st1on rfl rfl rfl (not_t (c2)) (op_not (lb rfl)) (so rfl sn) ?_
  refine st1 rfl (op_pick_false (lb rfl) (not_t (c2))) (so rfl (so rfl sn)) ?_
  refine mv (lb rfl) rfl ?_
  refine rg_split (b := x3) (fun c4 => ?_) (fun c4 => ?_)
  ·
   replace hm := ite_t hm c4
   refine st1on rfl rfl rfl (not_t (c4)) (op_field_bx (off := 2) Try.underlying119 Try.sizeOf34 rfl rfl rfl (lb rfl)) (so rfl (sb rfl sn)) ?_
   refine st1on rfl rfl rfl (not_t (c4)) (op_load_bx Try.isAgg34 rfl (lb rfl)) (so rfl (sb rfl sn)) ?_
   refine st1on rfl rfl rfl (not_t (c4)) (op_move (lb rfl)) (so rfl sn) ?_
   obtain ⟨g5, hm⟩ := gd_some hm
   refine st1on rfl rfl rfl (not_t (c4)) (op_sub (lb rfl) g5) (so rfl (so rfl sn)) ?_
   obtain ⟨x6, hx6, hm⟩ := bnd hm
   refine st1on rfl rfl rfl (not_t (c4)) (op_call2 (ks := []) Try.func152 rfl rfl (c_spec_l2Rises t.in_ 1 3 0 (places - 1) x6 hx6) (.cons (.c rfl) (.cons (.c rfl) (.cons (.c rfl) (.cons (.c rfl) (.cons (.c rfl) .nil rfl) rfl) rfl) rfl) rfl) rfl rfl (.inl rfl) .nil rfl rfl (lb rfl)) (sats_opds (.cons rfl (.cons rfl (.cons rfl (.cons rfl (.cons rfl .nil))))) (sats_app (sats_freshL rfl) (sats_needsO obs_nil))) ?_
   refine st1on rfl rfl rfl (not_t (c4)) (op_not (lb rfl)) (so rfl sn) ?_
   refine st1 rfl (op_pick_false (lb rfl) (not_t (c4))) (so rfl (so rfl sn)) ?_
   refine mv (lb rfl) rfl ?_
   refine rg_split (b := x6) (fun c7 => ?_) (fun c7 => ?_)
   ·
    replace hm := ite_t hm c7
    refine st1on rfl rfl rfl (not_t (c7)) (op_field_bx (off := 2) Try.underlying119 Try.sizeOf34 rfl rfl rfl (lb rfl)) (so rfl (sb rfl sn)) ?_
    refine st1on rfl rfl rfl (not_t (c7)) (op_load_bx Try.isAgg34 rfl (lb rfl)) (so rfl (sb rfl sn)) ?_
    obtain ⟨x8, hx8, hm⟩ := bnd hm
    refine st1on rfl rfl rfl (not_t (c7)) (op_call2 (ks := []) Try.func153 rfl rfl (c_spec_l2Has t.in_ 1 x8 hx8) (.cons (.c rfl) (.cons (.c rfl) .nil rfl) rfl) rfl rfl (.inl rfl) .nil rfl rfl (lb rfl)) (sats_opds (.cons rfl (.cons rfl .nil)) (sats_app (sats_freshL rfl) (sats_needsO obs_nil))) ?_
    refine st1 rfl (op_pick_false (lb rfl) (not_t (c7))) (so rfl (so rfl sn)) ?_
    refine mv (lb rfl) rfl ?_
    refine rg_split (b := x8) (fun c9 => ?_) (fun c9 => ?_)
    ·
     replace hm := ite_t hm c9
     refine st1off rfl rfl (lb rfl) rfl rfl (c9) ?_
     refine st1off rfl rfl (lb rfl) rfl rfl (c9) ?_
     refine st1off rfl rfl (lb rfl) rfl rfl (c9) ?_
     refine st1off rfl rfl (lb rfl) rfl rfl (c9) ?_
     refine st1 rfl (op_pick_true (lb rfl) (c9)) (so rfl (so rfl sn)) ?_
     refine nk ?_
     refine acode_cond_true rfl (rfl) ?_
     refine acode_seq ?_
     refine acode_le (le_stU (env := []) (obj := []) idn .nil .nil rfl) ?_
     refine acode_region ?_
     refine as_ (lb rfl) rfl ?_
     refine nkt ?_
     obtain rfl := Option.some.inj hm
     exact kseq_ret (fin2_retL (.cons (.c rfl) .nil) rfl .nil rfl rfl rfl)
    ·
     replace hm := ite_f hm c9
     refine st1on rfl rfl rfl (c9) (op_load_bx_agg Try.isAgg119 Try.sizeOf119 rfl rfl (lb rfl)) (so rfl (sb rfl sn)) ?_
     refine st1on rfl rfl rfl (c9) (op_move (lb rfl)) (so rfl sn) ?_
     obtain ⟨x10, hx10, hm⟩ := bnd hm
     refine st1on rfl rfl rfl (c9) (op_call2 (ks := []) Try.func154 rfl rfl (c_spec_l2Flows t places x10 hx10) (.cons ((.aggCons (.c rfl) (.aggCons (.c rfl) (.aggCons (.c rfl) (.aggCons (.c rfl) (.aggCons (.c rfl) (.aggCons (.c rfl) (.aggCons (.c rfl) (.aggCons (.c rfl) (.aggCons (.c rfl) .aggNil rfl) rfl) rfl) rfl) rfl) rfl) rfl) rfl) rfl)) (.cons (.c rfl) .nil rfl) rfl) rfl rfl (.inl rfl) .nil rfl rfl (lb rfl)) (sats_opds (.cons rfl (.cons rfl .nil)) (sats_app (sats_freshL rfl) (sats_needsO obs_nil))) ?_
     refine st1on rfl rfl rfl (c9) (op_not (lb rfl)) (so rfl sn) ?_
     refine st1 rfl (op_pick_false (lb rfl) (c9)) (so rfl (so rfl sn)) ?_
     refine nk ?_
     refine acode_split (b := x10) (fun c11 => ?_) (fun c11 => ?_)
     ·
      replace hm := ite_t hm c11
      refine acode_cond_false rfl (not_t (c11)) ?_
      refine pk ?_
      refine sr ?_
      refine fdb (off := 4) Try.underlying119 Try.sizeOf34 rfl rfl rfl (lb rfl) rfl rfl ?_
      refine ldb Try.isAgg34 rfl (lb rfl) rfl rfl ?_
      refine mv (lb rfl) rfl ?_
      refine mv (lb rfl) rfl ?_
      obtain ⟨g12, hm⟩ := gd_some hm
      refine st1 rfl (op_sub (lb rfl) g12) (so rfl (so rfl sn)) ?_
      obtain ⟨x13, hx13, hm⟩ := bnd hm
      refine st1 rfl (op_call2 (ks := []) Try.func152 rfl rfl (c_spec_l2Rises t.clear 0 places 2 (places - 1) x13 hx13) (.cons (.c rfl) (.cons (.c rfl) (.cons (.c rfl) (.cons (.c rfl) (.cons (.c rfl) .nil rfl) rfl) rfl) rfl) rfl) rfl rfl (.inl rfl) .nil rfl rfl (lb rfl)) (sats_opds (.cons rfl (.cons rfl (.cons rfl (.cons rfl (.cons rfl .nil))))) (sats_app (sats_freshL rfl) (sats_needsO obs_nil))) ?_
      refine mv (lb rfl) rfl ?_
      refine rg_split (b := x13) (fun c14 => ?_) (fun c14 => ?_)
      ·
       replace hm := ite_t hm c14
       refine st1on rfl rfl rfl (c14) (op_field_bx (off := 5) Try.underlying119 Try.sizeOf3 rfl rfl rfl (lb rfl)) (so rfl (sb rfl sn)) ?_
       refine st1on rfl rfl rfl (c14) (op_load_bx Try.isAgg3 rfl (lb rfl)) (so rfl (sb rfl sn)) ?_
       obtain ⟨x15, hx15, hm⟩ := bnd hm
       refine st1on rfl rfl rfl (c14) (op_call2 (ks := []) Try.func93 rfl rfl (c_spec_l1In t.role 1 3 x15 hx15) (.cons (.c rfl) (.cons (.c rfl) (.cons (.c rfl) .nil rfl) rfl) rfl) rfl rfl (.inl rfl) .nil rfl rfl (lb rfl)) (sats_opds (.cons rfl (.cons rfl (.cons rfl .nil))) (sats_app (sats_freshL rfl) (sats_needsO obs_nil))) ?_
       refine st1 rfl (op_pick_true (lb rfl) (c14)) (so rfl (so rfl sn)) ?_
       refine mv (lb rfl) rfl ?_
       refine rg_split (b := x15) (fun c16 => ?_) (fun c16 => ?_)
       ·
        replace hm := ite_t hm c16
        refine st1on rfl rfl rfl (c16) (op_field_bx (off := 6) Try.underlying119 Try.sizeOf3 rfl rfl rfl (lb rfl)) (so rfl (sb rfl sn)) ?_
        refine st1on rfl rfl rfl (c16) (op_load_bx Try.isAgg3 rfl (lb rfl)) (so rfl (sb rfl sn)) ?_
        refine st1on rfl rfl rfl (c16) (op_move (lb rfl)) (so rfl sn) ?_
        obtain ⟨g17, hm⟩ := gd_some hm
        refine st1on rfl rfl rfl (c16) (op_sub (lb rfl) g17) (so rfl (so rfl sn)) ?_
        obtain ⟨x18, hx18, hm⟩ := bnd hm
        refine st1on rfl rfl rfl (c16) (op_call2 (ks := []) Try.func93 rfl rfl (c_spec_l1In t.apart (-1) (tasks - 1) x18 hx18) (.cons (.c rfl) (.cons (.c rfl) (.cons (.c rfl) .nil rfl) rfl) rfl) rfl rfl (.inl rfl) .nil rfl rfl (lb rfl)) (sats_opds (.cons rfl (.cons rfl (.cons rfl .nil))) (sats_app (sats_freshL rfl) (sats_needsO obs_nil))) ?_
        refine st1 rfl (op_pick_true (lb rfl) (c16)) (so rfl (so rfl sn)) ?_
        refine mv (lb rfl) rfl ?_
        refine rg_split (b := x18) (fun c19 => ?_) (fun c19 => ?_)
        ·
         replace hm := ite_t hm c19
         refine st1on rfl rfl rfl (c19) (op_field_bx (off := 7) Try.underlying119 Try.sizeOf3 rfl rfl rfl (lb rfl)) (so rfl (sb rfl sn)) ?_
         refine st1on rfl rfl rfl (c19) (op_load_bx Try.isAgg3 rfl (lb rfl)) (so rfl (sb rfl sn)) ?_
         obtain ⟨x20, hx20, hm⟩ := bnd hm
         refine st1on rfl rfl rfl (c19) (op_call2 (ks := []) Try.func93 rfl rfl (c_spec_l1In t.all 1 3 x20 hx20) (.cons (.c rfl) (.cons (.c rfl) (.cons (.c rfl) .nil rfl) rfl) rfl) rfl rfl (.inl rfl) .nil rfl rfl (lb rfl)) (sats_opds (.cons rfl (.cons rfl (.cons rfl .nil))) (sats_app (sats_freshL rfl) (sats_needsO obs_nil))) ?_
         refine st1 rfl (op_pick_true (lb rfl) (c19)) (so rfl (so rfl sn)) ?_
         refine mv (lb rfl) rfl ?_
         refine rg_split (b := x20) (fun c21 => ?_) (fun c21 => ?_)
         ·
          replace hm := ite_t hm c21
          refine st1on rfl rfl rfl (c21) (op_field_bx (off := 8) Try.underlying119 Try.sizeOf3 rfl rfl rfl (lb rfl)) (so rfl (sb rfl sn)) ?_
          refine st1on rfl rfl rfl (c21) (op_load_bx Try.isAgg3 rfl (lb rfl)) (so rfl (sb rfl sn)) ?_
          refine st1on rfl rfl rfl (c21) (op_field_bx (off := 7) Try.underlying119 Try.sizeOf3 rfl rfl rfl (lb rfl)) (so rfl (sb rfl sn)) ?_
          refine st1on rfl rfl rfl (c21) (op_load_bx Try.isAgg3 rfl (lb rfl)) (so rfl (sb rfl sn)) ?_
          obtain ⟨x22, hx22, hm⟩ := bnd hm
          refine st1on rfl rfl rfl (c21) (op_call2 (ks := []) Try.func93 rfl rfl (c_spec_l1In t.need 1 t.all x22 hx22) (.cons (.c rfl) (.cons (.c rfl) (.cons (.c rfl) .nil rfl) rfl) rfl) rfl rfl (.inl rfl) .nil rfl rfl (lb rfl)) (sats_opds (.cons rfl (.cons rfl (.cons rfl .nil))) (sats_app (sats_freshL rfl) (sats_needsO obs_nil))) ?_
          refine st1 rfl (op_pick_true (lb rfl) (c21)) (so rfl (so rfl sn)) ?_
          refine as_ (lb rfl) rfl ?_
          refine nkt ?_
          obtain rfl := Option.some.inj hm
          exact fin2_retL (.cons (.c rfl) .nil) rfl .nil rfl rfl rfl
         ·
          replace hm := ite_f hm c21
          refine st1off rfl rfl (lb rfl) rfl rfl (c21) ?_
          refine st1off rfl rfl (lb rfl) rfl rfl (c21) ?_
          refine st1off rfl rfl (lb rfl) rfl rfl (c21) ?_
          refine st1off rfl rfl (lb rfl) rfl rfl (c21) ?_
          refine st1off rfl rfl (lb rfl) rfl rfl (c21) ?_
          refine st1 rfl (op_pick_false (lb rfl) (c21)) (so rfl (so rfl sn)) ?_
          refine as_ (lb rfl) rfl ?_
          refine nkt ?_
          obtain rfl := Option.some.inj hm
          exact fin2_retL (.cons (.c rfl) .nil) rfl .nil rfl rfl rfl
        ·
         replace hm := ite_f hm c19
         refine st1off rfl rfl (lb rfl) rfl rfl (c19) ?_
         refine st1off rfl rfl (lb rfl) rfl rfl (c19) ?_
         refine st1off rfl rfl (lb rfl) rfl rfl (c19) ?_
         refine st1 rfl (op_pick_false (lb rfl) (c19)) (so rfl (so rfl sn)) ?_
         refine mv (lb rfl) rfl ?_
         refine st1off rfl rfl (lb rfl) rfl rfl (rfl) ?_
         refine st1off rfl rfl (lb rfl) rfl rfl (rfl) ?_
         refine st1off rfl rfl (lb rfl) rfl rfl (rfl) ?_
         refine st1off rfl rfl (lb rfl) rfl rfl (rfl) ?_
         refine st1off rfl rfl (lb rfl) rfl rfl (rfl) ?_
         refine st1 rfl (op_pick_false (lb rfl) (rfl)) (so rfl (so rfl sn)) ?_
         refine as_ (lb rfl) rfl ?_
         refine nkt ?_
         obtain rfl := Option.some.inj hm
         exact fin2_retL (.cons (.c rfl) .nil) rfl .nil rfl rfl rfl
       ·
        replace hm := ite_f hm c16
        refine st1off rfl rfl (lb rfl) rfl rfl (c16) ?_
        refine st1off rfl rfl (lb rfl) rfl rfl (c16) ?_
        refine st1off rfl rfl (lb rfl) rfl rfl (c16) ?_
        refine st1off rfl rfl (lb rfl) rfl rfl (c16) ?_
        refine st1off rfl rfl (lb rfl) rfl rfl (c16) ?_
        refine st1 rfl (op_pick_false (lb rfl) (c16)) (so rfl (so rfl sn)) ?_
        refine mv (lb rfl) rfl ?_
        refine st1off rfl rfl (lb rfl) rfl rfl (rfl) ?_
        refine st1off rfl rfl (lb rfl) rfl rfl (rfl) ?_
        refine st1off rfl rfl (lb rfl) rfl rfl (rfl) ?_
        refine st1 rfl (op_pick_false (lb rfl) (rfl)) (so rfl (so rfl sn)) ?_
        refine mv (lb rfl) rfl ?_
        refine st1off rfl rfl (lb rfl) rfl rfl (rfl) ?_
        refine st1off rfl rfl (lb rfl) rfl rfl (rfl) ?_
        refine st1off rfl rfl (lb rfl) rfl rfl (rfl) ?_
        refine st1off rfl rfl (lb rfl) rfl rfl (rfl) ?_
        refine st1off rfl rfl (lb rfl) rfl rfl (rfl) ?_
        refine st1 rfl (op_pick_false (lb rfl) (rfl)) (so rfl (so rfl sn)) ?_
        refine as_ (lb rfl) rfl ?_
        refine nkt ?_
        obtain rfl := Option.some.inj hm
        exact fin2_retL (.cons (.c rfl) .nil) rfl .nil rfl rfl rfl
      ·
       replace hm := ite_f hm c14
       refine st1off rfl rfl (lb rfl) rfl rfl (c14) ?_
       refine st1off rfl rfl (lb rfl) rfl rfl (c14) ?_
       refine st1off rfl rfl (lb rfl) rfl rfl (c14) ?_
       refine st1 rfl (op_pick_false (lb rfl) (c14)) (so rfl (so rfl sn)) ?_
       refine mv (lb rfl) rfl ?_
       refine st1off rfl rfl (lb rfl) rfl rfl (rfl) ?_
       refine st1off rfl rfl (lb rfl) rfl rfl (rfl) ?_
       refine st1off rfl rfl (lb rfl) rfl rfl (rfl) ?_
       refine st1off rfl rfl (lb rfl) rfl rfl (rfl) ?_
       refine st1off rfl rfl (lb rfl) rfl rfl (rfl) ?_
       refine st1 rfl (op_pick_false (lb rfl) (rfl)) (so rfl (so rfl sn)) ?_
       refine mv (lb rfl) rfl ?_
       refine st1off rfl rfl (lb rfl) rfl rfl (rfl) ?_
       refine st1off rfl rfl (lb rfl) rfl rfl (rfl) ?_
       refine st1off rfl rfl (lb rfl) rfl rfl (rfl) ?_
       refine st1 rfl (op_pick_false (lb rfl) (rfl)) (so rfl (so rfl sn)) ?_
       refine mv (lb rfl) rfl ?_
       refine st1off rfl rfl (lb rfl) rfl rfl (rfl) ?_
       refine st1off rfl rfl (lb rfl) rfl rfl (rfl) ?_
       refine st1off rfl rfl (lb rfl) rfl rfl (rfl) ?_
       refine st1off rfl rfl (lb rfl) rfl rfl (rfl) ?_
       refine st1off rfl rfl (lb rfl) rfl rfl (rfl) ?_
       refine st1 rfl (op_pick_false (lb rfl) (rfl)) (so rfl (so rfl sn)) ?_
       refine as_ (lb rfl) rfl ?_
       refine nkt ?_
       obtain rfl := Option.some.inj hm
       exact fin2_retL (.cons (.c rfl) .nil) rfl .nil rfl rfl rfl
     ·
      replace hm := ite_f hm c11
      refine acode_cond_true rfl (not_f (c11)) ?_
      refine acode_seq ?_
      refine acode_le (le_stU (env := []) (obj := []) idn .nil .nil rfl) ?_
      refine acode_region ?_
      refine as_ (lb rfl) rfl ?_
      refine nkt ?_
      obtain rfl := Option.some.inj hm
      exact kseq_ret (fin2_retL (.cons (.c rfl) .nil) rfl .nil rfl rfl rfl)
   ·
    replace hm := ite_f hm c7
    refine st1off rfl rfl (lb rfl) rfl rfl (not_f (c7)) ?_
    refine st1off rfl rfl (lb rfl) rfl rfl (not_f (c7)) ?_
    refine st1off rfl rfl (lb rfl) rfl rfl (not_f (c7)) ?_
    refine st1 rfl (op_pick_true (lb rfl) (not_f (c7))) (so rfl (so rfl sn)) ?_
    refine mv (lb rfl) rfl ?_
    refine st1off rfl rfl (lb rfl) rfl rfl (rfl) ?_
    refine st1off rfl rfl (lb rfl) rfl rfl (rfl) ?_
    refine st1off rfl rfl (lb rfl) rfl rfl (rfl) ?_
    refine st1off rfl rfl (lb rfl) rfl rfl (rfl) ?_
    refine st1 rfl (op_pick_true (lb rfl) (rfl)) (so rfl (so rfl sn)) ?_
    refine nk ?_
    refine acode_cond_true rfl (rfl) ?_
    refine sr ?_
    refine as_ (lb rfl) rfl ?_
    refine nkt ?_
    obtain rfl := Option.some.inj hm
    exact kseq_ret (fin2_retL (.cons (.c rfl) .nil) rfl .nil rfl rfl rfl)
  ·
   replace hm := ite_f hm c4
   refine st1off rfl rfl (lb rfl) rfl rfl (not_f (c4)) ?_
   refine st1off rfl rfl (lb rfl) rfl rfl (not_f (c4)) ?_
   refine st1off rfl rfl (lb rfl) rfl rfl (not_f (c4)) ?_
   refine st1off rfl rfl (lb rfl) rfl rfl (not_f (c4)) ?_
   refine st1off rfl rfl (lb rfl) rfl rfl (not_f (c4)) ?_
   refine st1off rfl rfl (lb rfl) rfl rfl (not_f (c4)) ?_
   refine st1 rfl (op_pick_true (lb rfl) (not_f (c4))) (so rfl (so rfl sn)) ?_
   refine mv (lb rfl) rfl ?_
   refine st1off rfl rfl (lb rfl) rfl rfl (rfl) ?_
   refine st1off rfl rfl (lb rfl) rfl rfl (rfl) ?_
   refine st1off rfl rfl (lb rfl) rfl rfl (rfl) ?_
   refine st1 rfl (op_pick_true (lb rfl) (rfl)) (so rfl (so rfl sn)) ?_
   refine mv (lb rfl) rfl ?_
   refine st1off rfl rfl (lb rfl) rfl rfl (rfl) ?_
   refine st1off rfl rfl (lb rfl) rfl rfl (rfl) ?_
   refine st1off rfl rfl (lb rfl) rfl rfl (rfl) ?_
   refine st1off rfl rfl (lb rfl) rfl rfl (rfl) ?_
   refine st1 rfl (op_pick_true (lb rfl) (rfl)) (so rfl (so rfl sn)) ?_
   refine nk ?_
   refine acode_cond_true rfl (rfl) ?_
   refine sr ?_
   refine as_ (lb rfl) rfl ?_
   refine nkt ?_
   obtain rfl := Option.some.inj hm
   exact kseq_ret (fin2_retL (.cons (.c rfl) .nil) rfl .nil rfl rfl rfl)
 ·
  replace hm := ite_f hm c2
  refine st1off rfl rfl (lb rfl) rfl rfl (not_f (c2)) ?_
  refine st1off rfl rfl (lb rfl) rfl rfl (not_f (c2)) ?_
  refine st1off rfl rfl (lb rfl) rfl rfl (not_f (c2)) ?_
  refine st1off rfl rfl (lb rfl) rfl rfl (not_f (c2)) ?_
  refine st1 rfl (op_pick_true (lb rfl) (not_f (c2))) (so rfl (so rfl sn)) ?_
  refine mv (lb rfl) rfl ?_
  refine st1off rfl rfl (lb rfl) rfl rfl (rfl) ?_
  refine st1off rfl rfl (lb rfl) rfl rfl (rfl) ?_
  refine st1off rfl rfl (lb rfl) rfl rfl (rfl) ?_
  refine st1off rfl rfl (lb rfl) rfl rfl (rfl) ?_
  refine st1off rfl rfl (lb rfl) rfl rfl (rfl) ?_
  refine st1off rfl rfl (lb rfl) rfl rfl (rfl) ?_
  refine st1 rfl (op_pick_true (lb rfl) (rfl)) (so rfl (so rfl sn)) ?_
  refine mv (lb rfl) rfl ?_
  refine st1off rfl rfl (lb rfl) rfl rfl (rfl) ?_
  refine st1off rfl rfl (lb rfl) rfl rfl (rfl) ?_
  refine st1off rfl rfl (lb rfl) rfl rfl (rfl) ?_
  refine st1 rfl (op_pick_true (lb rfl) (rfl)) (so rfl (so rfl sn)) ?_
  refine mv (lb rfl) rfl ?_
  refine st1off rfl rfl (lb rfl) rfl rfl (rfl) ?_
  refine st1off rfl rfl (lb rfl) rfl rfl (rfl) ?_
  refine st1off rfl rfl (lb rfl) rfl rfl (rfl) ?_
  refine st1off rfl rfl (lb rfl) rfl rfl (rfl) ?_
  refine st1 rfl (op_pick_true (lb rfl) (rfl)) (so rfl (so rfl sn)) ?_
  refine nk ?_
  refine acode_cond_true rfl (rfl) ?_
  refine sr ?_
  refine as_ (lb rfl) rfl ?_
  refine nkt ?_
  obtain rfl := Option.some.inj hm
  exact kseq_ret (fin2_retL (.cons (.c rfl) .nil) rfl .nil rfl rfl rfl)

def m_spec_NetOk_k1  : Option Bool := some true
def m_spec_NetOk_l0 (n : GNet) (kx0_0 : Option Bool) : Nat → Int → Option Bool
  | 0, _ => none
  | n0 + 1, s0_0 => if decide (s0_0 < (n.tasks.length : Int)) = true then ((getI n.tasks s0_0).bind fun x6 => ((m_spec_l2Task x6 n.places (n.tasks.length : Int)).bind fun x7 => (if x7 = true then (gd (ok64 (s0_0 + 1)) ((m_spec_NetOk_l0 n kx0_0 n0) (s0_0 + 1))) else (some false)))) else (kx0_0)
def m_spec_NetOk (n : GNet) : Option Bool := (m_spec_l1In n.places 2 8).bind fun x1 => (if x1 = true then ((m_spec_l1In (n.tasks.length : Int) 1 6).bind fun x3 => (if x3 = true then (m_spec_NetOk_l0 n m_spec_NetOk_k1 FUEL 0) else (some false))) else (some false))

theorem c_spec_NetOk (n : GNet) (rz : Bool) (hm : m_spec_NetOk n = some rz) : FnB Try.prog 138 [.row (GNet.cells false n)] [.c (cB rz)] [] := by
 unfold m_spec_NetOk at hm
 refine fn_intro2 (n := 34) (rvs := [.tmp 2]) Try.func138 rfl rfl rfl (lb rfl) rfl rfl rfl rfl rfl ?_
 refine acode_seq ?_
 refine acode_le (le_stU (env := [(0, .row [cI n.places, .sl false 9 (n.tasks.map (GTask.cells false))])]) (obj := []) idn (.cons rfl rfl .nil) .nil rfl) ?_
 refine acode_region ?_
 refine st1 rfl (op_box rfl (lb rfl)) (so rfl (sf rfl (sats_lives rfl))) ?_
 refine as_ (lb rfl) rfl ?_
 refine nk ?_
 refine acode_seq ?_
 refine sr ?_
 refine fdb (off := 0) Try.underlying65 Try.sizeOf3 rfl rfl rfl (lb rfl) rfl rfl ?_
 refine ldb Try.isAgg3 rfl (lb rfl) rfl rfl ?_
 obtain ⟨x1, hx1, hm⟩ := bnd hm
 refine st1 rfl (op_call2 (ks := []) Try.func93 rfl rfl (c_spec_l1In n.places 2 8 x1 hx1) (.cons (.c rfl) (.cons (.c rfl) (.cons (.c rfl) .nil rfl) rfl) rfl) rfl rfl (.inl rfl) .nil rfl rfl (lb rfl)) (sats_opds (.cons rfl (.cons rfl (.cons rfl .nil))) (sats_app (sats_freshL rfl) (sats_needsO obs_nil))) ?_
 refine st1 rfl (op_not (lb rfl)) (so rfl sn) ?_
 refine mv (lb rfl) rfl ?_
 refine rg_split (b := x1) (fun c2 => ?_) (fun c2 => ?_)
 ·
  replace hm := ite_t hm c2
  refine st1on rfl rfl rfl (not_t (c2)) (op_field_bx (off := 1) Try.underlying65 Try.sizeOf63 rfl rfl rfl (lb rfl)) (so rfl (sb rfl sn)) ?_
  refine st1on rfl rfl rfl (not_t (c2)) (op_load_bx Try.isAgg63 rfl (lb rfl)) (so rfl (sb rfl sn)) ?_
  refine st1on rfl rfl rfl (not_t (c2)) (op_len_sh (f := (GTask.cells false)) (l := n.tasks) Try.underlying63 (lb rfl)) (so rfl sn) ?_
  obtain ⟨x3, hx3, hm⟩ := bnd hm
  refine st1on rfl rfl rfl (not_t (c2)) (op_call2 (ks := []) Try.func93 rfl rfl (c_spec_l1In (n.tasks.length : Int) 1 6 x3 hx3) (.cons (.c rfl) (.cons (.c rfl) (.cons (.c rfl) .nil rfl) rfl) rfl) rfl rfl (.inl rfl) .nil rfl rfl (lb rfl)) (sats_opds (.cons rfl (.cons rfl (.cons rfl .nil))) (sats_app (sats_freshL rfl) (sats_needsO obs_nil))) ?_
  refine st1on rfl rfl rfl (not_t (c2)) (op_not (lb rfl)) (so rfl sn) ?_
  refine st1 rfl (op_pick_false (lb rfl) (not_t (c2))) (so rfl (so rfl sn)) ?_
  refine nk ?_
  refine acode_split (b := x3) (fun c4 => ?_) (fun c4 => ?_)
  ·
   replace hm := ite_t hm c4
   refine acode_cond_false rfl (not_t (c4)) ?_
   refine pk ?_
   refine acode_seq ?_
   refine sr ?_
   refine as_ (lb rfl) rfl ?_
   refine nk ?_
   refine acode_block ?_
   refine acode_loopk (xs := [1]) (ys := [1]) (S := Nat × Int) (fun z => [(3, aInt z.2)]) (fun z => []) (fun z => m_spec_NetOk_l0 n m_spec_NetOk_k1 z.1 z.2 = some rz) (fun z => z.1) (FUEL, 0) (.cons rfl .nil) (.cons rfl .nil) ?em ?eo rfl ?ei ?round
   case em => exact (.cons rfl rfl .nil)
   case eo => exact .nil
   case ei => exact hm
   case round =>
    rintro ⟨n0, s0_0⟩ hm
    dsimp only at hm ⊢
    cases n0 with
    | zero => rw [m_spec_NetOk_l0] at hm; cases hm
    | succ n0 =>
     rw [m_spec_NetOk_l0] at hm
     refine acode_seq ?_
     refine sr ?_
     refine mv (lb rfl) rfl ?_
     refine fdb (off := 1) Try.underlying65 Try.sizeOf63 rfl rfl rfl (lb rfl) rfl rfl ?_
     refine ldb Try.isAgg63 rfl (lb rfl) rfl rfl ?_
     refine st1 rfl (op_len_sh (f := (GTask.cells false)) (l := n.tasks) Try.underlying63 (lb rfl)) (so rfl sn) ?_
     refine st1 rfl (op_lss (lb rfl)) (so rfl (so rfl sn)) ?_
     refine nk ?_
     refine acode_split (b := decide (s0_0 < (n.tasks.length : Int))) (fun c5 => ?_) (fun c5 => ?_)
     ·
      replace hm := ite_t hm c5
      refine acode_cond_true rfl (c5) ?_
      refine pk ?_
      refine acode_seq ?_
      refine acode_block ?_
      refine acode_seq ?_
      refine acode_region_draw mixed rfl ?_
      refine fdb (off := 1) Try.underlying65 Try.sizeOf63 rfl rfl rfl (lb rfl) rfl rfl ?_
      refine ldb Try.isAgg63 rfl (lb rfl) rfl rfl ?_
      refine mv (lb rfl) rfl ?_
      obtain ⟨x6, hx6, hm⟩ := bnd hm
      refine st1 rfl (op_index_shG (f := (GTask.cells false)) (l := n.tasks) Try.underlying63 Try.sizeOf119 (lb rfl) hx6) (so rfl (so rfl sn)) ?_
      refine st1 rfl (op_load_pts_row Try.isAgg119 Try.sizeOf119 rfl rfl (lb rfl)) (so rfl sn) ?_
      refine fdb (off := 0) Try.underlying65 Try.sizeOf3 rfl rfl rfl (lb rfl) rfl rfl ?_
      refine ldb Try.isAgg3 rfl (lb rfl) rfl rfl ?_
      refine fdb (off := 1) Try.underlying65 Try.sizeOf63 rfl rfl rfl (lb rfl) rfl rfl ?_
      refine ldb Try.isAgg63 rfl (lb rfl) rfl rfl ?_
      refine st1 rfl (op_len_sh (f := (GTask.cells false)) (l := n.tasks) Try.underlying63 (lb rfl)) (so rfl sn) ?_
      obtain ⟨x7, hx7, hm⟩ := bnd hm
      refine st1 rfl (op_call2 (ks := []) Try.func145 rfl rfl (c_spec_l2Task x6 n.places (n.tasks.length : Int) x7 hx7) (.cons (.row rfl) (.cons (.c rfl) (.cons (.c rfl) .nil rfl) rfl) rfl) rfl rfl (.inl rfl) .nil rfl rfl (lb rfl)) (sats_opds (.cons rfl (.cons rfl (.cons rfl .nil))) (sats_app (sats_freshL rfl) (sats_needsO obs_nil))) ?_
      refine st1 rfl (op_not (lb rfl)) (so rfl sn) ?_
      refine rg_nil_draw (by kernel_rfl) ?_
      refine kseq_normal ?_
      refine acode_split (b := x7) (fun c8 => ?_) (fun c8 => ?_)
      ·
       replace hm := ite_t hm c8
       refine acode_cond_false rfl (not_t (c8)) ?_
       refine acode_skip ?_
       refine kblk_normal (kseq_normal ?_)
       refine acode_le (le_stU (env := [(1, .bx 1 0), (3, aInt s0_0)]) (obj := [(1, .box [aInt n.places, .c (.sl false 9 (n.tasks.map (GTask.cells false)))])]) idn (.cons rfl rfl (.cons rfl rfl .nil)) (.cons rfl rfl (.inl rfl) .nil) rfl) ?_
       refine acode_region ?_
       refine mv (lb rfl) rfl ?_
       obtain ⟨g9, hm⟩ := gd_some hm
       refine st1 rfl (op_add (lb rfl) g9) (so rfl (so rfl sn)) ?_
       refine as_ (lb rfl) rfl ?_
       refine rg_nil_seq ?_
       refine klg_back (n0, (s0_0 + 1)) hm (Nat.lt_succ_self _) ?_
       exact le_stU idn (.cons rfl rfl (.cons rfl rfl .nil)) (.cons rfl rfl (.inl rfl) .nil) rfl
      ·
       replace hm := ite_f hm c8
       refine acode_cond_true rfl (not_f (c8)) ?_
       refine sr ?_
       refine as_ (lb rfl) rfl ?_
       refine nkt ?_
       obtain rfl := Option.some.inj hm
       exact kblk_ret (kseq_ret (klg_ret (kblk_ret (kseq_ret (fin2_retL (.cons (.c rfl) .nil) rfl .nil rfl rfl rfl)))))
     ·
      replace hm := ite_f hm c5
      refine acode_cond_false rfl (c5) ?_
      refine acode_exit ?_
      unfold m_spec_NetOk_k1 at hm
      refine kseq_exit (klg_exit (kblk_hit (kseq_normal ?_)))
      refine sr ?_
      refine as_ (lb rfl) rfl ?_
      refine nkt ?_
      obtain rfl := Option.some.inj hm
      exact fin2_retL (.cons (.c rfl) .nil) rfl .nil rfl rfl rfl
  ·
   replace hm := ite_f hm c4
   refine acode_cond_true rfl (not_f (c4)) ?_
   refine sr ?_
   refine as_ (lb rfl) rfl ?_
   refine nkt ?_
   obtain rfl := Option.some.inj hm
   exact kseq_ret (fin2_retL (.cons (.c rfl) .nil) rfl .nil rfl rfl rfl)
 ·
  replace hm := ite_f hm c2
  refine st1off rfl rfl (lb rfl) rfl rfl (not_f (c2)) ?_
  refine st1off rfl rfl (lb rfl) rfl rfl (not_f (c2)) ?_
  refine st1off rfl rfl (lb rfl) rfl rfl (not_f (c2)) ?_
  refine st1off rfl rfl (lb rfl) rfl rfl (not_f (c2)) ?_
  refine st1off rfl rfl (lb rfl) rfl rfl (not_f (c2)) ?_
  refine st1 rfl (op_pick_true (lb rfl) (not_f (c2))) (so rfl (so rfl sn)) ?_
  refine nk ?_
  refine acode_cond_true rfl (rfl) ?_
  refine sr ?_
  refine as_ (lb rfl) rfl ?_
  refine nkt ?_
  obtain rfl := Option.some.inj hm
  exact kseq_ret (fin2_retL (.cons (.c rfl) .nil) rfl .nil rfl rfl rfl)

def m_impl_isKind (kind : Int) : Option Bool := (m_impl_in kind 1 3).bind fun x1 => (some x1)

theorem c_impl_isKind (kind : Int) (rz : Bool) (hm : m_impl_isKind kind = some rz) : FnB Try.prog 156 [.c (cI kind)] [.c (cB rz)] [] := by
 unfold m_impl_isKind at hm
 refine fn_intro2 (n := 5) (rvs := [.tmp 2]) Try.func156 rfl rfl rfl (lb rfl) rfl rfl rfl rfl rfl ?_
 refine acode_seq ?_
 refine acode_le (le_stU (env := [(0, aInt kind)]) (obj := []) idn (.cons rfl rfl .nil) .nil rfl) ?_
 refine acode_region ?_
 refine as_ (lb rfl) rfl ?_
 refine nk ?_
 refine sr ?_
 refine mv (lb rfl) rfl ?_
 obtain ⟨x1, hx1, hm⟩ := bnd hm
 refine st1 rfl (op_call2 (ks := []) Try.func52 rfl rfl (c_impl_in kind 1 3 x1 hx1) (.cons (.c rfl) (.cons (.c rfl) (.cons (.c rfl) .nil rfl) rfl) rfl) rfl rfl (.inl rfl) .nil rfl rfl (lb rfl)) (sats_opds (.cons rfl (.cons rfl (.cons rfl .nil))) (sats_app (sats_freshL rfl) (sats_needsO obs_nil))) ?_
 refine as_ (lb rfl) rfl ?_
 refine nkt ?_
 obtain rfl := Option.some.inj hm
 exact fin2_retL (.cons (.c rfl) .nil) rfl .nil rfl rfl rfl

def m_impl_isRole (role : Int) : Option Bool := (m_impl_in role 1 3).bind fun x1 => (some x1)

theorem c_impl_isRole (role : Int) (rz : Bool) (hm : m_impl_isRole role = some rz) : FnB Try.prog 159 [.c (cI role)] [.c (cB rz)] [] := by
 unfold m_impl_isRole at hm
 refine fn_intro2 (n := 5) (rvs := [.tmp 2]) Try.func159 rfl rfl rfl (lb rfl) rfl rfl rfl rfl rfl ?_
 refine acode_seq ?_
 refine acode_le (le_stU (env := [(0, aInt role)]) (obj := []) idn (.cons rfl rfl .nil) .nil rfl) ?_
 refine acode_region ?_
 refine as_ (lb rfl) rfl ?_
 refine nk ?_
 refine sr ?_
 refine mv (lb rfl) rfl ?_
 obtain ⟨x1, hx1, hm⟩ := bnd hm
 refine st1 rfl (op_call2 (ks := []) Try.func52 rfl rfl (c_impl_in role 1 3 x1 hx1) (.cons (.c rfl) (.cons (.c rfl) (.cons (.c rfl) .nil rfl) rfl) rfl) rfl rfl (.inl rfl) .nil rfl rfl (lb rfl)) (sats_opds (.cons rfl (.cons rfl (.cons rfl .nil))) (sats_app (sats_freshL rfl) (sats_needsO obs_nil))) ?_
 refine as_ (lb rfl) rfl ?_
 refine nkt ?_
 obtain rfl := Option.some.inj hm
 exact fin2_retL (.cons (.c rfl) .nil) rfl .nil rfl rfl rfl

def m_impl_sizesOk (places : Int) (tasks : Int) : Option Bool := (m_impl_in places 2 8).bind fun x1 => (if x1 = true then ((m_impl_in tasks 1 6).bind fun x3 => (some x3)) else (some false))

theorem c_impl_sizesOk (places : Int) (tasks : Int) (rz : Bool) (hm : m_impl_sizesOk places tasks = some rz) : FnB Try.prog 147 [.c (cI places), .c (cI tasks)] [.c (cB rz)] [] := by
 unfold m_impl_sizesOk at hm
 refine fn_intro2 (n := 11) (rvs := [.tmp 4]) Try.func147 rfl rfl rfl (lb rfl) rfl rfl rfl rfl rfl ?_
 refine acode_seq ?_
 refine acode_le (le_stU (env := [(0, aInt places), (1, aInt tasks)]) (obj := []) idn (.cons rfl rfl (.cons rfl rfl .nil)) .nil rfl) ?_
 refine acode_region ?_
 refine as_ (lb rfl) rfl ?_
 refine nk ?_
 refine sr ?_
 refine mv (lb rfl) rfl ?_
 obtain ⟨x1, hx1, hm⟩ := bnd hm
 refine st1 rfl (op_call2 (ks := []) Try.func52 rfl rfl (c_impl_in places 2 8 x1 hx1) (.cons (.c rfl) (.cons (.c rfl) (.cons (.c rfl) .nil rfl) rfl) rfl) rfl rfl (.inl rfl) .nil rfl rfl (lb rfl)) (sats_opds (.cons rfl (.cons rfl (.cons rfl .nil))) (sats_app (sats_freshL rfl) (sats_needsO obs_nil))) ?_
 refine mv (lb rfl) rfl ?_
 refine rg_split (b := x1) (fun c2 => ?_) (fun c2 => ?_)
 ·
  replace hm := ite_t hm c2
  refine st1on rfl rfl rfl (c2) (op_move (lb rfl)) (so rfl sn) ?_
  obtain ⟨x3, hx3, hm⟩ := bnd hm
  refine st1on rfl rfl rfl (c2) (op_call2 (ks := []) Try.func52 rfl rfl (c_impl_in tasks 1 6 x3 hx3) (.cons (.c rfl) (.cons (.c rfl) (.cons (.c rfl) .nil rfl) rfl) rfl) rfl rfl (.inl rfl) .nil rfl rfl (lb rfl)) (sats_opds (.cons rfl (.cons rfl (.cons rfl .nil))) (sats_app (sats_freshL rfl) (sats_needsO obs_nil))) ?_
  refine st1 rfl (op_pick_true (lb rfl) (c2)) (so rfl (so rfl sn)) ?_
  refine as_ (lb rfl) rfl ?_
  refine nkt ?_
  obtain rfl := Option.some.inj hm
  exact fin2_retL (.cons (.c rfl) .nil) rfl .nil rfl rfl rfl
 ·
  replace hm := ite_f hm c2
  refine st1off rfl rfl (lb rfl) rfl rfl (c2) ?_
  refine st1off rfl rfl (lb rfl) rfl rfl (c2) ?_
  refine st1 rfl (op_pick_false (lb rfl) (c2)) (so rfl (so rfl sn)) ?_
  refine as_ (lb rfl) rfl ?_
  refine nkt ?_
  obtain rfl := Option.some.inj hm
  exact fin2_retL (.cons (.c rfl) .nil) rfl .nil rfl rfl rfl

def m_impl_NetNet_hasTask (n : GNet) (t : Int) : Option Bool := gd (ok64 ((n.tasks.length : Int) - 1)) ((m_impl_in t 0 ((n.tasks.length : Int) - 1)).bind fun x2 => (some x2))

theorem c_impl_NetNet_hasTask (n : GNet) (t : Int) (rz : Bool) (hm : m_impl_NetNet_hasTask n t = some rz) : FnB Try.prog 125 [.row (GNet.cells false n), .c (cI t)] [.c (cB rz)] [] := by
 unfold m_impl_NetNet_hasTask at hm
 refine fn_intro2 (n := 11) (rvs := [.tmp 4]) Try.func125 rfl rfl rfl (lb rfl) rfl rfl rfl rfl rfl ?_
 refine acode_seq ?_
 refine acode_le (le_stU (env := [(0, .row [cI n.places, .sl false 9 (n.tasks.map (GTask.cells false))]), (1, aInt t)]) (obj := []) idn (.cons rfl rfl (.cons rfl rfl .nil)) .nil rfl) ?_
 refine acode_region ?_
 refine st1 rfl (op_box rfl (lb rfl)) (so rfl (sf rfl (sats_lives rfl))) ?_
 refine as_ (lb rfl) rfl ?_
 refine nk ?_
 refine sr ?_
 refine mv (lb rfl) rfl ?_
 refine fdb (off := 1) Try.underlying65 Try.sizeOf63 rfl rfl rfl (lb rfl) rfl rfl ?_
 refine ldb Try.isAgg63 rfl (lb rfl) rfl rfl ?_
 refine st1 rfl (op_len_sh (f := (GTask.cells false)) (l := n.tasks) Try.underlying63 (lb rfl)) (so rfl sn) ?_
 obtain ⟨g1, hm⟩ := gd_some hm
 refine st1 rfl (op_sub (lb rfl) g1) (so rfl (so rfl sn)) ?_
 obtain ⟨x2, hx2, hm⟩ := bnd hm
 refine st1 rfl (op_call2 (ks := []) Try.func52 rfl rfl (c_impl_in t 0 ((n.tasks.length : Int) - 1) x2 hx2) (.cons (.c rfl) (.cons (.c rfl) (.cons (.c rfl) .nil rfl) rfl) rfl) rfl rfl (.inl rfl) .nil rfl rfl (lb rfl)) (sats_opds (.cons rfl (.cons rfl (.cons rfl .nil))) (sats_app (sats_freshL rfl) (sats_needsO obs_nil))) ?_
 refine as_ (lb rfl) rfl ?_
 refine nkt ?_
 obtain rfl := Option.some.inj hm
 exact fin2_retL (.cons (.c rfl) .nil) rfl .nil rfl rfl rfl

def m_spec_MrkOk_k1  : Option Bool := some true
def m_spec_MrkOk_l0 (marks : List Int) (kx0_0 : Option Bool) : Nat → Int → Option Bool
  | 0, _ => none
  | n0 + 1, s0_0 => if decide (s0_0 < (marks.length : Int)) = true then ((getI marks s0_0).bind fun x5 => ((m_spec_l1In x5 0 4).bind fun x6 => (if x6 = true then (gd (ok64 (s0_0 + 1)) ((m_spec_MrkOk_l0 marks kx0_0 n0) (s0_0 + 1))) else (some false)))) else (kx0_0)
def m_spec_MrkOk (n : GNet) (marks : List Int) : Option Bool := (m_spec_NetOk n).bind fun x1 => (if x1 = true then (if decide ((marks.length : Int) = n.places) = true then (m_spec_MrkOk_l0 marks m_spec_MrkOk_k1 FUEL 0) else (some false)) else (some false))

theorem c_spec_MrkOk (n : GNet) (marks : List Int) (rz : Bool) (hm : m_spec_MrkOk n marks = some rz) : FnB Try.prog 118 [.row (GNet.cells false n), .c (.sl false 1 (marks.map (fun n : Int => [cI n])))] [.c (cB rz)] [] := by
 unfold m_spec_MrkOk at hm
 refine fn_intro2 (n := 28) (rvs := [.tmp 4]) Try.func118 rfl rfl rfl (lb rfl) rfl rfl rfl rfl rfl ?_
 refine acode_seq ?_
 refine acode_le (le_stU (env := [(0, .row [cI n.places, .sl false 9 (n.tasks.map (GTask.cells false))]), (1, .c (.sl false 1 (marks.map (fun n : Int => [cI n]))))]) (obj := []) idn (.cons rfl rfl (.cons rfl rfl .nil)) .nil rfl) ?_
 refine acode_region ?_
 refine st1 rfl (op_box rfl (lb rfl)) (so rfl (sf rfl (sats_lives rfl))) ?_
 refine as_ (lb rfl) rfl ?_
 refine nk ?_
 refine acode_seq ?_
 refine sr ?_
 refine st1 rfl (op_load_bx_agg Try.isAgg65 Try.sizeOf65 rfl rfl (lb rfl)) (so rfl (sb rfl sn)) ?_
 obtain ⟨x1, hx1, hm⟩ := bnd hm
 refine st1 rfl (op_call2 (ks := []) Try.func138 rfl rfl (c_spec_NetOk n x1 hx1) (.cons ((.aggCons (.c rfl) (.aggCons (.c rfl) .aggNil rfl) rfl)) .nil rfl) rfl rfl (.inl rfl) .nil rfl rfl (lb rfl)) (sats_opds (.cons rfl .nil) (sats_app (sats_freshL rfl) (sats_needsO obs_nil))) ?_
 refine st1 rfl (op_not (lb rfl)) (so rfl sn) ?_
 refine mv (lb rfl) rfl ?_
 refine rg_split (b := x1) (fun c2 => ?_) (fun c2 => ?_)
 ·
  replace hm := ite_t hm c2
  refine st1on rfl rfl rfl (not_t (c2)) (op_move (lb rfl)) (so rfl sn) ?_
  refine st1on rfl rfl rfl (not_t (c2)) (op_len_sh (f := (fun n : Int => [cI n])) (l := marks) Try.underlying34 (lb rfl)) (so rfl sn) ?_
  refine st1on rfl rfl rfl (not_t (c2)) (op_field_bx (off := 0) Try.underlying65 Try.sizeOf3 rfl rfl rfl (lb rfl)) (so rfl (sb rfl sn)) ?_
  refine st1on rfl rfl rfl (not_t (c2)) (op_load_bx Try.isAgg3 rfl (lb rfl)) (so rfl (sb rfl sn)) ?_
  refine st1on rfl rfl rfl (not_t (c2)) (op_neq (lb rfl)) (so rfl (so rfl sn)) ?_
  refine st1 rfl (op_pick_false (lb rfl) (not_t (c2))) (so rfl (so rfl sn)) ?_
  refine nk ?_
  refine acode_split (b := decide ((marks.length : Int) = n.places)) (fun c3 => ?_) (fun c3 => ?_)
  ·
   replace hm := ite_t hm c3
   refine acode_cond_false rfl (not_t (c3)) ?_
   refine pk ?_
   refine acode_seq ?_
   refine sr ?_
   refine as_ (lb rfl) rfl ?_
   refine nk ?_
   refine acode_block ?_
   refine acode_loopk (xs := [1]) (ys := []) (S := Nat × Int) (fun z => [(5, aInt z.2)]) (fun z => []) (fun z => m_spec_MrkOk_l0 marks m_spec_MrkOk_k1 z.1 z.2 = some rz) (fun z => z.1) (FUEL, 0) (.cons rfl .nil) .nil ?em ?eo rfl ?ei ?round
   case em => exact (.cons rfl rfl .nil)
   case eo => exact .nil
   case ei => exact hm
   case round =>
    rintro ⟨n0, s0_0⟩ hm
    dsimp only at hm ⊢
    cases n0 with
    | zero => rw [m_spec_MrkOk_l0] at hm; cases hm
    | succ n0 =>
     rw [m_spec_MrkOk_l0] at hm
     refine acode_seq ?_
     refine sr ?_
     refine mv (lb rfl) rfl ?_
     refine mv (lb rfl) rfl ?_
     refine st1 rfl (op_len_sh (f := (fun n : Int => [cI n])) (l := marks) Try.underlying34 (lb rfl)) (so rfl sn) ?_
     refine st1 rfl (op_lss (lb rfl)) (so rfl (so rfl sn)) ?_
     refine nk ?_
     refine acode_split (b := decide (s0_0 < (marks.length : Int))) (fun c4 => ?_) (fun c4 => ?_)
     ·
      replace hm := ite_t hm c4
      refine acode_cond_true rfl (c4) ?_
      refine pk ?_
      refine acode_seq ?_
      refine acode_block ?_
      refine sr ?_
      refine mv (lb rfl) rfl ?_
      refine mv (lb rfl) rfl ?_
      obtain ⟨x5, hx5, hm⟩ := bnd hm
      refine st1 rfl (op_index_shG (f := (fun n : Int => [cI n])) (l := marks) Try.underlying34 Try.sizeOf3 (lb rfl) hx5) (so rfl (so rfl sn)) ?_
      refine st1 rfl (op_load_pts Try.isAgg3 rfl (lb rfl)) (so rfl sn) ?_
      obtain ⟨x6, hx6, hm⟩ := bnd hm
      refine st1 rfl (op_call2 (ks := []) Try.func93 rfl rfl (c_spec_l1In x5 0 4 x6 hx6) (.cons (.c rfl) (.cons (.c rfl) (.cons (.c rfl) .nil rfl) rfl) rfl) rfl rfl (.inl rfl) .nil rfl rfl (lb rfl)) (sats_opds (.cons rfl (.cons rfl (.cons rfl .nil))) (sats_app (sats_freshL rfl) (sats_needsO obs_nil))) ?_
      refine st1 rfl (op_not (lb rfl)) (so rfl sn) ?_
      refine nk ?_
      refine acode_split (b := x6) (fun c7 => ?_) (fun c7 => ?_)
      ·
       replace hm := ite_t hm c7
       refine acode_cond_false rfl (not_t (c7)) ?_
       refine acode_skip ?_
       refine kblk_normal (kseq_normal ?_)
       refine acode_region ?_
       refine mv (lb rfl) rfl ?_
       obtain ⟨g8, hm⟩ := gd_some hm
       refine st1 rfl (op_add (lb rfl) g8) (so rfl (so rfl sn)) ?_
       refine as_ (lb rfl) rfl ?_
       refine rg_nil_seq ?_
       refine klg_back (n0, (s0_0 + 1)) hm (Nat.lt_succ_self _) ?_
       exact le_stU idn (.cons rfl rfl (.cons rfl rfl .nil)) .nil rfl
      ·
       replace hm := ite_f hm c7
       refine acode_cond_true rfl (not_f (c7)) ?_
       refine sr ?_
       refine as_ (lb rfl) rfl ?_
       refine nkt ?_
       obtain rfl := Option.some.inj hm
       exact kblk_ret (kseq_ret (klg_ret (kblk_ret (kseq_ret (fin2_retL (.cons (.c rfl) .nil) rfl .nil rfl rfl rfl)))))
     ·
      replace hm := ite_f hm c4
      refine acode_cond_false rfl (c4) ?_
      refine acode_exit ?_
      unfold m_spec_MrkOk_k1 at hm
      refine kseq_exit (klg_exit (kblk_hit (kseq_normal ?_)))
      refine sr ?_
      refine as_ (lb rfl) rfl ?_
      refine nkt ?_
      obtain rfl := Option.some.inj hm
      exact fin2_retL (.cons (.c rfl) .nil) rfl .nil rfl rfl rfl
  ·
   replace hm := ite_f hm c3
   refine acode_cond_true rfl (not_f (c3)) ?_
   refine acode_seq ?_
   refine acode_le (le_stU (env := []) (obj := []) idn .nil .nil rfl) ?_
   refine acode_region ?_
   refine as_ (lb rfl) rfl ?_
   refine nkt ?_
   obtain rfl := Option.some.inj hm
   exact kseq_ret (fin2_retL (.cons (.c rfl) .nil) rfl .nil rfl rfl rfl)
 ·
  replace hm := ite_f hm c2
  refine st1off rfl rfl (lb rfl) rfl rfl (not_f (c2)) ?_
  refine st1off rfl rfl (lb rfl) rfl rfl (not_f (c2)) ?_
  refine st1off rfl rfl (lb rfl) rfl rfl (not_f (c2)) ?_
  refine st1off rfl rfl (lb rfl) rfl rfl (not_f (c2)) ?_
  refine st1off rfl rfl (lb rfl) rfl rfl (not_f (c2)) ?_
  refine st1 rfl (op_pick_true (lb rfl) (not_f (c2))) (so rfl (so rfl sn)) ?_
  refine nk ?_
  refine acode_cond_true rfl (rfl) ?_
  refine sr ?_
  refine as_ (lb rfl) rfl ?_
  refine nkt ?_
  obtain rfl := Option.some.inj hm
  exact kseq_ret (fin2_retL (.cons (.c rfl) .nil) rfl .nil rfl rfl rfl)

def m_spec_l3Busy_k1  : Option Bool := some true
def m_spec_l3Busy_l0 (n : GNet) (busy : List GItem) (kx0_0 : Option Bool) : Nat → Int → Option Bool
  | 0, _ => none
  | n0 + 1, s0_0 => if decide (s0_0 < (busy.length : Int)) = true then ((getI busy s0_0).bind fun x3 => (gd (ok64 ((n.tasks.length : Int) - 1)) ((m_spec_l1In x3.task 0 ((n.tasks.length : Int) - 1)).bind fun x5 => (if x5 = true then ((getI busy s0_0).bind fun x7 => ((m_spec_l1In x7.who 1 4).bind fun x8 => (if x8 = true then ((getI busy s0_0).bind fun x10 => ((getI busy s0_0).bind fun x11 => ((getI n.tasks x11.task).bind fun x12 => (gd (ok64 (x12.need - 1)) ((m_spec_l1In x10.did 0 (x12.need - 1)).bind fun x14 => (if x14 = true then (gd (ok64 (s0_0 + 1)) ((m_spec_l3Busy_l0 n busy kx0_0 n0) (s0_0 + 1))) else (some false))))))) else (some false)))) else (some false))))) else (kx0_0)
def m_spec_l3Busy (n : GNet) (busy : List GItem) : Option Bool := if decide (6 < (busy.length : Int)) = true then (some false) else (m_spec_l3Busy_l0 n busy m_spec_l3Busy_k1 FUEL 0)

theorem c_spec_l3Busy (n : GNet) (busy : List GItem) (rz : Bool) (hm : m_spec_l3Busy n busy = some rz) : FnB Try.prog 119 [.row (GNet.cells false n), .c (.sl false 3 (busy.map (GItem.cells false)))] [.c (cB rz)] [] := by
 unfold m_spec_l3Busy at hm
 refine fn_intro2 (n := 55) (rvs := [.tmp 4]) Try.func119 rfl rfl rfl (lb rfl) rfl rfl rfl rfl rfl ?_
 refine acode_seq ?_
 refine acode_le (le_stU (env := [(0, .row [cI n.places, .sl false 9 (n.tasks.map (GTask.cells false))]), (1, .c (.sl false 3 (busy.map (GItem.cells false))))]) (obj := []) idn (.cons rfl rfl (.cons rfl rfl .nil)) .nil rfl) ?_
 refine acode_region ?_
 refine st1 rfl (op_box rfl (lb rfl)) (so rfl (sf rfl (sats_lives rfl))) ?_
 refine as_ (lb rfl) rfl ?_
 refine nk ?_
 refine acode_seq ?_
 refine sr ?_
 refine mv (lb rfl) rfl ?_
 refine st1 rfl (op_len_sh (f := (GItem.cells false)) (l := busy) Try.underlying67 (lb rfl)) (so rfl sn) ?_
 refine st1 rfl (op_gtr (lb rfl)) (so rfl (so rfl sn)) ?_
 refine nk ?_
 refine acode_split (b := decide (6 < (busy.length : Int))) (fun c1 => ?_) (fun c1 => ?_)
 ·
  replace hm := ite_t hm c1
  refine acode_cond_true rfl (c1) ?_
  refine sr ?_
  refine as_ (lb rfl) rfl ?_
  refine nkt ?_
  obtain rfl := Option.some.inj hm
  exact kseq_ret (fin2_retL (.cons (.c rfl) .nil) rfl .nil rfl rfl rfl)
 ·
  replace hm := ite_f hm c1
  refine acode_cond_false rfl (c1) ?_
  refine pk ?_
  refine acode_seq ?_
  refine sr ?_
  refine as_ (lb rfl) rfl ?_
  refine nk ?_
  refine acode_block ?_
  refine acode_loopk (xs := [1, 2]) (ys := [2]) (S := Nat × Int) (fun z => [(5, aInt z.2)]) (fun z => []) (fun z => m_spec_l3Busy_l0 n busy m_spec_l3Busy_k1 z.1 z.2 = some rz) (fun z => z.1) (FUEL, 0) (.cons rfl (.cons rfl .nil)) (.cons rfl .nil) ?em ?eo rfl ?ei ?round
  case em => exact (.cons rfl rfl .nil)
  case eo => exact .nil
  case ei => exact hm
  case round =>
   rintro ⟨n0, s0_0⟩ hm
   dsimp only at hm ⊢
   cases n0 with
   | zero => rw [m_spec_l3Busy_l0] at hm; cases hm
   | succ n0 =>
    rw [m_spec_l3Busy_l0] at hm
    refine acode_seq ?_
    refine sr ?_
    refine mv (lb rfl) rfl ?_
    refine mv (lb rfl) rfl ?_
    refine st1 rfl (op_len_sh (f := (GItem.cells false)) (l := busy) Try.underlying67 (lb rfl)) (so rfl sn) ?_
    refine st1 rfl (op_lss (lb rfl)) (so rfl (so rfl sn)) ?_
    refine nk ?_
    refine acode_split (b := decide (s0_0 < (busy.length : Int))) (fun c2 => ?_) (fun c2 => ?_)
    ·
     replace hm := ite_t hm c2
     refine acode_cond_true rfl (c2) ?_
     refine pk ?_
     refine acode_seq ?_
     refine acode_block ?_
     refine acode_seq ?_
     refine acode_region_draw mixed rfl ?_
     refine mv (lb rfl) rfl ?_
     refine mv (lb rfl) rfl ?_
     obtain ⟨x3, hx3, hm⟩ := bnd hm
     refine st1 rfl (op_index_shG (f := (GItem.cells false)) (l := busy) Try.underlying67 Try.sizeOf121 (lb rfl) hx3) (so rfl (so rfl sn)) ?_
     refine st1 rfl (op_field_pts (off := 0) Try.underlying121 Try.sizeOf3 rfl rfl rfl rfl (lb rfl)) (so rfl sn) ?_
     refine st1 rfl (op_load_pts Try.isAgg3 rfl (lb rfl)) (so rfl sn) ?_
     refine fdb (off := 1) Try.underlying65 Try.sizeOf63 rfl rfl rfl (lb rfl) rfl rfl ?_
     refine ldb Try.isAgg63 rfl (lb rfl) rfl rfl ?_
     refine st1 rfl (op_len_sh (f := (GTask.cells false)) (l := n.tasks) Try.underlying63 (lb rfl)) (so rfl sn) ?_
     obtain ⟨g4, hm⟩ := gd_some hm
     refine st1 rfl (op_sub (lb rfl) g4) (so rfl (so rfl sn)) ?_
     obtain ⟨x5, hx5, hm⟩ := bnd hm
     refine st1 rfl (op_call2 (ks := []) Try.func93 rfl rfl (c_spec_l1In x3.task 0 ((n.tasks.length : Int) - 1) x5 hx5) (.cons (.c rfl) (.cons (.c rfl) (.cons (.c rfl) .nil rfl) rfl) rfl) rfl rfl (.inl rfl) .nil rfl rfl (lb rfl)) (sats_opds (.cons rfl (.cons rfl (.cons rfl .nil))) (sats_app (sats_freshL rfl) (sats_needsO obs_nil))) ?_
     refine st1 rfl (op_not (lb rfl)) (so rfl sn) ?_
     refine mv (lb rfl) rfl ?_
     refine rg_split (b := x5) (fun c6 => ?_) (fun c6 => ?_)
     ·
      replace hm := ite_t hm c6
      refine st1on rfl rfl rfl (not_t (c6)) (op_move (lb rfl)) (so rfl sn) ?_
      refine st1on rfl rfl rfl (not_t (c6)) (op_move (lb rfl)) (so rfl sn) ?_
      obtain ⟨x7, hx7, hm⟩ := bnd hm
      refine st1on rfl rfl rfl (not_t (c6)) (op_index_shG (f := (GItem.cells false)) (l := busy) Try.underlying67 Try.sizeOf121 (lb rfl) hx7) (so rfl (so rfl sn)) ?_
      refine st1on rfl rfl rfl (not_t (c6)) (op_field_pts (off := 1) Try.underlying121 Try.sizeOf3 rfl rfl rfl rfl (lb rfl)) (so rfl sn) ?_
      refine st1on rfl rfl rfl (not_t (c6)) (op_load_pts Try.isAgg3 rfl (lb rfl)) (so rfl sn) ?_
      obtain ⟨x8, hx8, hm⟩ := bnd hm
      refine st1on rfl rfl rfl (not_t (c6)) (op_call2 (ks := []) Try.func93 rfl rfl (c_spec_l1In x7.who 1 4 x8 hx8) (.cons (.c rfl) (.cons (.c rfl) (.cons (.c rfl) .nil rfl) rfl) rfl) rfl rfl (.inl rfl) .nil rfl rfl (lb rfl)) (sats_opds (.cons rfl (.cons rfl (.cons rfl .nil))) (sats_app (sats_freshL rfl) (sats_needsO obs_nil))) ?_
      refine st1on rfl rfl rfl (not_t (c6)) (op_not (lb rfl)) (so rfl sn) ?_
      refine st1 rfl (op_pick_false (lb rfl) (not_t (c6))) (so rfl (so rfl sn)) ?_
      refine mv (lb rfl) rfl ?_
      refine rg_split (b := x8) (fun c9 => ?_) (fun c9 => ?_)
      ·
       replace hm := ite_t hm c9
       refine st1on rfl rfl rfl (not_t (c9)) (op_move (lb rfl)) (so rfl sn) ?_
       refine st1on rfl rfl rfl (not_t (c9)) (op_move (lb rfl)) (so rfl sn) ?_
       obtain ⟨x10, hx10, hm⟩ := bnd hm
       refine st1on rfl rfl rfl (not_t (c9)) (op_index_shG (f := (GItem.cells false)) (l := busy) Try.underlying67 Try.sizeOf121 (lb rfl) hx10) (so rfl (so rfl sn)) ?_
       refine st1on rfl rfl rfl (not_t (c9)) (op_field_pts (off := 2) Try.underlying121 Try.sizeOf3 rfl rfl rfl rfl (lb rfl)) (so rfl sn) ?_
       refine st1on rfl rfl rfl (not_t (c9)) (op_load_pts Try.isAgg3 rfl (lb rfl)) (so rfl sn) ?_
       refine st1on rfl rfl rfl (not_t (c9)) (op_field_bx (off := 1) Try.underlying65 Try.sizeOf63 rfl rfl rfl (lb rfl)) (so rfl (sb rfl sn)) ?_
       refine st1on rfl rfl rfl (not_t (c9)) (op_load_bx Try.isAgg63 rfl (lb rfl)) (so rfl (sb rfl sn)) ?_
       refine st1on rfl rfl rfl (not_t (c9)) (op_move (lb rfl)) (so rfl sn) ?_
       refine st1on rfl rfl rfl (not_t (c9)) (op_move (lb rfl)) (so rfl sn) ?_
       obtain ⟨x11, hx11, hm⟩ := bnd hm
       refine st1on rfl rfl rfl (not_t (c9)) (op_index_shG (f := (GItem.cells false)) (l := busy) Try.underlying67 Try.sizeOf121 (lb rfl) hx11) (so rfl (so rfl sn)) ?_
       refine st1on rfl rfl rfl (not_t (c9)) (op_field_pts (off := 0) Try.underlying121 Try.sizeOf3 rfl rfl rfl rfl (lb rfl)) (so rfl sn) ?_
       refine st1on rfl rfl rfl (not_t (c9)) (op_load_pts Try.isAgg3 rfl (lb rfl)) (so rfl sn) ?_
       obtain ⟨x12, hx12, hm⟩ := bnd hm
       refine st1on rfl rfl rfl (not_t (c9)) (op_index_shG (f := (GTask.cells false)) (l := n.tasks) Try.underlying63 Try.sizeOf119 (lb rfl) hx12) (so rfl (so rfl sn)) ?_
       refine st1on rfl rfl rfl (not_t (c9)) (op_field_pts (off := 8) Try.underlying119 Try.sizeOf3 rfl rfl rfl rfl (lb rfl)) (so rfl sn) ?_
       refine st1on rfl rfl rfl (not_t (c9)) (op_load_pts Try.isAgg3 rfl (lb rfl)) (so rfl sn) ?_
       obtain ⟨g13, hm⟩ := gd_some hm
       refine st1on rfl rfl rfl (not_t (c9)) (op_sub (lb rfl) g13) (so rfl (so rfl sn)) ?_
       obtain ⟨x14, hx14, hm⟩ := bnd hm
       refine st1on rfl rfl rfl (not_t (c9)) (op_call2 (ks := []) Try.func93 rfl rfl (c_spec_l1In x10.did 0 (x12.need - 1) x14 hx14) (.cons (.c rfl) (.cons (.c rfl) (.cons (.c rfl) .nil rfl) rfl) rfl) rfl rfl (.inl rfl) .nil rfl rfl (lb rfl)) (sats_opds (.cons rfl (.cons rfl (.cons rfl .nil))) (sats_app (sats_freshL rfl) (sats_needsO obs_nil))) ?_
       refine st1on rfl rfl rfl (not_t (c9)) (op_not (lb rfl)) (so rfl sn) ?_
       refine st1 rfl (op_pick_false (lb rfl) (not_t (c9))) (so rfl (so rfl sn)) ?_
       refine rg_nil_draw (by kernel_rfl) ?_
       refine kseq_normal ?_
       refine acode_split (b := x14) (fun c15 => ?_) (fun c15 => ?_)
       ·
        replace hm := ite_t hm c15
        refine acode_cond_false rfl (not_t (c15)) ?_
        refine acode_skip ?_
        refine kblk_normal (kseq_normal ?_)
        refine acode_le (le_stU (env := [(1, .c (.sl false 3 (busy.map (GItem.cells false)))), (2, .bx 2 0), (5, aInt s0_0), (27, .c (.sl false 3 (busy.map (GItem.cells false)))), (28, aInt s0_0), (29, .pts [cI x7.task, cI x7.who, cI x7.did]), (30, .pts [cI x7.who, cI x7.did]), (31, aInt x7.who), (32, aBool x8), (33, aBool (!x8)), (36, .c (.sl false 3 (busy.map (GItem.cells false)))), (37, aInt s0_0), (38, .pts [cI x10.task, cI x10.who, cI x10.did]), (39, .pts [cI x10.did]), (40, aInt x10.did), (41, .bx 2 1), (42, .c (.sl false 9 (n.tasks.map (GTask.cells false)))), (43, .c (.sl false 3 (busy.map (GItem.cells false)))), (44, aInt s0_0), (45, .pts [cI x11.task, cI x11.who, cI x11.did]), (46, .pts [cI x11.task, cI x11.who, cI x11.did]), (47, aInt x11.task), (48, .pts [cI x12.join, cI x12.split, .sl false 1 (x12.in_.map (fun n : Int => [cI n])), .sl false 4 (x12.out.map (GFlow.cells false)), .sl false 1 (x12.clear.map (fun n : Int => [cI n])), cI x12.role, cI x12.apart, cI x12.all, cI x12.need]), (49, .pts [cI x12.need]), (50, aInt x12.need), (51, aInt (x12.need - 1)), (52, aBool x14), (53, aBool (!x14))]) (obj := [(2, .box [aInt n.places, .c (.sl false 9 (n.tasks.map (GTask.cells false)))])]) idn (.cons rfl rfl (.cons rfl rfl (.cons rfl rfl (.cons rfl rfl (.cons rfl rfl (.cons rfl rfl (.cons rfl rfl (.cons rfl rfl (.cons rfl rfl (.cons rfl rfl (.cons rfl rfl (.cons rfl rfl (.cons rfl rfl (.cons rfl rfl (.cons rfl rfl (.cons rfl rfl (.cons rfl rfl (.cons rfl rfl (.cons rfl rfl (.cons rfl rfl (.cons rfl rfl (.cons rfl rfl (.cons rfl rfl (.cons rfl rfl (.cons rfl rfl (.cons rfl rfl (.cons rfl rfl (.cons rfl rfl .nil)))))))))))))))))))))))))))) (.cons rfl rfl (.inl rfl) .nil) rfl) ?_
        refine acode_region ?_
        refine mv (lb rfl) rfl ?_
        obtain ⟨g16, hm⟩ := gd_some hm
        refine st1 rfl (op_add (lb rfl) g16) (so rfl (so rfl sn)) ?_
        refine as_ (lb rfl) rfl ?_
        refine rg_nil_seq ?_
        refine klg_back (n0, (s0_0 + 1)) hm (Nat.lt_succ_self _) ?_
        exact le_stU idn (.cons rfl rfl (.cons rfl rfl (.cons rfl rfl .nil))) (.cons rfl rfl (.inl rfl) .nil) rfl
       ·
        replace hm := ite_f hm c15
        refine acode_cond_true rfl (not_f (c15)) ?_
        refine sr ?_
        refine as_ (lb rfl) rfl ?_
        refine nkt ?_
        obtain rfl := Option.some.inj hm
        exact kblk_ret (kseq_ret (klg_ret (kblk_ret (kseq_ret (fin2_retL (.cons (.c rfl) .nil) rfl .nil rfl rfl rfl)))))
      ·
       replace hm := ite_f hm c9
       refine st1off rfl rfl (lb rfl) rfl rfl (not_f (c9)) ?_
       refine st1off rfl rfl (lb rfl) rfl rfl (not_f (c9)) ?_
       refine st1off rfl rfl (lb rfl) rfl rfl (not_f (c9)) ?_
       refine st1off rfl rfl (lb rfl) rfl rfl (not_f (c9)) ?_
       refine st1off rfl rfl (lb rfl) rfl rfl (not_f (c9)) ?_
       refine st1off rfl rfl (lb rfl) rfl rfl (not_f (c9)) ?_
       refine st1off rfl rfl (lb rfl) rfl rfl (not_f (c9)) ?_
       refine st1off rfl rfl (lb rfl) rfl rfl (not_f (c9)) ?_
       refine st1off rfl rfl (lb rfl) rfl rfl (not_f (c9)) ?_
       refine st1off rfl rfl (lb rfl) rfl rfl (not_f (c9)) ?_
       refine st1off rfl rfl (lb rfl) rfl rfl (not_f (c9)) ?_
       refine st1off rfl rfl (lb rfl) rfl rfl (not_f (c9)) ?_
       refine st1off rfl rfl (lb rfl) rfl rfl (not_f (c9)) ?_
       refine st1off rfl rfl (lb rfl) rfl rfl (not_f (c9)) ?_
       refine st1off rfl rfl (lb rfl) rfl rfl (not_f (c9)) ?_
       refine st1off rfl rfl (lb rfl) rfl rfl (not_f (c9)) ?_
       refine st1off rfl rfl (lb rfl) rfl rfl (not_f (c9)) ?_
       refine st1off rfl rfl (lb rfl) rfl rfl (not_f (c9)) ?_
       refine st1 rfl (op_pick_true (lb rfl) (not_f (c9))) (so rfl (so rfl sn)) ?_
       refine rg_nil_draw (by kernel_rfl) ?_
       refine kseq_normal ?_
       refine acode_cond_true rfl (rfl) ?_
       refine sr ?_
       refine as_ (lb rfl) rfl ?_
       refine nkt ?_
       obtain rfl := Option.some.inj hm
       exact kblk_ret (kseq_ret (klg_ret (kblk_ret (kseq_ret (fin2_retL (.cons (.c rfl) .nil) rfl .nil rfl rfl rfl)))))
     ·
      replace hm := ite_f hm c6
      refine st1off rfl rfl (lb rfl) rfl rfl (not_f (c6)) ?_
      refine st1off rfl rfl (lb rfl) rfl rfl (not_f (c6)) ?_
      refine st1off rfl rfl (lb rfl) rfl rfl (not_f (c6)) ?_
      refine st1off rfl rfl (lb rfl) rfl rfl (not_f (c6)) ?_
      refine st1off rfl rfl (lb rfl) rfl rfl (not_f (c6)) ?_
      refine st1off rfl rfl (lb rfl) rfl rfl (not_f (c6)) ?_
      refine st1off rfl rfl (lb rfl) rfl rfl (not_f (c6)) ?_
      refine st1 rfl (op_pick_true (lb rfl) (not_f (c6))) (so rfl (so rfl sn)) ?_
      refine mv (lb rfl) rfl ?_
      refine st1off rfl rfl (lb rfl) rfl rfl (rfl) ?_
      refine st1off rfl rfl (lb rfl) rfl rfl (rfl) ?_
      refine st1off rfl rfl (lb rfl) rfl rfl (rfl) ?_
      refine st1off rfl rfl (lb rfl) rfl rfl (rfl) ?_
      refine st1off rfl rfl (lb rfl) rfl rfl (rfl) ?_
      refine st1off rfl rfl (lb rfl) rfl rfl (rfl) ?_
      refine st1off rfl rfl (lb rfl) rfl rfl (rfl) ?_
      refine st1off rfl rfl (lb rfl) rfl rfl (rfl) ?_
      refine st1off rfl rfl (lb rfl) rfl rfl (rfl) ?_
      refine st1off rfl rfl (lb rfl) rfl rfl (rfl) ?_
      refine st1off rfl rfl (lb rfl) rfl rfl (rfl) ?_
      refine st1off rfl rfl (lb rfl) rfl rfl (rfl) ?_
      refine st1off rfl rfl (lb rfl) rfl rfl (rfl) ?_
      refine st1off rfl rfl (lb rfl) rfl rfl (rfl) ?_
      refine st1off rfl rfl (lb rfl) rfl rfl (rfl) ?_
      refine st1off rfl rfl (lb rfl) rfl rfl (rfl) ?_
      refine st1off rfl rfl (lb rfl) rfl rfl (rfl) ?_
      refine st1off rfl rfl (lb rfl) rfl rfl (rfl) ?_
      refine st1 rfl (op_pick_true (lb rfl) (rfl)) (so rfl (so rfl sn)) ?_
      refine rg_nil_draw (by kernel_rfl) ?_
      refine kseq_normal ?_
      refine acode_cond_true rfl (rfl) ?_
      refine sr ?_
      refine as_ (lb rfl) rfl ?_
      refine nkt ?_
      obtain rfl := Option.some.inj hm
      exact kblk_ret (kseq_ret (klg_ret (kblk_ret (kseq_ret (fin2_retL (.cons (.c rfl) .nil) rfl .nil rfl rfl rfl)))))
    ·
     replace hm := ite_f hm c2
     refine acode_cond_false rfl (c2) ?_
     refine acode_exit ?_
     unfold m_spec_l3Busy_k1 at hm
     refine kseq_exit (klg_exit (kblk_hit (kseq_normal ?_)))
     refine sr ?_
     refine as_ (lb rfl) rfl ?_
     refine nkt ?_
     obtain rfl := Option.some.inj hm
     exact fin2_retL (.cons (.c rfl) .nil) rfl .nil rfl rfl rfl

def m_impl_isPerson (who : Int) : Option Bool := (m_impl_in who 1 4).bind fun x1 => (some x1)

theorem c_impl_isPerson (who : Int) (rz : Bool) (hm : m_impl_isPerson who = some rz) : FnB Try.prog 126 [.c (cI who)] [.c (cB rz)] [] := by
 unfold m_impl_isPerson at hm
 refine fn_intro2 (n := 5) (rvs := [.tmp 2]) Try.func126 rfl rfl rfl (lb rfl) rfl rfl rfl rfl rfl ?_
 refine acode_seq ?_
 refine acode_le (le_stU (env := [(0, aInt who)]) (obj := []) idn (.cons rfl rfl .nil) .nil rfl) ?_
 refine acode_region ?_
 refine as_ (lb rfl) rfl ?_
 refine nk ?_
 refine sr ?_
 refine mv (lb rfl) rfl ?_
 obtain ⟨x1, hx1, hm⟩ := bnd hm
 refine st1 rfl (op_call2 (ks := []) Try.func52 rfl rfl (c_impl_in who 1 4 x1 hx1) (.cons (.c rfl) (.cons (.c rfl) (.cons (.c rfl) .nil rfl) rfl) rfl) rfl rfl (.inl rfl) .nil rfl rfl (lb rfl)) (sats_opds (.cons rfl (.cons rfl (.cons rfl .nil))) (sats_app (sats_freshL rfl) (sats_needsO obs_nil))) ?_
 refine as_ (lb rfl) rfl ?_
 refine nkt ?_
 obtain rfl := Option.some.inj hm
 exact fin2_retL (.cons (.c rfl) .nil) rfl .nil rfl rfl rfl

def m_spec_PplOk_k1  : Option Bool := some true
def m_spec_PplOk_l0 (people : List Int) (kx0_0 : Option Bool) : Nat → Int → Option Bool
  | 0, _ => none
  | n0 + 1, s0_0 => if decide (s0_0 < (people.length : Int)) = true then ((getI people s0_0).bind fun x4 => ((m_spec_l1In x4 0 7).bind fun x5 => (if x5 = true then (gd (ok64 (s0_0 + 1)) ((m_spec_PplOk_l0 people kx0_0 n0) (s0_0 + 1))) else (some false)))) else (kx0_0)
def m_spec_PplOk (people : List Int) : Option Bool := (m_spec_l1In (people.length : Int) 1 4).bind fun x1 => (if x1 = true then (m_spec_PplOk_l0 people m_spec_PplOk_k1 FUEL 0) else (some false))


def m_spec_CasOk_k1 (c : GCase) : Option Bool := if decide (c.state = 1) = true then ((getI c.marks 1).bind fun x20 => (some (decide (x20 = 0)))) else (if decide ((c.busy.length : Int) = 0) = true then ((getI c.marks 1).bind fun x22 => (some ((decide (c.state = 2)) == (decide (0 < x22))))) else (some false))
def m_spec_CasOk_l0 (n : GNet) (c : GCase) (kx0_0 : Option Bool) : Nat → Int → Option Bool
  | 0, _ => none
  | n0 + 1, s0_0 => if decide (s0_0 < (c.did.length : Int)) = true then ((getI c.did s0_0).bind fun x11 => (gd (ok64 ((n.tasks.length : Int) - 1)) ((m_spec_l1In x11.task 0 ((n.tasks.length : Int) - 1)).bind fun x13 => (if x13 = true then ((getI c.did s0_0).bind fun x15 => ((m_spec_l1In x15.who 1 4).bind fun x16 => (if x16 = true then (gd (ok64 (s0_0 + 1)) ((m_spec_CasOk_l0 n c kx0_0 n0) (s0_0 + 1))) else (some false)))) else (some false))))) else (kx0_0)
def m_spec_CasOk (n : GNet) (c : GCase) : Option Bool := (m_spec_MrkOk n c.marks).bind fun x1 => (if x1 = true then ((m_spec_l3Busy n c.busy).bind fun x3 => (if x3 = true then ((m_spec_DatOk c.data).bind fun x5 => (if x5 = true then (if decide (60 < (c.did.length : Int)) = true then (some false) else ((m_spec_l1In c.state 1 3).bind fun x8 => (if x8 = true then (m_spec_CasOk_l0 n c (m_spec_CasOk_k1 c) FUEL 0) else (some false)))) else (some false))) else (some false))) else (some false))

theorem c_spec_CasOk (n : GNet) (c : GCase) (rz : Bool) (hm : m_spec_CasOk n c = some rz) : FnB Try.prog 75 [.row (GNet.cells false n), .row (GCase.cells false c)] [.c (cB rz)] [] := by
 unfold m_spec_CasOk at hm
 refine fn_intro2 (n := 88) (rvs := [.tmp 4]) Try.func75 rfl rfl rfl (lb rfl) rfl rfl rfl rfl rfl ?_
 refine acode_seq ?_
 refine acode_le (le_stU (env := [(0, .row [cI n.places, .sl false 9 (n.tasks.map (GTask.cells false))]), (1, .row [cI c.state, .sl false 1 (c.marks.map (fun n : Int => [cI n])), .sl false 3 (c.busy.map (GItem.cells false)), .sl false 1 (c.data.map (fun n : Int => [cI n])), .sl false 2 (c.did.map (GDid.cells false))])]) (obj := []) idn (.cons rfl rfl (.cons rfl rfl .nil)) .nil rfl) ?_
 refine acode_region ?_
 refine st1 rfl (op_box rfl (lb rfl)) (so rfl (sf rfl (sats_lives rfl))) ?_
 refine st1 rfl (op_box rfl (lb rfl)) (so rfl (sf rfl (sats_lives rfl))) ?_
 refine as_ (lb rfl) rfl ?_
 refine nk ?_
 refine acode_seq ?_
 refine sr ?_
 refine st1 rfl (op_load_bx_agg Try.isAgg65 Try.sizeOf65 rfl rfl (lb rfl)) (so rfl (sb rfl sn)) ?_
 refine fdb (off := 1) Try.underlying70 Try.sizeOf34 rfl rfl rfl (lb rfl) rfl rfl ?_
 refine ldb Try.isAgg34 rfl (lb rfl) rfl rfl ?_
 obtain ⟨x1, hx1, hm⟩ := bnd hm
 refine st1 rfl (op_call2 (ks := []) Try.func118 rfl rfl (c_spec_MrkOk n c.marks x1 hx1) (.cons ((.aggCons (.c rfl) (.aggCons (.c rfl) .aggNil rfl) rfl)) (.cons (.c rfl) .nil rfl) rfl) rfl rfl (.inl rfl) .nil rfl rfl (lb rfl)) (sats_opds (.cons rfl (.cons rfl .nil)) (sats_app (sats_freshL rfl) (sats_needsO obs_nil))) ?_
 refine st1 rfl (op_not (lb rfl)) (so rfl sn) ?_
 refine mv (lb rfl) rfl ?_
 refine rg_split (b := x1) (fun c2 => ?_) (fun c2 => ?_)
 ·
  replace hm := ite_t hm c2
  refine st1on rfl rfl rfl (not_t (c2)) (op_load_bx_agg Try.isAgg65 Try.sizeOf65 rfl rfl (lb rfl)) (so rfl (sb rfl sn)) ?_
  refine st1on rfl rfl rfl (not_t (c2)) (op_field_bx (off := 2) Try.underlying70 Try.sizeOf67 rfl rfl rfl (lb rfl)) (so rfl (sb rfl sn)) ?_
  refine st1on rfl rfl rfl (not_t (c2)) (op_load_bx Try.isAgg67 rfl (lb rfl)) (so rfl (sb rfl sn)) ?_
  obtain ⟨x3, hx3, hm⟩ := bnd hm
  refine st1on rfl rfl rfl (not_t (c2)) (op_call2 (ks := []) Try.func119 rfl rfl (c_spec_l3Busy n c.busy x3 hx3) (.cons ((.aggCons (.c rfl) (.aggCons (.c rfl) .aggNil rfl) rfl)) (.cons (.c rfl) .nil rfl) rfl) rfl rfl (.inl rfl) .nil rfl rfl (lb rfl)) (sats_opds (.cons rfl (.cons rfl .nil)) (sats_app (sats_freshL rfl) (sats_needsO obs_nil))) ?_
  refine st1on rfl rfl rfl (not_t (c2)) (op_not (lb rfl)) (so rfl sn) ?_
  refine st1 rfl (op_pick_false (lb rfl) (not_t (c2))) (so rfl (so rfl sn)) ?_
  refine mv (lb rfl) rfl ?_
  refine rg_split (b := x3) (fun c4 => ?_) (fun c4 => ?_)
  ·
   replace hm := ite_t hm c4
   refine st1on rfl rfl rfl (not_t (c4)) (op_field_bx (off := 3) Try.underlying70 Try.sizeOf34 rfl rfl rfl (lb rfl)) (so rfl (sb rfl sn)) ?_
   refine st1on rfl rfl rfl (not_t (c4)) (op_load_bx Try.isAgg34 rfl (lb rfl)) (so rfl (sb rfl sn)) ?_
   obtain ⟨x5, hx5, hm⟩ := bnd hm
   refine st1on rfl rfl rfl (not_t (c4)) (op_call2 (ks := []) Try.func104 rfl rfl (c_spec_DatOk c.data x5 hx5) (.cons (.c rfl) .nil rfl) rfl rfl (.inl rfl) .nil rfl rfl (lb rfl)) (sats_opds (.cons rfl .nil) (sats_app (sats_freshL rfl) (sats_needsO obs_nil))) ?_
   refine st1on rfl rfl rfl (not_t (c4)) (op_not (lb rfl)) (so rfl sn) ?_
   refine st1 rfl (op_pick_false (lb rfl) (not_t (c4))) (so rfl (so rfl sn)) ?_
   refine mv (lb rfl) rfl ?_
   refine rg_split (b := x5) (fun c6 => ?_) (fun c6 => ?_)
   ·
    replace hm := ite_t hm c6
    refine st1on rfl rfl rfl (not_t (c6)) (op_field_bx (off := 4) Try.underlying70 Try.sizeOf68 rfl rfl rfl (lb rfl)) (so rfl (sb rfl sn)) ?_
    refine st1on rfl rfl rfl (not_t (c6)) (op_load_bx Try.isAgg68 rfl (lb rfl)) (so rfl (sb rfl sn)) ?_
    refine st1on rfl rfl rfl (not_t (c6)) (op_len_sh (f := (GDid.cells false)) (l := c.did) Try.underlying68 (lb rfl)) (so rfl sn) ?_
    refine st1on rfl rfl rfl (not_t (c6)) (op_gtr (lb rfl)) (so rfl (so rfl sn)) ?_
    refine st1 rfl (op_pick_false (lb rfl) (not_t (c6))) (so rfl (so rfl sn)) ?_
    refine mv (lb rfl) rfl ?_
    refine rg_split (b := decide (60 < (c.did.length : Int))) (fun c7 => ?_) (fun c7 => ?_)
    ·
     replace hm := ite_t hm c7
     refine st1off rfl rfl (lb rfl) rfl rfl (c7) ?_
     refine st1off rfl rfl (lb rfl) rfl rfl (c7) ?_
     refine st1off rfl rfl (lb rfl) rfl rfl (c7) ?_
     refine st1off rfl rfl (lb rfl) rfl rfl (c7) ?_
     refine st1 rfl (op_pick_true (lb rfl) (c7)) (so rfl (so rfl sn)) ?_
     refine nk ?_
     refine acode_cond_true rfl (rfl) ?_
     refine acode_seq ?_
     refine acode_le (le_stU (env := []) (obj := []) idn .nil .nil rfl) ?_
     refine acode_region ?_
     refine as_ (lb rfl) rfl ?_
     refine nkt ?_
     obtain rfl := Option.some.inj hm
     exact kseq_ret (fin2_retL (.cons (.c rfl) .nil) rfl .nil rfl rfl rfl)
    ·
     replace hm := ite_f hm c7
     refine st1on rfl rfl rfl (c7) (op_field_bx (off := 0) Try.underlying70 Try.sizeOf3 rfl rfl rfl (lb rfl)) (so rfl (sb rfl sn)) ?_
     refine st1on rfl rfl rfl (c7) (op_load_bx Try.isAgg3 rfl (lb rfl)) (so rfl (sb rfl sn)) ?_
     obtain ⟨x8, hx8, hm⟩ := bnd hm
     refine st1on rfl rfl rfl (c7) (op_call2 (ks := []) Try.func93 rfl rfl (c_spec_l1In c.state 1 3 x8 hx8) (.cons (.c rfl) (.cons (.c rfl) (.cons (.c rfl) .nil rfl) rfl) rfl) rfl rfl (.inl rfl) .nil rfl rfl (lb rfl)) (sats_opds (.cons rfl (.cons rfl (.cons rfl .nil))) (sats_app (sats_freshL rfl) (sats_needsO obs_nil))) ?_
     refine st1on rfl rfl rfl (c7) (op_not (lb rfl)) (so rfl sn) ?_
     refine st1 rfl (op_pick_false (lb rfl) (c7)) (so rfl (so rfl sn)) ?_
     refine nk ?_
     refine acode_split (b := x8) (fun c9 => ?_) (fun c9 => ?_)
     ·
      replace hm := ite_t hm c9
      refine acode_cond_false rfl (not_t (c9)) ?_
      refine pk ?_
      refine acode_seq ?_
      refine sr ?_
      refine as_ (lb rfl) rfl ?_
      refine nk ?_
      refine acode_block ?_
      refine acode_loopk (xs := [2, 3]) (ys := [2, 3]) (S := Nat × Int) (fun z => [(5, aInt z.2)]) (fun z => []) (fun z => m_spec_CasOk_l0 n c (m_spec_CasOk_k1 c) z.1 z.2 = some rz) (fun z => z.1) (FUEL, 0) (.cons rfl (.cons rfl .nil)) (.cons rfl (.cons rfl .nil)) ?em ?eo rfl ?ei ?round
      case em => exact (.cons rfl rfl .nil)
      case eo => exact .nil
      case ei => exact hm
      case round =>
       rintro ⟨n0, s0_0⟩ hm
       dsimp only at hm ⊢
       cases n0 with
       | zero => rw [m_spec_CasOk_l0] at hm; cases hm
       | succ n0 =>
        rw [m_spec_CasOk_l0] at hm
        refine acode_seq ?_
        refine sr ?_
        refine mv (lb rfl) rfl ?_
        refine fdb (off := 4) Try.underlying70 Try.sizeOf68 rfl rfl rfl (lb rfl) rfl rfl ?_
        refine ldb Try.isAgg68 rfl (lb rfl) rfl rfl ?_
        refine st1 rfl (op_len_sh (f := (GDid.cells false)) (l := c.did) Try.underlying68 (lb rfl)) (so rfl sn) ?_
        refine st1 rfl (op_lss (lb rfl)) (so rfl (so rfl sn)) ?_
        refine nk ?_
        refine acode_split (b := decide (s0_0 < (c.did.length : Int))) (fun c10 => ?_) (fun c10 => ?_)
        ·
         replace hm := ite_t hm c10
         refine acode_cond_true rfl (c10) ?_
         refine pk ?_
         refine acode_seq ?_
         refine acode_block ?_
         refine acode_seq ?_
         refine acode_region_draw mixed rfl ?_
         refine fdb (off := 4) Try.underlying70 Try.sizeOf68 rfl rfl rfl (lb rfl) rfl rfl ?_
         refine ldb Try.isAgg68 rfl (lb rfl) rfl rfl ?_
         refine mv (lb rfl) rfl ?_
         obtain ⟨x11, hx11, hm⟩ := bnd hm
         refine st1 rfl (op_index_shG (f := (GDid.cells false)) (l := c.did) Try.underlying68 Try.sizeOf137 (lb rfl) hx11) (so rfl (so rfl sn)) ?_
         refine st1 rfl (op_field_pts (off := 0) Try.underlying137 Try.sizeOf3 rfl rfl rfl rfl (lb rfl)) (so rfl sn) ?_
         refine st1 rfl (op_load_pts Try.isAgg3 rfl (lb rfl)) (so rfl sn) ?_
         refine fdb (off := 1) Try.underlying65 Try.sizeOf63 rfl rfl rfl (lb rfl) rfl rfl ?_
         refine ldb Try.isAgg63 rfl (lb rfl) rfl rfl ?_
         refine st1 rfl (op_len_sh (f := (GTask.cells false)) (l := n.tasks) Try.underlying63 (lb rfl)) (so rfl sn) ?_
         obtain ⟨g12, hm⟩ := gd_some hm
         refine st1 rfl (op_sub (lb rfl) g12) (so rfl (so rfl sn)) ?_
         obtain ⟨x13, hx13, hm⟩ := bnd hm
         refine st1 rfl (op_call2 (ks := []) Try.func93 rfl rfl (c_spec_l1In x11.task 0 ((n.tasks.length : Int) - 1) x13 hx13) (.cons (.c rfl) (.cons (.c rfl) (.cons (.c rfl) .nil rfl) rfl) rfl) rfl rfl (.inl rfl) .nil rfl rfl (lb rfl)) (sats_opds (.cons rfl (.cons rfl (.cons rfl .nil))) (sats_app (sats_freshL rfl) (sats_needsO obs_nil))) ?_
         refine st1 rfl (op_not (lb rfl)) (so rfl sn) ?_
         refine mv (lb rfl) rfl ?_
         refine rg_split (b := x13) (fun c14 => ?_) (fun c14 => ?_)
         ·
          replace hm := ite_t hm c14
          refine st1on rfl rfl rfl (not_t (c14)) (op_field_bx (off := 4) Try.underlying70 Try.sizeOf68 rfl rfl rfl (lb rfl)) (so rfl (sb rfl sn)) ?_
          refine st1on rfl rfl rfl (not_t (c14)) (op_load_bx Try.isAgg68 rfl (lb rfl)) (so rfl (sb rfl sn)) ?_
          refine st1on rfl rfl rfl (not_t (c14)) (op_move (lb rfl)) (so rfl sn) ?_
          obtain ⟨x15, hx15, hm⟩ := bnd hm
          refine st1on rfl rfl rfl (not_t (c14)) (op_index_shG (f := (GDid.cells false)) (l := c.did) Try.underlying68 Try.sizeOf137 (lb rfl) hx15) (so rfl (so rfl sn)) ?_
          refine st1on rfl rfl rfl (not_t (c14)) (op_field_pts (off := 1) Try.underlying137 Try.sizeOf3 rfl rfl rfl rfl (lb rfl)) (so rfl sn) ?_
          refine st1on rfl rfl rfl (not_t (c14)) (op_load_pts Try.isAgg3 rfl (lb rfl)) (so rfl sn) ?_
          obtain ⟨x16, hx16, hm⟩ := bnd hm
          refine st1on rfl rfl rfl (not_t (c14)) (op_call2 (ks := []) Try.func93 rfl rfl (c_spec_l1In x15.who 1 4 x16 hx16) (.cons (.c rfl) (.cons (.c rfl) (.cons (.c rfl) .nil rfl) rfl) rfl) rfl rfl (.inl rfl) .nil rfl rfl (lb rfl)) (sats_opds (.cons rfl (.cons rfl (.cons rfl .nil))) (sats_app (sats_freshL rfl) (sats_needsO obs_nil))) ?_
          refine st1on rfl rfl rfl (not_t (c14)) (op_not (lb rfl)) (so rfl sn) ?_
          refine st1 rfl (op_pick_false (lb rfl) (not_t (c14))) (so rfl (so rfl sn)) ?_
          refine rg_nil_draw (by kernel_rfl) ?_
          refine kseq_normal ?_
          refine acode_split (b := x16) (fun c17 => ?_) (fun c17 => ?_)
          ·
           replace hm := ite_t hm c17
           refine acode_cond_false rfl (not_t (c17)) ?_
           refine acode_skip ?_
           refine kblk_normal (kseq_normal ?_)
           refine acode_le (le_stU (env := [(2, .bx 2 0), (3, .bx 3 0), (5, aInt s0_0), (56, .bx 3 4), (57, .c (.sl false 2 (c.did.map (GDid.cells false)))), (58, aInt s0_0), (59, .pts [cI x15.task, cI x15.who]), (60, .pts [cI x15.who]), (61, aInt x15.who), (62, aBool x16), (63, aBool (!x16))]) (obj := [(2, .box [aInt n.places, .c (.sl false 9 (n.tasks.map (GTask.cells false)))]), (3, .box [aInt c.state, .c (.sl false 1 (c.marks.map (fun n : Int => [cI n]))), .c (.sl false 3 (c.busy.map (GItem.cells false))), .c (.sl false 1 (c.data.map (fun n : Int => [cI n]))), .c (.sl false 2 (c.did.map (GDid.cells false)))])]) idn (.cons rfl rfl (.cons rfl rfl (.cons rfl rfl (.cons rfl rfl (.cons rfl rfl (.cons rfl rfl (.cons rfl rfl (.cons rfl rfl (.cons rfl rfl (.cons rfl rfl (.cons rfl rfl .nil))))))))))) (.cons rfl rfl (.inl rfl) (.cons rfl rfl (.inl rfl) .nil)) rfl) ?_
           refine acode_region ?_
           refine mv (lb rfl) rfl ?_
           obtain ⟨g18, hm⟩ := gd_some hm
           refine st1 rfl (op_add (lb rfl) g18) (so rfl (so rfl sn)) ?_
           refine as_ (lb rfl) rfl ?_
           refine rg_nil_seq ?_
           refine klg_back (n0, (s0_0 + 1)) hm (Nat.lt_succ_self _) ?_
           exact le_stU idn (.cons rfl rfl (.cons rfl rfl (.cons rfl rfl .nil))) (.cons rfl rfl (.inl rfl) (.cons rfl rfl (.inl rfl) .nil)) rfl
          ·
           replace hm := ite_f hm c17
           refine acode_cond_true rfl (not_f (c17)) ?_
           refine sr ?_
           refine as_ (lb rfl) rfl ?_
           refine nkt ?_
           obtain rfl := Option.some.inj hm
           exact kblk_ret (kseq_ret (klg_ret (kblk_ret (kseq_ret (fin2_retL (.cons (.c rfl) .nil) rfl .nil rfl rfl rfl)))))
         ·
          replace hm := ite_f hm c14
          refine st1off rfl rfl (lb rfl) rfl rfl (not_f (c14)) ?_
          refine st1off rfl rfl (lb rfl) rfl rfl (not_f (c14)) ?_
          refine st1off rfl rfl (lb rfl) rfl rfl (not_f (c14)) ?_
          refine st1off rfl rfl (lb rfl) rfl rfl (not_f (c14)) ?_
          refine st1off rfl rfl (lb rfl) rfl rfl (not_f (c14)) ?_
          refine st1off rfl rfl (lb rfl) rfl rfl (not_f (c14)) ?_
          refine st1off rfl rfl (lb rfl) rfl rfl (not_f (c14)) ?_
          refine st1off rfl rfl (lb rfl) rfl rfl (not_f (c14)) ?_
          refine st1 rfl (op_pick_true (lb rfl) (not_f (c14))) (so rfl (so rfl sn)) ?_
          refine rg_nil_draw (by kernel_rfl) ?_
          refine kseq_normal ?_
          refine acode_cond_true rfl (rfl) ?_
          refine sr ?_
          refine as_ (lb rfl) rfl ?_
          refine nkt ?_
          obtain rfl := Option.some.inj hm
          exact kblk_ret (kseq_ret (klg_ret (kblk_ret (kseq_ret (fin2_retL (.cons (.c rfl) .nil) rfl .nil rfl rfl rfl)))))
        ·
         replace hm := ite_f hm c10
         refine acode_cond_false rfl (c10) ?_
         refine acode_exit ?_
         unfold m_spec_CasOk_k1 at hm
         refine kseq_exit (klg_exit (kblk_hit (kseq_normal ?_)))
         refine acode_seq ?_
         refine sr ?_
         refine fdb (off := 0) Try.underlying70 Try.sizeOf3 rfl rfl rfl (lb rfl) rfl rfl ?_
         refine ldb Try.isAgg3 rfl (lb rfl) rfl rfl ?_
         refine st1 rfl (op_eql (lb rfl)) (so rfl (so rfl sn)) ?_
         refine nk ?_
         refine acode_split (b := decide (c.state = 1)) (fun c19 => ?_) (fun c19 => ?_)
         ·
          replace hm := ite_t hm c19
          refine acode_cond_true rfl (c19) ?_
          refine sr ?_
          refine fdb (off := 1) Try.underlying70 Try.sizeOf34 rfl rfl rfl (lb rfl) rfl rfl ?_
          refine ldb Try.isAgg34 rfl (lb rfl) rfl rfl ?_
          obtain ⟨x20, hx20, hm⟩ := bnd hm
          refine st1 rfl (op_index_shG (f := (fun n : Int => [cI n])) (l := c.marks) Try.underlying34 Try.sizeOf3 (lb rfl) hx20) (so rfl (so rfl sn)) ?_
          refine st1 rfl (op_load_pts Try.isAgg3 rfl (lb rfl)) (so rfl sn) ?_
          refine st1 rfl (op_eql (lb rfl)) (so rfl (so rfl sn)) ?_
          refine as_ (lb rfl) rfl ?_
          refine nkt ?_
          obtain rfl := Option.some.inj hm
          exact kseq_ret (fin2_retL (.cons (.c rfl) .nil) rfl .nil rfl rfl rfl)
         ·
          replace hm := ite_f hm c19
          refine acode_cond_false rfl (c19) ?_
          refine pk ?_
          refine acode_seq ?_
          refine acode_region_draw mixed rfl ?_
          refine fdb (off := 2) Try.underlying70 Try.sizeOf67 rfl rfl rfl (lb rfl) rfl rfl ?_
          refine ldb Try.isAgg67 rfl (lb rfl) rfl rfl ?_
          refine st1 rfl (op_len_sh (f := (GItem.cells false)) (l := c.busy) Try.underlying67 (lb rfl)) (so rfl sn) ?_
          refine st1 rfl (op_eql (lb rfl)) (so rfl (so rfl sn)) ?_
          refine mv (lb rfl) rfl ?_
          refine rg_split (b := decide ((c.busy.length : Int) = 0)) (fun c21 => ?_) (fun c21 => ?_)
          ·
           replace hm := ite_t hm c21
           refine st1on rfl rfl rfl (c21) (op_field_bx (off := 0) Try.underlying70 Try.sizeOf3 rfl rfl rfl (lb rfl)) (so rfl (sb rfl sn)) ?_
           refine st1on rfl rfl rfl (c21) (op_load_bx Try.isAgg3 rfl (lb rfl)) (so rfl (sb rfl sn)) ?_
           refine st1on rfl rfl rfl (c21) (op_eql (lb rfl)) (so rfl (so rfl sn)) ?_
           refine st1on rfl rfl rfl (c21) (op_field_bx (off := 1) Try.underlying70 Try.sizeOf34 rfl rfl rfl (lb rfl)) (so rfl (sb rfl sn)) ?_
           refine st1on rfl rfl rfl (c21) (op_load_bx Try.isAgg34 rfl (lb rfl)) (so rfl (sb rfl sn)) ?_
           obtain ⟨x22, hx22, hm⟩ := bnd hm
           refine st1on rfl rfl rfl (c21) (op_index_shG (f := (fun n : Int => [cI n])) (l := c.marks) Try.underlying34 Try.sizeOf3 (lb rfl) hx22) (so rfl (so rfl sn)) ?_
           refine st1on rfl rfl rfl (c21) (op_load_pts Try.isAgg3 rfl (lb rfl)) (so rfl sn) ?_
           refine st1on rfl rfl rfl (c21) (op_gtr (lb rfl)) (so rfl (so rfl sn)) ?_
           refine st1on rfl rfl rfl (c21) (op_eqlb Try.underlying4 (lb rfl)) (so rfl (so rfl sn)) ?_
           refine st1 rfl (op_pick_true (lb rfl) (c21)) (so rfl (so rfl sn)) ?_
           refine as_ (lb rfl) rfl ?_
           refine rg_nil_draw (by kernel_rfl) ?_
           refine kseq_normal ?_
           refine acode_ret ?_
           obtain rfl := Option.some.inj hm
           exact fin2_retL (.cons (.c rfl) .nil) rfl .nil rfl rfl rfl
          ·
           replace hm := ite_f hm c21
           refine st1off rfl rfl (lb rfl) rfl rfl (c21) ?_
           refine st1off rfl rfl (lb rfl) rfl rfl (c21) ?_
           refine st1off rfl rfl (lb rfl) rfl rfl (c21) ?_
           refine st1off rfl rfl (lb rfl) rfl rfl (c21) ?_
           refine st1off rfl rfl (lb rfl) rfl rfl (c21) ?_
           refine st1off rfl rfl (lb rfl) rfl rfl (c21) ?_
           refine st1off rfl rfl (lb rfl) rfl rfl (c21) ?_
           refine st1off rfl rfl (lb rfl) rfl rfl (c21) ?_
           refine st1off rfl rfl (lb rfl) rfl rfl (c21) ?_
           refine st1 rfl (op_pick_false (lb rfl) (c21)) (so rfl (so rfl sn)) ?_
           refine as_ (lb rfl) rfl ?_
           refine rg_nil_draw (by kernel_rfl) ?_
           refine kseq_normal ?_
           refine acode_ret ?_
           obtain rfl := Option.some.inj hm
           exact fin2_retL (.cons (.c rfl) .nil) rfl .nil rfl rfl rfl
     ·
      replace hm := ite_f hm c9
      refine acode_cond_true rfl (not_f (c9)) ?_
      refine acode_seq ?_
      refine acode_le (le_stU (env := []) (obj := []) idn .nil .nil rfl) ?_
      refine acode_region ?_
      refine as_ (lb rfl) rfl ?_
      refine nkt ?_
      obtain rfl := Option.some.inj hm
      exact kseq_ret (fin2_retL (.cons (.c rfl) .nil) rfl .nil rfl rfl rfl)
   ·
    replace hm := ite_f hm c6
    refine st1off rfl rfl (lb rfl) rfl rfl (not_f (c6)) ?_
    refine st1off rfl rfl (lb rfl) rfl rfl (not_f (c6)) ?_
    refine st1off rfl rfl (lb rfl) rfl rfl (not_f (c6)) ?_
    refine st1off rfl rfl (lb rfl) rfl rfl (not_f (c6)) ?_
    refine st1 rfl (op_pick_true (lb rfl) (not_f (c6))) (so rfl (so rfl sn)) ?_
    refine mv (lb rfl) rfl ?_
    refine st1off rfl rfl (lb rfl) rfl rfl (rfl) ?_
    refine st1off rfl rfl (lb rfl) rfl rfl (rfl) ?_
    refine st1off rfl rfl (lb rfl) rfl rfl (rfl) ?_
    refine st1off rfl rfl (lb rfl) rfl rfl (rfl) ?_
    refine st1 rfl (op_pick_true (lb rfl) (rfl)) (so rfl (so rfl sn)) ?_
    refine nk ?_
    refine acode_cond_true rfl (rfl) ?_
    refine sr ?_
    refine as_ (lb rfl) rfl ?_
    refine nkt ?_
    obtain rfl := Option.some.inj hm
    exact kseq_ret (fin2_retL (.cons (.c rfl) .nil) rfl .nil rfl rfl rfl)
  ·
   replace hm := ite_f hm c4
   refine st1off rfl rfl (lb rfl) rfl rfl (not_f (c4)) ?_
   refine st1off rfl rfl (lb rfl) rfl rfl (not_f (c4)) ?_
   refine st1off rfl rfl (lb rfl) rfl rfl (not_f (c4)) ?_
   refine st1off rfl rfl (lb rfl) rfl rfl (not_f (c4)) ?_
   refine st1 rfl (op_pick_true (lb rfl) (not_f (c4))) (so rfl (so rfl sn)) ?_
   refine mv (lb rfl) rfl ?_
   refine st1off rfl rfl (lb rfl) rfl rfl (rfl) ?_
   refine st1off rfl rfl (lb rfl) rfl rfl (rfl) ?_
   refine st1off rfl rfl (lb rfl) rfl rfl (rfl) ?_
   refine st1off rfl rfl (lb rfl) rfl rfl (rfl) ?_
   refine st1 rfl (op_pick_true (lb rfl) (rfl)) (so rfl (so rfl sn)) ?_
   refine mv (lb rfl) rfl ?_
   refine st1off rfl rfl (lb rfl) rfl rfl (rfl) ?_
   refine st1off rfl rfl (lb rfl) rfl rfl (rfl) ?_
   refine st1off rfl rfl (lb rfl) rfl rfl (rfl) ?_
   refine st1off rfl rfl (lb rfl) rfl rfl (rfl) ?_
   refine st1 rfl (op_pick_true (lb rfl) (rfl)) (so rfl (so rfl sn)) ?_
   refine nk ?_
   refine acode_cond_true rfl (rfl) ?_
   refine sr ?_
   refine as_ (lb rfl) rfl ?_
   refine nkt ?_
   obtain rfl := Option.some.inj hm
   exact kseq_ret (fin2_retL (.cons (.c rfl) .nil) rfl .nil rfl rfl rfl)
 ·
  replace hm := ite_f hm c2
  refine st1off rfl rfl (lb rfl) rfl rfl (not_f (c2)) ?_
  refine st1off rfl rfl (lb rfl) rfl rfl (not_f (c2)) ?_
  refine st1off rfl rfl (lb rfl) rfl rfl (not_f (c2)) ?_
  refine st1off rfl rfl (lb rfl) rfl rfl (not_f (c2)) ?_
  refine st1off rfl rfl (lb rfl) rfl rfl (not_f (c2)) ?_
  refine st1 rfl (op_pick_true (lb rfl) (not_f (c2))) (so rfl (so rfl sn)) ?_
  refine mv (lb rfl) rfl ?_
  refine st1off rfl rfl (lb rfl) rfl rfl (rfl) ?_
  refine st1off rfl rfl (lb rfl) rfl rfl (rfl) ?_
  refine st1off rfl rfl (lb rfl) rfl rfl (rfl) ?_
  refine st1off rfl rfl (lb rfl) rfl rfl (rfl) ?_
  refine st1 rfl (op_pick_true (lb rfl) (rfl)) (so rfl (so rfl sn)) ?_
  refine mv (lb rfl) rfl ?_
  refine st1off rfl rfl (lb rfl) rfl rfl (rfl) ?_
  refine st1off rfl rfl (lb rfl) rfl rfl (rfl) ?_
  refine st1off rfl rfl (lb rfl) rfl rfl (rfl) ?_
  refine st1off rfl rfl (lb rfl) rfl rfl (rfl) ?_
  refine st1 rfl (op_pick_true (lb rfl) (rfl)) (so rfl (so rfl sn)) ?_
  refine mv (lb rfl) rfl ?_
  refine st1off rfl rfl (lb rfl) rfl rfl (rfl) ?_
  refine st1off rfl rfl (lb rfl) rfl rfl (rfl) ?_
  refine st1off rfl rfl (lb rfl) rfl rfl (rfl) ?_
  refine st1off rfl rfl (lb rfl) rfl rfl (rfl) ?_
  refine st1 rfl (op_pick_true (lb rfl) (rfl)) (so rfl (so rfl sn)) ?_
  refine nk ?_
  refine acode_cond_true rfl (rfl) ?_
  refine sr ?_
  refine as_ (lb rfl) rfl ?_
  refine nkt ?_
  obtain rfl := Option.some.inj hm
  exact kseq_ret (fin2_retL (.cons (.c rfl) .nil) rfl .nil rfl rfl rfl)

def m_spec_l6Copy (c : GCase) : Option GCase := gd (([] : List Int).length + c.marks.length ≤ SMALL) (gd (([] : List GItem).length + c.busy.length ≤ SMALL) (gd (([] : List Int).length + c.data.length ≤ SMALL) (gd (([] : List GDid).length + c.did.length ≤ SMALL) (some (GCase.mk c.state (([] : List Int) ++ c.marks) (([] : List GItem) ++ c.busy) (([] : List Int) ++ c.data) (([] : List GDid) ++ c.did))))))

theorem c_spec_l6Copy (c : GCase) (rz : GCase) (hm : m_spec_l6Copy c = some rz) : FnB Try.prog 88 [.row (GCase.cells false c)] [.row (GCase.cells true rz)] [] := by
 unfold m_spec_l6Copy at hm
 refine fn_intro2 (n := 22) (rvs := [.cell 2 70]) Try.func88 rfl rfl rfl (lb rfl) rfl rfl rfl rfl rfl ?_
 refine acode_seq ?_
 refine acode_le (le_stU (env := [(0, .row [cI c.state, .sl false 1 (c.marks.map (fun n : Int => [cI n])), .sl false 3 (c.busy.map (GItem.cells false)), .sl false 1 (c.data.map (fun n : Int => [cI n])), .sl false 2 (c.did.map (GDid.cells false))])]) (obj := []) idn (.cons rfl rfl .nil) .nil rfl) ?_
 refine acode_region ?_
 refine st1 rfl (op_box rfl (lb rfl)) (so rfl (sf rfl (sats_lives rfl))) ?_
 refine st1 rfl (op_alloc Try.zeroValue70 rfl (lb rfl)) (sf rfl sn) ?_
 refine nk ?_
 refine acode_seq ?_
 refine acode_region_draw mixed rfl ?_
 refine fdb (off := 0) Try.underlying70 Try.sizeOf3 rfl rfl rfl (lb rfl) rfl rfl ?_
 refine ldb Try.isAgg3 rfl (lb rfl) rfl rfl ?_
 refine st1 rfl (op_buildSlice0 (elem34) (lb rfl)) (sf rfl sn) ?_
 refine fdb (off := 1) Try.underlying70 Try.sizeOf34 rfl rfl rfl (lb rfl) rfl rfl ?_
 refine ldb Try.isAgg34 rfl (lb rfl) rfl rfl ?_
 obtain ⟨g1, hm⟩ := gd_some hm
 refine st1 rfl (op_appendG (rowsA := (([] : List Int).map (fun n : Int => [cI n]))) (rowsB := (c.marks.map (fun n : Int => [cI n]))) (rows := ((([] : List Int) ++ c.marks).map (fun n : Int => [cI n]))) (elem34) Try.underlying34 .ref .sh rfl (okAll (rowI.rok true _)) rfl (lenG g1) (lb rfl) appG) (so rfl (so rfl (sf rfl (sats_objs (all_cons rfl all_nil) sn)))) ?_
 refine st1 rfl (op_buildSlice0 (elem67) (lb rfl)) (sf rfl sn) ?_
 refine fdb (off := 2) Try.underlying70 Try.sizeOf67 rfl rfl rfl (lb rfl) rfl rfl ?_
 refine ldb Try.isAgg67 rfl (lb rfl) rfl rfl ?_
 obtain ⟨g2, hm⟩ := gd_some hm
 refine st1 rfl (op_appendG (rowsA := (([] : List GItem).map (GItem.cells true))) (rowsB := (c.busy.map (GItem.cells true))) (rows := ((([] : List GItem) ++ c.busy).map (GItem.cells true))) (elem67) Try.underlying67 .ref .sh rfl (okAll (rowGItem.rok true _)) rfl (lenG g2) (lb rfl) appG) (so rfl (so rfl (sf rfl (sats_objs (all_cons rfl all_nil) sn)))) ?_
 refine st1 rfl (op_buildSlice0 (elem34) (lb rfl)) (sf rfl sn) ?_
 refine fdb (off := 3) Try.underlying70 Try.sizeOf34 rfl rfl rfl (lb rfl) rfl rfl ?_
 refine ldb Try.isAgg34 rfl (lb rfl) rfl rfl ?_
 obtain ⟨g3, hm⟩ := gd_some hm
 refine st1 rfl (op_appendG (rowsA := (([] : List Int).map (fun n : Int => [cI n]))) (rowsB := (c.data.map (fun n : Int => [cI n]))) (rows := ((([] : List Int) ++ c.data).map (fun n : Int => [cI n]))) (elem34) Try.underlying34 .ref .sh rfl (okAll (rowI.rok true _)) rfl (lenG g3) (lb rfl) appG) (so rfl (so rfl (sf rfl (sats_objs (all_cons rfl all_nil) sn)))) ?_
 refine st1 rfl (op_buildSlice0 (elem68) (lb rfl)) (sf rfl sn) ?_
 refine fdb (off := 4) Try.underlying70 Try.sizeOf68 rfl rfl rfl (lb rfl) rfl rfl ?_
 refine ldb Try.isAgg68 rfl (lb rfl) rfl rfl ?_
 obtain ⟨g4, hm⟩ := gd_some hm
 refine st1 rfl (op_appendG (rowsA := (([] : List GDid).map (GDid.cells true))) (rowsB := (c.did.map (GDid.cells true))) (rows := ((([] : List GDid) ++ c.did).map (GDid.cells true))) (elem68) Try.underlying68 .ref .sh rfl (okAll (rowGDid.rok true _)) rfl (lenG g4) (lb rfl) appG) (so rfl (so rfl (sf rfl (sats_objs (all_cons rfl all_nil) sn)))) ?_
 refine st1 rfl (op_build (places := [(0, 1), (1, 1), (2, 1), (3, 1), (4, 1)]) (built70) rfl rfl (lb rfl)) (sats_opds (.cons rfl (.cons rfl (.cons rfl (.cons rfl (.cons rfl .nil))))) (sats_lives rfl)) ?_
 refine st1 rfl (op_store_bxS Try.sizeOf70 rfl rfl rfl rfl) (so rfl (so rfl (sb rfl (sats_lives rfl)))) ?_
 refine rg_nil_draw (by kernel_rfl) ?_
 refine kseq_normal ?_
 refine acode_ret ?_
 obtain rfl := Option.some.inj hm
 exact fin2_retL (.cons (.agg rfl rfl Try.isAgg70 Try.sizeOf70 rfl (.c rfl (.ref rfl (.ref rfl (.ref rfl (.ref rfl .nil))))) (by rfl)) .nil) rfl .nil rfl rfl rfl

def m_spec_CasStop (n : GNet) (c : GCase) : Option (GCase × Bool) := (m_spec_l6Copy c).bind fun x1 => ((m_spec_CasOk n c).bind fun x2 => (if x2 = true then (if decide (c.state = 1) = true then (some ((GCase.mk 3 x1.marks ([] : List GItem) x1.data x1.did), true)) else (some (x1, false))) else (some (x1, false))))

theorem c_spec_CasStop (n : GNet) (c : GCase) (rz : GCase × Bool) (hm : m_spec_CasStop n c = some rz) : FnB Try.prog 43 [.row (GNet.cells false n), .row (GCase.cells false c)] [.row (GCase.cells true rz.1), .c (cB rz.2)] [] := by
 unfold m_spec_CasStop at hm
 refine fn_intro2 (n := 23) (rvs := [.cell 4 70, .tmp 5]) Try.func43 rfl rfl rfl (lb rfl) rfl rfl rfl rfl rfl ?_
 refine acode_seq ?_
 refine acode_le (le_stU (env := [(0, .row [cI n.places, .sl false 9 (n.tasks.map (GTask.cells false))]), (1, .row [cI c.state, .sl false 1 (c.marks.map (fun n : Int => [cI n])), .sl false 3 (c.busy.map (GItem.cells false)), .sl false 1 (c.data.map (fun n : Int => [cI n])), .sl false 2 (c.did.map (GDid.cells false))])]) (obj := []) idn (.cons rfl rfl (.cons rfl rfl .nil)) .nil rfl) ?_
 refine acode_region ?_
 refine st1 rfl (op_box rfl (lb rfl)) (so rfl (sf rfl (sats_lives rfl))) ?_
 refine st1 rfl (op_box rfl (lb rfl)) (so rfl (sf rfl (sats_lives rfl))) ?_
 refine st1 rfl (op_alloc Try.zeroValue70 rfl (lb rfl)) (sf rfl sn) ?_
 refine as_ (lb rfl) rfl ?_
 refine nk ?_
 refine sr ?_
 refine st1 rfl (op_load_bx_agg Try.isAgg70 Try.sizeOf70 rfl rfl (lb rfl)) (so rfl (sb rfl sn)) ?_
 obtain ⟨x1, hx1, hm⟩ := bnd hm
 refine st1 rfl (op_call2 (ks := []) Try.func88 rfl rfl (c_spec_l6Copy c x1 hx1) (.cons ((.aggCons (.c rfl) (.aggCons (.c rfl) (.aggCons (.c rfl) (.aggCons (.c rfl) (.aggCons (.c rfl) .aggNil rfl) rfl) rfl) rfl) rfl)) .nil rfl) rfl rfl (.inl rfl) .nil rfl rfl (lb rfl)) (sats_opds (.cons rfl .nil) (sats_app (sats_freshL rfl) (sats_needsO obs_nil))) ?_
 refine st1 rfl (op_alloc Try.zeroValue70 rfl (lb rfl)) (sf rfl sn) ?_
 refine st1 rfl (op_store_bxS Try.sizeOf70 rfl rfl rfl rfl) (so rfl (so rfl (sb rfl (sats_lives rfl)))) ?_
 refine nk ?_
 refine acode_seq ?_
 refine sr ?_
 refine st1 rfl (op_load_bx_agg Try.isAgg65 Try.sizeOf65 rfl rfl (lb rfl)) (so rfl (sb rfl sn)) ?_
 refine st1 rfl (op_load_bx_agg Try.isAgg70 Try.sizeOf70 rfl rfl (lb rfl)) (so rfl (sb rfl sn)) ?_
 obtain ⟨x2, hx2, hm⟩ := bnd hm
 refine st1 rfl (op_call2 (ks := []) Try.func75 rfl rfl (c_spec_CasOk n c x2 hx2) (.cons ((.aggCons (.c rfl) (.aggCons (.c rfl) .aggNil rfl) rfl)) (.cons ((.aggCons (.c rfl) (.aggCons (.c rfl) (.aggCons (.c rfl) (.aggCons (.c rfl) (.aggCons (.c rfl) .aggNil rfl) rfl) rfl) rfl) rfl)) .nil rfl) rfl) rfl rfl (.inl rfl) .nil rfl rfl (lb rfl)) (sats_opds (.cons rfl (.cons rfl .nil)) (sats_app (sats_freshL rfl) (sats_needsO obs_nil))) ?_
 refine st1 rfl (op_not (lb rfl)) (so rfl sn) ?_
 refine mv (lb rfl) rfl ?_
 refine rg_split (b := x2) (fun c3 => ?_) (fun c3 => ?_)
 ·
  replace hm := ite_t hm c3
  refine st1on rfl rfl rfl (not_t (c3)) (op_field_bx (off := 0) Try.underlying70 Try.sizeOf3 rfl rfl rfl (lb rfl)) (so rfl (sb rfl sn)) ?_
  refine st1on rfl rfl rfl (not_t (c3)) (op_load_bx Try.isAgg3 rfl (lb rfl)) (so rfl (sb rfl sn)) ?_
  refine st1on rfl rfl rfl (not_t (c3)) (op_neq (lb rfl)) (so rfl (so rfl sn)) ?_
  refine st1 rfl (op_pick_false (lb rfl) (not_t (c3))) (so rfl (so rfl sn)) ?_
  refine nk ?_
  refine acode_split (b := decide (c.state = 1)) (fun c4 => ?_) (fun c4 => ?_)
  ·
   replace hm := ite_t hm c4
   refine acode_cond_false rfl (not_t (c4)) ?_
   refine pk ?_
   refine acode_seq ?_
   refine acode_le (le_stU (env := [(4, .bx 4 0), (6, .bx 6 0)]) (obj := [(4, .box [aInt 0, .c (.lit (.slice none 0 0)), .c (.lit (.slice none 0 0)), .c (.lit (.slice none 0 0)), .c (.lit (.slice none 0 0))]), (6, .box [aInt x1.state, .ref 10008 [], .ref 20008 [], .ref 30008 [], .ref 40008 []]), (10008, .arr 1 (x1.marks.map (fun n : Int => [cI n]))), (20008, .arr 3 (x1.busy.map (GItem.cells true))), (30008, .arr 1 (x1.data.map (fun n : Int => [cI n]))), (40008, .arr 2 (x1.did.map (GDid.cells true)))]) idn (.cons rfl rfl (.cons rfl rfl .nil)) (.cons rfl rfl (.inl rfl) (.cons rfl rfl (.inl rfl) (.cons rfl rfl (.inl rfl) (.cons rfl rfl (.inl rfl) (.cons rfl rfl (.inl rfl) (.cons rfl rfl (.inl rfl) .nil)))))) rfl) ?_
   refine acode_region ?_
   refine fdb (off := 0) Try.underlying70 Try.sizeOf3 rfl rfl rfl (lb rfl) rfl rfl ?_
   refine st1 rfl (op_store_bxS Try.sizeOf3 rfl rfl rfl rfl) (so rfl (so rfl (sb rfl (sats_lives rfl)))) ?_
   refine nk ?_
   refine sr ?_
   refine st1 rfl (op_buildSlice0 (elem67) (lb rfl)) (sf rfl sn) ?_
   refine fdb (off := 2) Try.underlying70 Try.sizeOf67 rfl rfl rfl (lb rfl) rfl rfl ?_
   refine st1 rfl (op_store_bxS Try.sizeOf67 rfl rfl rfl rfl) (so rfl (so rfl (sb rfl (sats_lives rfl)))) ?_
   refine nk ?_
   refine sr ?_
   refine st1 rfl (op_load_bx_agg Try.isAgg70 Try.sizeOf70 rfl rfl (lb rfl)) (so rfl (sb rfl sn)) ?_
   refine st1 rfl (op_store_bxS Try.sizeOf70 rfl rfl rfl rfl) (so rfl (so rfl (sb rfl (sats_lives rfl)))) ?_
   refine as_ (lb rfl) rfl ?_
   refine nkt ?_
   obtain rfl := Option.some.inj hm
   exact fin2_retL (.cons (.agg rfl rfl Try.isAgg70 Try.sizeOf70 rfl (.c rfl (.ref rfl (.ref rfl (.ref rfl (.ref rfl .nil))))) (by rfl)) (.cons (.c rfl) .nil)) rfl .nil rfl rfl rfl
  ·
   replace hm := ite_f hm c4
   refine acode_cond_true rfl (not_f (c4)) ?_
   refine sr ?_
   refine st1 rfl (op_load_bx_agg Try.isAgg70 Try.sizeOf70 rfl rfl (lb rfl)) (so rfl (sb rfl sn)) ?_
   refine st1 rfl (op_store_bxS Try.sizeOf70 rfl rfl rfl rfl) (so rfl (so rfl (sb rfl (sats_lives rfl)))) ?_
   refine as_ (lb rfl) rfl ?_
   refine nkt ?_
   obtain rfl := Option.some.inj hm
   exact kseq_ret (fin2_retL (.cons (.agg rfl rfl Try.isAgg70 Try.sizeOf70 rfl (.c rfl (.ref rfl (.ref rfl (.ref rfl (.ref rfl .nil))))) (by rfl)) (.cons (.c rfl) .nil)) rfl .nil rfl rfl rfl)
 ·
  replace hm := ite_f hm c3
  refine st1off rfl rfl (lb rfl) rfl rfl (not_f (c3)) ?_
  refine st1off rfl rfl (lb rfl) rfl rfl (not_f (c3)) ?_
  refine st1off rfl rfl (lb rfl) rfl rfl (not_f (c3)) ?_
  refine st1 rfl (op_pick_true (lb rfl) (not_f (c3))) (so rfl (so rfl sn)) ?_
  refine nk ?_
  refine acode_cond_true rfl (rfl) ?_
  refine sr ?_
  refine st1 rfl (op_load_bx_agg Try.isAgg70 Try.sizeOf70 rfl rfl (lb rfl)) (so rfl (sb rfl sn)) ?_
  refine st1 rfl (op_store_bxS Try.sizeOf70 rfl rfl rfl rfl) (so rfl (so rfl (sb rfl (sats_lives rfl)))) ?_
  refine as_ (lb rfl) rfl ?_
  refine nkt ?_
  obtain rfl := Option.some.inj hm
  exact kseq_ret (fin2_retL (.cons (.agg rfl rfl Try.isAgg70 Try.sizeOf70 rfl (.c rfl (.ref rfl (.ref rfl (.ref rfl (.ref rfl .nil))))) (by rfl)) (.cons (.c rfl) .nil)) rfl .nil rfl rfl rfl)

def m_impl_CasCase_clone (c : GCase) : Option GCase := (m_impl_cloneInts c.marks).bind fun x1 => (gd (([] : List GItem).length + c.busy.length ≤ SMALL) ((m_impl_cloneInts c.data).bind fun x3 => (gd (([] : List GDid).length + c.did.length ≤ SMALL) (some (GCase.mk c.state x1 (([] : List GItem) ++ c.busy) x3 (([] : List GDid) ++ c.did))))))

theorem c_impl_CasCase_clone (c : GCase) (rz : GCase) (hm : m_impl_CasCase_clone c = some rz) : FnB Try.prog 89 [.row (GCase.cells false c)] [.row (GCase.cells true rz)] [] := by
 unfold m_impl_CasCase_clone at hm
 refine fn_intro2 (n := 18) (rvs := [.cell 2 70]) Try.func89 rfl rfl rfl (lb rfl) rfl rfl rfl rfl rfl ?_
 refine acode_seq ?_
 refine acode_le (le_stU (env := [(0, .row [cI c.state, .sl false 1 (c.marks.map (fun n : Int => [cI n])), .sl false 3 (c.busy.map (GItem.cells false)), .sl false 1 (c.data.map (fun n : Int => [cI n])), .sl false 2 (c.did.map (GDid.cells false))])]) (obj := []) idn (.cons rfl rfl .nil) .nil rfl) ?_
 refine acode_region ?_
 refine st1 rfl (op_box rfl (lb rfl)) (so rfl (sf rfl (sats_lives rfl))) ?_
 refine st1 rfl (op_alloc Try.zeroValue70 rfl (lb rfl)) (sf rfl sn) ?_
 refine nk ?_
 refine acode_seq ?_
 refine acode_region_draw mixed rfl ?_
 refine fdb (off := 0) Try.underlying70 Try.sizeOf3 rfl rfl rfl (lb rfl) rfl rfl ?_
 refine ldb Try.isAgg3 rfl (lb rfl) rfl rfl ?_
 refine fdb (off := 1) Try.underlying70 Try.sizeOf34 rfl rfl rfl (lb rfl) rfl rfl ?_
 refine ldb Try.isAgg34 rfl (lb rfl) rfl rfl ?_
 obtain ⟨x1, hx1, hm⟩ := bnd hm
 refine st1 rfl (op_call2 (ks := []) Try.func80 rfl rfl (c_impl_cloneInts c.marks x1 hx1) (.cons (.c rfl) .nil rfl) rfl rfl (.inl rfl) .nil rfl rfl (lb rfl)) (sats_opds (.cons rfl .nil) (sats_app (sats_freshL rfl) (sats_needsO obs_nil))) ?_
 refine fdb (off := 2) Try.underlying70 Try.sizeOf67 rfl rfl rfl (lb rfl) rfl rfl ?_
 refine ldb Try.isAgg67 rfl (lb rfl) rfl rfl ?_
 obtain ⟨g2, hm⟩ := gd_some hm
 refine st1 rfl (op_appendG (rowsA := (([] : List GItem).map (GItem.cells true))) (rowsB := (c.busy.map (GItem.cells true))) (rows := ((([] : List GItem) ++ c.busy).map (GItem.cells true))) (elem67) Try.underlying67 .nil .sh rfl (okAll (rowGItem.rok true _)) rfl (lenG g2) (lb rfl) appG) (so rfl (so rfl (sf rfl (sats_objs all_nil sn)))) ?_
 refine fdb (off := 3) Try.underlying70 Try.sizeOf34 rfl rfl rfl (lb rfl) rfl rfl ?_
 refine ldb Try.isAgg34 rfl (lb rfl) rfl rfl ?_
 obtain ⟨x3, hx3, hm⟩ := bnd hm
 refine st1 rfl (op_call2 (ks := []) Try.func80 rfl rfl (c_impl_cloneInts c.data x3 hx3) (.cons (.c rfl) .nil rfl) rfl rfl (.inl rfl) .nil rfl rfl (lb rfl)) (sats_opds (.cons rfl .nil) (sats_app (sats_freshL rfl) (sats_needsO obs_nil))) ?_
 refine fdb (off := 4) Try.underlying70 Try.sizeOf68 rfl rfl rfl (lb rfl) rfl rfl ?_
 refine ldb Try.isAgg68 rfl (lb rfl) rfl rfl ?_
 obtain ⟨g4, hm⟩ := gd_some hm
 refine st1 rfl (op_appendG (rowsA := (([] : List GDid).map (GDid.cells true))) (rowsB := (c.did.map (GDid.cells true))) (rows := ((([] : List GDid) ++ c.did).map (GDid.cells true))) (elem68) Try.underlying68 .nil .sh rfl (okAll (rowGDid.rok true _)) rfl (lenG g4) (lb rfl) appG) (so rfl (so rfl (sf rfl (sats_objs all_nil sn)))) ?_
 refine st1 rfl (op_build (places := [(0, 1), (1, 1), (2, 1), (3, 1), (4, 1)]) (built70) rfl rfl (lb rfl)) (sats_opds (.cons rfl (.cons rfl (.cons rfl (.cons rfl (.cons rfl .nil))))) (sats_lives rfl)) ?_
 refine st1 rfl (op_store_bxS Try.sizeOf70 rfl rfl rfl rfl) (so rfl (so rfl (sb rfl (sats_lives rfl)))) ?_
 refine rg_nil_draw (by kernel_rfl) ?_
 refine kseq_normal ?_
 refine acode_ret ?_
 obtain rfl := Option.some.inj hm
 exact fin2_retL (.cons (.agg rfl rfl Try.isAgg70 Try.sizeOf70 rfl (.c rfl (.ref rfl (.ref rfl (.ref rfl (.ref rfl .nil))))) (by rfl)) .nil) rfl .nil rfl rfl rfl
end Go.Am
