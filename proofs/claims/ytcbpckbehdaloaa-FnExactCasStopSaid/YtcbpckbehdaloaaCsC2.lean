/- Mirrors and walks, printed by gox.py. Own work. -/
import Derived.Test.YtcbpckbehdaloaaCsC1
set_option maxRecDepth 100000
set_option maxHeartbeats 4000000
set_option linter.unusedVariables false
set_option linter.unusedSimpArgs false
namespace Go.Am
open Go Go.Proofs

def m_IndexFunc_I_k1  : Option Int := some (-1)
def m_IndexFunc_I_l0 (s : List Int) (p : Int → Option Bool) (kx0_0 : Option Int) : Nat → Int → Option Int
  | 0, _ => none
  | n0 + 1, s0_0 => if decide (s0_0 < (s.length : Int)) = true then ((getI s s0_0).bind fun x2 => ((p x2).bind fun x3 => (if x3 = true then (some s0_0) else (gd (ok64 (s0_0 + 1)) ((m_IndexFunc_I_l0 s p kx0_0 n0) (s0_0 + 1)))))) else (kx0_0)
def m_IndexFunc_I (s : List Int) (p : Int → Option Bool) : Option Int := m_IndexFunc_I_l0 s p m_IndexFunc_I_k1 FUEL 0

theorem c_IndexFunc_I {fid : FuncId} {caps : List Arg} (hfk : FnOk Try.prog fid) (hcap : plainArgs caps = true) (s : List Int) (p : Int → Option Bool) (hp : ∀ x y, p x = some y → FnB Try.prog fid ((.c (cI x)) :: caps) [.c (cB y)] []) (rz : Int) (hm : m_IndexFunc_I s p = some rz) : FnB Try.prog 141 [.c (.sl false 1 (s.map (fun n : Int => [cI n]))), .fn fid caps] [.c (cI rz)] [] := by
 unfold m_IndexFunc_I at hm
 refine fn_intro2 (n := 19) (rvs := [.tmp 4]) Try.func141 rfl rfl rfl (lb rfl) (by simp [Arg.par, hcap]) rfl rfl rfl (by simp [parOpens, parOpen, AV.ids, idsL_argAVs]) ?_
 refine acode_seq ?_
 refine acode_le (le_stU (env := [(0, .c (.sl false 1 (s.map (fun n : Int => [cI n])))), (1, .fn fid (argAVs caps))]) (obj := []) idn (.cons rfl rfl (.cons rfl (ren_fnp _) .nil)) .nil rfl) ?_
 refine acode_region ?_
 refine as_ (lb rfl) rfl ?_
 refine nk ?_
 refine acode_seq ?_
 refine sr ?_
 refine mv (lb rfl) rfl ?_
 refine st1 rfl (op_len_sh (f := (fun n : Int => [cI n])) (l := s) Try.underlying34 (lb rfl)) (so rfl sn) ?_
 refine mv (lb rfl) rfl ?_
 refine nk ?_
 refine acode_block ?_
 refine acode_loopk (xs := [0, 1, 7]) (ys := []) (S := Nat × Int) (fun z => [(8, aInt z.2)]) (fun z => []) (fun z => m_IndexFunc_I_l0 s p m_IndexFunc_I_k1 z.1 z.2 = some rz) (fun z => z.1) (FUEL, 0) (.cons rfl (.cons rfl (.cons rfl .nil))) .nil ?em ?eo rfl ?ei ?round
 case em => exact (.cons rfl rfl .nil)
 case eo => exact .nil
 case ei => exact hm
 case round =>
  rintro ⟨n0, s0_0⟩ hm
  dsimp only at hm ⊢
  cases n0 with
  | zero => rw [m_IndexFunc_I_l0] at hm; cases hm
  | succ n0 =>
   rw [m_IndexFunc_I_l0] at hm
   refine sr ?_
   refine st1 rfl (op_lss (lb rfl)) (so rfl (so rfl sn)) ?_
   refine nk ?_
   refine acode_seq ?_
   refine acode_split (b := decide (s0_0 < (s.length : Int))) (fun c1 => ?_) (fun c1 => ?_)
   ·
    replace hm := ite_t hm c1
    refine acode_cond_true rfl (c1) ?_
    refine pk ?_
    refine acode_seq ?_
    refine acode_block ?_
    refine sr ?_
    refine mv (lb rfl) rfl ?_
    refine as_ (lb rfl) rfl ?_
    refine nk ?_
    refine sr ?_
    refine mv (lb rfl) rfl ?_
    refine mv (lb rfl) rfl ?_
    refine mv (lb rfl) rfl ?_
    obtain ⟨x2, hx2, hm⟩ := bnd hm
    refine st1 rfl (op_index_shG (f := (fun n : Int => [cI n])) (l := s) Try.underlying34 Try.sizeOf3 (lb rfl) hx2) (so rfl (so rfl sn)) ?_
    refine st1 rfl (op_load_pts Try.isAgg3 rfl (lb rfl)) (so rfl sn) ?_
    obtain ⟨x3, hx3, hm⟩ := bnd hm
    refine st1 rfl (op_callP hfk hcap (hp _ x3 hx3) (.c rfl) (lb rfl)) (so rfl (sats_opds (.cons rfl .nil) (sats_app (sats_freshL rfl) (sats_needsO obs_nil)))) ?_
    refine nk ?_
    refine acode_split (b := x3) (fun c4 => ?_) (fun c4 => ?_)
    ·
     replace hm := ite_t hm c4
     refine acode_cond_true rfl (c4) ?_
     refine sr ?_
     refine mv (lb rfl) rfl ?_
     refine as_ (lb rfl) rfl ?_
     refine nkt ?_
     obtain rfl := Option.some.inj hm
     exact kblk_ret (kseq_ret (klg_ret (kblk_ret (kseq_ret (fin2_retL (.cons (.c rfl) .nil) rfl .nil rfl rfl rfl)))))
    ·
     replace hm := ite_f hm c4
     refine acode_cond_false rfl (c4) ?_
     refine acode_skip ?_
     refine kblk_normal (kseq_normal ?_)
     refine acode_region ?_
     obtain ⟨g5, hm⟩ := gd_some hm
     refine st1 rfl (op_add (lb rfl) g5) (so rfl (so rfl sn)) ?_
     refine mv (lb rfl) rfl ?_
     refine rg_nil_seq ?_
     refine klg_back (n0, (s0_0 + 1)) hm (Nat.lt_succ_self _) ?_
     exact le_stU idn (.cons rfl rfl (.cons rfl rfl (.cons rfl (ren_fnp _) (.cons rfl rfl .nil)))) .nil rfl
   ·
    replace hm := ite_f hm c1
    refine acode_cond_false rfl (c1) ?_
    refine acode_exit ?_
    unfold m_IndexFunc_I_k1 at hm
    refine kseq_exit (klg_exit (kblk_hit (kseq_normal ?_)))
    refine sr ?_
    refine as_ (lb rfl) rfl ?_
    refine nkt ?_
    obtain rfl := Option.some.inj hm
    exact fin2_retL (.cons (.c rfl) .nil) rfl .nil rfl rfl rfl

def m_ContainsFunc_I (s : List Int) (p : Int → Option Bool) : Option Bool := (m_IndexFunc_I s p).bind fun x1 => (some (decide (0 ≤ x1)))

theorem c_ContainsFunc_I {fid : FuncId} {caps : List Arg} (hfk : FnOk Try.prog fid) (hcap : plainArgs caps = true) (s : List Int) (p : Int → Option Bool) (hp : ∀ x y, p x = some y → FnB Try.prog fid ((.c (cI x)) :: caps) [.c (cB y)] []) (rz : Bool) (hm : m_ContainsFunc_I s p = some rz) : FnB Try.prog 127 [.c (.sl false 1 (s.map (fun n : Int => [cI n]))), .fn fid caps] [.c (cB rz)] [] := by
 unfold m_ContainsFunc_I at hm
 refine fn_intro2 (n := 9) (rvs := [.tmp 4]) Try.func127 rfl rfl rfl (lb rfl) (by simp [Arg.par, hcap]) rfl rfl rfl (by simp [parOpens, parOpen, AV.ids, idsL_argAVs]) ?_
 refine acode_seq ?_
 refine acode_le (le_stU (env := [(0, .c (.sl false 1 (s.map (fun n : Int => [cI n])))), (1, .fn fid (argAVs caps))]) (obj := []) idn (.cons rfl rfl (.cons rfl (ren_fnp _) .nil)) .nil rfl) ?_
 refine acode_region ?_
 refine as_ (lb rfl) rfl ?_
 refine nk ?_
 refine sr ?_
 refine mv (lb rfl) rfl ?_
 refine mv (lb rfl) rfl ?_
 obtain ⟨x1, hx1, hm⟩ := bnd hm
 refine st1 rfl (op_call2 (ks := []) Try.func141 rfl rfl (c_IndexFunc_I hfk hcap s p hp x1 hx1) (.cons (.c rfl) (.cons (giv_argAVs fid caps hcap) .nil rfl) rfl) rfl rfl (.inl rfl) .nil rfl rfl (lb rfl)) (sats_opds (.cons rfl (.cons rfl .nil)) (sats_app (sats_freshL rfl) (sats_needsO obs_nil))) ?_
 refine st1 rfl (op_geq (lb rfl)) (so rfl (so rfl sn)) ?_
 refine as_ (lb rfl) rfl ?_
 refine nkt ?_
 obtain rfl := Option.some.inj hm
 exact fin2_retL (.cons (.c rfl) .nil) rfl .nil rfl rfl rfl

def m_IndexFunc_GReq_k1  : Option Int := some (-1)
def m_IndexFunc_GReq_l0 (s : List GReq) (p : GReq → Option Bool) (kx0_0 : Option Int) : Nat → Int → Option Int
  | 0, _ => none
  | n0 + 1, s0_0 => if decide (s0_0 < (s.length : Int)) = true then ((getI s s0_0).bind fun x2 => ((p x2).bind fun x3 => (if x3 = true then (some s0_0) else (gd (ok64 (s0_0 + 1)) ((m_IndexFunc_GReq_l0 s p kx0_0 n0) (s0_0 + 1)))))) else (kx0_0)
def m_IndexFunc_GReq (s : List GReq) (p : GReq → Option Bool) : Option Int := m_IndexFunc_GReq_l0 s p m_IndexFunc_GReq_k1 FUEL 0


def m_ContainsFunc_GReq (s : List GReq) (p : GReq → Option Bool) : Option Bool := (m_IndexFunc_GReq s p).bind fun x1 => (some (decide (0 ≤ x1)))


def m_IndexFunc_GTask_k1  : Option Int := some (-1)
def m_IndexFunc_GTask_l0 (s : List GTask) (p : GTask → Option Bool) (kx0_0 : Option Int) : Nat → Int → Option Int
  | 0, _ => none
  | n0 + 1, s0_0 => if decide (s0_0 < (s.length : Int)) = true then ((getI s s0_0).bind fun x2 => ((p x2).bind fun x3 => (if x3 = true then (some s0_0) else (gd (ok64 (s0_0 + 1)) ((m_IndexFunc_GTask_l0 s p kx0_0 n0) (s0_0 + 1)))))) else (kx0_0)
def m_IndexFunc_GTask (s : List GTask) (p : GTask → Option Bool) : Option Int := m_IndexFunc_GTask_l0 s p m_IndexFunc_GTask_k1 FUEL 0

theorem c_IndexFunc_GTask {fid : FuncId} {caps : List Arg} (hfk : FnOk Try.prog fid) (hcap : plainArgs caps = true) (s : List GTask) (p : GTask → Option Bool) (hp : ∀ x y, p x = some y → FnB Try.prog fid ((.row (GTask.cells false x)) :: caps) [.c (cB y)] []) (rz : Int) (hm : m_IndexFunc_GTask s p = some rz) : FnB Try.prog 155 [.c (.sl false 9 (s.map (GTask.cells false))), .fn fid caps] [.c (cI rz)] [] := by
 unfold m_IndexFunc_GTask at hm
 refine fn_intro2 (n := 19) (rvs := [.tmp 4]) Try.func155 rfl rfl rfl (lb rfl) (by simp [Arg.par, hcap]) rfl rfl rfl (by simp [parOpens, parOpen, AV.ids, idsL_argAVs]) ?_
 refine acode_seq ?_
 refine acode_le (le_stU (env := [(0, .c (.sl false 9 (s.map (GTask.cells false)))), (1, .fn fid (argAVs caps))]) (obj := []) idn (.cons rfl rfl (.cons rfl (ren_fnp _) .nil)) .nil rfl) ?_
 refine acode_region ?_
 refine as_ (lb rfl) rfl ?_
 refine nk ?_
 refine acode_seq ?_
 refine sr ?_
 refine mv (lb rfl) rfl ?_
 refine st1 rfl (op_len_sh (f := (GTask.cells false)) (l := s) Try.underlying63 (lb rfl)) (so rfl sn) ?_
 refine mv (lb rfl) rfl ?_
 refine nk ?_
 refine acode_block ?_
 refine acode_loopk (xs := [0, 1, 7]) (ys := []) (S := Nat × Int) (fun z => [(8, aInt z.2)]) (fun z => []) (fun z => m_IndexFunc_GTask_l0 s p m_IndexFunc_GTask_k1 z.1 z.2 = some rz) (fun z => z.1) (FUEL, 0) (.cons rfl (.cons rfl (.cons rfl .nil))) .nil ?em ?eo rfl ?ei ?round
 case em => exact (.cons rfl rfl .nil)
 case eo => exact .nil
 case ei => exact hm
 case round =>
  rintro ⟨n0, s0_0⟩ hm
  dsimp only at hm ⊢
  cases n0 with
  | zero => rw [m_IndexFunc_GTask_l0] at hm; cases hm
  | succ n0 =>
   rw [m_IndexFunc_GTask_l0] at hm
   refine sr ?_
   refine st1 rfl (op_lss (lb rfl)) (so rfl (so rfl sn)) ?_
   refine nk ?_
   refine acode_seq ?_
   refine acode_split (b := decide (s0_0 < (s.length : Int))) (fun c1 => ?_) (fun c1 => ?_)
   ·
    replace hm := ite_t hm c1
    refine acode_cond_true rfl (c1) ?_
    refine pk ?_
    refine acode_seq ?_
    refine acode_block ?_
    refine sr ?_
    refine mv (lb rfl) rfl ?_
    refine as_ (lb rfl) rfl ?_
    refine nk ?_
    refine sr ?_
    refine mv (lb rfl) rfl ?_
    refine mv (lb rfl) rfl ?_
    refine mv (lb rfl) rfl ?_
    obtain ⟨x2, hx2, hm⟩ := bnd hm
    refine st1 rfl (op_index_shG (f := (GTask.cells false)) (l := s) Try.underlying63 Try.sizeOf119 (lb rfl) hx2) (so rfl (so rfl sn)) ?_
    refine st1 rfl (op_load_pts_row Try.isAgg119 Try.sizeOf119 rfl rfl (lb rfl)) (so rfl sn) ?_
    obtain ⟨x3, hx3, hm⟩ := bnd hm
    refine st1 rfl (op_callP hfk hcap (hp _ x3 hx3) (.row rfl) (lb rfl)) (so rfl (sats_opds (.cons rfl .nil) (sats_app (sats_freshL rfl) (sats_needsO obs_nil)))) ?_
    refine nk ?_
    refine acode_split (b := x3) (fun c4 => ?_) (fun c4 => ?_)
    ·
     replace hm := ite_t hm c4
     refine acode_cond_true rfl (c4) ?_
     refine sr ?_
     refine mv (lb rfl) rfl ?_
     refine as_ (lb rfl) rfl ?_
     refine nkt ?_
     obtain rfl := Option.some.inj hm
     exact kblk_ret (kseq_ret (klg_ret (kblk_ret (kseq_ret (fin2_retL (.cons (.c rfl) .nil) rfl .nil rfl rfl rfl)))))
    ·
     replace hm := ite_f hm c4
     refine acode_cond_false rfl (c4) ?_
     refine acode_skip ?_
     refine kblk_normal (kseq_normal ?_)
     refine acode_region ?_
     obtain ⟨g5, hm⟩ := gd_some hm
     refine st1 rfl (op_add (lb rfl) g5) (so rfl (so rfl sn)) ?_
     refine mv (lb rfl) rfl ?_
     refine rg_nil_seq ?_
     refine klg_back (n0, (s0_0 + 1)) hm (Nat.lt_succ_self _) ?_
     exact le_stU idn (.cons rfl rfl (.cons rfl rfl (.cons rfl (ren_fnp _) (.cons rfl rfl .nil)))) .nil rfl
   ·
    replace hm := ite_f hm c1
    refine acode_cond_false rfl (c1) ?_
    refine acode_exit ?_
    unfold m_IndexFunc_GTask_k1 at hm
    refine kseq_exit (klg_exit (kblk_hit (kseq_normal ?_)))
    refine sr ?_
    refine as_ (lb rfl) rfl ?_
    refine nkt ?_
    obtain rfl := Option.some.inj hm
    exact fin2_retL (.cons (.c rfl) .nil) rfl .nil rfl rfl rfl

def m_ContainsFunc_GTask (s : List GTask) (p : GTask → Option Bool) : Option Bool := (m_IndexFunc_GTask s p).bind fun x1 => (some (decide (0 ≤ x1)))

theorem c_ContainsFunc_GTask {fid : FuncId} {caps : List Arg} (hfk : FnOk Try.prog fid) (hcap : plainArgs caps = true) (s : List GTask) (p : GTask → Option Bool) (hp : ∀ x y, p x = some y → FnB Try.prog fid ((.row (GTask.cells false x)) :: caps) [.c (cB y)] []) (rz : Bool) (hm : m_ContainsFunc_GTask s p = some rz) : FnB Try.prog 148 [.c (.sl false 9 (s.map (GTask.cells false))), .fn fid caps] [.c (cB rz)] [] := by
 unfold m_ContainsFunc_GTask at hm
 refine fn_intro2 (n := 9) (rvs := [.tmp 4]) Try.func148 rfl rfl rfl (lb rfl) (by simp [Arg.par, hcap]) rfl rfl rfl (by simp [parOpens, parOpen, AV.ids, idsL_argAVs]) ?_
 refine acode_seq ?_
 refine acode_le (le_stU (env := [(0, .c (.sl false 9 (s.map (GTask.cells false)))), (1, .fn fid (argAVs caps))]) (obj := []) idn (.cons rfl rfl (.cons rfl (ren_fnp _) .nil)) .nil rfl) ?_
 refine acode_region ?_
 refine as_ (lb rfl) rfl ?_
 refine nk ?_
 refine sr ?_
 refine mv (lb rfl) rfl ?_
 refine mv (lb rfl) rfl ?_
 obtain ⟨x1, hx1, hm⟩ := bnd hm
 refine st1 rfl (op_call2 (ks := []) Try.func155 rfl rfl (c_IndexFunc_GTask hfk hcap s p hp x1 hx1) (.cons (.c rfl) (.cons (giv_argAVs fid caps hcap) .nil rfl) rfl) rfl rfl (.inl rfl) .nil rfl rfl (lb rfl)) (sats_opds (.cons rfl (.cons rfl .nil)) (sats_app (sats_freshL rfl) (sats_needsO obs_nil))) ?_
 refine st1 rfl (op_geq (lb rfl)) (so rfl (so rfl sn)) ?_
 refine as_ (lb rfl) rfl ?_
 refine nkt ?_
 obtain rfl := Option.some.inj hm
 exact fin2_retL (.cons (.c rfl) .nil) rfl .nil rfl rfl rfl

def m_IndexFunc_GNet_k1  : Option Int := some (-1)
def m_IndexFunc_GNet_l0 (s : List GNet) (p : GNet → Option Bool) (kx0_0 : Option Int) : Nat → Int → Option Int
  | 0, _ => none
  | n0 + 1, s0_0 => if decide (s0_0 < (s.length : Int)) = true then ((getI s s0_0).bind fun x2 => ((p x2).bind fun x3 => (if x3 = true then (some s0_0) else (gd (ok64 (s0_0 + 1)) ((m_IndexFunc_GNet_l0 s p kx0_0 n0) (s0_0 + 1)))))) else (kx0_0)
def m_IndexFunc_GNet (s : List GNet) (p : GNet → Option Bool) : Option Int := m_IndexFunc_GNet_l0 s p m_IndexFunc_GNet_k1 FUEL 0


def m_ContainsFunc_GNet (s : List GNet) (p : GNet → Option Bool) : Option Bool := (m_IndexFunc_GNet s p).bind fun x1 => (some (decide (0 ≤ x1)))


def m_IndexFunc_GItem_k1  : Option Int := some (-1)
def m_IndexFunc_GItem_l0 (s : List GItem) (p : GItem → Option Bool) (kx0_0 : Option Int) : Nat → Int → Option Int
  | 0, _ => none
  | n0 + 1, s0_0 => if decide (s0_0 < (s.length : Int)) = true then ((getI s s0_0).bind fun x2 => ((p x2).bind fun x3 => (if x3 = true then (some s0_0) else (gd (ok64 (s0_0 + 1)) ((m_IndexFunc_GItem_l0 s p kx0_0 n0) (s0_0 + 1)))))) else (kx0_0)
def m_IndexFunc_GItem (s : List GItem) (p : GItem → Option Bool) : Option Int := m_IndexFunc_GItem_l0 s p m_IndexFunc_GItem_k1 FUEL 0


def m_ContainsFunc_GItem (s : List GItem) (p : GItem → Option Bool) : Option Bool := (m_IndexFunc_GItem s p).bind fun x1 => (some (decide (0 ≤ x1)))


def m_Index_I_k1  : Option Int := some (-1)
def m_Index_I_l0 (s : List Int) (v : Int) (kx0_0 : Option Int) : Nat → Int → Option Int
  | 0, _ => none
  | n0 + 1, s0_0 => if decide (s0_0 < (s.length : Int)) = true then ((getI s s0_0).bind fun x2 => (if decide (v = x2) = true then (some s0_0) else (gd (ok64 (s0_0 + 1)) ((m_Index_I_l0 s v kx0_0 n0) (s0_0 + 1))))) else (kx0_0)
def m_Index_I (s : List Int) (v : Int) : Option Int := m_Index_I_l0 s v m_Index_I_k1 FUEL 0

theorem c_Index_I (s : List Int) (v : Int) (rz : Int) (hm : m_Index_I s v = some rz) : FnB Try.prog 161 [.c (.sl false 1 (s.map (fun n : Int => [cI n]))), .c (cI v)] [.c (cI rz)] [] := by
 unfold m_Index_I at hm
 refine fn_intro2 (n := 19) (rvs := [.tmp 4]) Try.func161 rfl rfl rfl (lb rfl) rfl rfl rfl rfl rfl ?_
 refine acode_seq ?_
 refine acode_le (le_stU (env := [(0, .c (.sl false 1 (s.map (fun n : Int => [cI n])))), (1, aInt v)]) (obj := []) idn (.cons rfl rfl (.cons rfl rfl .nil)) .nil rfl) ?_
 refine acode_region ?_
 refine as_ (lb rfl) rfl ?_
 refine nk ?_
 refine acode_seq ?_
 refine sr ?_
 refine mv (lb rfl) rfl ?_
 refine st1 rfl (op_len_sh (f := (fun n : Int => [cI n])) (l := s) Try.underlying34 (lb rfl)) (so rfl sn) ?_
 refine mv (lb rfl) rfl ?_
 refine nk ?_
 refine acode_block ?_
 refine acode_loopk (xs := [0, 1, 7]) (ys := []) (S := Nat × Int) (fun z => [(8, aInt z.2)]) (fun z => []) (fun z => m_Index_I_l0 s v m_Index_I_k1 z.1 z.2 = some rz) (fun z => z.1) (FUEL, 0) (.cons rfl (.cons rfl (.cons rfl .nil))) .nil ?em ?eo rfl ?ei ?round
 case em => exact (.cons rfl rfl .nil)
 case eo => exact .nil
 case ei => exact hm
 case round =>
  rintro ⟨n0, s0_0⟩ hm
  dsimp only at hm ⊢
  cases n0 with
  | zero => rw [m_Index_I_l0] at hm; cases hm
  | succ n0 =>
   rw [m_Index_I_l0] at hm
   refine sr ?_
   refine st1 rfl (op_lss (lb rfl)) (so rfl (so rfl sn)) ?_
   refine nk ?_
   refine acode_seq ?_
   refine acode_split (b := decide (s0_0 < (s.length : Int))) (fun c1 => ?_) (fun c1 => ?_)
   ·
    replace hm := ite_t hm c1
    refine acode_cond_true rfl (c1) ?_
    refine pk ?_
    refine acode_seq ?_
    refine acode_block ?_
    refine sr ?_
    refine mv (lb rfl) rfl ?_
    refine as_ (lb rfl) rfl ?_
    refine nk ?_
    refine sr ?_
    refine mv (lb rfl) rfl ?_
    refine mv (lb rfl) rfl ?_
    refine mv (lb rfl) rfl ?_
    obtain ⟨x2, hx2, hm⟩ := bnd hm
    refine st1 rfl (op_index_shG (f := (fun n : Int => [cI n])) (l := s) Try.underlying34 Try.sizeOf3 (lb rfl) hx2) (so rfl (so rfl sn)) ?_
    refine st1 rfl (op_load_pts Try.isAgg3 rfl (lb rfl)) (so rfl sn) ?_
    refine st1 rfl (op_eql (lb rfl)) (so rfl (so rfl sn)) ?_
    refine nk ?_
    refine acode_split (b := decide (v = x2)) (fun c3 => ?_) (fun c3 => ?_)
    ·
     replace hm := ite_t hm c3
     refine acode_cond_true rfl (c3) ?_
     refine sr ?_
     refine mv (lb rfl) rfl ?_
     refine as_ (lb rfl) rfl ?_
     refine nkt ?_
     obtain rfl := Option.some.inj hm
     exact kblk_ret (kseq_ret (klg_ret (kblk_ret (kseq_ret (fin2_retL (.cons (.c rfl) .nil) rfl .nil rfl rfl rfl)))))
    ·
     replace hm := ite_f hm c3
     refine acode_cond_false rfl (c3) ?_
     refine acode_skip ?_
     refine kblk_normal (kseq_normal ?_)
     refine acode_region ?_
     obtain ⟨g4, hm⟩ := gd_some hm
     refine st1 rfl (op_add (lb rfl) g4) (so rfl (so rfl sn)) ?_
     refine mv (lb rfl) rfl ?_
     refine rg_nil_seq ?_
     refine klg_back (n0, (s0_0 + 1)) hm (Nat.lt_succ_self _) ?_
     exact le_stU idn (.cons rfl rfl (.cons rfl rfl (.cons rfl rfl (.cons rfl rfl .nil)))) .nil rfl
   ·
    replace hm := ite_f hm c1
    refine acode_cond_false rfl (c1) ?_
    refine acode_exit ?_
    unfold m_Index_I_k1 at hm
    refine kseq_exit (klg_exit (kblk_hit (kseq_normal ?_)))
    refine sr ?_
    refine as_ (lb rfl) rfl ?_
    refine nkt ?_
    obtain rfl := Option.some.inj hm
    exact fin2_retL (.cons (.c rfl) .nil) rfl .nil rfl rfl rfl

def m_Contains_I (s : List Int) (v : Int) : Option Bool := (m_Index_I s v).bind fun x1 => (some (decide (0 ≤ x1)))

theorem c_Contains_I (s : List Int) (v : Int) (rz : Bool) (hm : m_Contains_I s v = some rz) : FnB Try.prog 160 [.c (.sl false 1 (s.map (fun n : Int => [cI n]))), .c (cI v)] [.c (cB rz)] [] := by
 unfold m_Contains_I at hm
 refine fn_intro2 (n := 9) (rvs := [.tmp 4]) Try.func160 rfl rfl rfl (lb rfl) rfl rfl rfl rfl rfl ?_
 refine acode_seq ?_
 refine acode_le (le_stU (env := [(0, .c (.sl false 1 (s.map (fun n : Int => [cI n])))), (1, aInt v)]) (obj := []) idn (.cons rfl rfl (.cons rfl rfl .nil)) .nil rfl) ?_
 refine acode_region ?_
 refine as_ (lb rfl) rfl ?_
 refine nk ?_
 refine sr ?_
 refine mv (lb rfl) rfl ?_
 refine mv (lb rfl) rfl ?_
 obtain ⟨x1, hx1, hm⟩ := bnd hm
 refine st1 rfl (op_call2 (ks := []) Try.func161 rfl rfl (c_Index_I s v x1 hx1) (.cons (.c rfl) (.cons (.c rfl) .nil rfl) rfl) rfl rfl (.inl rfl) .nil rfl rfl (lb rfl)) (sats_opds (.cons rfl (.cons rfl .nil)) (sats_app (sats_freshL rfl) (sats_needsO obs_nil))) ?_
 refine st1 rfl (op_geq (lb rfl)) (so rfl (so rfl sn)) ?_
 refine as_ (lb rfl) rfl ?_
 refine nkt ?_
 obtain rfl := Option.some.inj hm
 exact fin2_retL (.cons (.c rfl) .nil) rfl .nil rfl rfl rfl

def m_impl_DatOk_1 (n : Int) : Option Bool := (m_impl_isDatum n).bind fun x1 => (some (!x1))

theorem c_impl_DatOk_1 (n : Int) (rz : Bool) (hm : m_impl_DatOk_1 n = some rz) : FnB Try.prog 135 [.c (cI n)] [.c (cB rz)] [] := by
 unfold m_impl_DatOk_1 at hm
 refine fn_intro2 (n := 6) (rvs := [.tmp 2]) Try.func135 rfl rfl rfl (lb rfl) rfl rfl rfl rfl rfl ?_
 refine acode_seq ?_
 refine acode_le (le_stU (env := [(0, aInt n)]) (obj := []) idn (.cons rfl rfl .nil) .nil rfl) ?_
 refine acode_region ?_
 refine as_ (lb rfl) rfl ?_
 refine nk ?_
 refine sr ?_
 refine mv (lb rfl) rfl ?_
 obtain ⟨x1, hx1, hm⟩ := bnd hm
 refine st1 rfl (op_call2 (ks := []) Try.func96 rfl rfl (c_impl_isDatum n x1 hx1) (.cons (.c rfl) .nil rfl) rfl rfl (.inl rfl) .nil rfl rfl (lb rfl)) (sats_opds (.cons rfl .nil) (sats_app (sats_freshL rfl) (sats_needsO obs_nil))) ?_
 refine st1 rfl (op_not (lb rfl)) (so rfl sn) ?_
 refine as_ (lb rfl) rfl ?_
 refine nkt ?_
 obtain rfl := Option.some.inj hm
 exact fin2_retL (.cons (.c rfl) .nil) rfl .nil rfl rfl rfl

def m_impl_DatOk (data : List Int) : Option Bool := if decide ((data.length : Int) = 3) = true then ((m_ContainsFunc_I data (fun z => m_impl_DatOk_1 z )).bind fun x2 => (some (!x2))) else (some false)

theorem c_impl_DatOk (data : List Int) (rz : Bool) (hm : m_impl_DatOk data = some rz) : FnB Try.prog 108 [.c (.sl false 1 (data.map (fun n : Int => [cI n])))] [.c (cB rz)] [] := by
 unfold m_impl_DatOk at hm
 refine fn_intro2 (n := 11) (rvs := [.tmp 2]) Try.func108 rfl rfl rfl (lb rfl) rfl rfl rfl rfl rfl ?_
 refine acode_seq ?_
 refine acode_le (le_stU (env := [(0, .c (.sl false 1 (data.map (fun n : Int => [cI n]))))]) (obj := []) idn (.cons rfl rfl .nil) .nil rfl) ?_
 refine acode_region ?_
 refine as_ (lb rfl) rfl ?_
 refine nk ?_
 refine sr ?_
 refine mv (lb rfl) rfl ?_
 refine st1 rfl (op_len_sh (f := (fun n : Int => [cI n])) (l := data) Try.underlying34 (lb rfl)) (so rfl sn) ?_
 refine st1 rfl (op_eql (lb rfl)) (so rfl (so rfl sn)) ?_
 refine mv (lb rfl) rfl ?_
 refine rg_split (b := decide ((data.length : Int) = 3)) (fun c1 => ?_) (fun c1 => ?_)
 ·
  replace hm := ite_t hm c1
  refine st1on rfl rfl rfl (c1) (op_move (lb rfl)) (so rfl sn) ?_
  obtain ⟨x2, hx2, hm⟩ := bnd hm
  refine st1on rfl rfl rfl (c1) (op_call2 (ks := []) Try.func127 rfl rfl (c_ContainsFunc_I ⟨_, _, Try.func135, rfl, rfl⟩ rfl data (fun z => m_impl_DatOk_1 z ) (fun z y hz => c_impl_DatOk_1 z  y hz) x2 hx2) (.cons (.c rfl) (.cons .fnNil .nil rfl) rfl) rfl rfl (.inl rfl) .nil rfl rfl (lb rfl)) (sats_opds (.cons rfl (.cons rfl .nil)) (sats_app (sats_freshL rfl) (sats_needsO obs_nil))) ?_
  refine st1on rfl rfl rfl (c1) (op_not (lb rfl)) (so rfl sn) ?_
  refine st1 rfl (op_pick_true (lb rfl) (c1)) (so rfl (so rfl sn)) ?_
  refine as_ (lb rfl) rfl ?_
  refine nkt ?_
  obtain rfl := Option.some.inj hm
  exact fin2_retL (.cons (.c rfl) .nil) rfl .nil rfl rfl rfl
 ·
  replace hm := ite_f hm c1
  refine st1off rfl rfl (lb rfl) rfl rfl (c1) ?_
  refine st1off rfl rfl (lb rfl) rfl rfl (c1) ?_
  refine st1off rfl rfl (lb rfl) rfl rfl (c1) ?_
  refine st1 rfl (op_pick_false (lb rfl) (c1)) (so rfl (so rfl sn)) ?_
  refine as_ (lb rfl) rfl ?_
  refine nkt ?_
  obtain rfl := Option.some.inj hm
  exact fin2_retL (.cons (.c rfl) .nil) rfl .nil rfl rfl rfl

def m_impl_ExpHolds (e : GAsk) (data : List Int) : Option Bool := (m_impl_ExpOk e).bind fun x1 => (if x1 = true then ((m_impl_DatOk data).bind fun x3 => (if x3 = true then (if decide (e.op = 1) = true then ((getI data e.var).bind fun x6 => (some (decide (x6 < e.k)))) else (if decide (e.op = 2) = true then ((getI data e.var).bind fun x8 => (some (decide (x8 = e.k)))) else (if decide (e.op = 3) = true then ((getI data e.var).bind fun x10 => (some (decide (e.k < x10)))) else (some true)))) else (some false))) else (some false))


def m_impl_ascends_k1  : Option Bool := some true
def m_impl_ascends_l0 (list : List Int) (places : Int) (without : List Int) (kx0_0 : Option Bool) : Nat → Int → Int → Option Bool
  | 0, _, _ => none
  | n0 + 1, s0_0, s0_1 => if decide (s0_0 < (list.length : Int)) = true then ((getI list s0_0).bind fun x2 => (gd (ok64 (s0_1 + 1)) (gd (ok64 (places - 1)) ((m_impl_in x2 (s0_1 + 1) (places - 1)).bind fun x5 => (if x5 = true then ((m_Contains_I without x2).bind fun x7 => (if x7 = true then (some false) else (gd (ok64 (s0_0 + 1)) ((m_impl_ascends_l0 list places without kx0_0 n0) (s0_0 + 1) x2)))) else (some false)))))) else (kx0_0)
def m_impl_ascends (list : List Int) (places : Int) (without : List Int) : Option Bool := m_impl_ascends_l0 list places without m_impl_ascends_k1 FUEL 0 (-1)

theorem c_impl_ascends (list : List Int) (places : Int) (without : List Int) (rz : Bool) (hm : m_impl_ascends list places without = some rz) : FnB Try.prog 157 [.c (.sl false 1 (list.map (fun n : Int => [cI n]))), .c (cI places), .c (.sl false 1 (without.map (fun n : Int => [cI n])))] [.c (cB rz)] [] := by
 unfold m_impl_ascends at hm
 refine fn_intro2 (n := 30) (rvs := [.tmp 6]) Try.func157 rfl rfl rfl (lb rfl) rfl rfl rfl rfl rfl ?_
 refine acode_seq ?_
 refine acode_le (le_stU (env := [(0, .c (.sl false 1 (list.map (fun n : Int => [cI n])))), (1, aInt places), (2, .c (.sl false 1 (without.map (fun n : Int => [cI n]))))]) (obj := []) idn (.cons rfl rfl (.cons rfl rfl (.cons rfl rfl .nil))) .nil rfl) ?_
 refine acode_region ?_
 refine as_ (lb rfl) rfl ?_
 refine nk ?_
 refine sr ?_
 refine as_ (lb rfl) rfl ?_
 refine nk ?_
 refine acode_seq ?_
 refine sr ?_
 refine mv (lb rfl) rfl ?_
 refine st1 rfl (op_len_sh (f := (fun n : Int => [cI n])) (l := list) Try.underlying34 (lb rfl)) (so rfl sn) ?_
 refine mv (lb rfl) rfl ?_
 refine nk ?_
 refine acode_block ?_
 refine acode_loopk (xs := [1, 2, 10, 11]) (ys := []) (S := Nat × Int × Int) (fun z => [(7, aInt z.2.2), (12, aInt z.2.1)]) (fun z => []) (fun z => m_impl_ascends_l0 list places without m_impl_ascends_k1 z.1 z.2.1 z.2.2 = some rz) (fun z => z.1) (FUEL, 0, (-1)) (.cons rfl (.cons rfl (.cons rfl (.cons rfl .nil)))) .nil ?em ?eo rfl ?ei ?round
 case em => exact (.cons rfl rfl (.cons rfl rfl .nil))
 case eo => exact .nil
 case ei => exact hm
 case round =>
  rintro ⟨n0, s0_0, s0_1⟩ hm
  dsimp only at hm ⊢
  cases n0 with
  | zero => rw [m_impl_ascends_l0] at hm; cases hm
  | succ n0 =>
   rw [m_impl_ascends_l0] at hm
   refine sr ?_
   refine st1 rfl (op_lss (lb rfl)) (so rfl (so rfl sn)) ?_
   refine nk ?_
   refine acode_seq ?_
   refine acode_split (b := decide (s0_0 < (list.length : Int))) (fun c1 => ?_) (fun c1 => ?_)
   ·
    replace hm := ite_t hm c1
    refine acode_cond_true rfl (c1) ?_
    refine pk ?_
    refine acode_seq ?_
    refine acode_block ?_
    refine sr ?_
    obtain ⟨x2, hx2, hm⟩ := bnd hm
    refine st1 rfl (op_index_shG (f := (fun n : Int => [cI n])) (l := list) Try.underlying34 Try.sizeOf3 (lb rfl) hx2) (so rfl (so rfl sn)) ?_
    refine st1 rfl (op_load_pts Try.isAgg3 rfl (lb rfl)) (so rfl sn) ?_
    refine as_ (lb rfl) rfl ?_
    refine nk ?_
    refine acode_seq ?_
    refine sr ?_
    refine mv (lb rfl) rfl ?_
    refine mv (lb rfl) rfl ?_
    obtain ⟨g3, hm⟩ := gd_some hm
    refine st1 rfl (op_add (lb rfl) g3) (so rfl (so rfl sn)) ?_
    refine mv (lb rfl) rfl ?_
    obtain ⟨g4, hm⟩ := gd_some hm
    refine st1 rfl (op_sub (lb rfl) g4) (so rfl (so rfl sn)) ?_
    obtain ⟨x5, hx5, hm⟩ := bnd hm
    refine st1 rfl (op_call2 (ks := []) Try.func52 rfl rfl (c_impl_in x2 (s0_1 + 1) (places - 1) x5 hx5) (.cons (.c rfl) (.cons (.c rfl) (.cons (.c rfl) .nil rfl) rfl) rfl) rfl rfl (.inl rfl) .nil rfl rfl (lb rfl)) (sats_opds (.cons rfl (.cons rfl (.cons rfl .nil))) (sats_app (sats_freshL rfl) (sats_needsO obs_nil))) ?_
    refine st1 rfl (op_not (lb rfl)) (so rfl sn) ?_
    refine mv (lb rfl) rfl ?_
    refine rg_split (b := x5) (fun c6 => ?_) (fun c6 => ?_)
    ·
     replace hm := ite_t hm c6
     refine st1on rfl rfl rfl (not_t (c6)) (op_move (lb rfl)) (so rfl sn) ?_
     refine st1on rfl rfl rfl (not_t (c6)) (op_move (lb rfl)) (so rfl sn) ?_
     obtain ⟨x7, hx7, hm⟩ := bnd hm
     refine st1on rfl rfl rfl (not_t (c6)) (op_call2 (ks := []) Try.func160 rfl rfl (c_Contains_I without x2 x7 hx7) (.cons (.c rfl) (.cons (.c rfl) .nil rfl) rfl) rfl rfl (.inl rfl) .nil rfl rfl (lb rfl)) (sats_opds (.cons rfl (.cons rfl .nil)) (sats_app (sats_freshL rfl) (sats_needsO obs_nil))) ?_
     refine st1 rfl (op_pick_false (lb rfl) (not_t (c6))) (so rfl (so rfl sn)) ?_
     refine nk ?_
     refine acode_split (b := x7) (fun c8 => ?_) (fun c8 => ?_)
     ·
      replace hm := ite_t hm c8
      refine acode_cond_true rfl (c8) ?_
      refine acode_seq ?_
      refine acode_le (le_stU (env := []) (obj := []) idn .nil .nil rfl) ?_
      refine acode_region ?_
      refine as_ (lb rfl) rfl ?_
      refine nkt ?_
      obtain rfl := Option.some.inj hm
      exact kseq_ret (kblk_ret (kseq_ret (klg_ret (kblk_ret (kseq_ret (fin2_retL (.cons (.c rfl) .nil) rfl .nil rfl rfl rfl))))))
     ·
      replace hm := ite_f hm c8
      refine acode_cond_false rfl (c8) ?_
      refine pk ?_
      refine acode_region ?_
      refine mv (lb rfl) rfl ?_
      refine as_ (lb rfl) rfl ?_
      refine rg_nil_seq ?_
      refine kblk_normal (kseq_normal ?_)
      refine acode_region ?_
      obtain ⟨g9, hm⟩ := gd_some hm
      refine st1 rfl (op_add (lb rfl) g9) (so rfl (so rfl sn)) ?_
      refine mv (lb rfl) rfl ?_
      refine rg_nil_seq ?_
      refine klg_back (n0, (s0_0 + 1), x2) hm (Nat.lt_succ_self _) ?_
      exact le_stU idn (.cons rfl rfl (.cons rfl rfl (.cons rfl rfl (.cons rfl rfl (.cons rfl rfl (.cons rfl rfl .nil)))))) .nil rfl
    ·
     replace hm := ite_f hm c6
     refine st1off rfl rfl (lb rfl) rfl rfl (not_f (c6)) ?_
     refine st1off rfl rfl (lb rfl) rfl rfl (not_f (c6)) ?_
     refine st1off rfl rfl (lb rfl) rfl rfl (not_f (c6)) ?_
     refine st1 rfl (op_pick_true (lb rfl) (not_f (c6))) (so rfl (so rfl sn)) ?_
     refine nk ?_
     refine acode_cond_true rfl (rfl) ?_
     refine sr ?_
     refine as_ (lb rfl) rfl ?_
     refine nkt ?_
     obtain rfl := Option.some.inj hm
     exact kseq_ret (kblk_ret (kseq_ret (klg_ret (kblk_ret (kseq_ret (fin2_retL (.cons (.c rfl) .nil) rfl .nil rfl rfl rfl))))))
   ·
    replace hm := ite_f hm c1
    refine acode_cond_false rfl (c1) ?_
    refine acode_exit ?_
    unfold m_impl_ascends_k1 at hm
    refine kseq_exit (klg_exit (kblk_hit (kseq_normal ?_)))
    refine sr ?_
    refine as_ (lb rfl) rfl ?_
    refine nkt ?_
    obtain rfl := Option.some.inj hm
    exact fin2_retL (.cons (.c rfl) .nil) rfl .nil rfl rfl rfl

def m_impl_NetTask_outOk_k1 (t : GTask) : Option Bool := (m_impl_in (t.out.length : Int) 1 3).bind fun x21 => (some x21)
def m_impl_NetTask_outOk_l0 (t : GTask) (places : Int) (kx0_0 : Option Bool) : Nat → Int → List Int → Option Bool
  | 0, _, _ => none
  | n0 + 1, s0_0, m0_1 => if decide (s0_0 < (t.out.length : Int)) = true then ((getI t.out s0_0).bind fun x2 => (if decide (t.split = 1) = true then (gd (ok64 (places - 1)) ((m_impl_in x2.to 0 (places - 1)).bind fun x5 => (if x5 = true then (if decide (x2.to ∈ m0_1) = true then (some false) else ((m_impl_ExpOk x2.if_).bind fun x8 => (if x8 = true then (if ((decide (x2.if_.op = 0)) == true) = true then (gd (ok64 (s0_0 + 1)) ((m_impl_NetTask_outOk_l0 t places kx0_0 n0) (s0_0 + 1) (insKey m0_1 x2.to))) else (some false)) else (some false)))) else (some false)))) else (gd (ok64 ((t.out.length : Int) - 1)) (gd (ok64 (places - 1)) ((m_impl_in x2.to 0 (places - 1)).bind fun x14 => (if x14 = true then (if decide (x2.to ∈ m0_1) = true then (some false) else ((m_impl_ExpOk x2.if_).bind fun x17 => (if x17 = true then (if ((decide (x2.if_.op = 0)) == (decide (s0_0 = ((t.out.length : Int) - 1)))) = true then (gd (ok64 (s0_0 + 1)) ((m_impl_NetTask_outOk_l0 t places kx0_0 n0) (s0_0 + 1) (insKey m0_1 x2.to))) else (some false)) else (some false)))) else (some false))))))) else (kx0_0)
def m_impl_NetTask_outOk (t : GTask) (places : Int) : Option Bool := m_impl_NetTask_outOk_l0 t places (m_impl_NetTask_outOk_k1 t) FUEL 0 (insKey ([] : List Int) 0)

theorem c_impl_NetTask_outOk (t : GTask) (places : Int) (rz : Bool) (hm : m_impl_NetTask_outOk t places = some rz) : FnB Try.prog 158 [.row (GTask.cells false t), .c (cI places)] [.c (cB rz)] [] := by
 unfold m_impl_NetTask_outOk at hm
 refine fn_intro2 (n := 64) (rvs := [.tmp 4]) Try.func158 rfl rfl rfl (lb rfl) rfl rfl rfl rfl rfl ?_
 refine acode_seq ?_
 refine acode_le (le_stU (env := [(0, .row [cI t.join, cI t.split, .sl false 1 (t.in_.map (fun n : Int => [cI n])), .sl false 4 (t.out.map (GFlow.cells false)), .sl false 1 (t.clear.map (fun n : Int => [cI n])), cI t.role, cI t.apart, cI t.all, cI t.need]), (1, aInt places)]) (obj := []) idn (.cons rfl rfl (.cons rfl rfl .nil)) .nil rfl) ?_
 refine acode_region ?_
 refine st1 rfl (op_box rfl (lb rfl)) (so rfl (sf rfl (sats_lives rfl))) ?_
 refine as_ (lb rfl) rfl ?_
 refine nk ?_
 refine sr ?_
 refine st1 rfl (op_makeMap (lb rfl)) (sf rfl sn) ?_
 refine st1 rfl (op_mapUpd Try.underlying196 Try.underlying3 (.inr rfl)) (so rfl (so rfl (so rfl (sb rfl sn)))) ?_
 refine mv (lb rfl) rfl ?_
 refine as_ (lb rfl) rfl ?_
 refine nk ?_
 refine acode_seq ?_
 refine sr ?_
 refine fdb (off := 3) Try.underlying119 Try.sizeOf117 rfl rfl rfl (lb rfl) rfl rfl ?_
 refine ldb Try.isAgg117 rfl (lb rfl) rfl rfl ?_
 refine st1 rfl (op_len_sh (f := (GFlow.cells false)) (l := t.out) Try.underlying117 (lb rfl)) (so rfl sn) ?_
 refine mv (lb rfl) rfl ?_
 refine nk ?_
 refine acode_block ?_
 refine acode_loopk (xs := [1, 2, 5, 12, 13]) (ys := [2]) (S := Nat × Int × (List Int)) (fun z => [(14, aInt z.2.1)]) (fun z => [(9, .mp z.2.2)]) (fun z => m_impl_NetTask_outOk_l0 t places (m_impl_NetTask_outOk_k1 t) z.1 z.2.1 z.2.2 = some rz) (fun z => z.1) (FUEL, 0, (insKey ([] : List Int) 0)) (.cons rfl (.cons rfl (.cons rfl (.cons rfl (.cons rfl .nil))))) (.cons rfl .nil) ?em ?eo rfl ?ei ?round
 case em => exact (.cons rfl rfl .nil)
 case eo => exact (.cons rfl rfl .nil)
 case ei => exact hm
 case round =>
  rintro ⟨n0, s0_0, m0_1⟩ hm
  dsimp only at hm ⊢
  cases n0 with
  | zero => rw [m_impl_NetTask_outOk_l0] at hm; cases hm
  | succ n0 =>
   rw [m_impl_NetTask_outOk_l0] at hm
   refine sr ?_
   refine st1 rfl (op_lss (lb rfl)) (so rfl (so rfl sn)) ?_
   refine nk ?_
   refine acode_seq ?_
   refine acode_split (b := decide (s0_0 < (t.out.length : Int))) (fun c1 => ?_) (fun c1 => ?_)
   ·
    replace hm := ite_t hm c1
    refine acode_cond_true rfl (c1) ?_
    refine pk ?_
    refine acode_seq ?_
    refine acode_block ?_
    refine sr ?_
    refine mv (lb rfl) rfl ?_
    obtain ⟨x2, hx2, hm⟩ := bnd hm
    refine st1 rfl (op_index_shG (f := (GFlow.cells false)) (l := t.out) Try.underlying117 Try.sizeOf181 (lb rfl) hx2) (so rfl (so rfl sn)) ?_
    refine st1 rfl (op_load_pts_row Try.isAgg181 Try.sizeOf181 rfl rfl (lb rfl)) (so rfl sn) ?_
    refine st1 rfl (op_alloc Try.zeroValue181 rfl (lb rfl)) (sf rfl sn) ?_
    refine as_ (lb rfl) rfl ?_
    refine st1 rfl (op_store_bxS Try.sizeOf181 rfl rfl rfl rfl) (so rfl (so rfl (sb rfl (sats_lives rfl)))) ?_
    refine nk ?_
    refine sr ?_
    refine fdb (off := 1) Try.underlying119 Try.sizeOf3 rfl rfl rfl (lb rfl) rfl rfl ?_
    refine ldb Try.isAgg3 rfl (lb rfl) rfl rfl ?_
    refine st1 rfl (op_eql (lb rfl)) (so rfl (so rfl sn)) ?_
    refine mv (lb rfl) rfl ?_
    refine rg_split (b := decide (t.split = 1)) (fun c3 => ?_) (fun c3 => ?_)
    ·
     replace hm := ite_t hm c3
     refine st1off rfl rfl (lb rfl) rfl rfl (c3) ?_
     refine st1off rfl rfl (lb rfl) rfl rfl (c3) ?_
     refine st1off rfl rfl (lb rfl) rfl rfl (c3) ?_
     refine st1off rfl rfl (lb rfl) rfl rfl (c3) ?_
     refine st1off rfl rfl (lb rfl) rfl rfl (c3) ?_
     refine st1off rfl rfl (lb rfl) rfl rfl (c3) ?_
     refine st1 rfl (op_pick_true (lb rfl) (c3)) (so rfl (so rfl sn)) ?_
     refine as_ (lb rfl) rfl ?_
     refine nk ?_
     refine acode_seq ?_
     refine acode_seq ?_
     refine acode_le (le_stU (env := [(1, aInt places), (2, .bx 2 0), (5, .bx 9 0), (7, .bx 7 0), (8, aBool true), (12, .c (.sl false 4 (t.out.map (GFlow.cells false)))), (13, aInt (t.out.length : Int)), (14, aInt s0_0), (23, .c (.lit undef)), (24, .c (.lit undef)), (25, .c (.lit undef)), (26, .c (.lit undef)), (27, .c (.lit undef)), (28, .c (.lit undef))]) (obj := [(2, .box [aInt t.join, aInt t.split, .c (.sl false 1 (t.in_.map (fun n : Int => [cI n]))), .c (.sl false 4 (t.out.map (GFlow.cells false))), .c (.sl false 1 (t.clear.map (fun n : Int => [cI n]))), aInt t.role, aInt t.apart, aInt t.all, aInt t.need]), (9, .mp m0_1), (7, .box [aInt x2.to, aInt x2.if_.op, aInt x2.if_.var, aInt x2.if_.k])]) idn (.cons rfl rfl (.cons rfl rfl (.cons rfl rfl (.cons rfl rfl (.cons rfl rfl (.cons rfl rfl (.cons rfl rfl (.cons rfl rfl (.cons rfl rfl (.cons rfl rfl (.cons rfl rfl (.cons rfl rfl (.cons rfl rfl (.cons rfl rfl .nil)))))))))))))) (.cons rfl rfl (.inl rfl) (.cons rfl rfl (.inl rfl) (.cons rfl rfl (.inl rfl) .nil))) rfl) ?_
     refine acode_region ?_
     refine fdb (off := 0) Try.underlying181 Try.sizeOf3 rfl rfl rfl (lb rfl) rfl rfl ?_
     refine ldb Try.isAgg3 rfl (lb rfl) rfl rfl ?_
     refine mv (lb rfl) rfl ?_
     obtain ⟨g4, hm⟩ := gd_some hm
     refine st1 rfl (op_sub (lb rfl) g4) (so rfl (so rfl sn)) ?_
     obtain ⟨x5, hx5, hm⟩ := bnd hm
     refine st1 rfl (op_call2 (ks := []) Try.func52 rfl rfl (c_impl_in x2.to 0 (places - 1) x5 hx5) (.cons (.c rfl) (.cons (.c rfl) (.cons (.c rfl) .nil rfl) rfl) rfl) rfl rfl (.inl rfl) .nil rfl rfl (lb rfl)) (sats_opds (.cons rfl (.cons rfl (.cons rfl .nil))) (sats_app (sats_freshL rfl) (sats_needsO obs_nil))) ?_
     refine st1 rfl (op_not (lb rfl)) (so rfl sn) ?_
     refine mv (lb rfl) rfl ?_
     refine rg_split (b := x5) (fun c6 => ?_) (fun c6 => ?_)
     ·
      replace hm := ite_t hm c6
      refine st1on rfl rfl rfl (not_t (c6)) (op_move (lb rfl)) (so rfl sn) ?_
      refine st1on rfl rfl rfl (not_t (c6)) (op_field_bx (off := 0) Try.underlying181 Try.sizeOf3 rfl rfl rfl (lb rfl)) (so rfl (sb rfl sn)) ?_
      refine st1on rfl rfl rfl (not_t (c6)) (op_load_bx Try.isAgg3 rfl (lb rfl)) (so rfl (sb rfl sn)) ?_
      refine st1on rfl rfl rfl (not_t (c6)) (op_lookup Try.underlying196 Try.underlying3 Try.zeroValue4 (lb rfl)) (so rfl (so rfl (sb rfl sn))) ?_
      refine st1 rfl (op_pick_false (lb rfl) (not_t (c6))) (so rfl (so rfl sn)) ?_
      refine mv (lb rfl) rfl ?_
      refine rg_split (b := decide (x2.to ∈ m0_1)) (fun c7 => ?_) (fun c7 => ?_)
      ·
       replace hm := ite_t hm c7
       refine st1off rfl rfl (lb rfl) rfl rfl (c7) ?_
       refine st1off rfl rfl (lb rfl) rfl rfl (c7) ?_
       refine st1off rfl rfl (lb rfl) rfl rfl (c7) ?_
       refine st1off rfl rfl (lb rfl) rfl rfl (c7) ?_
       refine st1 rfl (op_pick_true (lb rfl) (c7)) (so rfl (so rfl sn)) ?_
       refine mv (lb rfl) rfl ?_
       refine st1off rfl rfl (lb rfl) rfl rfl (rfl) ?_
       refine st1off rfl rfl (lb rfl) rfl rfl (rfl) ?_
       refine st1off rfl rfl (lb rfl) rfl rfl (rfl) ?_
       refine st1off rfl rfl (lb rfl) rfl rfl (rfl) ?_
       refine st1off rfl rfl (lb rfl) rfl rfl (rfl) ?_
       refine st1off rfl rfl (lb rfl) rfl rfl (rfl) ?_
       refine st1 rfl (op_pick_true (lb rfl) (rfl)) (so rfl (so rfl sn)) ?_
       refine nk ?_
       refine acode_cond_true rfl (rfl) ?_
       refine acode_seq ?_
       refine acode_le (le_stU (env := []) (obj := []) idn .nil .nil rfl) ?_
       refine acode_region ?_
       refine as_ (lb rfl) rfl ?_
       refine nkt ?_
       obtain rfl := Option.some.inj hm
       exact kseq_ret (kblk_ret (kseq_ret (klg_ret (kblk_ret (kseq_ret (fin2_retL (.cons (.c rfl) .nil) rfl .nil rfl rfl rfl))))))
      ·
       replace hm := ite_f hm c7
       refine st1on rfl rfl rfl (c7) (op_field_bx (off := 1) Try.underlying181 Try.sizeOf88 rfl rfl rfl (lb rfl)) (so rfl (sb rfl sn)) ?_
       refine st1on rfl rfl rfl (c7) (op_load_bx_agg Try.isAgg88 Try.sizeOf88 rfl rfl (lb rfl)) (so rfl (sb rfl sn)) ?_
       obtain ⟨x8, hx8, hm⟩ := bnd hm
       refine st1on rfl rfl rfl (c7) (op_call2 (ks := []) Try.func106 rfl rfl (c_impl_ExpOk x2.if_ x8 hx8) (.cons ((.aggCons (.c rfl) (.aggCons (.c rfl) (.aggCons (.c rfl) .aggNil rfl) rfl) rfl)) .nil rfl) rfl rfl (.inl rfl) .nil rfl rfl (lb rfl)) (sats_opds (.cons rfl .nil) (sats_app (sats_freshL rfl) (sats_needsO obs_nil))) ?_
       refine st1on rfl rfl rfl (c7) (op_not (lb rfl)) (so rfl sn) ?_
       refine st1 rfl (op_pick_false (lb rfl) (c7)) (so rfl (so rfl sn)) ?_
       refine mv (lb rfl) rfl ?_
       refine rg_split (b := x8) (fun c9 => ?_) (fun c9 => ?_)
       ·
        replace hm := ite_t hm c9
        refine st1on rfl rfl rfl (not_t (c9)) (op_field_bx (off := 1) Try.underlying181 Try.sizeOf88 rfl rfl rfl (lb rfl)) (so rfl (sb rfl sn)) ?_
        refine st1on rfl rfl rfl (not_t (c9)) (op_field_bx (off := 0) Try.underlying88 Try.sizeOf3 rfl rfl rfl (lb rfl)) (so rfl (sb rfl sn)) ?_
        refine st1on rfl rfl rfl (not_t (c9)) (op_load_bx Try.isAgg3 rfl (lb rfl)) (so rfl (sb rfl sn)) ?_
        refine st1on rfl rfl rfl (not_t (c9)) (op_eql (lb rfl)) (so rfl (so rfl sn)) ?_
        refine st1on rfl rfl rfl (not_t (c9)) (op_move (lb rfl)) (so rfl sn) ?_
        refine st1on rfl rfl rfl (not_t (c9)) (op_neqb Try.underlying4 (lb rfl)) (so rfl (so rfl sn)) ?_
        refine st1 rfl (op_pick_false (lb rfl) (not_t (c9))) (so rfl (so rfl sn)) ?_
        refine nk ?_
        refine acode_split (b := ((decide (x2.if_.op = 0)) == true)) (fun c10 => ?_) (fun c10 => ?_)
        ·
         replace hm := ite_t hm c10
         refine acode_cond_false rfl (not_t (c10)) ?_
         refine pk ?_
         refine acode_region ?_
         refine mv (lb rfl) rfl ?_
         refine fdb (off := 0) Try.underlying181 Try.sizeOf3 rfl rfl rfl (lb rfl) rfl rfl ?_
         refine ldb Try.isAgg3 rfl (lb rfl) rfl rfl ?_
         refine st1 rfl (op_mapUpd Try.underlying196 Try.underlying3 (.inl rfl)) (so rfl (so rfl (so rfl (sb rfl sn)))) ?_
         refine rg_nil_seq ?_
         refine kblk_normal (kseq_normal ?_)
         refine acode_region ?_
         obtain ⟨g11, hm⟩ := gd_some hm
         refine st1 rfl (op_add (lb rfl) g11) (so rfl (so rfl sn)) ?_
         refine mv (lb rfl) rfl ?_
         refine rg_nil_seq ?_
         refine klg_back (n0, (s0_0 + 1), (insKey m0_1 x2.to)) hm (Nat.lt_succ_self _) ?_
         exact le_stU idn (.cons rfl rfl (.cons rfl rfl (.cons rfl rfl (.cons rfl rfl (.cons rfl rfl (.cons rfl rfl .nil)))))) (.cons rfl rfl (.inl rfl) (.cons rfl rfl (.inl rfl) .nil)) rfl
        ·
         replace hm := ite_f hm c10
         refine acode_cond_true rfl (not_f (c10)) ?_
         refine sr ?_
         refine as_ (lb rfl) rfl ?_
         refine nkt ?_
         obtain rfl := Option.some.inj hm
         exact kseq_ret (kblk_ret (kseq_ret (klg_ret (kblk_ret (kseq_ret (fin2_retL (.cons (.c rfl) .nil) rfl .nil rfl rfl rfl))))))
       ·
        replace hm := ite_f hm c9
        refine st1off rfl rfl (lb rfl) rfl rfl (not_f (c9)) ?_
        refine st1off rfl rfl (lb rfl) rfl rfl (not_f (c9)) ?_
        refine st1off rfl rfl (lb rfl) rfl rfl (not_f (c9)) ?_
        refine st1off rfl rfl (lb rfl) rfl rfl (not_f (c9)) ?_
        refine st1off rfl rfl (lb rfl) rfl rfl (not_f (c9)) ?_
        refine st1off rfl rfl (lb rfl) rfl rfl (not_f (c9)) ?_
        refine st1 rfl (op_pick_true (lb rfl) (not_f (c9))) (so rfl (so rfl sn)) ?_
        refine nk ?_
        refine acode_cond_true rfl (rfl) ?_
        refine sr ?_
        refine as_ (lb rfl) rfl ?_
        refine nkt ?_
        obtain rfl := Option.some.inj hm
        exact kseq_ret (kblk_ret (kseq_ret (klg_ret (kblk_ret (kseq_ret (fin2_retL (.cons (.c rfl) .nil) rfl .nil rfl rfl rfl))))))
     ·
      replace hm := ite_f hm c6
      refine st1off rfl rfl (lb rfl) rfl rfl (not_f (c6)) ?_
      refine st1off rfl rfl (lb rfl) rfl rfl (not_f (c6)) ?_
      refine st1off rfl rfl (lb rfl) rfl rfl (not_f (c6)) ?_
      refine st1off rfl rfl (lb rfl) rfl rfl (not_f (c6)) ?_
      refine st1 rfl (op_pick_true (lb rfl) (not_f (c6))) (so rfl (so rfl sn)) ?_
      refine mv (lb rfl) rfl ?_
      refine st1off rfl rfl (lb rfl) rfl rfl (rfl) ?_
      refine st1off rfl rfl (lb rfl) rfl rfl (rfl) ?_
      refine st1off rfl rfl (lb rfl) rfl rfl (rfl) ?_
      refine st1off rfl rfl (lb rfl) rfl rfl (rfl) ?_
      refine st1 rfl (op_pick_true (lb rfl) (rfl)) (so rfl (so rfl sn)) ?_
      refine mv (lb rfl) rfl ?_
      refine st1off rfl rfl (lb rfl) rfl rfl (rfl) ?_
      refine st1off rfl rfl (lb rfl) rfl rfl (rfl) ?_
      refine st1off rfl rfl (lb rfl) rfl rfl (rfl) ?_
      refine st1off rfl rfl (lb rfl) rfl rfl (rfl) ?_
      refine st1off rfl rfl (lb rfl) rfl rfl (rfl) ?_
      refine st1off rfl rfl (lb rfl) rfl rfl (rfl) ?_
      refine st1 rfl (op_pick_true (lb rfl) (rfl)) (so rfl (so rfl sn)) ?_
      refine nk ?_
      refine acode_cond_true rfl (rfl) ?_
      refine sr ?_
      refine as_ (lb rfl) rfl ?_
      refine nkt ?_
      obtain rfl := Option.some.inj hm
      exact kseq_ret (kblk_ret (kseq_ret (klg_ret (kblk_ret (kseq_ret (fin2_retL (.cons (.c rfl) .nil) rfl .nil rfl rfl rfl))))))
    ·
     replace hm := ite_f hm c3
     refine st1on rfl rfl rfl (c3) (op_move (lb rfl)) (so rfl sn) ?_
     refine st1on rfl rfl rfl (c3) (op_field_bx (off := 3) Try.underlying119 Try.sizeOf117 rfl rfl rfl (lb rfl)) (so rfl (sb rfl sn)) ?_
     refine st1on rfl rfl rfl (c3) (op_load_bx Try.isAgg117 rfl (lb rfl)) (so rfl (sb rfl sn)) ?_
     refine st1on rfl rfl rfl (c3) (op_len_sh (f := (GFlow.cells false)) (l := t.out) Try.underlying117 (lb rfl)) (so rfl sn) ?_
     obtain ⟨g12, hm⟩ := gd_some hm
     refine st1on rfl rfl rfl (c3) (op_sub (lb rfl) g12) (so rfl (so rfl sn)) ?_
     refine st1on rfl rfl rfl (c3) (op_eql (lb rfl)) (so rfl (so rfl sn)) ?_
     refine st1 rfl (op_pick_false (lb rfl) (c3)) (so rfl (so rfl sn)) ?_
     refine as_ (lb rfl) rfl ?_
     refine nk ?_
     refine acode_seq ?_
     refine sr ?_
     refine fdb (off := 0) Try.underlying181 Try.sizeOf3 rfl rfl rfl (lb rfl) rfl rfl ?_
     refine ldb Try.isAgg3 rfl (lb rfl) rfl rfl ?_
     refine mv (lb rfl) rfl ?_
     obtain ⟨g13, hm⟩ := gd_some hm
     refine st1 rfl (op_sub (lb rfl) g13) (so rfl (so rfl sn)) ?_
     obtain ⟨x14, hx14, hm⟩ := bnd hm
     refine st1 rfl (op_call2 (ks := []) Try.func52 rfl rfl (c_impl_in x2.to 0 (places - 1) x14 hx14) (.cons (.c rfl) (.cons (.c rfl) (.cons (.c rfl) .nil rfl) rfl) rfl) rfl rfl (.inl rfl) .nil rfl rfl (lb rfl)) (sats_opds (.cons rfl (.cons rfl (.cons rfl .nil))) (sats_app (sats_freshL rfl) (sats_needsO obs_nil))) ?_
     refine st1 rfl (op_not (lb rfl)) (so rfl sn) ?_
     refine mv (lb rfl) rfl ?_
     refine rg_split (b := x14) (fun c15 => ?_) (fun c15 => ?_)
     ·
      replace hm := ite_t hm c15
      refine st1on rfl rfl rfl (not_t (c15)) (op_move (lb rfl)) (so rfl sn) ?_
      refine st1on rfl rfl rfl (not_t (c15)) (op_field_bx (off := 0) Try.underlying181 Try.sizeOf3 rfl rfl rfl (lb rfl)) (so rfl (sb rfl sn)) ?_
      refine st1on rfl rfl rfl (not_t (c15)) (op_load_bx Try.isAgg3 rfl (lb rfl)) (so rfl (sb rfl sn)) ?_
      refine st1on rfl rfl rfl (not_t (c15)) (op_lookup Try.underlying196 Try.underlying3 Try.zeroValue4 (lb rfl)) (so rfl (so rfl (sb rfl sn))) ?_
      refine st1 rfl (op_pick_false (lb rfl) (not_t (c15))) (so rfl (so rfl sn)) ?_
      refine mv (lb rfl) rfl ?_
      refine rg_split (b := decide (x2.to ∈ m0_1)) (fun c16 => ?_) (fun c16 => ?_)
      ·
       replace hm := ite_t hm c16
       refine st1off rfl rfl (lb rfl) rfl rfl (c16) ?_
       refine st1off rfl rfl (lb rfl) rfl rfl (c16) ?_
       refine st1off rfl rfl (lb rfl) rfl rfl (c16) ?_
       refine st1off rfl rfl (lb rfl) rfl rfl (c16) ?_
       refine st1 rfl (op_pick_true (lb rfl) (c16)) (so rfl (so rfl sn)) ?_
       refine mv (lb rfl) rfl ?_
       refine st1off rfl rfl (lb rfl) rfl rfl (rfl) ?_
       refine st1off rfl rfl (lb rfl) rfl rfl (rfl) ?_
       refine st1off rfl rfl (lb rfl) rfl rfl (rfl) ?_
       refine st1off rfl rfl (lb rfl) rfl rfl (rfl) ?_
       refine st1off rfl rfl (lb rfl) rfl rfl (rfl) ?_
       refine st1off rfl rfl (lb rfl) rfl rfl (rfl) ?_
       refine st1 rfl (op_pick_true (lb rfl) (rfl)) (so rfl (so rfl sn)) ?_
       refine nk ?_
       refine acode_cond_true rfl (rfl) ?_
       refine acode_seq ?_
       refine acode_le (le_stU (env := []) (obj := []) idn .nil .nil rfl) ?_
       refine acode_region ?_
       refine as_ (lb rfl) rfl ?_
       refine nkt ?_
       obtain rfl := Option.some.inj hm
       exact kseq_ret (kblk_ret (kseq_ret (klg_ret (kblk_ret (kseq_ret (fin2_retL (.cons (.c rfl) .nil) rfl .nil rfl rfl rfl))))))
      ·
       replace hm := ite_f hm c16
       refine st1on rfl rfl rfl (c16) (op_field_bx (off := 1) Try.underlying181 Try.sizeOf88 rfl rfl rfl (lb rfl)) (so rfl (sb rfl sn)) ?_
       refine st1on rfl rfl rfl (c16) (op_load_bx_agg Try.isAgg88 Try.sizeOf88 rfl rfl (lb rfl)) (so rfl (sb rfl sn)) ?_
       obtain ⟨x17, hx17, hm⟩ := bnd hm
       refine st1on rfl rfl rfl (c16) (op_call2 (ks := []) Try.func106 rfl rfl (c_impl_ExpOk x2.if_ x17 hx17) (.cons ((.aggCons (.c rfl) (.aggCons (.c rfl) (.aggCons (.c rfl) .aggNil rfl) rfl) rfl)) .nil rfl) rfl rfl (.inl rfl) .nil rfl rfl (lb rfl)) (sats_opds (.cons rfl .nil) (sats_app (sats_freshL rfl) (sats_needsO obs_nil))) ?_
       refine st1on rfl rfl rfl (c16) (op_not (lb rfl)) (so rfl sn) ?_
       refine st1 rfl (op_pick_false (lb rfl) (c16)) (so rfl (so rfl sn)) ?_
       refine mv (lb rfl) rfl ?_
       refine rg_split (b := x17) (fun c18 => ?_) (fun c18 => ?_)
       ·
        replace hm := ite_t hm c18
        refine st1on rfl rfl rfl (not_t (c18)) (op_field_bx (off := 1) Try.underlying181 Try.sizeOf88 rfl rfl rfl (lb rfl)) (so rfl (sb rfl sn)) ?_
        refine st1on rfl rfl rfl (not_t (c18)) (op_field_bx (off := 0) Try.underlying88 Try.sizeOf3 rfl rfl rfl (lb rfl)) (so rfl (sb rfl sn)) ?_
        refine st1on rfl rfl rfl (not_t (c18)) (op_load_bx Try.isAgg3 rfl (lb rfl)) (so rfl (sb rfl sn)) ?_
        refine st1on rfl rfl rfl (not_t (c18)) (op_eql (lb rfl)) (so rfl (so rfl sn)) ?_
        refine st1on rfl rfl rfl (not_t (c18)) (op_move (lb rfl)) (so rfl sn) ?_
        refine st1on rfl rfl rfl (not_t (c18)) (op_neqb Try.underlying4 (lb rfl)) (so rfl (so rfl sn)) ?_
        refine st1 rfl (op_pick_false (lb rfl) (not_t (c18))) (so rfl (so rfl sn)) ?_
        refine nk ?_
        refine acode_split (b := ((decide (x2.if_.op = 0)) == (decide (s0_0 = ((t.out.length : Int) - 1))))) (fun c19 => ?_) (fun c19 => ?_)
        ·
         replace hm := ite_t hm c19
         refine acode_cond_false rfl (not_t (c19)) ?_
         refine pk ?_
         refine acode_region ?_
         refine mv (lb rfl) rfl ?_
         refine fdb (off := 0) Try.underlying181 Try.sizeOf3 rfl rfl rfl (lb rfl) rfl rfl ?_
         refine ldb Try.isAgg3 rfl (lb rfl) rfl rfl ?_
         refine st1 rfl (op_mapUpd Try.underlying196 Try.underlying3 (.inl rfl)) (so rfl (so rfl (so rfl (sb rfl sn)))) ?_
         refine rg_nil_seq ?_
         refine kblk_normal (kseq_normal ?_)
         refine acode_region ?_
         obtain ⟨g20, hm⟩ := gd_some hm
         refine st1 rfl (op_add (lb rfl) g20) (so rfl (so rfl sn)) ?_
         refine mv (lb rfl) rfl ?_
         refine rg_nil_seq ?_
         refine klg_back (n0, (s0_0 + 1), (insKey m0_1 x2.to)) hm (Nat.lt_succ_self _) ?_
         exact le_stU idn (.cons rfl rfl (.cons rfl rfl (.cons rfl rfl (.cons rfl rfl (.cons rfl rfl (.cons rfl rfl .nil)))))) (.cons rfl rfl (.inl rfl) (.cons rfl rfl (.inl rfl) .nil)) rfl
        ·
         replace hm := ite_f hm c19
         refine acode_cond_true rfl (not_f (c19)) ?_
         refine sr ?_
         refine as_ (lb rfl) rfl ?_
         refine nkt ?_
         obtain rfl := Option.some.inj hm
         exact kseq_ret (kblk_ret (kseq_ret (klg_ret (kblk_ret (kseq_ret (fin2_retL (.cons (.c rfl) .nil) rfl .nil rfl rfl rfl))))))
       ·
        replace hm := ite_f hm c18
        refine st1off rfl rfl (lb rfl) rfl rfl (not_f (c18)) ?_
        refine st1off rfl rfl (lb rfl) rfl rfl (not_f (c18)) ?_
        refine st1off rfl rfl (lb rfl) rfl rfl (not_f (c18)) ?_
        refine st1off rfl rfl (lb rfl) rfl rfl (not_f (c18)) ?_
        refine st1off rfl rfl (lb rfl) rfl rfl (not_f (c18)) ?_
        refine st1off rfl rfl (lb rfl) rfl rfl (not_f (c18)) ?_
        refine st1 rfl (op_pick_true (lb rfl) (not_f (c18))) (so rfl (so rfl sn)) ?_
        refine nk ?_
        refine acode_cond_true rfl (rfl) ?_
        refine sr ?_
        refine as_ (lb rfl) rfl ?_
        refine nkt ?_
        obtain rfl := Option.some.inj hm
        exact kseq_ret (kblk_ret (kseq_ret (klg_ret (kblk_ret (kseq_ret (fin2_retL (.cons (.c rfl) .nil) rfl .nil rfl rfl rfl))))))
     ·
      replace hm := ite_f hm c15
      refine st1off rfl rfl (lb rfl) rfl rfl (not_f (c15)) ?_
      refine st1off rfl rfl (lb rfl) rfl rfl (not_f (c15)) ?_
      refine st1off rfl rfl (lb rfl) rfl rfl (not_f (c15)) ?_
      refine st1off rfl rfl (lb rfl) rfl rfl (not_f (c15)) ?_
      refine st1 rfl (op_pick_true (lb rfl) (not_f (c15))) (so rfl (so rfl sn)) ?_
      refine mv (lb rfl) rfl ?_
      refine st1off rfl rfl (lb rfl) rfl rfl (rfl) ?_
      refine st1off rfl rfl (lb rfl) rfl rfl (rfl) ?_
      refine st1off rfl rfl (lb rfl) rfl rfl (rfl) ?_
      refine st1off rfl rfl (lb rfl) rfl rfl (rfl) ?_
      refine st1 rfl (op_pick_true (lb rfl) (rfl)) (so rfl (so rfl sn)) ?_
      refine mv (lb rfl) rfl ?_
      refine st1off rfl rfl (lb rfl) rfl rfl (rfl) ?_
      refine st1off rfl rfl (lb rfl) rfl rfl (rfl) ?_
      refine st1off rfl rfl (lb rfl) rfl rfl (rfl) ?_
      refine st1off rfl rfl (lb rfl) rfl rfl (rfl) ?_
      refine st1off rfl rfl (lb rfl) rfl rfl (rfl) ?_
      refine st1off rfl rfl (lb rfl) rfl rfl (rfl) ?_
      refine st1 rfl (op_pick_true (lb rfl) (rfl)) (so rfl (so rfl sn)) ?_
      refine nk ?_
      refine acode_cond_true rfl (rfl) ?_
      refine sr ?_
      refine as_ (lb rfl) rfl ?_
      refine nkt ?_
      obtain rfl := Option.some.inj hm
      exact kseq_ret (kblk_ret (kseq_ret (klg_ret (kblk_ret (kseq_ret (fin2_retL (.cons (.c rfl) .nil) rfl .nil rfl rfl rfl))))))
   ·
    replace hm := ite_f hm c1
    refine acode_cond_false rfl (c1) ?_
    refine acode_exit ?_
    unfold m_impl_NetTask_outOk_k1 at hm
    refine kseq_exit (klg_exit (kblk_hit (kseq_normal ?_)))
    refine sr ?_
    refine fdb (off := 3) Try.underlying119 Try.sizeOf117 rfl rfl rfl (lb rfl) rfl rfl ?_
    refine ldb Try.isAgg117 rfl (lb rfl) rfl rfl ?_
    refine st1 rfl (op_len_sh (f := (GFlow.cells false)) (l := t.out) Try.underlying117 (lb rfl)) (so rfl sn) ?_
    obtain ⟨x21, hx21, hm⟩ := bnd hm
    refine st1 rfl (op_call2 (ks := []) Try.func52 rfl rfl (c_impl_in (t.out.length : Int) 1 3 x21 hx21) (.cons (.c rfl) (.cons (.c rfl) (.cons (.c rfl) .nil rfl) rfl) rfl) rfl rfl (.inl rfl) .nil rfl rfl (lb rfl)) (sats_opds (.cons rfl (.cons rfl (.cons rfl .nil))) (sats_app (sats_freshL rfl) (sats_needsO obs_nil))) ?_
    refine as_ (lb rfl) rfl ?_
    refine nkt ?_
    obtain rfl := Option.some.inj hm
    exact fin2_retL (.cons (.c rfl) .nil) rfl .nil rfl rfl rfl

def m_impl_NetTask_ok (t : GTask) (places : Int) (tasks : Int) : Option Bool := (m_impl_isKind t.join).bind fun x1 => (if x1 = true then ((m_impl_isKind t.split).bind fun x3 => (if x3 = true then ((m_impl_in (t.in_.length : Int) 1 3).bind fun x5 => (if x5 = true then ((m_impl_ascends t.in_ places [1]).bind fun x7 => (if x7 = true then ((m_impl_NetTask_outOk t places).bind fun x9 => (if x9 = true then ((m_impl_ascends t.clear places [0, 1]).bind fun x11 => (if x11 = true then ((m_impl_isRole t.role).bind fun x13 => (if x13 = true then (gd (ok64 (tasks - 1)) ((m_impl_in t.apart (-1) (tasks - 1)).bind fun x16 => (if x16 = true then ((m_impl_in t.all 1 3).bind fun x18 => (if x18 = true then ((m_impl_in t.need 1 t.all).bind fun x20 => (some x20)) else (some false))) else (some false)))) else (some false))) else (some false))) else (some false))) else (some false))) else (some false))) else (some false))) else (some false))

theorem c_impl_NetTask_ok (t : GTask) (places : Int) (tasks : Int) (rz : Bool) (hm : m_impl_NetTask_ok t places tasks = some rz) : FnB Try.prog 150 [.row (GTask.cells false t), .c (cI places), .c (cI tasks)] [.c (cB rz)] [] := by
 unfold m_impl_NetTask_ok at hm
 refine fn_intro2 (n := 64) (rvs := [.tmp 6]) Try.func150 rfl rfl rfl (lb rfl) rfl rfl rfl rfl rfl ?_
 refine acode_seq ?_
 refine acode_le (le_stU (env := [(0, .row [cI t.join, cI t.split, .sl false 1 (t.in_.map (fun n : Int => [cI n])), .sl false 4 (t.out.map (GFlow.cells false)), .sl false 1 (t.clear.map (fun n : Int => [cI n])), cI t.role, cI t.apart, cI t.all, cI t.need]), (1, aInt places), (2, aInt tasks)]) (obj := []) idn (.cons rfl rfl (.cons rfl rfl (.cons rfl rfl .nil))) .nil rfl) ?_
 refine acode_region ?_
 refine st1 rfl (op_box rfl (lb rfl)) (so rfl (sf rfl (sats_lives rfl))) ?_
 refine as_ (lb rfl) rfl ?_
 refine nk ?_
 refine sr ?_
 refine fdb (off := 0) Try.underlying119 Try.sizeOf3 rfl rfl rfl (lb rfl) rfl rfl ?_
 refine ldb Try.isAgg3 rfl (lb rfl) rfl rfl ?_
 obtain ⟨x1, hx1, hm⟩ := bnd hm
 refine st1 rfl (op_call2 (ks := []) Try.func156 rfl rfl (c_impl_isKind t.join x1 hx1) (.cons (.c rfl) .nil rfl) rfl rfl (.inl rfl) .nil rfl rfl (lb rfl)) (sats_opds (.cons rfl .nil) (sats_app (sats_freshL rfl) (sats_needsO obs_nil))) ?_
 refine mv (lb rfl) rfl ?_
 refine rg_split (b := x1) (fun c2 => ?_) (fun c2 => ?_)
 ·
  replace hm := ite_t hm c2
  refine st1on rfl rfl rfl (c2) (op_field_bx (off := 1) Try.underlying119 Try.sizeOf3 rfl rfl rfl (lb rfl)) (so rfl (sb rfl sn)) ?_
  refine st1on rfl rfl rfl (c2) (op_load_bx Try.isAgg3 rfl (lb rfl)) (so rfl (sb rfl sn)) ?_
  obtain ⟨x3, hx3, hm⟩ := bnd hm
  refine st1on rfl rfl rfl (c2) (op_call2 (ks := []) Try.func156 rfl rfl (c_impl_isKind t.split x3 hx3) (.cons (.c rfl) .nil rfl) rfl rfl (.inl rfl) .nil rfl rfl (lb rfl)) (sats_opds (.cons rfl .nil) (sats_app (sats_freshL rfl) (sats_needsO obs_nil))) ?_
  refine st1 rfl (op_pick_true (lb rfl) (c2)) (so rfl (so rfl sn)) ?_
  refine mv (lb rfl) rfl ?_
  refine rg_split (b := x3) (fun c4 => ?_) (fun c4 => ?_)
  ·
   replace hm := ite_t hm c4
   refine st1on rfl rfl rfl (c4) (op_field_bx (off := 2) Try.underlying119 Try.sizeOf34 rfl rfl rfl (lb rfl)) (so rfl (sb rfl sn)) ?_
   refine st1on rfl rfl rfl (c4) (op_load_bx Try.isAgg34 rfl (lb rfl)) (so rfl (sb rfl sn)) ?_
   refine st1on rfl rfl rfl (c4) (op_len_sh (f := (fun n : Int => [cI n])) (l := t.in_) Try.underlying34 (lb rfl)) (so rfl sn) ?_
   obtain ⟨x5, hx5, hm⟩ := bnd hm
   refine st1on rfl rfl rfl (c4) (op_call2 (ks := []) Try.func52 rfl rfl (c_impl_in (t.in_.length : Int) 1 3 x5 hx5) (.cons (.c rfl) (.cons (.c rfl) (.cons (.c rfl) .nil rfl) rfl) rfl) rfl rfl (.inl rfl) .nil rfl rfl (lb rfl)) (sats_opds (.cons rfl (.cons rfl (.cons rfl .nil))) (sats_app (sats_freshL rfl) (sats_needsO obs_nil))) ?_
   refine st1 rfl (op_pick_true (lb rfl) (c4)) (so rfl (so rfl sn)) ?_
   refine mv (lb rfl) rfl ?_
   refine rg_split (b := x5) (fun c6 => ?_) (fun c6 => ?_)
   ·
    replace hm := ite_t hm c6
    refine st1on rfl rfl rfl (c6) (op_field_bx (off := 2) Try.underlying119 Try.sizeOf34 rfl rfl rfl (lb rfl)) (so rfl (sb rfl sn)) ?_
    refine st1on rfl rfl rfl (c6) (op_load_bx Try.isAgg34 rfl (lb rfl)) (so rfl (sb rfl sn)) ?_
    refine st1on rfl rfl rfl (c6) (op_move (lb rfl)) (so rfl sn) ?_
    refine st1on rfl rfl rfl (c6) (op_buildSliceG (rows := [(fun n : Int => [cI n]) 1]) (elem34) rfl rfl (.cons rfl rfl rfl (.c rfl .nil) .nil rfl) rfl rfl rfl (lb rfl)) (sats_opds (.cons rfl .nil) (sf rfl (sats_objs all_nil (sats_lives rfl)))) ?_
    obtain ⟨x7, hx7, hm⟩ := bnd hm
    refine st1on rfl rfl rfl (c6) (op_call2 (ks := []) Try.func157 rfl rfl (c_impl_ascends t.in_ places [1] x7 hx7) (.cons (.c rfl) (.cons (.c rfl) (.cons (.ref rfl (rowI.rnobox true _) (rowI.rshare true _)) .nil rfl) rfl) rfl) rfl rfl (.inr ⟨(sol_cons rfl sol_nil), fun p hp => (by cases hp)⟩) .nil rfl rfl (lb rfl)) (sats_opds (.cons rfl (.cons rfl (.cons rfl .nil))) (sats_app (sats_freshL rfl) (sats_needsO (obs_cons rfl obs_nil)))) ?_
    refine st1 rfl (op_pick_true (lb rfl) (c6)) (so rfl (so rfl sn)) ?_
    refine mv (lb rfl) rfl ?_
    refine rg_split (b := x7) (fun c8 => ?_) (fun c8 => ?_)
    ·
     replace hm := ite_t hm c8
     refine st1on rfl rfl rfl (c8) (op_load_bx_agg Try.isAgg119 Try.sizeOf119 rfl rfl (lb rfl)) (so rfl (sb rfl sn)) ?_
     refine st1on rfl rfl rfl (c8) (op_move (lb rfl)) (so rfl sn) ?_
     obtain ⟨x9, hx9, hm⟩ := bnd hm
     refine st1on rfl rfl rfl (c8) (op_call2 (ks := []) Try.func158 rfl rfl (c_impl_NetTask_outOk t places x9 hx9) (.cons ((.aggCons (.c rfl) (.aggCons (.c rfl) (.aggCons (.c rfl) (.aggCons (.c rfl) (.aggCons (.c rfl) (.aggCons (.c rfl) (.aggCons (.c rfl) (.aggCons (.c rfl) (.aggCons (.c rfl) .aggNil rfl) rfl) rfl) rfl) rfl) rfl) rfl) rfl) rfl)) (.cons (.c rfl) .nil rfl) rfl) rfl rfl (.inl rfl) .nil rfl rfl (lb rfl)) (sats_opds (.cons rfl (.cons rfl .nil)) (sats_app (sats_freshL rfl) (sats_needsO obs_nil))) ?_
     refine st1 rfl (op_pick_true (lb rfl) (c8)) (so rfl (so rfl sn)) ?_
     refine mv (lb rfl) rfl ?_
     refine rg_split (b := x9) (fun c10 => ?_) (fun c10 => ?_)
     ·
      replace hm := ite_t hm c10
      refine st1on rfl rfl rfl (c10) (op_field_bx (off := 4) Try.underlying119 Try.sizeOf34 rfl rfl rfl (lb rfl)) (so rfl (sb rfl sn)) ?_
      refine st1on rfl rfl rfl (c10) (op_load_bx Try.isAgg34 rfl (lb rfl)) (so rfl (sb rfl sn)) ?_
      refine st1on rfl rfl rfl (c10) (op_move (lb rfl)) (so rfl sn) ?_
      refine st1on rfl rfl rfl (c10) (op_buildSliceG (rows := [(fun n : Int => [cI n]) 0, (fun n : Int => [cI n]) 1]) (elem34) rfl rfl (.cons rfl rfl rfl (.c rfl .nil) (.cons rfl rfl rfl (.c rfl .nil) .nil rfl) rfl) rfl rfl rfl (lb rfl)) (sats_opds (.cons rfl (.cons rfl .nil)) (sf rfl (sats_objs all_nil (sats_lives rfl)))) ?_
      obtain ⟨x11, hx11, hm⟩ := bnd hm
      refine st1on rfl rfl rfl (c10) (op_call2 (ks := []) Try.func157 rfl rfl (c_impl_ascends t.clear places [0, 1] x11 hx11) (.cons (.c rfl) (.cons (.c rfl) (.cons (.ref rfl (rowI.rnobox true _) (rowI.rshare true _)) .nil rfl) rfl) rfl) rfl rfl (.inr ⟨(sol_cons rfl sol_nil), fun p hp => (by cases hp)⟩) .nil rfl rfl (lb rfl)) (sats_opds (.cons rfl (.cons rfl (.cons rfl .nil))) (sats_app (sats_freshL rfl) (sats_needsO (obs_cons rfl obs_nil)))) ?_
      refine st1 rfl (op_pick_true (lb rfl) (c10)) (so rfl (so rfl sn)) ?_
      refine mv (lb rfl) rfl ?_
      refine rg_split (b := x11) (fun c12 => ?_) (fun c12 => ?_)
      ·
       replace hm := ite_t hm c12
       refine st1on rfl rfl rfl (c12) (op_field_bx (off := 5) Try.underlying119 Try.sizeOf3 rfl rfl rfl (lb rfl)) (so rfl (sb rfl sn)) ?_
       refine st1on rfl rfl rfl (c12) (op_load_bx Try.isAgg3 rfl (lb rfl)) (so rfl (sb rfl sn)) ?_
       obtain ⟨x13, hx13, hm⟩ := bnd hm
       refine st1on rfl rfl rfl (c12) (op_call2 (ks := []) Try.func159 rfl rfl (c_impl_isRole t.role x13 hx13) (.cons (.c rfl) .nil rfl) rfl rfl (.inl rfl) .nil rfl rfl (lb rfl)) (sats_opds (.cons rfl .nil) (sats_app (sats_freshL rfl) (sats_needsO obs_nil))) ?_
       refine st1 rfl (op_pick_true (lb rfl) (c12)) (so rfl (so rfl sn)) ?_
       refine mv (lb rfl) rfl ?_
       refine rg_split (b := x13) (fun c14 => ?_) (fun c14 => ?_)
       ·
        replace hm := ite_t hm c14
        refine st1on rfl rfl rfl (c14) (op_field_bx (off := 6) Try.underlying119 Try.sizeOf3 rfl rfl rfl (lb rfl)) (so rfl (sb rfl sn)) ?_
        refine st1on rfl rfl rfl (c14) (op_load_bx Try.isAgg3 rfl (lb rfl)) (so rfl (sb rfl sn)) ?_
        refine st1on rfl rfl rfl (c14) (op_move (lb rfl)) (so rfl sn) ?_
        obtain ⟨g15, hm⟩ := gd_some hm
        refine st1on rfl rfl rfl (c14) (op_sub (lb rfl) g15) (so rfl (so rfl sn)) ?_
        obtain ⟨x16, hx16, hm⟩ := bnd hm
        refine st1on rfl rfl rfl (c14) (op_call2 (ks := []) Try.func52 rfl rfl (c_impl_in t.apart (-1) (tasks - 1) x16 hx16) (.cons (.c rfl) (.cons (.c rfl) (.cons (.c rfl) .nil rfl) rfl) rfl) rfl rfl (.inl rfl) .nil rfl rfl (lb rfl)) (sats_opds (.cons rfl (.cons rfl (.cons rfl .nil))) (sats_app (sats_freshL rfl) (sats_needsO obs_nil))) ?_
        refine st1 rfl (op_pick_true (lb rfl) (c14)) (so rfl (so rfl sn)) ?_
        refine mv (lb rfl) rfl ?_
        refine rg_split (b := x16) (fun c17 => ?_) (fun c17 => ?_)
        ·
         replace hm := ite_t hm c17
         refine st1on rfl rfl rfl (c17) (op_field_bx (off := 7) Try.underlying119 Try.sizeOf3 rfl rfl rfl (lb rfl)) (so rfl (sb rfl sn)) ?_
         refine st1on rfl rfl rfl (c17) (op_load_bx Try.isAgg3 rfl (lb rfl)) (so rfl (sb rfl sn)) ?_
         obtain ⟨x18, hx18, hm⟩ := bnd hm
         refine st1on rfl rfl rfl (c17) (op_call2 (ks := []) Try.func52 rfl rfl (c_impl_in t.all 1 3 x18 hx18) (.cons (.c rfl) (.cons (.c rfl) (.cons (.c rfl) .nil rfl) rfl) rfl) rfl rfl (.inl rfl) .nil rfl rfl (lb rfl)) (sats_opds (.cons rfl (.cons rfl (.cons rfl .nil))) (sats_app (sats_freshL rfl) (sats_needsO obs_nil))) ?_
         refine st1 rfl (op_pick_true (lb rfl) (c17)) (so rfl (so rfl sn)) ?_
         refine mv (lb rfl) rfl ?_
         refine rg_split (b := x18) (fun c19 => ?_) (fun c19 => ?_)
         ·
          replace hm := ite_t hm c19
          refine st1on rfl rfl rfl (c19) (op_field_bx (off := 8) Try.underlying119 Try.sizeOf3 rfl rfl rfl (lb rfl)) (so rfl (sb rfl sn)) ?_
          refine st1on rfl rfl rfl (c19) (op_load_bx Try.isAgg3 rfl (lb rfl)) (so rfl (sb rfl sn)) ?_
          refine st1on rfl rfl rfl (c19) (op_field_bx (off := 7) Try.underlying119 Try.sizeOf3 rfl rfl rfl (lb rfl)) (so rfl (sb rfl sn)) ?_
          refine st1on rfl rfl rfl (c19) (op_load_bx Try.isAgg3 rfl (lb rfl)) (so rfl (sb rfl sn)) ?_
          obtain ⟨x20, hx20, hm⟩ := bnd hm
          refine st1on rfl rfl rfl (c19) (op_call2 (ks := []) Try.func52 rfl rfl (c_impl_in t.need 1 t.all x20 hx20) (.cons (.c rfl) (.cons (.c rfl) (.cons (.c rfl) .nil rfl) rfl) rfl) rfl rfl (.inl rfl) .nil rfl rfl (lb rfl)) (sats_opds (.cons rfl (.cons rfl (.cons rfl .nil))) (sats_app (sats_freshL rfl) (sats_needsO obs_nil))) ?_
          refine st1 rfl (op_pick_true (lb rfl) (c19)) (so rfl (so rfl sn)) ?_
          refine as_ (lb rfl) rfl ?_
          refine nkt ?_
          obtain rfl := Option.some.inj hm
          exact fin2_retL (.cons (.c rfl) .nil) rfl .nil rfl rfl rfl
         ·
          replace hm := ite_f hm c19
          refine st1off rfl rfl (lb rfl) rfl rfl (c19) ?_
          refine st1off rfl rfl (lb rfl) rfl rfl (c19) ?_
          refine st1off rfl rfl (lb rfl) rfl rfl (c19) ?_
          refine st1off rfl rfl (lb rfl) rfl rfl (c19) ?_
          refine st1off rfl rfl (lb rfl) rfl rfl (c19) ?_
          refine st1 rfl (op_pick_false (lb rfl) (c19)) (so rfl (so rfl sn)) ?_
          refine as_ (lb rfl) rfl ?_
          refine nkt ?_
          obtain rfl := Option.some.inj hm
          exact fin2_retL (.cons (.c rfl) .nil) rfl .nil rfl rfl rfl
        ·
         replace hm := ite_f hm c17
         refine st1off rfl rfl (lb rfl) rfl rfl (c17) ?_
         refine st1off rfl rfl (lb rfl) rfl rfl (c17) ?_
         refine st1off rfl rfl (lb rfl) rfl rfl (c17) ?_
         refine st1 rfl (op_pick_false (lb rfl) (c17)) (so rfl (so rfl sn)) ?_
         refine mv (lb rfl) rfl ?_
         refine st1off rfl rfl (lb rfl) rfl rfl (rfl) ?_
         refine st1off rfl rfl (lb rfl) rfl rfl (rfl) ?_
         refine st1off rfl rfl (lb rfl) rfl rfl (rfl) ?_
         refine st1off rfl rfl (lb rfl) rfl rfl (rfl) ?_
         refine st1off rfl rfl (lb rfl) rfl rfl (rfl) ?_
         refine st1 rfl (op_pick_false (lb rfl) (rfl)) (so rfl (so rfl sn)) ?_
         refine as_ (lb rfl) rfl ?_
         refine nkt ?_
         obtain rfl := Option.some.inj hm
         exact fin2_retL (.cons (.c rfl) .nil) rfl .nil rfl rfl rfl
       ·
        replace hm := ite_f hm c14
        refine st1off rfl rfl (lb rfl) rfl rfl (c14) ?_
        refine st1off rfl rfl (lb rfl) rfl rfl (c14) ?_
        refine st1off rfl rfl (lb rfl) rfl rfl (c14) ?_
        refine st1off rfl rfl (lb rfl) rfl rfl (c14) ?_
        refine st1off rfl rfl (lb rfl) rfl rfl (c14) ?_
        refine st1 rfl (op_pick_false (lb rfl) (c14)) (so rfl (so rfl sn)) ?_
        refine mv (lb rfl) rfl ?_
        refine st1off rfl rfl (lb rfl) rfl rfl (rfl) ?_
        refine st1off rfl rfl (lb rfl) rfl rfl (rfl) ?_
        refine st1off rfl rfl (lb rfl) rfl rfl (rfl) ?_
        refine st1 rfl (op_pick_false (lb rfl) (rfl)) (so rfl (so rfl sn)) ?_
        refine mv (lb rfl) rfl ?_
        refine st1off rfl rfl (lb rfl) rfl rfl (rfl) ?_
        refine st1off rfl rfl (lb rfl) rfl rfl (rfl) ?_
        refine st1off rfl rfl (lb rfl) rfl rfl (rfl) ?_
        refine st1off rfl rfl (lb rfl) rfl rfl (rfl) ?_
        refine st1off rfl rfl (lb rfl) rfl rfl (rfl) ?_
        refine st1 rfl (op_pick_false (lb rfl) (rfl)) (so rfl (so rfl sn)) ?_
        refine as_ (lb rfl) rfl ?_
        refine nkt ?_
        obtain rfl := Option.some.inj hm
        exact fin2_retL (.cons (.c rfl) .nil) rfl .nil rfl rfl rfl
      ·
       replace hm := ite_f hm c12
       refine st1off rfl rfl (lb rfl) rfl rfl (c12) ?_
       refine st1off rfl rfl (lb rfl) rfl rfl (c12) ?_
       refine st1off rfl rfl (lb rfl) rfl rfl (c12) ?_
       refine st1 rfl (op_pick_false (lb rfl) (c12)) (so rfl (so rfl sn)) ?_
       refine mv (lb rfl) rfl ?_
       refine st1off rfl rfl (lb rfl) rfl rfl (rfl) ?_
       refine st1off rfl rfl (lb rfl) rfl rfl (rfl) ?_
       refine st1off rfl rfl (lb rfl) rfl rfl (rfl) ?_
       refine st1off rfl rfl (lb rfl) rfl rfl (rfl) ?_
       refine st1off rfl rfl (lb rfl) rfl rfl (rfl) ?_
       refine st1 rfl (op_pick_false (lb rfl) (rfl)) (so rfl (so rfl sn)) ?_
       refine mv (lb rfl) rfl ?_
       refine st1off rfl rfl (lb rfl) rfl rfl (rfl) ?_
       refine st1off rfl rfl (lb rfl) rfl rfl (rfl) ?_
       refine st1off rfl rfl (lb rfl) rfl rfl (rfl) ?_
       refine st1 rfl (op_pick_false (lb rfl) (rfl)) (so rfl (so rfl sn)) ?_
       refine mv (lb rfl) rfl ?_
       refine st1off rfl rfl (lb rfl) rfl rfl (rfl) ?_
       refine st1off rfl rfl (lb rfl) rfl rfl (rfl) ?_
       refine st1off rfl rfl (lb rfl) rfl rfl (rfl) ?_
       refine st1off rfl rfl (lb rfl) rfl rfl (rfl) ?_
       refine st1off rfl rfl (lb rfl) rfl rfl (rfl) ?_
       refine st1 rfl (op_pick_false (lb rfl) (rfl)) (so rfl (so rfl sn)) ?_
       refine as_ (lb rfl) rfl ?_
       refine nkt ?_
       obtain rfl := Option.some.inj hm
       exact fin2_retL (.cons (.c rfl) .nil) rfl .nil rfl rfl rfl
     ·
      replace hm := ite_f hm c10
      refine st1off rfl rfl (lb rfl) rfl rfl (c10) ?_
      refine st1off rfl rfl (lb rfl) rfl rfl (c10) ?_
      refine st1off rfl rfl (lb rfl) rfl rfl (c10) ?_
      refine st1off rfl rfl (lb rfl) rfl rfl (c10) ?_
      refine st1off rfl rfl (lb rfl) rfl rfl (c10) ?_
      refine st1 rfl (op_pick_false (lb rfl) (c10)) (so rfl (so rfl sn)) ?_
      refine mv (lb rfl) rfl ?_
      refine st1off rfl rfl (lb rfl) rfl rfl (rfl) ?_
      refine st1off rfl rfl (lb rfl) rfl rfl (rfl) ?_
      refine st1off rfl rfl (lb rfl) rfl rfl (rfl) ?_
      refine st1 rfl (op_pick_false (lb rfl) (rfl)) (so rfl (so rfl sn)) ?_
      refine mv (lb rfl) rfl ?_
      refine st1off rfl rfl (lb rfl) rfl rfl (rfl) ?_
      refine st1off rfl rfl (lb rfl) rfl rfl (rfl) ?_
      refine st1off rfl rfl (lb rfl) rfl rfl (rfl) ?_
      refine st1off rfl rfl (lb rfl) rfl rfl (rfl) ?_
      refine st1off rfl rfl (lb rfl) rfl rfl (rfl) ?_
      refine st1 rfl (op_pick_false (lb rfl) (rfl)) (so rfl (so rfl sn)) ?_
      refine mv (lb rfl) rfl ?_
      refine st1off rfl rfl (lb rfl) rfl rfl (rfl) ?_
      refine st1off rfl rfl (lb rfl) rfl rfl (rfl) ?_
      refine st1off rfl rfl (lb rfl) rfl rfl (rfl) ?_
      refine st1 rfl (op_pick_false (lb rfl) (rfl)) (so rfl (so rfl sn)) ?_
      refine mv (lb rfl) rfl ?_
      refine st1off rfl rfl (lb rfl) rfl rfl (rfl) ?_
      refine st1off rfl rfl (lb rfl) rfl rfl (rfl) ?_
      refine st1off rfl rfl (lb rfl) rfl rfl (rfl) ?_
      refine st1off rfl rfl (lb rfl) rfl rfl (rfl) ?_
      refine st1off rfl rfl (lb rfl) rfl rfl (rfl) ?_
      refine st1 rfl (op_pick_false (lb rfl) (rfl)) (so rfl (so rfl sn)) ?_
      refine as_ (lb rfl) rfl ?_
      refine nkt ?_
      obtain rfl := Option.some.inj hm
      exact fin2_retL (.cons (.c rfl) .nil) rfl .nil rfl rfl rfl
    ·
     replace hm := ite_f hm c8
     refine st1off rfl rfl (lb rfl) rfl rfl (c8) ?_
     refine st1off rfl rfl (lb rfl) rfl rfl (c8) ?_
     refine st1off rfl rfl (lb rfl) rfl rfl (c8) ?_
     refine st1 rfl (op_pick_false (lb rfl) (c8)) (so rfl (so rfl sn)) ?_
     refine mv (lb rfl) rfl ?_
     refine st1off rfl rfl (lb rfl) rfl rfl (rfl) ?_
     refine st1off rfl rfl (lb rfl) rfl rfl (rfl) ?_
     refine st1off rfl rfl (lb rfl) rfl rfl (rfl) ?_
     refine st1off rfl rfl (lb rfl) rfl rfl (rfl) ?_
     refine st1off rfl rfl (lb rfl) rfl rfl (rfl) ?_
     refine st1 rfl (op_pick_false (lb rfl) (rfl)) (so rfl (so rfl sn)) ?_
     refine mv (lb rfl) rfl ?_
     refine st1off rfl rfl (lb rfl) rfl rfl (rfl) ?_
     refine st1off rfl rfl (lb rfl) rfl rfl (rfl) ?_
     refine st1off rfl rfl (lb rfl) rfl rfl (rfl) ?_
     refine st1 rfl (op_pick_false (lb rfl) (rfl)) (so rfl (so rfl sn)) ?_
     refine mv (lb rfl) rfl ?_
     refine st1off rfl rfl (lb rfl) rfl rfl (rfl) ?_
     refine st1off rfl rfl (lb rfl) rfl rfl (rfl) ?_
     refine st1off rfl rfl (lb rfl) rfl rfl (rfl) ?_
     refine st1off rfl rfl (lb rfl) rfl rfl (rfl) ?_
     refine st1off rfl rfl (lb rfl) rfl rfl (rfl) ?_
     refine st1 rfl (op_pick_false (lb rfl) (rfl)) (so rfl (so rfl sn)) ?_
     refine mv (lb rfl) rfl ?_
     refine st1off rfl rfl (lb rfl) rfl rfl (rfl) ?_
     refine st1off rfl rfl (lb rfl) rfl rfl (rfl) ?_
     refine st1off rfl rfl (lb rfl) rfl rfl (rfl) ?_
     refine st1 rfl (op_pick_false (lb rfl) (rfl)) (so rfl (so rfl sn)) ?_
     refine mv (lb rfl) rfl ?_
     refine st1off rfl rfl (lb rfl) rfl rfl (rfl) ?_
     refine st1off rfl rfl (lb rfl) rfl rfl (rfl) ?_
     refine st1off rfl rfl (lb rfl) rfl rfl (rfl) ?_
     refine st1off rfl rfl (lb rfl) rfl rfl (rfl) ?_
     refine st1off rfl rfl (lb rfl) rfl rfl (rfl) ?_
     refine st1 rfl (op_pick_false (lb rfl) (rfl)) (so rfl (so rfl sn)) ?_
     refine as_ (lb rfl) rfl ?_
     refine nkt ?_
     obtain rfl := Option.some.inj hm
     exact fin2_retL (.cons (.c rfl) .nil) rfl .nil rfl rfl rfl
   ·
    replace hm := ite_f hm c6
    refine st1off rfl rfl (lb rfl) rfl rfl (c6) ?_
    refine st1off rfl rfl (lb rfl) rfl rfl (c6) ?_
    refine st1off rfl rfl (lb rfl) rfl rfl (c6) ?_
    refine st1off rfl rfl (lb rfl) rfl rfl (c6) ?_
    refine st1off rfl rfl (lb rfl) rfl rfl (c6) ?_
    refine st1 rfl (op_pick_false (lb rfl) (c6)) (so rfl (so rfl sn)) ?_
    refine mv (lb rfl) rfl ?_
    refine st1off rfl rfl (lb rfl) rfl rfl (rfl) ?_
    refine st1off rfl rfl (lb rfl) rfl rfl (rfl) ?_
    refine st1off rfl rfl (lb rfl) rfl rfl (rfl) ?_
    refine st1 rfl (op_pick_false (lb rfl) (rfl)) (so rfl (so rfl sn)) ?_
    refine mv (lb rfl) rfl ?_
    refine st1off rfl rfl (lb rfl) rfl rfl (rfl) ?_
    refine st1off rfl rfl (lb rfl) rfl rfl (rfl) ?_
    refine st1off rfl rfl (lb rfl) rfl rfl (rfl) ?_
    refine st1off rfl rfl (lb rfl) rfl rfl (rfl) ?_
    refine st1off rfl rfl (lb rfl) rfl rfl (rfl) ?_
    refine st1 rfl (op_pick_false (lb rfl) (rfl)) (so rfl (so rfl sn)) ?_
    refine mv (lb rfl) rfl ?_
    refine st1off rfl rfl (lb rfl) rfl rfl (rfl) ?_
    refine st1off rfl rfl (lb rfl) rfl rfl (rfl) ?_
    refine st1off rfl rfl (lb rfl) rfl rfl (rfl) ?_
    refine st1 rfl (op_pick_false (lb rfl) (rfl)) (so rfl (so rfl sn)) ?_
    refine mv (lb rfl) rfl ?_
    refine st1off rfl rfl (lb rfl) rfl rfl (rfl) ?_
    refine st1off rfl rfl (lb rfl) rfl rfl (rfl) ?_
    refine st1off rfl rfl (lb rfl) rfl rfl (rfl) ?_
    refine st1off rfl rfl (lb rfl) rfl rfl (rfl) ?_
    refine st1off rfl rfl (lb rfl) rfl rfl (rfl) ?_
    refine st1 rfl (op_pick_false (lb rfl) (rfl)) (so rfl (so rfl sn)) ?_
    refine mv (lb rfl) rfl ?_
    refine st1off rfl rfl (lb rfl) rfl rfl (rfl) ?_
    refine st1off rfl rfl (lb rfl) rfl rfl (rfl) ?_
    refine st1off rfl rfl (lb rfl) rfl rfl (rfl) ?_
    refine st1 rfl (op_pick_false (lb rfl) (rfl)) (so rfl (so rfl sn)) ?_
    refine mv (lb rfl) rfl ?_
    refine st1off rfl rfl (lb rfl) rfl rfl (rfl) ?_
    refine st1off rfl rfl (lb rfl) rfl rfl (rfl) ?_
    refine st1off rfl rfl (lb rfl) rfl rfl (rfl) ?_
    refine st1off rfl rfl (lb rfl) rfl rfl (rfl) ?_
    refine st1off rfl rfl (lb rfl) rfl rfl (rfl) ?_
    refine st1 rfl (op_pick_false (lb rfl) (rfl)) (so rfl (so rfl sn)) ?_
    refine as_ (lb rfl) rfl ?_
    refine nkt ?_
    obtain rfl := Option.some.inj hm
    exact fin2_retL (.cons (.c rfl) .nil) rfl .nil rfl rfl rfl
  ·
   replace hm := ite_f hm c4
   refine st1off rfl rfl (lb rfl) rfl rfl (c4) ?_
   refine st1off rfl rfl (lb rfl) rfl rfl (c4) ?_
   refine st1off rfl rfl (lb rfl) rfl rfl (c4) ?_
   refine st1off rfl rfl (lb rfl) rfl rfl (c4) ?_
   refine st1 rfl (op_pick_false (lb rfl) (c4)) (so rfl (so rfl sn)) ?_
   refine mv (lb rfl) rfl ?_
   refine st1off rfl rfl (lb rfl) rfl rfl (rfl) ?_
   refine st1off rfl rfl (lb rfl) rfl rfl (rfl) ?_
   refine st1off rfl rfl (lb rfl) rfl rfl (rfl) ?_
   refine st1off rfl rfl (lb rfl) rfl rfl (rfl) ?_
   refine st1off rfl rfl (lb rfl) rfl rfl (rfl) ?_
   refine st1 rfl (op_pick_false (lb rfl) (rfl)) (so rfl (so rfl sn)) ?_
   refine mv (lb rfl) rfl ?_
   refine st1off rfl rfl (lb rfl) rfl rfl (rfl) ?_
   refine st1off rfl rfl (lb rfl) rfl rfl (rfl) ?_
   refine st1off rfl rfl (lb rfl) rfl rfl (rfl) ?_
   refine st1 rfl (op_pick_false (lb rfl) (rfl)) (so rfl (so rfl sn)) ?_
   refine mv (lb rfl) rfl ?_
   refine st1off rfl rfl (lb rfl) rfl rfl (rfl) ?_
   refine st1off rfl rfl (lb rfl) rfl rfl (rfl) ?_
   refine st1off rfl rfl (lb rfl) rfl rfl (rfl) ?_
   refine st1off rfl rfl (lb rfl) rfl rfl (rfl) ?_
   refine st1off rfl rfl (lb rfl) rfl rfl (rfl) ?_
   refine st1 rfl (op_pick_false (lb rfl) (rfl)) (so rfl (so rfl sn)) ?_
   refine mv (lb rfl) rfl ?_
   refine st1off rfl rfl (lb rfl) rfl rfl (rfl) ?_
   refine st1off rfl rfl (lb rfl) rfl rfl (rfl) ?_
   refine st1off rfl rfl (lb rfl) rfl rfl (rfl) ?_
   refine st1 rfl (op_pick_false (lb rfl) (rfl)) (so rfl (so rfl sn)) ?_
   refine mv (lb rfl) rfl ?_
   refine st1off rfl rfl (lb rfl) rfl rfl (rfl) ?_
   refine st1off rfl rfl (lb rfl) rfl rfl (rfl) ?_
   refine st1off rfl rfl (lb rfl) rfl rfl (rfl) ?_
   refine st1off rfl rfl (lb rfl) rfl rfl (rfl) ?_
   refine st1off rfl rfl (lb rfl) rfl rfl (rfl) ?_
   refine st1 rfl (op_pick_false (lb rfl) (rfl)) (so rfl (so rfl sn)) ?_
   refine mv (lb rfl) rfl ?_
   refine st1off rfl rfl (lb rfl) rfl rfl (rfl) ?_
   refine st1off rfl rfl (lb rfl) rfl rfl (rfl) ?_
   refine st1off rfl rfl (lb rfl) rfl rfl (rfl) ?_
   refine st1 rfl (op_pick_false (lb rfl) (rfl)) (so rfl (so rfl sn)) ?_
   refine mv (lb rfl) rfl ?_
   refine st1off rfl rfl (lb rfl) rfl rfl (rfl) ?_
   refine st1off rfl rfl (lb rfl) rfl rfl (rfl) ?_
   refine st1off rfl rfl (lb rfl) rfl rfl (rfl) ?_
   refine st1off rfl rfl (lb rfl) rfl rfl (rfl) ?_
   refine st1off rfl rfl (lb rfl) rfl rfl (rfl) ?_
   refine st1 rfl (op_pick_false (lb rfl) (rfl)) (so rfl (so rfl sn)) ?_
   refine as_ (lb rfl) rfl ?_
   refine nkt ?_
   obtain rfl := Option.some.inj hm
   exact fin2_retL (.cons (.c rfl) .nil) rfl .nil rfl rfl rfl
 ·
  replace hm := ite_f hm c2
  refine st1off rfl rfl (lb rfl) rfl rfl (c2) ?_
  refine st1off rfl rfl (lb rfl) rfl rfl (c2) ?_
  refine st1off rfl rfl (lb rfl) rfl rfl (c2) ?_
  refine st1 rfl (op_pick_false (lb rfl) (c2)) (so rfl (so rfl sn)) ?_
  refine mv (lb rfl) rfl ?_
  refine st1off rfl rfl (lb rfl) rfl rfl (rfl) ?_
  refine st1off rfl rfl (lb rfl) rfl rfl (rfl) ?_
  refine st1off rfl rfl (lb rfl) rfl rfl (rfl) ?_
  refine st1off rfl rfl (lb rfl) rfl rfl (rfl) ?_
  refine st1 rfl (op_pick_false (lb rfl) (rfl)) (so rfl (so rfl sn)) ?_
  refine mv (lb rfl) rfl ?_
  refine st1off rfl rfl (lb rfl) rfl rfl (rfl) ?_
  refine st1off rfl rfl (lb rfl) rfl rfl (rfl) ?_
  refine st1off rfl rfl (lb rfl) rfl rfl (rfl) ?_
  refine st1off rfl rfl (lb rfl) rfl rfl (rfl) ?_
  refine st1off rfl rfl (lb rfl) rfl rfl (rfl) ?_
  refine st1 rfl (op_pick_false (lb rfl) (rfl)) (so rfl (so rfl sn)) ?_
  refine mv (lb rfl) rfl ?_
  refine st1off rfl rfl (lb rfl) rfl rfl (rfl) ?_
  refine st1off rfl rfl (lb rfl) rfl rfl (rfl) ?_
  refine st1off rfl rfl (lb rfl) rfl rfl (rfl) ?_
  refine st1 rfl (op_pick_false (lb rfl) (rfl)) (so rfl (so rfl sn)) ?_
  refine mv (lb rfl) rfl ?_
  refine st1off rfl rfl (lb rfl) rfl rfl (rfl) ?_
  refine st1off rfl rfl (lb rfl) rfl rfl (rfl) ?_
  refine st1off rfl rfl (lb rfl) rfl rfl (rfl) ?_
  refine st1off rfl rfl (lb rfl) rfl rfl (rfl) ?_
  refine st1off rfl rfl (lb rfl) rfl rfl (rfl) ?_
  refine st1 rfl (op_pick_false (lb rfl) (rfl)) (so rfl (so rfl sn)) ?_
  refine mv (lb rfl) rfl ?_
  refine st1off rfl rfl (lb rfl) rfl rfl (rfl) ?_
  refine st1off rfl rfl (lb rfl) rfl rfl (rfl) ?_
  refine st1off rfl rfl (lb rfl) rfl rfl (rfl) ?_
  refine st1 rfl (op_pick_false (lb rfl) (rfl)) (so rfl (so rfl sn)) ?_
  refine mv (lb rfl) rfl ?_
  refine st1off rfl rfl (lb rfl) rfl rfl (rfl) ?_
  refine st1off rfl rfl (lb rfl) rfl rfl (rfl) ?_
  refine st1off rfl rfl (lb rfl) rfl rfl (rfl) ?_
  refine st1off rfl rfl (lb rfl) rfl rfl (rfl) ?_
  refine st1off rfl rfl (lb rfl) rfl rfl (rfl) ?_
  refine st1 rfl (op_pick_false (lb rfl) (rfl)) (so rfl (so rfl sn)) ?_
  refine mv (lb rfl) rfl ?_
  refine st1off rfl rfl (lb rfl) rfl rfl (rfl) ?_
  refine st1off rfl rfl (lb rfl) rfl rfl (rfl) ?_
  refine st1off rfl rfl (lb rfl) rfl rfl (rfl) ?_
  refine st1 rfl (op_pick_false (lb rfl) (rfl)) (so rfl (so rfl sn)) ?_
  refine mv (lb rfl) rfl ?_
  refine st1off rfl rfl (lb rfl) rfl rfl (rfl) ?_
  refine st1off rfl rfl (lb rfl) rfl rfl (rfl) ?_
  refine st1off rfl rfl (lb rfl) rfl rfl (rfl) ?_
  refine st1off rfl rfl (lb rfl) rfl rfl (rfl) ?_
  refine st1off rfl rfl (lb rfl) rfl rfl (rfl) ?_
  refine st1 rfl (op_pick_false (lb rfl) (rfl)) (so rfl (so rfl sn)) ?_
  refine as_ (lb rfl) rfl ?_
  refine nkt ?_
  obtain rfl := Option.some.inj hm
  exact fin2_retL (.cons (.c rfl) .nil) rfl .nil rfl rfl rfl

def m_impl_NetOk_1 (t : GTask) (n : GNet) : Option Bool := (m_impl_NetTask_ok t n.places (n.tasks.length : Int)).bind fun x1 => (some (!x1))

theorem c_impl_NetOk_1 (t : GTask) (n : GNet) (rz : Bool) (hm : m_impl_NetOk_1 t n = some rz) : FnB Try.prog 149 [.row (GTask.cells false t), .pts (GNet.cells false n)] [.c (cB rz)] [] := by
 unfold m_impl_NetOk_1 at hm
 refine fn_intro2 (n := 12) (rvs := [.tmp 3]) Try.func149 rfl rfl rfl (lb rfl) rfl rfl rfl rfl rfl ?_
 refine acode_seq ?_
 refine acode_le (le_stU (env := [(0, .row [cI t.join, cI t.split, .sl false 1 (t.in_.map (fun n : Int => [cI n])), .sl false 4 (t.out.map (GFlow.cells false)), .sl false 1 (t.clear.map (fun n : Int => [cI n])), cI t.role, cI t.apart, cI t.all, cI t.need]), (1, .pts [cI n.places, .sl false 9 (n.tasks.map (GTask.cells false))])]) (obj := []) idn (.cons rfl rfl (.cons rfl rfl .nil)) .nil rfl) ?_
 refine acode_region ?_
 refine st1 rfl (op_box rfl (lb rfl)) (so rfl (sf rfl (sats_lives rfl))) ?_
 refine as_ (lb rfl) rfl ?_
 refine nk ?_
 refine sr ?_
 refine st1 rfl (op_load_bx_agg Try.isAgg119 Try.sizeOf119 rfl rfl (lb rfl)) (so rfl (sb rfl sn)) ?_
 refine st1 rfl (op_field_pts (off := 0) Try.underlying65 Try.sizeOf3 rfl rfl rfl rfl (lb rfl)) (so rfl sn) ?_
 refine st1 rfl (op_load_pts Try.isAgg3 rfl (lb rfl)) (so rfl sn) ?_
 refine st1 rfl (op_field_pts (off := 1) Try.underlying65 Try.sizeOf63 rfl rfl rfl rfl (lb rfl)) (so rfl sn) ?_
 refine st1 rfl (op_load_pts Try.isAgg63 rfl (lb rfl)) (so rfl sn) ?_
 refine st1 rfl (op_len_sh (f := (GTask.cells false)) (l := n.tasks) Try.underlying63 (lb rfl)) (so rfl sn) ?_
 obtain ⟨x1, hx1, hm⟩ := bnd hm
 refine st1 rfl (op_call2 (ks := []) Try.func150 rfl rfl (c_impl_NetTask_ok t n.places (n.tasks.length : Int) x1 hx1) (.cons ((.aggCons (.c rfl) (.aggCons (.c rfl) (.aggCons (.c rfl) (.aggCons (.c rfl) (.aggCons (.c rfl) (.aggCons (.c rfl) (.aggCons (.c rfl) (.aggCons (.c rfl) (.aggCons (.c rfl) .aggNil rfl) rfl) rfl) rfl) rfl) rfl) rfl) rfl) rfl)) (.cons (.c rfl) (.cons (.c rfl) .nil rfl) rfl) rfl) rfl rfl (.inl rfl) .nil rfl rfl (lb rfl)) (sats_opds (.cons rfl (.cons rfl (.cons rfl .nil))) (sats_app (sats_freshL rfl) (sats_needsO obs_nil))) ?_
 refine st1 rfl (op_not (lb rfl)) (so rfl sn) ?_
 refine as_ (lb rfl) rfl ?_
 refine nkt ?_
 obtain rfl := Option.some.inj hm
 exact fin2_retL (.cons (.c rfl) .nil) rfl .nil rfl rfl rfl

def m_impl_NetOk (n : GNet) : Option Bool := (m_impl_sizesOk n.places (n.tasks.length : Int)).bind fun x1 => (if x1 = true then ((m_ContainsFunc_GTask n.tasks (fun z => m_impl_NetOk_1 z n)).bind fun x3 => (some (!x3))) else (some false))

theorem c_impl_NetOk (n : GNet) (rz : Bool) (hm : m_impl_NetOk n = some rz) : FnB Try.prog 140 [.row (GNet.cells false n)] [.c (cB rz)] [] := by
 unfold m_impl_NetOk at hm
 refine fn_intro2 (n := 16) (rvs := [.tmp 2]) Try.func140 rfl rfl rfl (lb rfl) rfl rfl rfl rfl rfl ?_
 refine acode_seq ?_
 refine acode_le (le_stU (env := [(0, .row [cI n.places, .sl false 9 (n.tasks.map (GTask.cells false))])]) (obj := []) idn (.cons rfl rfl .nil) .nil rfl) ?_
 refine acode_region ?_
 refine st1 rfl (op_box rfl (lb rfl)) (so rfl (sf rfl (sats_lives rfl))) ?_
 refine as_ (lb rfl) rfl ?_
 refine nk ?_
 refine sr ?_
 refine fdb (off := 0) Try.underlying65 Try.sizeOf3 rfl rfl rfl (lb rfl) rfl rfl ?_
 refine ldb Try.isAgg3 rfl (lb rfl) rfl rfl ?_
 refine fdb (off := 1) Try.underlying65 Try.sizeOf63 rfl rfl rfl (lb rfl) rfl rfl ?_
 refine ldb Try.isAgg63 rfl (lb rfl) rfl rfl ?_
 refine st1 rfl (op_len_sh (f := (GTask.cells false)) (l := n.tasks) Try.underlying63 (lb rfl)) (so rfl sn) ?_
 obtain ⟨x1, hx1, hm⟩ := bnd hm
 refine st1 rfl (op_call2 (ks := []) Try.func147 rfl rfl (c_impl_sizesOk n.places (n.tasks.length : Int) x1 hx1) (.cons (.c rfl) (.cons (.c rfl) .nil rfl) rfl) rfl rfl (.inl rfl) .nil rfl rfl (lb rfl)) (sats_opds (.cons rfl (.cons rfl .nil)) (sats_app (sats_freshL rfl) (sats_needsO obs_nil))) ?_
 refine mv (lb rfl) rfl ?_
 refine rg_split (b := x1) (fun c2 => ?_) (fun c2 => ?_)
 ·
  replace hm := ite_t hm c2
  refine st1on rfl rfl rfl (c2) (op_field_bx (off := 1) Try.underlying65 Try.sizeOf63 rfl rfl rfl (lb rfl)) (so rfl (sb rfl sn)) ?_
  refine st1on rfl rfl rfl (c2) (op_load_bx Try.isAgg63 rfl (lb rfl)) (so rfl (sb rfl sn)) ?_
  refine st1on rfl rfl rfl (c2) (op_makeFunc rfl (lb rfl)) (sats_opds (.cons rfl .nil) (sats_lives rfl)) ?_
  obtain ⟨x3, hx3, hm⟩ := bnd hm
  refine st1on rfl rfl rfl (c2) (op_call2 (ks := []) Try.func148 rfl rfl (c_ContainsFunc_GTask ⟨_, _, Try.func149, rfl, rfl⟩ rfl n.tasks (fun z => m_impl_NetOk_1 z n) (fun z y hz => c_impl_NetOk_1 z n y hz) x3 hx3) (.cons (.c rfl) (.cons ((.fnCons (.bxs (.aggCons (.c rfl) (.aggCons (.c rfl) .aggNil rfl) rfl)) .fnNil)) .nil rfl) rfl) rfl rfl (.inr ⟨(sol_cons rfl sol_nil), fun p hp => (by cases hp)⟩) .nil rfl rfl (lb rfl)) (sats_opds (.cons rfl (.cons rfl .nil)) (sats_app (sats_freshL rfl) (sats_needsO (obs_cons rfl obs_nil)))) ?_
  refine st1on rfl rfl rfl (c2) (op_not (lb rfl)) (so rfl sn) ?_
  refine st1 rfl (op_pick_true (lb rfl) (c2)) (so rfl (so rfl sn)) ?_
  refine as_ (lb rfl) rfl ?_
  refine nkt ?_
  obtain rfl := Option.some.inj hm
  exact fin2_retL (.cons (.c rfl) .nil) rfl .nil rfl rfl rfl
 ·
  replace hm := ite_f hm c2
  refine st1off rfl rfl (lb rfl) rfl rfl (c2) ?_
  refine st1off rfl rfl (lb rfl) rfl rfl (c2) ?_
  refine st1off rfl rfl (lb rfl) rfl rfl (c2) ?_
  refine st1off rfl rfl (lb rfl) rfl rfl (c2) ?_
  refine st1off rfl rfl (lb rfl) rfl rfl (c2) ?_
  refine st1 rfl (op_pick_false (lb rfl) (c2)) (so rfl (so rfl sn)) ?_
  refine as_ (lb rfl) rfl ?_
  refine nkt ?_
  obtain rfl := Option.some.inj hm
  exact fin2_retL (.cons (.c rfl) .nil) rfl .nil rfl rfl rfl

def m_impl_NetNet_marksOk_1 (m : Int) : Option Bool := (m_impl_in m 0 4).bind fun x1 => (some (!x1))

theorem c_impl_NetNet_marksOk_1 (m : Int) (rz : Bool) (hm : m_impl_NetNet_marksOk_1 m = some rz) : FnB Try.prog 128 [.c (cI m)] [.c (cB rz)] [] := by
 unfold m_impl_NetNet_marksOk_1 at hm
 refine fn_intro2 (n := 6) (rvs := [.tmp 2]) Try.func128 rfl rfl rfl (lb rfl) rfl rfl rfl rfl rfl ?_
 refine acode_seq ?_
 refine acode_le (le_stU (env := [(0, aInt m)]) (obj := []) idn (.cons rfl rfl .nil) .nil rfl) ?_
 refine acode_region ?_
 refine as_ (lb rfl) rfl ?_
 refine nk ?_
 refine sr ?_
 refine mv (lb rfl) rfl ?_
 obtain ⟨x1, hx1, hm⟩ := bnd hm
 refine st1 rfl (op_call2 (ks := []) Try.func52 rfl rfl (c_impl_in m 0 4 x1 hx1) (.cons (.c rfl) (.cons (.c rfl) (.cons (.c rfl) .nil rfl) rfl) rfl) rfl rfl (.inl rfl) .nil rfl rfl (lb rfl)) (sats_opds (.cons rfl (.cons rfl (.cons rfl .nil))) (sats_app (sats_freshL rfl) (sats_needsO obs_nil))) ?_
 refine st1 rfl (op_not (lb rfl)) (so rfl sn) ?_
 refine as_ (lb rfl) rfl ?_
 refine nkt ?_
 obtain rfl := Option.some.inj hm
 exact fin2_retL (.cons (.c rfl) .nil) rfl .nil rfl rfl rfl

def m_impl_NetNet_marksOk (n : GNet) (marks : List Int) : Option Bool := if decide ((marks.length : Int) = n.places) = true then ((m_ContainsFunc_I marks (fun z => m_impl_NetNet_marksOk_1 z )).bind fun x2 => (some (!x2))) else (some false)

theorem c_impl_NetNet_marksOk (n : GNet) (marks : List Int) (rz : Bool) (hm : m_impl_NetNet_marksOk n marks = some rz) : FnB Try.prog 81 [.row (GNet.cells false n), .c (.sl false 1 (marks.map (fun n : Int => [cI n])))] [.c (cB rz)] [] := by
 unfold m_impl_NetNet_marksOk at hm
 refine fn_intro2 (n := 15) (rvs := [.tmp 4]) Try.func81 rfl rfl rfl (lb rfl) rfl rfl rfl rfl rfl ?_
 refine acode_seq ?_
 refine acode_le (le_stU (env := [(0, .row [cI n.places, .sl false 9 (n.tasks.map (GTask.cells false))]), (1, .c (.sl false 1 (marks.map (fun n : Int => [cI n]))))]) (obj := []) idn (.cons rfl rfl (.cons rfl rfl .nil)) .nil rfl) ?_
 refine acode_region ?_
 refine st1 rfl (op_box rfl (lb rfl)) (so rfl (sf rfl (sats_lives rfl))) ?_
 refine as_ (lb rfl) rfl ?_
 refine nk ?_
 refine sr ?_
 refine mv (lb rfl) rfl ?_
 refine st1 rfl (op_len_sh (f := (fun n : Int => [cI n])) (l := marks) Try.underlying34 (lb rfl)) (so rfl sn) ?_
 refine fdb (off := 0) Try.underlying65 Try.sizeOf3 rfl rfl rfl (lb rfl) rfl rfl ?_
 refine ldb Try.isAgg3 rfl (lb rfl) rfl rfl ?_
 refine st1 rfl (op_eql (lb rfl)) (so rfl (so rfl sn)) ?_
 refine mv (lb rfl) rfl ?_
 refine rg_split (b := decide ((marks.length : Int) = n.places)) (fun c1 => ?_) (fun c1 => ?_)
 ·
  replace hm := ite_t hm c1
  refine st1on rfl rfl rfl (c1) (op_move (lb rfl)) (so rfl sn) ?_
  obtain ⟨x2, hx2, hm⟩ := bnd hm
  refine st1on rfl rfl rfl (c1) (op_call2 (ks := []) Try.func127 rfl rfl (c_ContainsFunc_I ⟨_, _, Try.func128, rfl, rfl⟩ rfl marks (fun z => m_impl_NetNet_marksOk_1 z ) (fun z y hz => c_impl_NetNet_marksOk_1 z  y hz) x2 hx2) (.cons (.c rfl) (.cons .fnNil .nil rfl) rfl) rfl rfl (.inl rfl) .nil rfl rfl (lb rfl)) (sats_opds (.cons rfl (.cons rfl .nil)) (sats_app (sats_freshL rfl) (sats_needsO obs_nil))) ?_
  refine st1on rfl rfl rfl (c1) (op_not (lb rfl)) (so rfl sn) ?_
  refine st1 rfl (op_pick_true (lb rfl) (c1)) (so rfl (so rfl sn)) ?_
  refine as_ (lb rfl) rfl ?_
  refine nkt ?_
  obtain rfl := Option.some.inj hm
  exact fin2_retL (.cons (.c rfl) .nil) rfl .nil rfl rfl rfl
 ·
  replace hm := ite_f hm c1
  refine st1off rfl rfl (lb rfl) rfl rfl (c1) ?_
  refine st1off rfl rfl (lb rfl) rfl rfl (c1) ?_
  refine st1off rfl rfl (lb rfl) rfl rfl (c1) ?_
  refine st1 rfl (op_pick_false (lb rfl) (c1)) (so rfl (so rfl sn)) ?_
  refine as_ (lb rfl) rfl ?_
  refine nkt ?_
  obtain rfl := Option.some.inj hm
  exact fin2_retL (.cons (.c rfl) .nil) rfl .nil rfl rfl rfl

def m_impl_MrkOk (n : GNet) (marks : List Int) : Option Bool := (m_impl_NetOk n).bind fun x1 => (if x1 = true then ((m_impl_NetNet_marksOk n marks).bind fun x3 => (some x3)) else (some false))

theorem c_impl_MrkOk (n : GNet) (marks : List Int) (rz : Bool) (hm : m_impl_MrkOk n marks = some rz) : FnB Try.prog 123 [.row (GNet.cells false n), .c (.sl false 1 (marks.map (fun n : Int => [cI n])))] [.c (cB rz)] [] := by
 unfold m_impl_MrkOk at hm
 refine fn_intro2 (n := 12) (rvs := [.tmp 4]) Try.func123 rfl rfl rfl (lb rfl) rfl rfl rfl rfl rfl ?_
 refine acode_seq ?_
 refine acode_le (le_stU (env := [(0, .row [cI n.places, .sl false 9 (n.tasks.map (GTask.cells false))]), (1, .c (.sl false 1 (marks.map (fun n : Int => [cI n]))))]) (obj := []) idn (.cons rfl rfl (.cons rfl rfl .nil)) .nil rfl) ?_
 refine acode_region ?_
 refine st1 rfl (op_box rfl (lb rfl)) (so rfl (sf rfl (sats_lives rfl))) ?_
 refine as_ (lb rfl) rfl ?_
 refine nk ?_
 refine sr ?_
 refine st1 rfl (op_load_bx_agg Try.isAgg65 Try.sizeOf65 rfl rfl (lb rfl)) (so rfl (sb rfl sn)) ?_
 obtain ⟨x1, hx1, hm⟩ := bnd hm
 refine st1 rfl (op_call2 (ks := []) Try.func140 rfl rfl (c_impl_NetOk n x1 hx1) (.cons ((.aggCons (.c rfl) (.aggCons (.c rfl) .aggNil rfl) rfl)) .nil rfl) rfl rfl (.inl rfl) .nil rfl rfl (lb rfl)) (sats_opds (.cons rfl .nil) (sats_app (sats_freshL rfl) (sats_needsO obs_nil))) ?_
 refine mv (lb rfl) rfl ?_
 refine rg_split (b := x1) (fun c2 => ?_) (fun c2 => ?_)
 ·
  replace hm := ite_t hm c2
  refine st1on rfl rfl rfl (c2) (op_load_bx_agg Try.isAgg65 Try.sizeOf65 rfl rfl (lb rfl)) (so rfl (sb rfl sn)) ?_
  refine st1on rfl rfl rfl (c2) (op_move (lb rfl)) (so rfl sn) ?_
  obtain ⟨x3, hx3, hm⟩ := bnd hm
  refine st1on rfl rfl rfl (c2) (op_call2 (ks := []) Try.func81 rfl rfl (c_impl_NetNet_marksOk n marks x3 hx3) (.cons ((.aggCons (.c rfl) (.aggCons (.c rfl) .aggNil rfl) rfl)) (.cons (.c rfl) .nil rfl) rfl) rfl rfl (.inl rfl) .nil rfl rfl (lb rfl)) (sats_opds (.cons rfl (.cons rfl .nil)) (sats_app (sats_freshL rfl) (sats_needsO obs_nil))) ?_
  refine st1 rfl (op_pick_true (lb rfl) (c2)) (so rfl (so rfl sn)) ?_
  refine as_ (lb rfl) rfl ?_
  refine nkt ?_
  obtain rfl := Option.some.inj hm
  exact fin2_retL (.cons (.c rfl) .nil) rfl .nil rfl rfl rfl
 ·
  replace hm := ite_f hm c2
  refine st1off rfl rfl (lb rfl) rfl rfl (c2) ?_
  refine st1off rfl rfl (lb rfl) rfl rfl (c2) ?_
  refine st1off rfl rfl (lb rfl) rfl rfl (c2) ?_
  refine st1 rfl (op_pick_false (lb rfl) (c2)) (so rfl (so rfl sn)) ?_
  refine as_ (lb rfl) rfl ?_
  refine nkt ?_
  obtain rfl := Option.some.inj hm
  exact fin2_retL (.cons (.c rfl) .nil) rfl .nil rfl rfl rfl

def m_impl_NetNet_busyOk_k1 (busy : List GItem) : Option Bool := some (decide ((busy.length : Int) ≤ 6))
def m_impl_NetNet_busyOk_l0 (n : GNet) (busy : List GItem) (kx0_0 : Option Bool) : Nat → Int → Option Bool
  | 0, _ => none
  | n0 + 1, s0_0 => if decide (s0_0 < (busy.length : Int)) = true then ((getI busy s0_0).bind fun x2 => ((m_impl_NetNet_hasTask n x2.task).bind fun x3 => (if x3 = true then ((m_impl_isPerson x2.who).bind fun x5 => (if x5 = true then ((getI n.tasks x2.task).bind fun x7 => (gd (ok64 (x7.need - 1)) ((m_impl_in x2.did 0 (x7.need - 1)).bind fun x9 => (if x9 = true then (gd (ok64 (s0_0 + 1)) ((m_impl_NetNet_busyOk_l0 n busy kx0_0 n0) (s0_0 + 1))) else (some false))))) else (some false))) else (some false)))) else (kx0_0)
def m_impl_NetNet_busyOk (n : GNet) (busy : List GItem) : Option Bool := m_impl_NetNet_busyOk_l0 n busy (m_impl_NetNet_busyOk_k1 busy) FUEL 0

theorem c_impl_NetNet_busyOk (n : GNet) (busy : List GItem) (rz : Bool) (hm : m_impl_NetNet_busyOk n busy = some rz) : FnB Try.prog 124 [.row (GNet.cells false n), .c (.sl false 3 (busy.map (GItem.cells false)))] [.c (cB rz)] [] := by
 unfold m_impl_NetNet_busyOk at hm
 refine fn_intro2 (n := 42) (rvs := [.tmp 4]) Try.func124 rfl rfl rfl (lb rfl) rfl rfl rfl rfl rfl ?_
 refine acode_seq ?_
 refine acode_le (le_stU (env := [(0, .row [cI n.places, .sl false 9 (n.tasks.map (GTask.cells false))]), (1, .c (.sl false 3 (busy.map (GItem.cells false))))]) (obj := []) idn (.cons rfl rfl (.cons rfl rfl .nil)) .nil rfl) ?_
 refine acode_region ?_
 refine st1 rfl (op_box rfl (lb rfl)) (so rfl (sf rfl (sats_lives rfl))) ?_
 refine as_ (lb rfl) rfl ?_
 refine nk ?_
 refine acode_seq ?_
 refine sr ?_
 refine mv (lb rfl) rfl ?_
 refine st1 rfl (op_len_sh (f := (GItem.cells false)) (l := busy) Try.underlying67 (lb rfl)) (so rfl sn) ?_
 refine mv (lb rfl) rfl ?_
 refine nk ?_
 refine acode_block ?_
 refine acode_loopk (xs := [1, 2, 7, 8]) (ys := [2]) (S := Nat × Int) (fun z => [(9, aInt z.2)]) (fun z => []) (fun z => m_impl_NetNet_busyOk_l0 n busy (m_impl_NetNet_busyOk_k1 busy) z.1 z.2 = some rz) (fun z => z.1) (FUEL, 0) (.cons rfl (.cons rfl (.cons rfl (.cons rfl .nil)))) (.cons rfl .nil) ?em ?eo rfl ?ei ?round
 case em => exact (.cons rfl rfl .nil)
 case eo => exact .nil
 case ei => exact hm
 case round =>
  rintro ⟨n0, s0_0⟩ hm
  dsimp only at hm ⊢
  cases n0 with
  | zero => rw [m_impl_NetNet_busyOk_l0] at hm; cases hm
  | succ n0 =>
   rw [m_impl_NetNet_busyOk_l0] at hm
   refine sr ?_
   refine st1 rfl (op_lss (lb rfl)) (so rfl (so rfl sn)) ?_
   refine nk ?_
   refine acode_seq ?_
   refine acode_split (b := decide (s0_0 < (busy.length : Int))) (fun c1 => ?_) (fun c1 => ?_)
   ·
    replace hm := ite_t hm c1
    refine acode_cond_true rfl (c1) ?_
    refine pk ?_
    refine acode_seq ?_
    refine acode_block ?_
    refine sr ?_
    obtain ⟨x2, hx2, hm⟩ := bnd hm
    refine st1 rfl (op_index_shG (f := (GItem.cells false)) (l := busy) Try.underlying67 Try.sizeOf121 (lb rfl) hx2) (so rfl (so rfl sn)) ?_
    refine st1 rfl (op_load_pts_row Try.isAgg121 Try.sizeOf121 rfl rfl (lb rfl)) (so rfl sn) ?_
    refine st1 rfl (op_alloc Try.zeroValue121 rfl (lb rfl)) (sf rfl sn) ?_
    refine st1 rfl (op_store_bxS Try.sizeOf121 rfl rfl rfl rfl) (so rfl (so rfl (sb rfl (sats_lives rfl)))) ?_
    refine nk ?_
    refine acode_seq ?_
    refine acode_region_draw mixed rfl ?_
    refine st1 rfl (op_load_bx_agg Try.isAgg65 Try.sizeOf65 rfl rfl (lb rfl)) (so rfl (sb rfl sn)) ?_
    refine fdb (off := 0) Try.underlying121 Try.sizeOf3 rfl rfl rfl (lb rfl) rfl rfl ?_
    refine ldb Try.isAgg3 rfl (lb rfl) rfl rfl ?_
    obtain ⟨x3, hx3, hm⟩ := bnd hm
    refine st1 rfl (op_call2 (ks := []) Try.func125 rfl rfl (c_impl_NetNet_hasTask n x2.task x3 hx3) (.cons ((.aggCons (.c rfl) (.aggCons (.c rfl) .aggNil rfl) rfl)) (.cons (.c rfl) .nil rfl) rfl) rfl rfl (.inl rfl) .nil rfl rfl (lb rfl)) (sats_opds (.cons rfl (.cons rfl .nil)) (sats_app (sats_freshL rfl) (sats_needsO obs_nil))) ?_
    refine st1 rfl (op_not (lb rfl)) (so rfl sn) ?_
    refine mv (lb rfl) rfl ?_
    refine rg_split (b := x3) (fun c4 => ?_) (fun c4 => ?_)
    ·
     replace hm := ite_t hm c4
     refine st1on rfl rfl rfl (not_t (c4)) (op_field_bx (off := 1) Try.underlying121 Try.sizeOf3 rfl rfl rfl (lb rfl)) (so rfl (sb rfl sn)) ?_
     refine st1on rfl rfl rfl (not_t (c4)) (op_load_bx Try.isAgg3 rfl (lb rfl)) (so rfl (sb rfl sn)) ?_
     obtain ⟨x5, hx5, hm⟩ := bnd hm
     refine st1on rfl rfl rfl (not_t (c4)) (op_call2 (ks := []) Try.func126 rfl rfl (c_impl_isPerson x2.who x5 hx5) (.cons (.c rfl) .nil rfl) rfl rfl (.inl rfl) .nil rfl rfl (lb rfl)) (sats_opds (.cons rfl .nil) (sats_app (sats_freshL rfl) (sats_needsO obs_nil))) ?_
     refine st1on rfl rfl rfl (not_t (c4)) (op_not (lb rfl)) (so rfl sn) ?_
     refine st1 rfl (op_pick_false (lb rfl) (not_t (c4))) (so rfl (so rfl sn)) ?_
     refine mv (lb rfl) rfl ?_
     refine rg_split (b := x5) (fun c6 => ?_) (fun c6 => ?_)
     ·
      replace hm := ite_t hm c6
      refine st1on rfl rfl rfl (not_t (c6)) (op_field_bx (off := 2) Try.underlying121 Try.sizeOf3 rfl rfl rfl (lb rfl)) (so rfl (sb rfl sn)) ?_
      refine st1on rfl rfl rfl (not_t (c6)) (op_load_bx Try.isAgg3 rfl (lb rfl)) (so rfl (sb rfl sn)) ?_
      refine st1on rfl rfl rfl (not_t (c6)) (op_field_bx (off := 1) Try.underlying65 Try.sizeOf63 rfl rfl rfl (lb rfl)) (so rfl (sb rfl sn)) ?_
      refine st1on rfl rfl rfl (not_t (c6)) (op_load_bx Try.isAgg63 rfl (lb rfl)) (so rfl (sb rfl sn)) ?_
      refine st1on rfl rfl rfl (not_t (c6)) (op_field_bx (off := 0) Try.underlying121 Try.sizeOf3 rfl rfl rfl (lb rfl)) (so rfl (sb rfl sn)) ?_
      refine st1on rfl rfl rfl (not_t (c6)) (op_load_bx Try.isAgg3 rfl (lb rfl)) (so rfl (sb rfl sn)) ?_
      obtain ⟨x7, hx7, hm⟩ := bnd hm
      refine st1on rfl rfl rfl (not_t (c6)) (op_index_shG (f := (GTask.cells false)) (l := n.tasks) Try.underlying63 Try.sizeOf119 (lb rfl) hx7) (so rfl (so rfl sn)) ?_
      refine st1on rfl rfl rfl (not_t (c6)) (op_field_pts (off := 8) Try.underlying119 Try.sizeOf3 rfl rfl rfl rfl (lb rfl)) (so rfl sn) ?_
      refine st1on rfl rfl rfl (not_t (c6)) (op_load_pts Try.isAgg3 rfl (lb rfl)) (so rfl sn) ?_
      obtain ⟨g8, hm⟩ := gd_some hm
      refine st1on rfl rfl rfl (not_t (c6)) (op_sub (lb rfl) g8) (so rfl (so rfl sn)) ?_
      obtain ⟨x9, hx9, hm⟩ := bnd hm
      refine st1on rfl rfl rfl (not_t (c6)) (op_call2 (ks := []) Try.func52 rfl rfl (c_impl_in x2.did 0 (x7.need - 1) x9 hx9) (.cons (.c rfl) (.cons (.c rfl) (.cons (.c rfl) .nil rfl) rfl) rfl) rfl rfl (.inl rfl) .nil rfl rfl (lb rfl)) (sats_opds (.cons rfl (.cons rfl (.cons rfl .nil))) (sats_app (sats_freshL rfl) (sats_needsO obs_nil))) ?_
      refine st1on rfl rfl rfl (not_t (c6)) (op_not (lb rfl)) (so rfl sn) ?_
      refine st1 rfl (op_pick_false (lb rfl) (not_t (c6))) (so rfl (so rfl sn)) ?_
      refine rg_nil_draw (by kernel_rfl) ?_
      refine kseq_normal ?_
      refine acode_split (b := x9) (fun c10 => ?_) (fun c10 => ?_)
      ·
       replace hm := ite_t hm c10
       refine acode_cond_false rfl (not_t (c10)) ?_
       refine acode_skip ?_
       refine kblk_normal (kseq_normal ?_)
       refine acode_le (le_stU (env := [(1, .c (.sl false 3 (busy.map (GItem.cells false)))), (2, .bx 2 0), (7, .c (.sl false 3 (busy.map (GItem.cells false)))), (8, aInt (busy.length : Int)), (9, aInt s0_0), (19, .bx 6 1), (20, aInt x2.who), (21, aBool x5), (22, aBool (!x5)), (25, .bx 6 2), (26, aInt x2.did), (27, .bx 2 1), (28, .c (.sl false 9 (n.tasks.map (GTask.cells false)))), (29, .bx 6 0), (30, aInt x2.task), (31, .pts [cI x7.join, cI x7.split, .sl false 1 (x7.in_.map (fun n : Int => [cI n])), .sl false 4 (x7.out.map (GFlow.cells false)), .sl false 1 (x7.clear.map (fun n : Int => [cI n])), cI x7.role, cI x7.apart, cI x7.all, cI x7.need]), (32, .pts [cI x7.need]), (33, aInt x7.need), (34, aInt (x7.need - 1)), (35, aBool x9), (36, aBool (!x9))]) (obj := [(2, .box [aInt n.places, .c (.sl false 9 (n.tasks.map (GTask.cells false)))]), (6, .box [aInt x2.task, aInt x2.who, aInt x2.did])]) idn (.cons rfl rfl (.cons rfl rfl (.cons rfl rfl (.cons rfl rfl (.cons rfl rfl (.cons rfl rfl (.cons rfl rfl (.cons rfl rfl (.cons rfl rfl (.cons rfl rfl (.cons rfl rfl (.cons rfl rfl (.cons rfl rfl (.cons rfl rfl (.cons rfl rfl (.cons rfl rfl (.cons rfl rfl (.cons rfl rfl (.cons rfl rfl (.cons rfl rfl (.cons rfl rfl .nil))))))))))))))))))))) (.cons rfl rfl (.inl rfl) (.cons rfl rfl (.inl rfl) .nil)) rfl) ?_
       refine acode_region ?_
       obtain ⟨g11, hm⟩ := gd_some hm
       refine st1 rfl (op_add (lb rfl) g11) (so rfl (so rfl sn)) ?_
       refine mv (lb rfl) rfl ?_
       refine rg_nil_seq ?_
       refine klg_back (n0, (s0_0 + 1)) hm (Nat.lt_succ_self _) ?_
       exact le_stU idn (.cons rfl rfl (.cons rfl rfl (.cons rfl rfl (.cons rfl rfl (.cons rfl rfl .nil))))) (.cons rfl rfl (.inl rfl) .nil) rfl
      ·
       replace hm := ite_f hm c10
       refine acode_cond_true rfl (not_f (c10)) ?_
       refine sr ?_
       refine as_ (lb rfl) rfl ?_
       refine nkt ?_
       obtain rfl := Option.some.inj hm
       exact kblk_ret (kseq_ret (klg_ret (kblk_ret (kseq_ret (fin2_retL (.cons (.c rfl) .nil) rfl .nil rfl rfl rfl)))))
     ·
      replace hm := ite_f hm c6
      refine st1off rfl rfl (lb rfl) rfl rfl (not_f (c6)) ?_
      refine st1off rfl rfl (lb rfl) rfl rfl (not_f (c6)) ?_
      refine st1off rfl rfl (lb rfl) rfl rfl (not_f (c6)) ?_
      refine st1off rfl rfl (lb rfl) rfl rfl (not_f (c6)) ?_
      refine st1off rfl rfl (lb rfl) rfl rfl (not_f (c6)) ?_
      refine st1off rfl rfl (lb rfl) rfl rfl (not_f (c6)) ?_
      refine st1off rfl rfl (lb rfl) rfl rfl (not_f (c6)) ?_
      refine st1off rfl rfl (lb rfl) rfl rfl (not_f (c6)) ?_
      refine st1off rfl rfl (lb rfl) rfl rfl (not_f (c6)) ?_
      refine st1off rfl rfl (lb rfl) rfl rfl (not_f (c6)) ?_
      refine st1off rfl rfl (lb rfl) rfl rfl (not_f (c6)) ?_
      refine st1off rfl rfl (lb rfl) rfl rfl (not_f (c6)) ?_
      refine st1 rfl (op_pick_true (lb rfl) (not_f (c6))) (so rfl (so rfl sn)) ?_
      refine rg_nil_draw (by kernel_rfl) ?_
      refine kseq_normal ?_
      refine acode_cond_true rfl (rfl) ?_
      refine sr ?_
      refine as_ (lb rfl) rfl ?_
      refine nkt ?_
      obtain rfl := Option.some.inj hm
      exact kblk_ret (kseq_ret (klg_ret (kblk_ret (kseq_ret (fin2_retL (.cons (.c rfl) .nil) rfl .nil rfl rfl rfl)))))
    ·
     replace hm := ite_f hm c4
     refine st1off rfl rfl (lb rfl) rfl rfl (not_f (c4)) ?_
     refine st1off rfl rfl (lb rfl) rfl rfl (not_f (c4)) ?_
     refine st1off rfl rfl (lb rfl) rfl rfl (not_f (c4)) ?_
     refine st1off rfl rfl (lb rfl) rfl rfl (not_f (c4)) ?_
     refine st1 rfl (op_pick_true (lb rfl) (not_f (c4))) (so rfl (so rfl sn)) ?_
     refine mv (lb rfl) rfl ?_
     refine st1off rfl rfl (lb rfl) rfl rfl (rfl) ?_
     refine st1off rfl rfl (lb rfl) rfl rfl (rfl) ?_
     refine st1off rfl rfl (lb rfl) rfl rfl (rfl) ?_
     refine st1off rfl rfl (lb rfl) rfl rfl (rfl) ?_
     refine st1off rfl rfl (lb rfl) rfl rfl (rfl) ?_
     refine st1off rfl rfl (lb rfl) rfl rfl (rfl) ?_
     refine st1off rfl rfl (lb rfl) rfl rfl (rfl) ?_
     refine st1off rfl rfl (lb rfl) rfl rfl (rfl) ?_
     refine st1off rfl rfl (lb rfl) rfl rfl (rfl) ?_
     refine st1off rfl rfl (lb rfl) rfl rfl (rfl) ?_
     refine st1off rfl rfl (lb rfl) rfl rfl (rfl) ?_
     refine st1off rfl rfl (lb rfl) rfl rfl (rfl) ?_
     refine st1 rfl (op_pick_true (lb rfl) (rfl)) (so rfl (so rfl sn)) ?_
     refine rg_nil_draw (by kernel_rfl) ?_
     refine kseq_normal ?_
     refine acode_cond_true rfl (rfl) ?_
     refine sr ?_
     refine as_ (lb rfl) rfl ?_
     refine nkt ?_
     obtain rfl := Option.some.inj hm
     exact kblk_ret (kseq_ret (klg_ret (kblk_ret (kseq_ret (fin2_retL (.cons (.c rfl) .nil) rfl .nil rfl rfl rfl)))))
   ·
    replace hm := ite_f hm c1
    refine acode_cond_false rfl (c1) ?_
    refine acode_exit ?_
    unfold m_impl_NetNet_busyOk_k1 at hm
    refine kseq_exit (klg_exit (kblk_hit (kseq_normal ?_)))
    refine sr ?_
    refine mv (lb rfl) rfl ?_
    refine st1 rfl (op_len_sh (f := (GItem.cells false)) (l := busy) Try.underlying67 (lb rfl)) (so rfl sn) ?_
    refine st1 rfl (op_leq (lb rfl)) (so rfl (so rfl sn)) ?_
    refine as_ (lb rfl) rfl ?_
    refine nkt ?_
    obtain rfl := Option.some.inj hm
    exact fin2_retL (.cons (.c rfl) .nil) rfl .nil rfl rfl rfl

def m_impl_PplOk_1 (n : Int) : Option Bool := (m_impl_in n 0 7).bind fun x1 => (some (!x1))


def m_impl_PplOk (people : List Int) : Option Bool := (m_impl_in (people.length : Int) 1 4).bind fun x1 => (if x1 = true then ((m_ContainsFunc_I people (fun z => m_impl_PplOk_1 z )).bind fun x3 => (some (!x3))) else (some false))


def m_impl_CasOk_k1 (c : GCase) : Option Bool := if decide (c.state = 1) = true then ((getI c.marks 1).bind fun x16 => (some (decide (x16 = 0)))) else (if decide (c.state = 2) = true then (if decide ((c.busy.length : Int) = 0) = true then ((getI c.marks 1).bind fun x19 => (some ((decide (c.state = 2)) == (decide (0 < x19))))) else (some false)) else (if decide (c.state = 3) = true then (if decide ((c.busy.length : Int) = 0) = true then ((getI c.marks 1).bind fun x22 => (some ((decide (c.state = 2)) == (decide (0 < x22))))) else (some false)) else (some false)))
def m_impl_CasOk_l0 (n : GNet) (c : GCase) (kx0_0 : Option Bool) : Nat → Int → Option Bool
  | 0, _ => none
  | n0 + 1, s0_0 => if decide (s0_0 < (c.did.length : Int)) = true then ((getI c.did s0_0).bind fun x9 => ((m_impl_NetNet_hasTask n x9.task).bind fun x10 => (if x10 = true then ((m_impl_isPerson x9.who).bind fun x12 => (if x12 = true then (gd (ok64 (s0_0 + 1)) ((m_impl_CasOk_l0 n c kx0_0 n0) (s0_0 + 1))) else (some false))) else (some false)))) else (kx0_0)
def m_impl_CasOk (n : GNet) (c : GCase) : Option Bool := (m_impl_MrkOk n c.marks).bind fun x1 => (if x1 = true then ((m_impl_NetNet_busyOk n c.busy).bind fun x3 => (if x3 = true then ((m_impl_DatOk c.data).bind fun x5 => (if x5 = true then (if decide (60 < (c.did.length : Int)) = true then (some false) else (m_impl_CasOk_l0 n c (m_impl_CasOk_k1 c) FUEL 0)) else (some false))) else (some false))) else (some false))

theorem c_impl_CasOk (n : GNet) (c : GCase) (rz : Bool) (hm : m_impl_CasOk n c = some rz) : FnB Try.prog 79 [.row (GNet.cells false n), .row (GCase.cells false c)] [.c (cB rz)] [] := by
 unfold m_impl_CasOk at hm
 refine fn_intro2 (n := 77) (rvs := [.tmp 4]) Try.func79 rfl rfl rfl (lb rfl) rfl rfl rfl rfl rfl ?_
 refine acode_seq ?_
 refine acode_le (le_stU (env := [(0, .row [cI n.places, .sl false 9 (n.tasks.map (GTask.cells false))]), (1, .row [cI c.state, .sl false 1 (c.marks.map (fun n : Int => [cI n])), .sl false 3 (c.busy.map (GItem.cells false)), .sl false 1 (c.data.map (fun n : Int => [cI n])), .sl false 2 (c.did.map (GDid.cells false))])]) (obj := []) idn (.cons rfl rfl (.cons rfl rfl .nil)) .nil rfl) ?_
 refine acode_region ?_
 refine st1 rfl (op_box rfl (lb rfl)) (so rfl (sf rfl (sats_lives rfl))) ?_
 refine st1 rfl (op_box rfl (lb rfl)) (so rfl (sf rfl (sats_lives rfl))) ?_
 refine as_ (lb rfl) rfl ?_
 refine nk ?_
 refine acode_seq ?_
 refine sr ?_
 refine st1 rfl (op_load_bx_agg Try.isAgg65 Try.sizeOf65 rfl rfl (lb rfl)) (so rfl (sb rfl sn)) ?_
 refine fdb (off := 1) Try.underlying70 Try.sizeOf34 rfl rfl rfl (lb rfl) rfl rfl ?_
 refine ldb Try.isAgg34 rfl (lb rfl) rfl rfl ?_
 obtain ⟨x1, hx1, hm⟩ := bnd hm
 refine st1 rfl (op_call2 (ks := []) Try.func123 rfl rfl (c_impl_MrkOk n c.marks x1 hx1) (.cons ((.aggCons (.c rfl) (.aggCons (.c rfl) .aggNil rfl) rfl)) (.cons (.c rfl) .nil rfl) rfl) rfl rfl (.inl rfl) .nil rfl rfl (lb rfl)) (sats_opds (.cons rfl (.cons rfl .nil)) (sats_app (sats_freshL rfl) (sats_needsO obs_nil))) ?_
 refine st1 rfl (op_not (lb rfl)) (so rfl sn) ?_
 refine mv (lb rfl) rfl ?_
 refine rg_split (b := x1) (fun c2 => ?_) (fun c2 => ?_)
 ·
  replace hm := ite_t hm c2
  refine st1on rfl rfl rfl (not_t (c2)) (op_load_bx_agg Try.isAgg65 Try.sizeOf65 rfl rfl (lb rfl)) (so rfl (sb rfl sn)) ?_
  refine st1on rfl rfl rfl (not_t (c2)) (op_field_bx (off := 2) Try.underlying70 Try.sizeOf67 rfl rfl rfl (lb rfl)) (so rfl (sb rfl sn)) ?_
  refine st1on rfl rfl rfl (not_t (c2)) (op_load_bx Try.isAgg67 rfl (lb rfl)) (so rfl (sb rfl sn)) ?_
  obtain ⟨x3, hx3, hm⟩ := bnd hm
  refine st1on rfl rfl rfl (not_t (c2)) (op_call2 (ks := []) Try.func124 rfl rfl (c_impl_NetNet_busyOk n c.busy x3 hx3) (.cons ((.aggCons (.c rfl) (.aggCons (.c rfl) .aggNil rfl) rfl)) (.cons (.c rfl) .nil rfl) rfl) rfl rfl (.inl rfl) .nil rfl rfl (lb rfl)) (sats_opds (.cons rfl (.cons rfl .nil)) (sats_app (sats_freshL rfl) (sats_needsO obs_nil))) ?_
  refine st1on rfl rfl rfl (not_t (c2)) (op_not (lb rfl)) (so rfl sn) ?_
  refine st1 rfl (op_pick_false (lb rfl) (not_t (c2))) (so rfl (so rfl sn)) ?_
  refine mv (lb rfl) rfl ?_
  refine rg_split (b := x3) (fun c4 => ?_) (fun c4 => ?_)
  ·
   replace hm := ite_t hm c4
   refine st1on rfl rfl rfl (not_t (c4)) (op_field_bx (off := 3) Try.underlying70 Try.sizeOf34 rfl rfl rfl (lb rfl)) (so rfl (sb rfl sn)) ?_
   refine st1on rfl rfl rfl (not_t (c4)) (op_load_bx Try.isAgg34 rfl (lb rfl)) (so rfl (sb rfl sn)) ?_
   obtain ⟨x5, hx5, hm⟩ := bnd hm
   refine st1on rfl rfl rfl (not_t (c4)) (op_call2 (ks := []) Try.func108 rfl rfl (c_impl_DatOk c.data x5 hx5) (.cons (.c rfl) .nil rfl) rfl rfl (.inl rfl) .nil rfl rfl (lb rfl)) (sats_opds (.cons rfl .nil) (sats_app (sats_freshL rfl) (sats_needsO obs_nil))) ?_
   refine st1on rfl rfl rfl (not_t (c4)) (op_not (lb rfl)) (so rfl sn) ?_
   refine st1 rfl (op_pick_false (lb rfl) (not_t (c4))) (so rfl (so rfl sn)) ?_
   refine mv (lb rfl) rfl ?_
   refine rg_split (b := x5) (fun c6 => ?_) (fun c6 => ?_)
   ·
    replace hm := ite_t hm c6
    refine st1on rfl rfl rfl (not_t (c6)) (op_field_bx (off := 4) Try.underlying70 Try.sizeOf68 rfl rfl rfl (lb rfl)) (so rfl (sb rfl sn)) ?_
    refine st1on rfl rfl rfl (not_t (c6)) (op_load_bx Try.isAgg68 rfl (lb rfl)) (so rfl (sb rfl sn)) ?_
    refine st1on rfl rfl rfl (not_t (c6)) (op_len_sh (f := (GDid.cells false)) (l := c.did) Try.underlying68 (lb rfl)) (so rfl sn) ?_
    refine st1on rfl rfl rfl (not_t (c6)) (op_gtr (lb rfl)) (so rfl (so rfl sn)) ?_
    refine st1 rfl (op_pick_false (lb rfl) (not_t (c6))) (so rfl (so rfl sn)) ?_
    refine nk ?_
    refine acode_split (b := decide (60 < (c.did.length : Int))) (fun c7 => ?_) (fun c7 => ?_)
    ·
     replace hm := ite_t hm c7
     refine acode_cond_true rfl (c7) ?_
     refine acode_seq ?_
     refine acode_le (le_stU (env := []) (obj := []) idn .nil .nil rfl) ?_
     refine acode_region ?_
     refine as_ (lb rfl) rfl ?_
     refine nkt ?_
     obtain rfl := Option.some.inj hm
     exact kseq_ret (fin2_retL (.cons (.c rfl) .nil) rfl .nil rfl rfl rfl)
    ·
     replace hm := ite_f hm c7
     refine acode_cond_false rfl (c7) ?_
     refine pk ?_
     refine acode_seq ?_
     refine sr ?_
     refine fdb (off := 4) Try.underlying70 Try.sizeOf68 rfl rfl rfl (lb rfl) rfl rfl ?_
     refine ldb Try.isAgg68 rfl (lb rfl) rfl rfl ?_
     refine st1 rfl (op_len_sh (f := (GDid.cells false)) (l := c.did) Try.underlying68 (lb rfl)) (so rfl sn) ?_
     refine mv (lb rfl) rfl ?_
     refine nk ?_
     refine acode_block ?_
     refine acode_loopk (xs := [2, 3, 32, 33]) (ys := [2, 3]) (S := Nat × Int) (fun z => [(34, aInt z.2)]) (fun z => []) (fun z => m_impl_CasOk_l0 n c (m_impl_CasOk_k1 c) z.1 z.2 = some rz) (fun z => z.1) (FUEL, 0) (.cons rfl (.cons rfl (.cons rfl (.cons rfl .nil)))) (.cons rfl (.cons rfl .nil)) ?em ?eo rfl ?ei ?round
     case em => exact (.cons rfl rfl .nil)
     case eo => exact .nil
     case ei => exact hm
     case round =>
      rintro ⟨n0, s0_0⟩ hm
      dsimp only at hm ⊢
      cases n0 with
      | zero => rw [m_impl_CasOk_l0] at hm; cases hm
      | succ n0 =>
       rw [m_impl_CasOk_l0] at hm
       refine sr ?_
       refine st1 rfl (op_lss (lb rfl)) (so rfl (so rfl sn)) ?_
       refine nk ?_
       refine acode_seq ?_
       refine acode_split (b := decide (s0_0 < (c.did.length : Int))) (fun c8 => ?_) (fun c8 => ?_)
       ·
        replace hm := ite_t hm c8
        refine acode_cond_true rfl (c8) ?_
        refine pk ?_
        refine acode_seq ?_
        refine acode_block ?_
        refine sr ?_
        obtain ⟨x9, hx9, hm⟩ := bnd hm
        refine st1 rfl (op_index_shG (f := (GDid.cells false)) (l := c.did) Try.underlying68 Try.sizeOf137 (lb rfl) hx9) (so rfl (so rfl sn)) ?_
        refine st1 rfl (op_load_pts_row Try.isAgg137 Try.sizeOf137 rfl rfl (lb rfl)) (so rfl sn) ?_
        refine st1 rfl (op_alloc Try.zeroValue137 rfl (lb rfl)) (sf rfl sn) ?_
        refine st1 rfl (op_store_bxS Try.sizeOf137 rfl rfl rfl rfl) (so rfl (so rfl (sb rfl (sats_lives rfl)))) ?_
        refine nk ?_
        refine sr ?_
        refine st1 rfl (op_load_bx_agg Try.isAgg65 Try.sizeOf65 rfl rfl (lb rfl)) (so rfl (sb rfl sn)) ?_
        refine fdb (off := 0) Try.underlying137 Try.sizeOf3 rfl rfl rfl (lb rfl) rfl rfl ?_
        refine ldb Try.isAgg3 rfl (lb rfl) rfl rfl ?_
        obtain ⟨x10, hx10, hm⟩ := bnd hm
        refine st1 rfl (op_call2 (ks := []) Try.func125 rfl rfl (c_impl_NetNet_hasTask n x9.task x10 hx10) (.cons ((.aggCons (.c rfl) (.aggCons (.c rfl) .aggNil rfl) rfl)) (.cons (.c rfl) .nil rfl) rfl) rfl rfl (.inl rfl) .nil rfl rfl (lb rfl)) (sats_opds (.cons rfl (.cons rfl .nil)) (sats_app (sats_freshL rfl) (sats_needsO obs_nil))) ?_
        refine st1 rfl (op_not (lb rfl)) (so rfl sn) ?_
        refine mv (lb rfl) rfl ?_
        refine rg_split (b := x10) (fun c11 => ?_) (fun c11 => ?_)
        ·
         replace hm := ite_t hm c11
         refine st1on rfl rfl rfl (not_t (c11)) (op_field_bx (off := 1) Try.underlying137 Try.sizeOf3 rfl rfl rfl (lb rfl)) (so rfl (sb rfl sn)) ?_
         refine st1on rfl rfl rfl (not_t (c11)) (op_load_bx Try.isAgg3 rfl (lb rfl)) (so rfl (sb rfl sn)) ?_
         obtain ⟨x12, hx12, hm⟩ := bnd hm
         refine st1on rfl rfl rfl (not_t (c11)) (op_call2 (ks := []) Try.func126 rfl rfl (c_impl_isPerson x9.who x12 hx12) (.cons (.c rfl) .nil rfl) rfl rfl (.inl rfl) .nil rfl rfl (lb rfl)) (sats_opds (.cons rfl .nil) (sats_app (sats_freshL rfl) (sats_needsO obs_nil))) ?_
         refine st1on rfl rfl rfl (not_t (c11)) (op_not (lb rfl)) (so rfl sn) ?_
         refine st1 rfl (op_pick_false (lb rfl) (not_t (c11))) (so rfl (so rfl sn)) ?_
         refine nk ?_
         refine acode_split (b := x12) (fun c13 => ?_) (fun c13 => ?_)
         ·
          replace hm := ite_t hm c13
          refine acode_cond_false rfl (not_t (c13)) ?_
          refine acode_skip ?_
          refine kblk_normal (kseq_normal ?_)
          refine acode_le (le_stU (env := [(2, .bx 2 0), (3, .bx 3 0), (32, .c (.sl false 2 (c.did.map (GDid.cells false)))), (33, aInt (c.did.length : Int)), (34, aInt s0_0), (44, .bx 6 1), (45, aInt x9.who), (46, aBool x12), (47, aBool (!x12))]) (obj := [(2, .box [aInt n.places, .c (.sl false 9 (n.tasks.map (GTask.cells false)))]), (3, .box [aInt c.state, .c (.sl false 1 (c.marks.map (fun n : Int => [cI n]))), .c (.sl false 3 (c.busy.map (GItem.cells false))), .c (.sl false 1 (c.data.map (fun n : Int => [cI n]))), .c (.sl false 2 (c.did.map (GDid.cells false)))]), (6, .box [aInt x9.task, aInt x9.who])]) idn (.cons rfl rfl (.cons rfl rfl (.cons rfl rfl (.cons rfl rfl (.cons rfl rfl (.cons rfl rfl (.cons rfl rfl (.cons rfl rfl (.cons rfl rfl .nil))))))))) (.cons rfl rfl (.inl rfl) (.cons rfl rfl (.inl rfl) (.cons rfl rfl (.inl rfl) .nil))) rfl) ?_
          refine acode_region ?_
          obtain ⟨g14, hm⟩ := gd_some hm
          refine st1 rfl (op_add (lb rfl) g14) (so rfl (so rfl sn)) ?_
          refine mv (lb rfl) rfl ?_
          refine rg_nil_seq ?_
          refine klg_back (n0, (s0_0 + 1)) hm (Nat.lt_succ_self _) ?_
          exact le_stU idn (.cons rfl rfl (.cons rfl rfl (.cons rfl rfl (.cons rfl rfl (.cons rfl rfl .nil))))) (.cons rfl rfl (.inl rfl) (.cons rfl rfl (.inl rfl) .nil)) rfl
         ·
          replace hm := ite_f hm c13
          refine acode_cond_true rfl (not_f (c13)) ?_
          refine sr ?_
          refine as_ (lb rfl) rfl ?_
          refine nkt ?_
          obtain rfl := Option.some.inj hm
          exact kblk_ret (kseq_ret (klg_ret (kblk_ret (kseq_ret (fin2_retL (.cons (.c rfl) .nil) rfl .nil rfl rfl rfl)))))
        ·
         replace hm := ite_f hm c11
         refine st1off rfl rfl (lb rfl) rfl rfl (not_f (c11)) ?_
         refine st1off rfl rfl (lb rfl) rfl rfl (not_f (c11)) ?_
         refine st1off rfl rfl (lb rfl) rfl rfl (not_f (c11)) ?_
         refine st1off rfl rfl (lb rfl) rfl rfl (not_f (c11)) ?_
         refine st1 rfl (op_pick_true (lb rfl) (not_f (c11))) (so rfl (so rfl sn)) ?_
         refine nk ?_
         refine acode_cond_true rfl (rfl) ?_
         refine sr ?_
         refine as_ (lb rfl) rfl ?_
         refine nkt ?_
         obtain rfl := Option.some.inj hm
         exact kblk_ret (kseq_ret (klg_ret (kblk_ret (kseq_ret (fin2_retL (.cons (.c rfl) .nil) rfl .nil rfl rfl rfl)))))
       ·
        replace hm := ite_f hm c8
        refine acode_cond_false rfl (c8) ?_
        refine acode_exit ?_
        unfold m_impl_CasOk_k1 at hm
        refine kseq_exit (klg_exit (kblk_hit (kseq_normal ?_)))
        refine acode_seq ?_
        refine sr ?_
        refine fdb (off := 0) Try.underlying70 Try.sizeOf3 rfl rfl rfl (lb rfl) rfl rfl ?_
        refine ldb Try.isAgg3 rfl (lb rfl) rfl rfl ?_
        refine nk ?_
        refine acode_block ?_
        refine sr ?_
        refine st1 rfl (op_eql (lb rfl)) (so rfl (so rfl sn)) ?_
        refine as_ (lb rfl) rfl ?_
        refine nk ?_
        refine acode_split (b := decide (c.state = 1)) (fun c15 => ?_) (fun c15 => ?_)
        ·
         replace hm := ite_t hm c15
         refine acode_cond_true rfl (c15) ?_
         refine sr ?_
         refine fdb (off := 1) Try.underlying70 Try.sizeOf34 rfl rfl rfl (lb rfl) rfl rfl ?_
         refine ldb Try.isAgg34 rfl (lb rfl) rfl rfl ?_
         obtain ⟨x16, hx16, hm⟩ := bnd hm
         refine st1 rfl (op_index_shG (f := (fun n : Int => [cI n])) (l := c.marks) Try.underlying34 Try.sizeOf3 (lb rfl) hx16) (so rfl (so rfl sn)) ?_
         refine st1 rfl (op_load_pts Try.isAgg3 rfl (lb rfl)) (so rfl sn) ?_
         refine st1 rfl (op_eql (lb rfl)) (so rfl (so rfl sn)) ?_
         refine as_ (lb rfl) rfl ?_
         refine nkt ?_
         obtain rfl := Option.some.inj hm
         exact kblk_ret (kseq_ret (fin2_retL (.cons (.c rfl) .nil) rfl .nil rfl rfl rfl))
        ·
         replace hm := ite_f hm c15
         refine acode_cond_false rfl (c15) ?_
         refine acode_seq ?_
         refine sr ?_
         refine st1 rfl (op_eql (lb rfl)) (so rfl (so rfl sn)) ?_
         refine as_ (lb rfl) rfl ?_
         refine nk ?_
         refine acode_split (b := decide (c.state = 2)) (fun c17 => ?_) (fun c17 => ?_)
         ·
          replace hm := ite_t hm c17
          refine acode_cond_true rfl (c17) ?_
          refine pk ?_
          refine acode_cond_true rfl (c17) ?_
          refine acode_seq ?_
          refine acode_le (le_stU (env := [(3, .bx 3 0)]) (obj := [(3, .box [aInt c.state, .c (.sl false 1 (c.marks.map (fun n : Int => [cI n]))), .c (.sl false 3 (c.busy.map (GItem.cells false))), .c (.sl false 1 (c.data.map (fun n : Int => [cI n]))), .c (.sl false 2 (c.did.map (GDid.cells false)))])]) idn (.cons rfl rfl .nil) (.cons rfl rfl (.inl rfl) .nil) rfl) ?_
          refine acode_region_draw mixed rfl ?_
          refine fdb (off := 2) Try.underlying70 Try.sizeOf67 rfl rfl rfl (lb rfl) rfl rfl ?_
          refine ldb Try.isAgg67 rfl (lb rfl) rfl rfl ?_
          refine st1 rfl (op_len_sh (f := (GItem.cells false)) (l := c.busy) Try.underlying67 (lb rfl)) (so rfl sn) ?_
          refine st1 rfl (op_eql (lb rfl)) (so rfl (so rfl sn)) ?_
          refine mv (lb rfl) rfl ?_
          refine rg_split (b := decide ((c.busy.length : Int) = 0)) (fun c18 => ?_) (fun c18 => ?_)
          ·
           replace hm := ite_t hm c18
           refine st1on rfl rfl rfl (c18) (op_field_bx (off := 0) Try.underlying70 Try.sizeOf3 rfl rfl rfl (lb rfl)) (so rfl (sb rfl sn)) ?_
           refine st1on rfl rfl rfl (c18) (op_load_bx Try.isAgg3 rfl (lb rfl)) (so rfl (sb rfl sn)) ?_
           refine st1on rfl rfl rfl (c18) (op_eql (lb rfl)) (so rfl (so rfl sn)) ?_
           refine st1on rfl rfl rfl (c18) (op_field_bx (off := 1) Try.underlying70 Try.sizeOf34 rfl rfl rfl (lb rfl)) (so rfl (sb rfl sn)) ?_
           refine st1on rfl rfl rfl (c18) (op_load_bx Try.isAgg34 rfl (lb rfl)) (so rfl (sb rfl sn)) ?_
           obtain ⟨x19, hx19, hm⟩ := bnd hm
           refine st1on rfl rfl rfl (c18) (op_index_shG (f := (fun n : Int => [cI n])) (l := c.marks) Try.underlying34 Try.sizeOf3 (lb rfl) hx19) (so rfl (so rfl sn)) ?_
           refine st1on rfl rfl rfl (c18) (op_load_pts Try.isAgg3 rfl (lb rfl)) (so rfl sn) ?_
           refine st1on rfl rfl rfl (c18) (op_gtr (lb rfl)) (so rfl (so rfl sn)) ?_
           refine st1on rfl rfl rfl (c18) (op_eqlb Try.underlying4 (lb rfl)) (so rfl (so rfl sn)) ?_
           refine st1 rfl (op_pick_true (lb rfl) (c18)) (so rfl (so rfl sn)) ?_
           refine as_ (lb rfl) rfl ?_
           refine rg_nil_draw (by kernel_rfl) ?_
           refine kseq_normal ?_
           refine acode_ret ?_
           obtain rfl := Option.some.inj hm
           exact kblk_ret (kseq_ret (fin2_retL (.cons (.c rfl) .nil) rfl .nil rfl rfl rfl))
          ·
           replace hm := ite_f hm c18
           refine st1off rfl rfl (lb rfl) rfl rfl (c18) ?_
           refine st1off rfl rfl (lb rfl) rfl rfl (c18) ?_
           refine st1off rfl rfl (lb rfl) rfl rfl (c18) ?_
           refine st1off rfl rfl (lb rfl) rfl rfl (c18) ?_
           refine st1off rfl rfl (lb rfl) rfl rfl (c18) ?_
           refine st1off rfl rfl (lb rfl) rfl rfl (c18) ?_
           refine st1off rfl rfl (lb rfl) rfl rfl (c18) ?_
           refine st1off rfl rfl (lb rfl) rfl rfl (c18) ?_
           refine st1off rfl rfl (lb rfl) rfl rfl (c18) ?_
           refine st1 rfl (op_pick_false (lb rfl) (c18)) (so rfl (so rfl sn)) ?_
           refine as_ (lb rfl) rfl ?_
           refine rg_nil_draw (by kernel_rfl) ?_
           refine kseq_normal ?_
           refine acode_ret ?_
           obtain rfl := Option.some.inj hm
           exact kblk_ret (kseq_ret (fin2_retL (.cons (.c rfl) .nil) rfl .nil rfl rfl rfl))
         ·
          replace hm := ite_f hm c17
          refine acode_cond_false rfl (c17) ?_
          refine acode_le (le_stU (env := [(3, .bx 3 0), (51, aInt c.state)]) (obj := [(3, .box [aInt c.state, .c (.sl false 1 (c.marks.map (fun n : Int => [cI n]))), .c (.sl false 3 (c.busy.map (GItem.cells false))), .c (.sl false 1 (c.data.map (fun n : Int => [cI n]))), .c (.sl false 2 (c.did.map (GDid.cells false)))])]) idn (.cons rfl rfl (.cons rfl rfl .nil)) (.cons rfl rfl (.inl rfl) .nil) rfl) ?_
          refine acode_region ?_
          refine st1 rfl (op_eql (lb rfl)) (so rfl (so rfl sn)) ?_
          refine as_ (lb rfl) rfl ?_
          refine nk ?_
          refine acode_split (b := decide (c.state = 3)) (fun c20 => ?_) (fun c20 => ?_)
          ·
           replace hm := ite_t hm c20
           refine acode_cond_true rfl (c20) ?_
           refine acode_seq ?_
           refine acode_region_draw mixed rfl ?_
           refine fdb (off := 2) Try.underlying70 Try.sizeOf67 rfl rfl rfl (lb rfl) rfl rfl ?_
           refine ldb Try.isAgg67 rfl (lb rfl) rfl rfl ?_
           refine st1 rfl (op_len_sh (f := (GItem.cells false)) (l := c.busy) Try.underlying67 (lb rfl)) (so rfl sn) ?_
           refine st1 rfl (op_eql (lb rfl)) (so rfl (so rfl sn)) ?_
           refine mv (lb rfl) rfl ?_
           refine rg_split (b := decide ((c.busy.length : Int) = 0)) (fun c21 => ?_) (fun c21 => ?_)
           ·
            replace hm := ite_t hm c21
            refine st1on rfl rfl rfl (c21) (op_field_bx (off := 0) Try.underlying70 Try.sizeOf3 rfl rfl rfl (lb rfl)) (so rfl (sb rfl sn)) ?_
            refine st1on rfl rfl rfl (c21) (op_load_bx Try.isAgg3 rfl (lb rfl)) (so rfl (sb rfl sn)) ?_
            refine st1on rfl rfl rfl (c21) (op_eql (lb rfl)) (so rfl (so rfl sn)) ?_
            refine st1on rfl rfl rfl (c21) (op_field_bx (off := 1) Try.underlying70 Try.sizeOf34 rfl rfl rfl (lb rfl)) (so rfl (sb rfl sn)) ?_
            refine st1on rfl rfl rfl (c21) (op_load_bx Try.isAgg34 rfl (lb rfl)) (so rfl (sb rfl sn)) ?_
            obtain ⟨x22, hx22, hm⟩ := bnd hm
            refine st1on rfl rfl rfl (c21) (op_index_shG (f := (fun n : Int => [cI n])) (l := c.marks) Try.underlying34 Try.sizeOf3 (lb rfl) hx22) (so rfl (so rfl sn)) ?_
            refine st1on rfl rfl rfl (c21) (op_load_pts Try.isAgg3 rfl (lb rfl)) (so rfl sn) ?_
            refine st1on rfl rfl rfl (c21) (op_gtr (lb rfl)) (so rfl (so rfl sn)) ?_
            refine st1on rfl rfl rfl (c21) (op_eqlb Try.underlying4 (lb rfl)) (so rfl (so rfl sn)) ?_
            refine st1 rfl (op_pick_true (lb rfl) (c21)) (so rfl (so rfl sn)) ?_
            refine as_ (lb rfl) rfl ?_
            refine rg_nil_draw (by kernel_rfl) ?_
            refine kseq_normal ?_
            refine acode_ret ?_
            obtain rfl := Option.some.inj hm
            exact kblk_ret (kseq_ret (fin2_retL (.cons (.c rfl) .nil) rfl .nil rfl rfl rfl))
           ·
            replace hm := ite_f hm c21
            refine st1off rfl rfl (lb rfl) rfl rfl (c21) ?_
            refine st1off rfl rfl (lb rfl) rfl rfl (c21) ?_
            refine st1off rfl rfl (lb rfl) rfl rfl (c21) ?_
            refine st1off rfl rfl (lb rfl) rfl rfl (c21) ?_
            refine st1off rfl rfl (lb rfl) rfl rfl (c21) ?_
            refine st1off rfl rfl (lb rfl) rfl rfl (c21) ?_
            refine st1off rfl rfl (lb rfl) rfl rfl (c21) ?_
            refine st1off rfl rfl (lb rfl) rfl rfl (c21) ?_
            refine st1off rfl rfl (lb rfl) rfl rfl (c21) ?_
            refine st1 rfl (op_pick_false (lb rfl) (c21)) (so rfl (so rfl sn)) ?_
            refine as_ (lb rfl) rfl ?_
            refine rg_nil_draw (by kernel_rfl) ?_
            refine kseq_normal ?_
            refine acode_ret ?_
            obtain rfl := Option.some.inj hm
            exact kblk_ret (kseq_ret (fin2_retL (.cons (.c rfl) .nil) rfl .nil rfl rfl rfl))
          ·
           replace hm := ite_f hm c20
           refine acode_cond_false rfl (c20) ?_
           refine acode_skip ?_
           refine kblk_normal (kseq_normal ?_)
           refine acode_seq ?_
           refine acode_le (le_stU (env := []) (obj := []) idn .nil .nil rfl) ?_
           refine acode_region ?_
           refine as_ (lb rfl) rfl ?_
           refine nkt ?_
           obtain rfl := Option.some.inj hm
           exact fin2_retL (.cons (.c rfl) .nil) rfl .nil rfl rfl rfl
   ·
    replace hm := ite_f hm c6
    refine st1off rfl rfl (lb rfl) rfl rfl (not_f (c6)) ?_
    refine st1off rfl rfl (lb rfl) rfl rfl (not_f (c6)) ?_
    refine st1off rfl rfl (lb rfl) rfl rfl (not_f (c6)) ?_
    refine st1off rfl rfl (lb rfl) rfl rfl (not_f (c6)) ?_
    refine st1 rfl (op_pick_true (lb rfl) (not_f (c6))) (so rfl (so rfl sn)) ?_
    refine nk ?_
    refine acode_cond_true rfl (rfl) ?_
    refine sr ?_
    refine as_ (lb rfl) rfl ?_
    refine nkt ?_
    obtain rfl := Option.some.inj hm
    exact kseq_ret (fin2_retL (.cons (.c rfl) .nil) rfl .nil rfl rfl rfl)
  ·
   replace hm := ite_f hm c4
   refine st1off rfl rfl (lb rfl) rfl rfl (not_f (c4)) ?_
   refine st1off rfl rfl (lb rfl) rfl rfl (not_f (c4)) ?_
   refine st1off rfl rfl (lb rfl) rfl rfl (not_f (c4)) ?_
   refine st1off rfl rfl (lb rfl) rfl rfl (not_f (c4)) ?_
   refine st1 rfl (op_pick_true (lb rfl) (not_f (c4))) (so rfl (so rfl sn)) ?_
   refine mv (lb rfl) rfl ?_
   refine st1off rfl rfl (lb rfl) rfl rfl (rfl) ?_
   refine st1off rfl rfl (lb rfl) rfl rfl (rfl) ?_
   refine st1off rfl rfl (lb rfl) rfl rfl (rfl) ?_
   refine st1off rfl rfl (lb rfl) rfl rfl (rfl) ?_
   refine st1 rfl (op_pick_true (lb rfl) (rfl)) (so rfl (so rfl sn)) ?_
   refine nk ?_
   refine acode_cond_true rfl (rfl) ?_
   refine sr ?_
   refine as_ (lb rfl) rfl ?_
   refine nkt ?_
   obtain rfl := Option.some.inj hm
   exact kseq_ret (fin2_retL (.cons (.c rfl) .nil) rfl .nil rfl rfl rfl)
 ·
  replace hm := ite_f hm c2
  refine st1off rfl rfl (lb rfl) rfl rfl (not_f (c2)) ?_
  refine st1off rfl rfl (lb rfl) rfl rfl (not_f (c2)) ?_
  refine st1off rfl rfl (lb rfl) rfl rfl (not_f (c2)) ?_
  refine st1off rfl rfl (lb rfl) rfl rfl (not_f (c2)) ?_
  refine st1off rfl rfl (lb rfl) rfl rfl (not_f (c2)) ?_
  refine st1 rfl (op_pick_true (lb rfl) (not_f (c2))) (so rfl (so rfl sn)) ?_
  refine mv (lb rfl) rfl ?_
  refine st1off rfl rfl (lb rfl) rfl rfl (rfl) ?_
  refine st1off rfl rfl (lb rfl) rfl rfl (rfl) ?_
  refine st1off rfl rfl (lb rfl) rfl rfl (rfl) ?_
  refine st1off rfl rfl (lb rfl) rfl rfl (rfl) ?_
  refine st1 rfl (op_pick_true (lb rfl) (rfl)) (so rfl (so rfl sn)) ?_
  refine mv (lb rfl) rfl ?_
  refine st1off rfl rfl (lb rfl) rfl rfl (rfl) ?_
  refine st1off rfl rfl (lb rfl) rfl rfl (rfl) ?_
  refine st1off rfl rfl (lb rfl) rfl rfl (rfl) ?_
  refine st1off rfl rfl (lb rfl) rfl rfl (rfl) ?_
  refine st1 rfl (op_pick_true (lb rfl) (rfl)) (so rfl (so rfl sn)) ?_
  refine nk ?_
  refine acode_cond_true rfl (rfl) ?_
  refine sr ?_
  refine as_ (lb rfl) rfl ?_
  refine nkt ?_
  obtain rfl := Option.some.inj hm
  exact kseq_ret (fin2_retL (.cons (.c rfl) .nil) rfl .nil rfl rfl rfl)

def m_impl_running (n : GNet) (c : GCase) : Option Bool := (m_impl_CasOk n c).bind fun x1 => (if x1 = true then (some (decide (c.state = 1))) else (some false))

theorem c_impl_running (n : GNet) (c : GCase) (rz : Bool) (hm : m_impl_running n c = some rz) : FnB Try.prog 90 [.row (GNet.cells false n), .row (GCase.cells false c)] [.c (cB rz)] [] := by
 unfold m_impl_running at hm
 refine fn_intro2 (n := 13) (rvs := [.tmp 4]) Try.func90 rfl rfl rfl (lb rfl) rfl rfl rfl rfl rfl ?_
 refine acode_seq ?_
 refine acode_le (le_stU (env := [(0, .row [cI n.places, .sl false 9 (n.tasks.map (GTask.cells false))]), (1, .row [cI c.state, .sl false 1 (c.marks.map (fun n : Int => [cI n])), .sl false 3 (c.busy.map (GItem.cells false)), .sl false 1 (c.data.map (fun n : Int => [cI n])), .sl false 2 (c.did.map (GDid.cells false))])]) (obj := []) idn (.cons rfl rfl (.cons rfl rfl .nil)) .nil rfl) ?_
 refine acode_region ?_
 refine st1 rfl (op_box rfl (lb rfl)) (so rfl (sf rfl (sats_lives rfl))) ?_
 refine st1 rfl (op_box rfl (lb rfl)) (so rfl (sf rfl (sats_lives rfl))) ?_
 refine as_ (lb rfl) rfl ?_
 refine nk ?_
 refine sr ?_
 refine st1 rfl (op_load_bx_agg Try.isAgg65 Try.sizeOf65 rfl rfl (lb rfl)) (so rfl (sb rfl sn)) ?_
 refine st1 rfl (op_load_bx_agg Try.isAgg70 Try.sizeOf70 rfl rfl (lb rfl)) (so rfl (sb rfl sn)) ?_
 obtain ⟨x1, hx1, hm⟩ := bnd hm
 refine st1 rfl (op_call2 (ks := []) Try.func79 rfl rfl (c_impl_CasOk n c x1 hx1) (.cons ((.aggCons (.c rfl) (.aggCons (.c rfl) .aggNil rfl) rfl)) (.cons ((.aggCons (.c rfl) (.aggCons (.c rfl) (.aggCons (.c rfl) (.aggCons (.c rfl) (.aggCons (.c rfl) .aggNil rfl) rfl) rfl) rfl) rfl)) .nil rfl) rfl) rfl rfl (.inl rfl) .nil rfl rfl (lb rfl)) (sats_opds (.cons rfl (.cons rfl .nil)) (sats_app (sats_freshL rfl) (sats_needsO obs_nil))) ?_
 refine mv (lb rfl) rfl ?_
 refine rg_split (b := x1) (fun c2 => ?_) (fun c2 => ?_)
 ·
  replace hm := ite_t hm c2
  refine st1on rfl rfl rfl (c2) (op_field_bx (off := 0) Try.underlying70 Try.sizeOf3 rfl rfl rfl (lb rfl)) (so rfl (sb rfl sn)) ?_
  refine st1on rfl rfl rfl (c2) (op_load_bx Try.isAgg3 rfl (lb rfl)) (so rfl (sb rfl sn)) ?_
  refine st1on rfl rfl rfl (c2) (op_eql (lb rfl)) (so rfl (so rfl sn)) ?_
  refine st1 rfl (op_pick_true (lb rfl) (c2)) (so rfl (so rfl sn)) ?_
  refine as_ (lb rfl) rfl ?_
  refine nkt ?_
  obtain rfl := Option.some.inj hm
  exact fin2_retL (.cons (.c rfl) .nil) rfl .nil rfl rfl rfl
 ·
  replace hm := ite_f hm c2
  refine st1off rfl rfl (lb rfl) rfl rfl (c2) ?_
  refine st1off rfl rfl (lb rfl) rfl rfl (c2) ?_
  refine st1off rfl rfl (lb rfl) rfl rfl (c2) ?_
  refine st1 rfl (op_pick_false (lb rfl) (c2)) (so rfl (so rfl sn)) ?_
  refine as_ (lb rfl) rfl ?_
  refine nkt ?_
  obtain rfl := Option.some.inj hm
  exact fin2_retL (.cons (.c rfl) .nil) rfl .nil rfl rfl rfl

def m_impl_CasStop (n : GNet) (c : GCase) : Option (GCase × Bool) := (m_impl_CasCase_clone c).bind fun x1 => ((m_impl_running n c).bind fun x2 => (if x2 = true then (some ((GCase.mk 3 x1.marks [] x1.data x1.did), true)) else (some (x1, false))))

theorem c_impl_CasStop (n : GNet) (c : GCase) (rz : GCase × Bool) (hm : m_impl_CasStop n c = some rz) : FnB Try.prog 44 [.row (GNet.cells false n), .row (GCase.cells false c)] [.row (GCase.cells true rz.1), .c (cB rz.2)] [] := by
 unfold m_impl_CasStop at hm
 refine fn_intro2 (n := 17) (rvs := [.cell 4 70, .tmp 5]) Try.func44 rfl rfl rfl (lb rfl) rfl rfl rfl rfl rfl ?_
 refine acode_seq ?_
 refine acode_le (le_stU (env := [(0, .row [cI n.places, .sl false 9 (n.tasks.map (GTask.cells false))]), (1, .row [cI c.state, .sl false 1 (c.marks.map (fun n : Int => [cI n])), .sl false 3 (c.busy.map (GItem.cells false)), .sl false 1 (c.data.map (fun n : Int => [cI n])), .sl false 2 (c.did.map (GDid.cells false))])]) (obj := []) idn (.cons rfl rfl (.cons rfl rfl .nil)) .nil rfl) ?_
 refine acode_region ?_
 refine st1 rfl (op_box rfl (lb rfl)) (so rfl (sf rfl (sats_lives rfl))) ?_
 refine st1 rfl (op_box rfl (lb rfl)) (so rfl (sf rfl (sats_lives rfl))) ?_
 refine st1 rfl (op_alloc Try.zeroValue70 rfl (lb rfl)) (sf rfl sn) ?_
 refine as_ (lb rfl) rfl ?_
 refine nk ?_
 refine sr ?_
 refine st1 rfl (op_load_bx_agg Try.isAgg70 Try.sizeOf70 rfl rfl (lb rfl)) (so rfl (sb rfl sn)) ?_
 obtain ⟨x1, hx1, hm⟩ := bnd hm
 refine st1 rfl (op_call2 (ks := []) Try.func89 rfl rfl (c_impl_CasCase_clone c x1 hx1) (.cons ((.aggCons (.c rfl) (.aggCons (.c rfl) (.aggCons (.c rfl) (.aggCons (.c rfl) (.aggCons (.c rfl) .aggNil rfl) rfl) rfl) rfl) rfl)) .nil rfl) rfl rfl (.inl rfl) .nil rfl rfl (lb rfl)) (sats_opds (.cons rfl .nil) (sats_app (sats_freshL rfl) (sats_needsO obs_nil))) ?_
 refine st1 rfl (op_alloc Try.zeroValue70 rfl (lb rfl)) (sf rfl sn) ?_
 refine st1 rfl (op_store_bxS Try.sizeOf70 rfl rfl rfl rfl) (so rfl (so rfl (sb rfl (sats_lives rfl)))) ?_
 refine nk ?_
 refine acode_seq ?_
 refine sr ?_
 refine st1 rfl (op_load_bx_agg Try.isAgg65 Try.sizeOf65 rfl rfl (lb rfl)) (so rfl (sb rfl sn)) ?_
 refine st1 rfl (op_load_bx_agg Try.isAgg70 Try.sizeOf70 rfl rfl (lb rfl)) (so rfl (sb rfl sn)) ?_
 obtain ⟨x2, hx2, hm⟩ := bnd hm
 refine st1 rfl (op_call2 (ks := []) Try.func90 rfl rfl (c_impl_running n c x2 hx2) (.cons ((.aggCons (.c rfl) (.aggCons (.c rfl) .aggNil rfl) rfl)) (.cons ((.aggCons (.c rfl) (.aggCons (.c rfl) (.aggCons (.c rfl) (.aggCons (.c rfl) (.aggCons (.c rfl) .aggNil rfl) rfl) rfl) rfl) rfl)) .nil rfl) rfl) rfl rfl (.inl rfl) .nil rfl rfl (lb rfl)) (sats_opds (.cons rfl (.cons rfl .nil)) (sats_app (sats_freshL rfl) (sats_needsO obs_nil))) ?_
 refine st1 rfl (op_not (lb rfl)) (so rfl sn) ?_
 refine nk ?_
 refine acode_split (b := x2) (fun c3 => ?_) (fun c3 => ?_)
 ·
  replace hm := ite_t hm c3
  refine acode_cond_false rfl (not_t (c3)) ?_
  refine pk ?_
  refine sr ?_
  refine fdb (off := 0) Try.underlying70 Try.sizeOf3 rfl rfl rfl (lb rfl) rfl rfl ?_
  refine st1 rfl (op_store_bxS Try.sizeOf3 rfl rfl rfl rfl) (so rfl (so rfl (sb rfl (sats_lives rfl)))) ?_
  refine fdb (off := 2) Try.underlying70 Try.sizeOf67 rfl rfl rfl (lb rfl) rfl rfl ?_
  refine st1 rfl (op_store_bxS Try.sizeOf67 rfl rfl rfl rfl) (so rfl (so rfl (sb rfl (sats_lives rfl)))) ?_
  refine nk ?_
  refine acode_seq ?_
  refine acode_le (le_stU (env := [(4, .bx 4 0), (6, .bx 6 0)]) (obj := [(4, .box [aInt 0, .c (.lit (.slice none 0 0)), .c (.lit (.slice none 0 0)), .c (.lit (.slice none 0 0)), .c (.lit (.slice none 0 0))]), (6, .box [aInt 3, .ref 10008 [], .c (.lit (.slice none 0 0)), .ref 30008 [], .ref 40008 []]), (10008, .arr 1 (x1.marks.map (fun n : Int => [cI n]))), (30008, .arr 1 (x1.data.map (fun n : Int => [cI n]))), (40008, .arr 2 (x1.did.map (GDid.cells true)))]) idn (.cons rfl rfl (.cons rfl rfl .nil)) (.cons rfl rfl (.inl rfl) (.cons rfl rfl (.inl rfl) (.cons rfl rfl (.inl rfl) (.cons rfl rfl (.inl rfl) (.cons rfl rfl (.inl rfl) .nil))))) rfl) ?_
  refine acode_region ?_
  refine st1 rfl (op_load_bx_agg Try.isAgg70 Try.sizeOf70 rfl rfl (lb rfl)) (so rfl (sb rfl sn)) ?_
  refine st1 rfl (op_store_bxS Try.sizeOf70 rfl rfl rfl rfl) (so rfl (so rfl (sb rfl (sats_lives rfl)))) ?_
  refine as_ (lb rfl) rfl ?_
  refine nkt ?_
  obtain rfl := Option.some.inj hm
  exact fin2_retL (.cons (.agg rfl rfl Try.isAgg70 Try.sizeOf70 rfl (.c rfl (.ref rfl (.nilc (.ref rfl (.ref rfl .nil))))) (by rfl)) (.cons (.c rfl) .nil)) rfl .nil rfl rfl rfl
 ·
  replace hm := ite_f hm c3
  refine acode_cond_true rfl (not_f (c3)) ?_
  refine sr ?_
  refine st1 rfl (op_load_bx_agg Try.isAgg70 Try.sizeOf70 rfl rfl (lb rfl)) (so rfl (sb rfl sn)) ?_
  refine st1 rfl (op_store_bxS Try.sizeOf70 rfl rfl rfl rfl) (so rfl (so rfl (sb rfl (sats_lives rfl)))) ?_
  refine as_ (lb rfl) rfl ?_
  refine nkt ?_
  obtain rfl := Option.some.inj hm
  exact kseq_ret (fin2_retL (.cons (.agg rfl rfl Try.isAgg70 Try.sizeOf70 rfl (.c rfl (.ref rfl (.ref rfl (.ref rfl (.ref rfl .nil))))) (by rfl)) (.cons (.c rfl) .nil)) rfl .nil rfl rfl rfl)

def m_markIntS_k1 (s0_0 : Int) (l0_2 : List Int) : Option (Int × (List Int)) := some (s0_0, l0_2)
def m_markIntS_l0 (kx0_0 : Int → List Int → Option (Int × (List Int))) : Nat → Int → Int → List Int → Option (Int × (List Int))
  | 0, _, _, _ => none
  | n0 + 1, s0_0, s0_1, l0_2 => if decide (s0_1 < (l0_2.length : Int)) = true then ((getI l0_2 s0_1).bind fun x2 => (gd (ok64 (s0_0 + 1)) (gd (ok64 (s0_1 + 1)) ((m_markIntS_l0 kx0_0 n0) (s0_0 + 1) (s0_1 + 1) (l0_2.set s0_1.toNat s0_0))))) else (kx0_0 s0_0 l0_2)
def m_markIntS (a : List Int) (k : Int) : Option (Int × (List Int)) := m_markIntS_l0 m_markIntS_k1 FUEL k 0 a

theorem c_markIntS (a : List Int) (k : Int) (rz : Int × (List Int)) (hm : m_markIntS a k = some rz) : FnB Try.prog 29 [.c (.sl true 1 (a.map (fun n : Int => [cI n]))), .c (cI k)] [.c (cI rz.1)] [(0, .c (.sl true 1 (rz.2.map (fun n : Int => [cI n]))))] := by
 unfold m_markIntS at hm
 refine fn_intro2 (n := 19) (rvs := [.tmp 4]) Try.func29 rfl rfl rfl (lb rfl) rfl rfl rfl rfl rfl ?_
 refine acode_seq ?_
 refine acode_le (le_stU (env := [(0, .ref 1000000 []), (1, aInt k)]) (obj := [(1000000, .arr 1 (a.map (fun n : Int => [cI n])))]) idn (.cons rfl rfl (.cons rfl rfl .nil)) (.cons rfl rfl (.inr rfl) .nil) rfl) ?_
 refine acode_region ?_
 refine as_ (lb rfl) rfl ?_
 refine nk ?_
 refine acode_seq ?_
 refine sr ?_
 refine as_ (lb rfl) rfl ?_
 refine nk ?_
 refine acode_block ?_
 refine acode_loopk (xs := [0]) (ys := []) (S := Nat × Int × Int × (List Int)) (fun z => [(1, aInt z.2.1), (5, aInt z.2.2.1)]) (fun z => [(1000000, .arr 1 (z.2.2.2.map (fun n : Int => [cI n])))]) (fun z => m_markIntS_l0 m_markIntS_k1 z.1 z.2.1 z.2.2.1 z.2.2.2 = some rz) (fun z => z.1) (FUEL, k, 0, a) (.cons rfl .nil) .nil ?em ?eo rfl ?ei ?round
 case em => exact (.cons rfl rfl (.cons rfl rfl .nil))
 case eo => exact (.cons rfl rfl .nil)
 case ei => exact hm
 case round =>
  rintro ⟨n0, s0_0, s0_1, l0_2⟩ hm
  dsimp only at hm ⊢
  cases n0 with
  | zero => rw [m_markIntS_l0] at hm; cases hm
  | succ n0 =>
   rw [m_markIntS_l0] at hm
   refine acode_seq ?_
   refine sr ?_
   refine mv (lb rfl) rfl ?_
   refine mv (lb rfl) rfl ?_
   refine st1 rfl (op_lenG_ref (f := (fun n : Int => [cI n])) (l := l0_2) Try.underlying34 (lb rfl) rfl) (so rfl (sb rfl sn)) ?_
   refine st1 rfl (op_lss (lb rfl)) (so rfl (so rfl sn)) ?_
   refine nk ?_
   refine acode_split (b := decide (s0_1 < (l0_2.length : Int))) (fun c1 => ?_) (fun c1 => ?_)
   ·
    replace hm := ite_t hm c1
    refine acode_cond_true rfl (c1) ?_
    refine pk ?_
    refine acode_seq ?_
    refine acode_block ?_
    refine sr ?_
    refine mv (lb rfl) rfl ?_
    refine mv (lb rfl) rfl ?_
    refine mv (lb rfl) rfl ?_
    obtain ⟨x2, hx2, hm⟩ := bnd hm
    refine st1 rfl (op_index_refG (f := (fun n : Int => [cI n])) (l := l0_2) Try.underlying34 Try.sizeOf3 (lb rfl) rfl hx2) (so rfl (so rfl (sb rfl sn))) ?_
    refine st1 rfl (op_store_arrG (row := (fun n : Int => [cI n]) x2) (rows' := ((l0_2.set s0_1.toNat s0_0).map (fun n : Int => [cI n]))) Try.sizeOf3 (mapG (f := (fun n : Int => [cI n])) (getI_some hx2).2.2) rfl (.c rfl .nil) rfl rfl rfl rfl rfl (setG (x' := s0_0) rfl)) (so rfl (so rfl (sb rfl (sats_objs all_nil (sats_lives rfl))))) ?_
    refine nk ?_
    refine acode_region ?_
    refine mv (lb rfl) rfl ?_
    obtain ⟨g3, hm⟩ := gd_some hm
    refine st1 rfl (op_add (lb rfl) g3) (so rfl (so rfl sn)) ?_
    refine as_ (lb rfl) rfl ?_
    refine rg_nil_seq ?_
    refine kblk_normal (kseq_normal ?_)
    refine acode_region ?_
    refine mv (lb rfl) rfl ?_
    obtain ⟨g4, hm⟩ := gd_some hm
    refine st1 rfl (op_add (lb rfl) g4) (so rfl (so rfl sn)) ?_
    refine as_ (lb rfl) rfl ?_
    refine rg_nil_seq ?_
    refine klg_back (n0, (s0_0 + 1), (s0_1 + 1), (l0_2.set s0_1.toNat s0_0)) hm (Nat.lt_succ_self _) ?_
    exact le_stU idn (.cons rfl rfl (.cons rfl rfl (.cons rfl rfl .nil))) (.cons rfl rfl (.inr rfl) .nil) rfl
   ·
    replace hm := ite_f hm c1
    refine acode_cond_false rfl (c1) ?_
    refine acode_exit ?_
    unfold m_markIntS_k1 at hm
    refine kseq_exit (klg_exit (kblk_hit (kseq_normal ?_)))
    refine acode_seq ?_
    refine acode_le (le_stU (env := [(1, aInt s0_0)]) (obj := [(1000000, .arr 1 (l0_2.map (fun n : Int => [cI n])))]) idn (.cons rfl rfl .nil) (.cons rfl rfl (.inr rfl) .nil) rfl) ?_
    refine acode_region ?_
    refine mv (lb rfl) rfl ?_
    refine as_ (lb rfl) rfl ?_
    refine nkt ?_
    obtain rfl := Option.some.inj hm
    exact fin2_retL (.cons (.c rfl) .nil) rfl (.cons rfl (.sl rfl) .nil rfl) rfl rfl rfl

def m_heldIntS_k1 (s0_0 : Int) : Option Int := some s0_0
def m_heldIntS_l0 (a : List Int) (kx0_0 : Int → Option Int) : Nat → Int → Int → Option Int
  | 0, _, _ => none
  | n0 + 1, s0_0, s0_1 => if decide (s0_1 < (a.length : Int)) = true then ((getI a s0_1).bind fun x2 => (if decide (x2 = s0_0) = true then (gd (ok64 (s0_0 + 1)) (gd (ok64 (s0_1 + 1)) ((m_heldIntS_l0 a kx0_0 n0) (s0_0 + 1) (s0_1 + 1)))) else (some (-1)))) else (kx0_0 s0_0)
def m_heldIntS (a : List Int) (k : Int) : Option Int := m_heldIntS_l0 a m_heldIntS_k1 FUEL k 0

theorem c_heldIntS (a : List Int) (k : Int) (rz : Int) (hm : m_heldIntS a k = some rz) : FnB Try.prog 30 [.c (.sl false 1 (a.map (fun n : Int => [cI n]))), .c (cI k)] [.c (cI rz)] [] := by
 unfold m_heldIntS at hm
 refine fn_intro2 (n := 21) (rvs := [.tmp 4]) Try.func30 rfl rfl rfl (lb rfl) rfl rfl rfl rfl rfl ?_
 refine acode_seq ?_
 refine acode_le (le_stU (env := [(0, .c (.sl false 1 (a.map (fun n : Int => [cI n])))), (1, aInt k)]) (obj := []) idn (.cons rfl rfl (.cons rfl rfl .nil)) .nil rfl) ?_
 refine acode_region ?_
 refine as_ (lb rfl) rfl ?_
 refine nk ?_
 refine acode_seq ?_
 refine sr ?_
 refine as_ (lb rfl) rfl ?_
 refine nk ?_
 refine acode_block ?_
 refine acode_loopk (xs := [0]) (ys := []) (S := Nat × Int × Int) (fun z => [(1, aInt z.2.1), (5, aInt z.2.2)]) (fun z => []) (fun z => m_heldIntS_l0 a m_heldIntS_k1 z.1 z.2.1 z.2.2 = some rz) (fun z => z.1) (FUEL, k, 0) (.cons rfl .nil) .nil ?em ?eo rfl ?ei ?round
 case em => exact (.cons rfl rfl (.cons rfl rfl .nil))
 case eo => exact .nil
 case ei => exact hm
 case round =>
  rintro ⟨n0, s0_0, s0_1⟩ hm
  dsimp only at hm ⊢
  cases n0 with
  | zero => rw [m_heldIntS_l0] at hm; cases hm
  | succ n0 =>
   rw [m_heldIntS_l0] at hm
   refine acode_seq ?_
   refine sr ?_
   refine mv (lb rfl) rfl ?_
   refine mv (lb rfl) rfl ?_
   refine st1 rfl (op_len_sh (f := (fun n : Int => [cI n])) (l := a) Try.underlying34 (lb rfl)) (so rfl sn) ?_
   refine st1 rfl (op_lss (lb rfl)) (so rfl (so rfl sn)) ?_
   refine nk ?_
   refine acode_split (b := decide (s0_1 < (a.length : Int))) (fun c1 => ?_) (fun c1 => ?_)
   ·
    replace hm := ite_t hm c1
    refine acode_cond_true rfl (c1) ?_
    refine pk ?_
    refine acode_seq ?_
    refine acode_block ?_
    refine acode_seq ?_
    refine sr ?_
    refine mv (lb rfl) rfl ?_
    refine mv (lb rfl) rfl ?_
    obtain ⟨x2, hx2, hm⟩ := bnd hm
    refine st1 rfl (op_index_shG (f := (fun n : Int => [cI n])) (l := a) Try.underlying34 Try.sizeOf3 (lb rfl) hx2) (so rfl (so rfl sn)) ?_
    refine st1 rfl (op_load_pts Try.isAgg3 rfl (lb rfl)) (so rfl sn) ?_
    refine mv (lb rfl) rfl ?_
    refine st1 rfl (op_neq (lb rfl)) (so rfl (so rfl sn)) ?_
    refine nk ?_
    refine acode_split (b := decide (x2 = s0_0)) (fun c3 => ?_) (fun c3 => ?_)
    ·
     replace hm := ite_t hm c3
     refine acode_cond_false rfl (not_t (c3)) ?_
     refine pk ?_
     refine acode_region ?_
     refine mv (lb rfl) rfl ?_
     obtain ⟨g4, hm⟩ := gd_some hm
     refine st1 rfl (op_add (lb rfl) g4) (so rfl (so rfl sn)) ?_
     refine as_ (lb rfl) rfl ?_
     refine rg_nil_seq ?_
     refine kblk_normal (kseq_normal ?_)
     refine acode_region ?_
     refine mv (lb rfl) rfl ?_
     obtain ⟨g5, hm⟩ := gd_some hm
     refine st1 rfl (op_add (lb rfl) g5) (so rfl (so rfl sn)) ?_
     refine as_ (lb rfl) rfl ?_
     refine rg_nil_seq ?_
     refine klg_back (n0, (s0_0 + 1), (s0_1 + 1)) hm (Nat.lt_succ_self _) ?_
     exact le_stU idn (.cons rfl rfl (.cons rfl rfl (.cons rfl rfl .nil))) .nil rfl
    ·
     replace hm := ite_f hm c3
     refine acode_cond_true rfl (not_f (c3)) ?_
     refine acode_seq ?_
     refine acode_le (le_stU (env := []) (obj := []) idn .nil .nil rfl) ?_
     refine acode_region ?_
     refine as_ (lb rfl) rfl ?_
     refine nkt ?_
     obtain rfl := Option.some.inj hm
     exact kseq_ret (kblk_ret (kseq_ret (klg_ret (kblk_ret (kseq_ret (fin2_retL (.cons (.c rfl) .nil) rfl .nil rfl rfl rfl))))))
   ·
    replace hm := ite_f hm c1
    refine acode_cond_false rfl (c1) ?_
    refine acode_exit ?_
    unfold m_heldIntS_k1 at hm
    refine kseq_exit (klg_exit (kblk_hit (kseq_normal ?_)))
    refine sr ?_
    refine mv (lb rfl) rfl ?_
    refine as_ (lb rfl) rfl ?_
    refine nkt ?_
    obtain rfl := Option.some.inj hm
    exact fin2_retL (.cons (.c rfl) .nil) rfl .nil rfl rfl rfl

def m_markNetFlowS_k1 (s0_0 : Int) (l0_2 : List GFlow) : Option (Int × (List GFlow)) := some (s0_0, l0_2)
def m_markNetFlowS_l0 (k : Int) (kx0_0 : Int → List GFlow → Option (Int × (List GFlow))) : Nat → Int → Int → List GFlow → Option (Int × (List GFlow))
  | 0, _, _, _ => none
  | n0 + 1, s0_0, s0_1, l0_2 => if decide (s0_1 < (l0_2.length : Int)) = true then ((getI l0_2 s0_1).bind fun x2 => (gd (ok64 (s0_0 + 1)) ((getI (l0_2.set s0_1.toNat (GFlow.mk s0_0 x2.if_)) s0_1).bind fun x4 => (gd (ok64 ((s0_0 + 1) + 1)) ((getI ((l0_2.set s0_1.toNat (GFlow.mk s0_0 x2.if_)).set s0_1.toNat (GFlow.mk x4.to (GAsk.mk (s0_0 + 1) x4.if_.var x4.if_.k))) s0_1).bind fun x6 => (gd (ok64 (((s0_0 + 1) + 1) + 1)) ((getI (((l0_2.set s0_1.toNat (GFlow.mk s0_0 x2.if_)).set s0_1.toNat (GFlow.mk x4.to (GAsk.mk (s0_0 + 1) x4.if_.var x4.if_.k))).set s0_1.toNat (GFlow.mk x6.to (GAsk.mk x6.if_.op ((s0_0 + 1) + 1) x6.if_.k))) s0_1).bind fun x8 => (gd (ok64 ((((s0_0 + 1) + 1) + 1) + 1)) (gd (ok64 (s0_1 + 1)) ((m_markNetFlowS_l0 k kx0_0 n0) ((((s0_0 + 1) + 1) + 1) + 1) (s0_1 + 1) ((((l0_2.set s0_1.toNat (GFlow.mk s0_0 x2.if_)).set s0_1.toNat (GFlow.mk x4.to (GAsk.mk (s0_0 + 1) x4.if_.var x4.if_.k))).set s0_1.toNat (GFlow.mk x6.to (GAsk.mk x6.if_.op ((s0_0 + 1) + 1) x6.if_.k))).set s0_1.toNat (GFlow.mk x8.to (GAsk.mk x8.if_.op x8.if_.var (((s0_0 + 1) + 1) + 1)))))))))))))) else (kx0_0 s0_0 l0_2)
def m_markNetFlowS (a : List GFlow) (k : Int) : Option (Int × (List GFlow)) := m_markNetFlowS_l0 k m_markNetFlowS_k1 FUEL k 0 a

theorem c_markNetFlowS (a : List GFlow) (k : Int) (rz : Int × (List GFlow)) (hm : m_markNetFlowS a k = some rz) : FnB Try.prog 132 [.c (.sl true 4 (a.map (GFlow.cells true))), .c (cI k)] [.c (cI rz.1)] [(0, .c (.sl true 4 (rz.2.map (GFlow.cells true))))] := by
 unfold m_markNetFlowS at hm
 refine fn_intro2 (n := 44) (rvs := [.tmp 4]) Try.func132 rfl rfl rfl (lb rfl) rfl rfl rfl rfl rfl ?_
 refine acode_seq ?_
 refine acode_le (le_stU (env := [(0, .ref 1000000 []), (1, aInt k)]) (obj := [(1000000, .arr 4 (a.map (GFlow.cells true)))]) idn (.cons rfl rfl (.cons rfl rfl .nil)) (.cons rfl rfl (.inr rfl) .nil) rfl) ?_
 refine acode_region ?_
 refine as_ (lb rfl) rfl ?_
 refine nk ?_
 refine acode_seq ?_
 refine sr ?_
 refine as_ (lb rfl) rfl ?_
 refine nk ?_
 refine acode_block ?_
 refine acode_loopk (xs := [0]) (ys := []) (S := Nat × Int × Int × (List GFlow)) (fun z => [(1, aInt z.2.1), (5, aInt z.2.2.1)]) (fun z => [(1000000, .arr 4 (z.2.2.2.map (GFlow.cells true)))]) (fun z => m_markNetFlowS_l0 k m_markNetFlowS_k1 z.1 z.2.1 z.2.2.1 z.2.2.2 = some rz) (fun z => z.1) (FUEL, k, 0, a) (.cons rfl .nil) .nil ?em ?eo rfl ?ei ?round
 case em => exact (.cons rfl rfl (.cons rfl rfl .nil))
 case eo => exact (.cons rfl rfl .nil)
 case ei => exact hm
 case round =>
  rintro ⟨n0, s0_0, s0_1, l0_2⟩ hm
  dsimp only at hm ⊢
  cases n0 with
  | zero => rw [m_markNetFlowS_l0] at hm; cases hm
  | succ n0 =>
   rw [m_markNetFlowS_l0] at hm
   refine acode_seq ?_
   refine sr ?_
   refine mv (lb rfl) rfl ?_
   refine mv (lb rfl) rfl ?_
   refine st1 rfl (op_lenG_ref (f := (GFlow.cells true)) (l := l0_2) Try.underlying117 (lb rfl) rfl) (so rfl (sb rfl sn)) ?_
   refine st1 rfl (op_lss (lb rfl)) (so rfl (so rfl sn)) ?_
   refine nk ?_
   refine acode_split (b := decide (s0_1 < (l0_2.length : Int))) (fun c1 => ?_) (fun c1 => ?_)
   ·
    replace hm := ite_t hm c1
    refine acode_cond_true rfl (c1) ?_
    refine pk ?_
    refine acode_seq ?_
    refine acode_block ?_
    refine sr ?_
    refine mv (lb rfl) rfl ?_
    refine mv (lb rfl) rfl ?_
    refine mv (lb rfl) rfl ?_
    obtain ⟨x2, hx2, hm⟩ := bnd hm
    refine st1 rfl (op_index_refG (f := (GFlow.cells true)) (l := l0_2) Try.underlying117 Try.sizeOf181 (lb rfl) rfl hx2) (so rfl (so rfl (sb rfl sn))) ?_
    refine st1 rfl (op_field_ptr (off := 0) Try.underlying181 Try.sizeOf3 rfl rfl rfl (lb rfl)) (so rfl (sb rfl sn)) ?_
    refine st1 rfl (op_store_arrG (row := (GFlow.cells true) x2) (rows' := ((l0_2.set s0_1.toNat (GFlow.mk s0_0 x2.if_)).map (GFlow.cells true))) Try.sizeOf3 (mapG (f := (GFlow.cells true)) (getI_some hx2).2.2) rfl (.c rfl .nil) rfl rfl rfl rfl rfl (setG (x' := (GFlow.mk s0_0 x2.if_)) rfl)) (so rfl (so rfl (sb rfl (sats_objs all_nil (sats_lives rfl))))) ?_
    refine nk ?_
    refine sr ?_
    refine mv (lb rfl) rfl ?_
    obtain ⟨g3, hm⟩ := gd_some hm
    refine st1 rfl (op_add (lb rfl) g3) (so rfl (so rfl sn)) ?_
    refine as_ (lb rfl) rfl ?_
    refine nk ?_
    refine sr ?_
    refine mv (lb rfl) rfl ?_
    refine mv (lb rfl) rfl ?_
    refine mv (lb rfl) rfl ?_
    obtain ⟨x4, hx4, hm⟩ := bnd hm
    refine st1 rfl (op_index_refG (f := (GFlow.cells true)) (l := (l0_2.set s0_1.toNat (GFlow.mk s0_0 x2.if_))) Try.underlying117 Try.sizeOf181 (lb rfl) rfl hx4) (so rfl (so rfl (sb rfl sn))) ?_
    refine st1 rfl (op_field_ptr (off := 1) Try.underlying181 Try.sizeOf88 rfl rfl rfl (lb rfl)) (so rfl (sb rfl sn)) ?_
    refine st1 rfl (op_field_ptr (off := 0) Try.underlying88 Try.sizeOf3 rfl rfl rfl (lb rfl)) (so rfl (sb rfl sn)) ?_
    refine st1 rfl (op_store_arrG (row := (GFlow.cells true) x4) (rows' := (((l0_2.set s0_1.toNat (GFlow.mk s0_0 x2.if_)).set s0_1.toNat (GFlow.mk x4.to (GAsk.mk (s0_0 + 1) x4.if_.var x4.if_.k))).map (GFlow.cells true))) Try.sizeOf3 (mapG (f := (GFlow.cells true)) (getI_some hx4).2.2) rfl (.c rfl .nil) rfl rfl rfl rfl rfl (setG (x' := (GFlow.mk x4.to (GAsk.mk (s0_0 + 1) x4.if_.var x4.if_.k))) rfl)) (so rfl (so rfl (sb rfl (sats_objs all_nil (sats_lives rfl))))) ?_
    refine nk ?_
    refine acode_seq ?_
    refine acode_le (le_stU (env := [(0, .ref 1000000 []), (1, aInt (s0_0 + 1)), (5, aInt s0_1)]) (obj := [(1000000, .arr 4 (((l0_2.set s0_1.toNat (GFlow.mk s0_0 x2.if_)).set s0_1.toNat (GFlow.mk x4.to (GAsk.mk (s0_0 + 1) x4.if_.var x4.if_.k))).map (GFlow.cells true)))]) idn (.cons rfl rfl (.cons rfl rfl (.cons rfl rfl .nil))) (.cons rfl rfl (.inr rfl) .nil) rfl) ?_
    refine acode_region ?_
    refine mv (lb rfl) rfl ?_
    obtain ⟨g5, hm⟩ := gd_some hm
    refine st1 rfl (op_add (lb rfl) g5) (so rfl (so rfl sn)) ?_
    refine as_ (lb rfl) rfl ?_
    refine nk ?_
    refine sr ?_
    refine mv (lb rfl) rfl ?_
    refine mv (lb rfl) rfl ?_
    refine mv (lb rfl) rfl ?_
    obtain ⟨x6, hx6, hm⟩ := bnd hm
    refine st1 rfl (op_index_refG (f := (GFlow.cells true)) (l := ((l0_2.set s0_1.toNat (GFlow.mk s0_0 x2.if_)).set s0_1.toNat (GFlow.mk x4.to (GAsk.mk (s0_0 + 1) x4.if_.var x4.if_.k)))) Try.underlying117 Try.sizeOf181 (lb rfl) rfl hx6) (so rfl (so rfl (sb rfl sn))) ?_
    refine st1 rfl (op_field_ptr (off := 1) Try.underlying181 Try.sizeOf88 rfl rfl rfl (lb rfl)) (so rfl (sb rfl sn)) ?_
    refine st1 rfl (op_field_ptr (off := 1) Try.underlying88 Try.sizeOf3 rfl rfl rfl (lb rfl)) (so rfl (sb rfl sn)) ?_
    refine st1 rfl (op_store_arrG (row := (GFlow.cells true) x6) (rows' := ((((l0_2.set s0_1.toNat (GFlow.mk s0_0 x2.if_)).set s0_1.toNat (GFlow.mk x4.to (GAsk.mk (s0_0 + 1) x4.if_.var x4.if_.k))).set s0_1.toNat (GFlow.mk x6.to (GAsk.mk x6.if_.op ((s0_0 + 1) + 1) x6.if_.k))).map (GFlow.cells true))) Try.sizeOf3 (mapG (f := (GFlow.cells true)) (getI_some hx6).2.2) rfl (.c rfl .nil) rfl rfl rfl rfl rfl (setG (x' := (GFlow.mk x6.to (GAsk.mk x6.if_.op ((s0_0 + 1) + 1) x6.if_.k))) rfl)) (so rfl (so rfl (sb rfl (sats_objs all_nil (sats_lives rfl))))) ?_
    refine nk ?_
    refine sr ?_
    refine mv (lb rfl) rfl ?_
    obtain ⟨g7, hm⟩ := gd_some hm
    refine st1 rfl (op_add (lb rfl) g7) (so rfl (so rfl sn)) ?_
    refine as_ (lb rfl) rfl ?_
    refine nk ?_
    refine sr ?_
    refine mv (lb rfl) rfl ?_
    refine mv (lb rfl) rfl ?_
    refine mv (lb rfl) rfl ?_
    obtain ⟨x8, hx8, hm⟩ := bnd hm
    refine st1 rfl (op_index_refG (f := (GFlow.cells true)) (l := (((l0_2.set s0_1.toNat (GFlow.mk s0_0 x2.if_)).set s0_1.toNat (GFlow.mk x4.to (GAsk.mk (s0_0 + 1) x4.if_.var x4.if_.k))).set s0_1.toNat (GFlow.mk x6.to (GAsk.mk x6.if_.op ((s0_0 + 1) + 1) x6.if_.k)))) Try.underlying117 Try.sizeOf181 (lb rfl) rfl hx8) (so rfl (so rfl (sb rfl sn))) ?_
    refine st1 rfl (op_field_ptr (off := 1) Try.underlying181 Try.sizeOf88 rfl rfl rfl (lb rfl)) (so rfl (sb rfl sn)) ?_
    refine st1 rfl (op_field_ptr (off := 2) Try.underlying88 Try.sizeOf3 rfl rfl rfl (lb rfl)) (so rfl (sb rfl sn)) ?_
    refine st1 rfl (op_store_arrG (row := (GFlow.cells true) x8) (rows' := (((((l0_2.set s0_1.toNat (GFlow.mk s0_0 x2.if_)).set s0_1.toNat (GFlow.mk x4.to (GAsk.mk (s0_0 + 1) x4.if_.var x4.if_.k))).set s0_1.toNat (GFlow.mk x6.to (GAsk.mk x6.if_.op ((s0_0 + 1) + 1) x6.if_.k))).set s0_1.toNat (GFlow.mk x8.to (GAsk.mk x8.if_.op x8.if_.var (((s0_0 + 1) + 1) + 1)))).map (GFlow.cells true))) Try.sizeOf3 (mapG (f := (GFlow.cells true)) (getI_some hx8).2.2) rfl (.c rfl .nil) rfl rfl rfl rfl rfl (setG (x' := (GFlow.mk x8.to (GAsk.mk x8.if_.op x8.if_.var (((s0_0 + 1) + 1) + 1)))) rfl)) (so rfl (so rfl (sb rfl (sats_objs all_nil (sats_lives rfl))))) ?_
    refine nk ?_
    refine acode_le (le_stU (env := [(0, .ref 1000000 []), (1, aInt (((s0_0 + 1) + 1) + 1)), (5, aInt s0_1)]) (obj := [(1000000, .arr 4 (((((l0_2.set s0_1.toNat (GFlow.mk s0_0 x2.if_)).set s0_1.toNat (GFlow.mk x4.to (GAsk.mk (s0_0 + 1) x4.if_.var x4.if_.k))).set s0_1.toNat (GFlow.mk x6.to (GAsk.mk x6.if_.op ((s0_0 + 1) + 1) x6.if_.k))).set s0_1.toNat (GFlow.mk x8.to (GAsk.mk x8.if_.op x8.if_.var (((s0_0 + 1) + 1) + 1)))).map (GFlow.cells true)))]) idn (.cons rfl rfl (.cons rfl rfl (.cons rfl rfl .nil))) (.cons rfl rfl (.inr rfl) .nil) rfl) ?_
    refine acode_region ?_
    refine mv (lb rfl) rfl ?_
    obtain ⟨g9, hm⟩ := gd_some hm
    refine st1 rfl (op_add (lb rfl) g9) (so rfl (so rfl sn)) ?_
    refine as_ (lb rfl) rfl ?_
    refine rg_nil_seq ?_
    refine kblk_normal (kseq_normal ?_)
    refine acode_region ?_
    refine mv (lb rfl) rfl ?_
    obtain ⟨g10, hm⟩ := gd_some hm
    refine st1 rfl (op_add (lb rfl) g10) (so rfl (so rfl sn)) ?_
    refine as_ (lb rfl) rfl ?_
    refine rg_nil_seq ?_
    refine klg_back (n0, ((((s0_0 + 1) + 1) + 1) + 1), (s0_1 + 1), ((((l0_2.set s0_1.toNat (GFlow.mk s0_0 x2.if_)).set s0_1.toNat (GFlow.mk x4.to (GAsk.mk (s0_0 + 1) x4.if_.var x4.if_.k))).set s0_1.toNat (GFlow.mk x6.to (GAsk.mk x6.if_.op ((s0_0 + 1) + 1) x6.if_.k))).set s0_1.toNat (GFlow.mk x8.to (GAsk.mk x8.if_.op x8.if_.var (((s0_0 + 1) + 1) + 1))))) hm (Nat.lt_succ_self _) ?_
    exact le_stU idn (.cons rfl rfl (.cons rfl rfl (.cons rfl rfl .nil))) (.cons rfl rfl (.inr rfl) .nil) rfl
   ·
    replace hm := ite_f hm c1
    refine acode_cond_false rfl (c1) ?_
    refine acode_exit ?_
    unfold m_markNetFlowS_k1 at hm
    refine kseq_exit (klg_exit (kblk_hit (kseq_normal ?_)))
    refine sr ?_
    refine mv (lb rfl) rfl ?_
    refine as_ (lb rfl) rfl ?_
    refine nkt ?_
    obtain rfl := Option.some.inj hm
    exact fin2_retL (.cons (.c rfl) .nil) rfl (.cons rfl (.sl rfl) .nil rfl) rfl rfl rfl

def m_heldNetFlowS_k1 (s0_0 : Int) : Option Int := some s0_0
def m_heldNetFlowS_l0 (a : List GFlow) (k : Int) (kx0_0 : Int → Option Int) : Nat → Int → Int → Option Int
  | 0, _, _ => none
  | n0 + 1, s0_0, s0_1 => if decide (s0_1 < (a.length : Int)) = true then ((getI a s0_1).bind fun x2 => (if decide (x2.to = s0_0) = true then (gd (ok64 (s0_0 + 1)) ((getI a s0_1).bind fun x5 => (if decide (x5.if_.op = (s0_0 + 1)) = true then (gd (ok64 ((s0_0 + 1) + 1)) ((getI a s0_1).bind fun x8 => (if decide (x8.if_.var = ((s0_0 + 1) + 1)) = true then (gd (ok64 (((s0_0 + 1) + 1) + 1)) ((getI a s0_1).bind fun x11 => (if decide (x11.if_.k = (((s0_0 + 1) + 1) + 1)) = true then (gd (ok64 ((((s0_0 + 1) + 1) + 1) + 1)) (gd (ok64 (s0_1 + 1)) ((m_heldNetFlowS_l0 a k kx0_0 n0) ((((s0_0 + 1) + 1) + 1) + 1) (s0_1 + 1)))) else (some (-1))))) else (some (-1))))) else (some (-1))))) else (some (-1)))) else (kx0_0 s0_0)
def m_heldNetFlowS (a : List GFlow) (k : Int) : Option Int := m_heldNetFlowS_l0 a k m_heldNetFlowS_k1 FUEL k 0

end Go.Am
