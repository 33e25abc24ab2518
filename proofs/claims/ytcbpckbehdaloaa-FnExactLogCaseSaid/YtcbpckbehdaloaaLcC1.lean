/- Mirrors and contracts, printed. Own work. -/
import Derived.Test.YtcbpckbehdaloaaXb5
set_option linter.unusedSimpArgs false
set_option maxRecDepth 100000
set_option maxHeartbeats 4000000
set_option linter.unusedVariables false
namespace Go.Am
noncomputable section
open Go Go.Proofs
def m_e_szIntS (l : List Int) (left : Int) : Option Int := gd (ok64 (left - (l.length : Int))) (if decide ((left - (l.length : Int)) < 0) = true then (some (-1)) else (some (left - (l.length : Int))))
def k_e_szIntS : Con := ⟨59, [.v (.sl .I) false, .v .I false], [(.I, true)], [], fun x => m_e_szIntS x.1 x.2.1⟩
def f_e_szIntS : Fs := ⟨[], []⟩
theorem g_e_szIntS : f_e_szIntS.Ok Try.prog := fs0
theorem o_e_szIntS : k_e_szIntS.Ok Try.prog := fn_ok (k := k_e_szIntS) (fn := Try.f59) (W := []) (H := []) Try.func59 g_e_szIntS trivial rfl rfl (fun av x => by kernel_rfl)
noncomputable def m_szIntS (l : List Int) (left : Int) : Option Int := @gd ((0 ≤ left) ∧ (left ≤ 1048576) ∧ (l.length ≤ 9223372036854775807)) (Classical.propDecidable _) _ (some (szR left l.length))
theorem c_szIntS (l : List Int) (left : Int) (h : (0 ≤ left) ∧ (left ≤ 1048576) ∧ (l.length ≤ 9223372036854775807)) : m_szIntS l left = some (szR left l.length) := gdC h
theorem s_szIntS (l : List Int) (left : Int) (h : (0 ≤ left) ∧ (left ≤ 1048576) ∧ (l.length ≤ 9223372036854775807)) : m_e_szIntS l left = some (szR left l.length) := by
  exact sz_flat h.1 h.2.1 h.2.2
noncomputable def k_szIntS : Con := ⟨59, [.v (.sl .I) false, .v .I false], [(.I, true)], [], fun x => m_szIntS x.1 x.2.1⟩
theorem o_szIntS : k_szIntS.Ok Try.prog := con_sub o_e_szIntS fun x z hz => by
  obtain ⟨h, e⟩ := gdC_some hz
  subst e
  exact s_szIntS _ _ h

def m_e_szEngReq (x : GReq) (left : Int) : Option Int := (m_szIntS x.data left).bind fun x1 => (if decide (x1 < 0) = true then (some (-1)) else (some x1))
def k_e_szEngReq : Con := ⟨48, [.v (.s .req) false, .v .I false], [(.I, true)], [], fun x => m_e_szEngReq x.1 x.2.1⟩
def f_e_szEngReq : Fs := ⟨[k_szIntS], []⟩
theorem g_e_szEngReq : f_e_szEngReq.Ok Try.prog := (fsK o_szIntS fs0)
theorem o_e_szEngReq : k_e_szEngReq.Ok Try.prog := fn_ok (k := k_e_szEngReq) (fn := Try.f48) (W := []) (H := []) Try.func48 g_e_szEngReq trivial rfl rfl (fun av x => by kernel_rfl)
noncomputable def m_szEngReq (x : GReq) (left : Int) : Option Int := @gd ((0 ≤ left) ∧ (left ≤ 1048576) ∧ (GReq.lens (· ≤ 9223372036854775807) x)) (Classical.propDecidable _) _ (some (szR left (GReq.W x)))
theorem c_szEngReq (x : GReq) (left : Int) (h : (0 ≤ left) ∧ (left ≤ 1048576) ∧ (GReq.lens (· ≤ 9223372036854775807) x)) : m_szEngReq x left = some (szR left (GReq.W x)) := gdC h
theorem s_szEngReq (x : GReq) (left : Int) (h : (0 ≤ left) ∧ (left ≤ 1048576) ∧ (GReq.lens (· ≤ 9223372036854775807) x)) : m_e_szEngReq x left = some (szR left (GReq.W x)) := by
  have e : GReq.W x = (x.data.length + 0) := by simp only [GReq.W]; omega
  rw [e]
  have g1 := h.1
  have g2 := h.2.1
  unfold m_e_szEngReq
  rw [c_szIntS _ _ ⟨g1, g2, h.2.2⟩]; refine sz_step g1 g2 fun left g1 g2 => ?_
  exact szR_zero g1
noncomputable def k_szEngReq : Con := ⟨48, [.v (.s .req) false, .v .I false], [(.I, true)], [], fun x => m_szEngReq x.1 x.2.1⟩
theorem o_szEngReq : k_szEngReq.Ok Try.prog := con_sub o_e_szEngReq fun x z hz => by
  obtain ⟨h, e⟩ := gdC_some hz
  subst e
  exact s_szEngReq _ _ h

def m_e_szEngReqS_k1 (s0_0 : Int) : Option Int := some s0_0
def m_e_szEngReqS_l0 (l : List GReq) (kx0_0 : Int → Option Int) : Nat → Int → Int → Option Int
  | 0, _, _ => none
  | n0 + 1, s0_0, s0_1 => if decide (s0_1 < (l.length : Int)) = true then ((getI l s0_1).bind fun x4 => ((m_szEngReq x4 s0_0).bind fun x5 => (if decide (x5 < 0) = true then (some (-1)) else (gd (ok64 (s0_1 + 1)) ((m_e_szEngReqS_l0 l kx0_0 n0) x5 (s0_1 + 1)))))) else (kx0_0 s0_0)
def m_e_szEngReqS (l : List GReq) (left : Int) : Option Int := gd (ok64 (left - (l.length : Int))) (if decide ((left - (l.length : Int)) < 0) = true then (some (-1)) else (m_e_szEngReqS_l0 l m_e_szEngReqS_k1 FUEL (left - (l.length : Int)) 0))
def k_e_szEngReqS : Con := ⟨11, [.v (.sl (.s .req)) false, .v .I false], [(.I, true)], [], fun x => m_e_szEngReqS x.1 x.2.1⟩
def f_e_szEngReqS : Fs := ⟨[k_szEngReq], []⟩
theorem g_e_szEngReqS : f_e_szEngReqS.Ok Try.prog := (fsK o_szEngReq fs0)
def t_e_szEngReqS_0 : Tmpl := ⟨[(0, .c (.s (.s .req))), (1, .c .i), (5, .c .i)], []⟩
def x0_e_szEngReqS_0 : Tmpl := ⟨[(1, .c .i)], []⟩
def L_e_szEngReqS_0 (av : AV) (x : HP k_e_szEngReqS.ps) (n : Nat) (v : t_e_szEngReqS_0.den) (K : Ks (CR k_e_szEngReqS)) : Option (CR k_e_szEngReqS) := m_e_szEngReqS_l0 v.1.1 (fun s0_0 => x0_e_szEngReqS_0.at none ((s0_0, ()), ()) (K (.exit 0))) n v.1.2.1 v.1.2.2.1
def h_e_szEngReqS_0 (av : AV) (x : HP k_e_szEngReqS.ps) : Hdl (CR k_e_szEngReqS) := hnd [] t_e_szEngReqS_0 (L_e_szEngReqS_0 av x)
theorem l_e_szEngReqS_0 : LP k_e_szEngReqS Try.f11 [0] h_e_szEngReqS_0 := lp_ok (W := []) (H := []) (xs := [x0_e_szEngReqS_0]) g_e_szEngReqS trivial rfl (fun av x v K => by kernel_rfl) (fun av x n v K => by kernel_rfl)
theorem o_e_szEngReqS : k_e_szEngReqS.Ok Try.prog := fn_ok (k := k_e_szEngReqS) (fn := Try.f11) (W := []) (H := [h_e_szEngReqS_0]) Try.func11 g_e_szEngReqS ⟨l_e_szEngReqS_0, trivial⟩ rfl rfl (fun av x => by kernel_rfl)
noncomputable def m_szEngReqS (l : List GReq) (left : Int) : Option Int := @gd ((0 ≤ left) ∧ (left ≤ 1048576) ∧ (l.length ≤ 9223372036854775807) ∧ (∀ y ∈ l, GReq.lens (· ≤ 9223372036854775807) y)) (Classical.propDecidable _) _ (some (szR left (l.length + sumW GReq.W l)))
theorem c_szEngReqS (l : List GReq) (left : Int) (h : (0 ≤ left) ∧ (left ≤ 1048576) ∧ (l.length ≤ 9223372036854775807) ∧ (∀ y ∈ l, GReq.lens (· ≤ 9223372036854775807) y)) : m_szEngReqS l left = some (szR left (l.length + sumW GReq.W l)) := gdC h
theorem s_szEngReqS (l : List GReq) (left : Int) (h : (0 ≤ left) ∧ (left ≤ 1048576) ∧ (l.length ≤ 9223372036854775807) ∧ (∀ y ∈ l, GReq.lens (· ≤ 9223372036854775807) y)) : m_e_szEngReqS l left = some (szR left (l.length + sumW GReq.W l)) := by
  refine sz_nest (f := m_e_szEngReqS_l0 l m_e_szEngReqS_k1) h.1 h.2.1 h.2.2.1 (fun n i m hi hn g1 g2 => ?_) (fun n m => ?_)
  · rw [m_e_szEngReqS_l0, if_pos (decide_eq_true (Int.ofNat_lt.2 hi)), getI_lt hi, Option.bind_some, c_szEngReq _ _ ⟨g1, g2, h.2.2.2 _ (List.getElem_mem _)⟩, Option.bind_some, gd_pos (ok64i hi hn)]; rfl
  · rw [m_e_szEngReqS_l0, if_neg (by simp)]; rfl
noncomputable def k_szEngReqS : Con := ⟨11, [.v (.sl (.s .req)) false, .v .I false], [(.I, true)], [], fun x => m_szEngReqS x.1 x.2.1⟩
theorem o_szEngReqS : k_szEngReqS.Ok Try.prog := con_sub o_e_szEngReqS fun x z hz => by
  obtain ⟨h, e⟩ := gdC_some hz
  subst e
  exact s_szEngReqS _ _ h

def m_e_toIntS_k1 (l0_1 : List Int) : Option (List Int) := some l0_1
def m_e_toIntS_l0 (l : List Int) (kx0_0 : List Int → Option (List Int)) : Nat → Int → List Int → Option (List Int)
  | 0, _, _ => none
  | n0 + 1, s0_0, l0_1 => if decide (s0_0 < (l.length : Int)) = true then ((getI l s0_0).bind fun x3 => ((getI l0_1 s0_0).bind fun x4 => (gd (ok64 (s0_0 + 1)) ((m_e_toIntS_l0 l kx0_0 n0) (s0_0 + 1) (l0_1.set s0_0.toNat x3))))) else (kx0_0 l0_1)
def m_e_toIntS (l : List Int) : Option (List Int) := gd ((0 : Int) ≤ (l.length : Int) ∧ (l.length : Int) ≤ (1000000000 : Int)) (m_e_toIntS_l0 l m_e_toIntS_k1 FUEL 0 (List.replicate (l.length : Int).toNat (0 : Int)))
def k_e_toIntS : Con := ⟨63, [.v (.sl .I) false], [((.sl .I), true)], [], fun x => m_e_toIntS x.1⟩
def f_e_toIntS : Fs := ⟨[], []⟩
theorem g_e_toIntS : f_e_toIntS.Ok Try.prog := fs0
def t_e_toIntS_0 : Tmpl := ⟨[(0, .c (.s .I)), (3, .c (.ref 7)), (4, .c .i)], [(7, .arr .I true)]⟩
def x0_e_toIntS_0 : Tmpl := ⟨[(3, .c (.ref 7))], [(7, .arr .I true)]⟩
def L_e_toIntS_0 (av : AV) (x : HP k_e_toIntS.ps) (n : Nat) (v : t_e_toIntS_0.den) (K : Ks (CR k_e_toIntS)) : Option (CR k_e_toIntS) := m_e_toIntS_l0 v.1.1 (fun l0_1 => x0_e_toIntS_0.at none (((), ()), (l0_1, ())) (K (.exit 0))) n v.1.2.2.1 v.2.1
def h_e_toIntS_0 (av : AV) (x : HP k_e_toIntS.ps) : Hdl (CR k_e_toIntS) := hnd [] t_e_toIntS_0 (L_e_toIntS_0 av x)
theorem l_e_toIntS_0 : LP k_e_toIntS Try.f63 [0] h_e_toIntS_0 := lp_ok (W := []) (H := []) (xs := [x0_e_toIntS_0]) g_e_toIntS trivial rfl (fun av x v K => by kernel_rfl) (fun av x n v K => by kernel_rfl)
theorem o_e_toIntS : k_e_toIntS.Ok Try.prog := fn_ok (k := k_e_toIntS) (fn := Try.f63) (W := []) (H := [h_e_toIntS_0]) Try.func63 g_e_toIntS ⟨l_e_toIntS_0, trivial⟩ rfl rfl (fun av x => by kernel_rfl)
noncomputable def m_toIntS (l : List Int) : Option (List Int) := @gd ((l.length ≤ 1048576)) (Classical.propDecidable _) _ (some l)
theorem c_toIntS (l : List Int) (h : (l.length ≤ 1048576)) : m_toIntS l = some l := gdC h
theorem s_toIntS (l : List Int) (h : (l.length ≤ 1048576)) : m_e_toIntS l = some l := by
  refine (gd_pos (toOk h)).trans ?_
  have hl := h
  refine to_gen (f := m_e_toIntS_l0 l m_e_toIntS_k1) (by omega) (fun n i acc hi ha => ?_) (fun n acc => ?_)
  · rw [m_e_toIntS_l0, if_pos (decide_eq_true (Int.ofNat_lt.2 hi)), getI_lt hi, Option.bind_some, getI_lt (by omega), Option.bind_some, gd_pos (ok64i hi h)]; rfl
  · rw [m_e_toIntS_l0, if_neg (by simp)]; rfl
noncomputable def k_toIntS : Con := ⟨63, [.v (.sl .I) false], [((.sl .I), true)], [], fun x => m_toIntS x.1⟩
theorem o_toIntS : k_toIntS.Ok Try.prog := con_sub o_e_toIntS fun x z hz => by
  obtain ⟨h, e⟩ := gdC_some hz
  subst e
  exact s_toIntS _ h

def m_e_toExpAsk (x : GAsk) : Option GAsk := some x
def k_e_toExpAsk : Con := ⟨99, [.v (.s .ask) false], [((.s .ask), true)], [], fun x => m_e_toExpAsk x.1⟩
def f_e_toExpAsk : Fs := ⟨[], []⟩
theorem g_e_toExpAsk : f_e_toExpAsk.Ok Try.prog := fs0
theorem o_e_toExpAsk : k_e_toExpAsk.Ok Try.prog := fn_ok (k := k_e_toExpAsk) (fn := Try.f99) (W := []) (H := []) Try.func99 g_e_toExpAsk trivial rfl rfl (fun av x => by kernel_rfl)
noncomputable def m_toExpAsk (x : GAsk) : Option GAsk := @gd (True) (Classical.propDecidable _) _ (some x)
theorem c_toExpAsk (x : GAsk) (h : True) : m_toExpAsk x = some x := gdC h
theorem s_toExpAsk (x : GAsk) (h : True) : m_e_toExpAsk x = some x := by
  rfl
noncomputable def k_toExpAsk : Con := ⟨99, [.v (.s .ask) false], [((.s .ask), true)], [], fun x => m_toExpAsk x.1⟩
theorem o_toExpAsk : k_toExpAsk.Ok Try.prog := con_sub o_e_toExpAsk fun x z hz => by
  obtain ⟨h, e⟩ := gdC_some hz
  subst e
  exact s_toExpAsk _ h

def m_e_toEngReq (x : GReq) : Option GReq := (m_toIntS x.data).bind fun x1 => ((m_toExpAsk x.if_).bind fun x2 => (some (GReq.mk x.kind x.who x.case x.task x.var x.num x1 x2 x.ans)))
def k_e_toEngReq : Con := ⟨49, [.v (.s .req) false], [((.s .req), true)], [], fun x => m_e_toEngReq x.1⟩
def f_e_toEngReq : Fs := ⟨[k_toIntS, k_toExpAsk], []⟩
theorem g_e_toEngReq : f_e_toEngReq.Ok Try.prog := (fsK o_toIntS (fsK o_toExpAsk fs0))
theorem o_e_toEngReq : k_e_toEngReq.Ok Try.prog := fn_ok (k := k_e_toEngReq) (fn := Try.f49) (W := []) (H := []) Try.func49 g_e_toEngReq trivial rfl rfl (fun av x => by kernel_rfl)
noncomputable def m_toEngReq (x : GReq) : Option GReq := @gd ((GReq.lens (· ≤ 1048576) x)) (Classical.propDecidable _) _ (some x)
theorem c_toEngReq (x : GReq) (h : (GReq.lens (· ≤ 1048576) x)) : m_toEngReq x = some x := gdC h
theorem s_toEngReq (x : GReq) (h : (GReq.lens (· ≤ 1048576) x)) : m_e_toEngReq x = some x := by
  rw [m_e_toEngReq, c_toIntS _ h, Option.bind_some, c_toExpAsk _ trivial, Option.bind_some]
noncomputable def k_toEngReq : Con := ⟨49, [.v (.s .req) false], [((.s .req), true)], [], fun x => m_toEngReq x.1⟩
theorem o_toEngReq : k_toEngReq.Ok Try.prog := con_sub o_e_toEngReq fun x z hz => by
  obtain ⟨h, e⟩ := gdC_some hz
  subst e
  exact s_toEngReq _ h

def m_e_toEngReqS_k1 (l0_1 : List GReq) : Option (List GReq) := some l0_1
def m_e_toEngReqS_l0 (l : List GReq) (kx0_0 : List GReq → Option (List GReq)) : Nat → Int → List GReq → Option (List GReq)
  | 0, _, _ => none
  | n0 + 1, s0_0, l0_1 => if decide (s0_0 < (l.length : Int)) = true then ((getI l s0_0).bind fun x3 => ((m_toEngReq x3).bind fun x4 => ((getI l0_1 s0_0).bind fun x5 => (gd (ok64 (s0_0 + 1)) ((m_e_toEngReqS_l0 l kx0_0 n0) (s0_0 + 1) (l0_1.set s0_0.toNat x4)))))) else (kx0_0 l0_1)
def m_e_toEngReqS (l : List GReq) : Option (List GReq) := gd ((0 : Int) ≤ (l.length : Int) ∧ (l.length : Int) ≤ (1000000000 : Int)) (m_e_toEngReqS_l0 l m_e_toEngReqS_k1 FUEL 0 (List.replicate (l.length : Int).toNat GReq.zero))
def k_e_toEngReqS : Con := ⟨13, [.v (.sl (.s .req)) false], [((.sl (.s .req)), true)], [], fun x => m_e_toEngReqS x.1⟩
def f_e_toEngReqS : Fs := ⟨[k_toEngReq], []⟩
theorem g_e_toEngReqS : f_e_toEngReqS.Ok Try.prog := (fsK o_toEngReq fs0)
def t_e_toEngReqS_0 : Tmpl := ⟨[(0, .c (.s (.s .req))), (3, .c (.ref 7)), (4, .c .i)], [(7, .arr (.s .req) true)]⟩
def x0_e_toEngReqS_0 : Tmpl := ⟨[(3, .c (.ref 7))], [(7, .arr (.s .req) true)]⟩
def L_e_toEngReqS_0 (av : AV) (x : HP k_e_toEngReqS.ps) (n : Nat) (v : t_e_toEngReqS_0.den) (K : Ks (CR k_e_toEngReqS)) : Option (CR k_e_toEngReqS) := m_e_toEngReqS_l0 v.1.1 (fun l0_1 => x0_e_toEngReqS_0.at none (((), ()), (l0_1, ())) (K (.exit 0))) n v.1.2.2.1 v.2.1
def h_e_toEngReqS_0 (av : AV) (x : HP k_e_toEngReqS.ps) : Hdl (CR k_e_toEngReqS) := hnd [] t_e_toEngReqS_0 (L_e_toEngReqS_0 av x)
theorem l_e_toEngReqS_0 : LP k_e_toEngReqS Try.f13 [0] h_e_toEngReqS_0 := lp_ok (W := []) (H := []) (xs := [x0_e_toEngReqS_0]) g_e_toEngReqS trivial rfl (fun av x v K => by kernel_rfl) (fun av x n v K => by kernel_rfl)
theorem o_e_toEngReqS : k_e_toEngReqS.Ok Try.prog := fn_ok (k := k_e_toEngReqS) (fn := Try.f13) (W := []) (H := [h_e_toEngReqS_0]) Try.func13 g_e_toEngReqS ⟨l_e_toEngReqS_0, trivial⟩ rfl rfl (fun av x => by kernel_rfl)
noncomputable def m_toEngReqS (l : List GReq) : Option (List GReq) := @gd ((l.length ≤ 1048576) ∧ (∀ y ∈ l, GReq.lens (· ≤ 1048576) y)) (Classical.propDecidable _) _ (some l)
theorem c_toEngReqS (l : List GReq) (h : (l.length ≤ 1048576) ∧ (∀ y ∈ l, GReq.lens (· ≤ 1048576) y)) : m_toEngReqS l = some l := gdC h
theorem s_toEngReqS (l : List GReq) (h : (l.length ≤ 1048576) ∧ (∀ y ∈ l, GReq.lens (· ≤ 1048576) y)) : m_e_toEngReqS l = some l := by
  refine (gd_pos (toOk h.1)).trans ?_
  have hl := h.1
  refine to_gen (f := m_e_toEngReqS_l0 l m_e_toEngReqS_k1) (by omega) (fun n i acc hi ha => ?_) (fun n acc => ?_)
  · rw [m_e_toEngReqS_l0, if_pos (decide_eq_true (Int.ofNat_lt.2 hi)), getI_lt hi, Option.bind_some, c_toEngReq _ (h.2 _ (List.getElem_mem _)), Option.bind_some, getI_lt (by omega), Option.bind_some, gd_pos (ok64i hi h.1)]; rfl
  · rw [m_e_toEngReqS_l0, if_neg (by simp)]; rfl
noncomputable def k_toEngReqS : Con := ⟨13, [.v (.sl (.s .req)) false], [((.sl (.s .req)), true)], [], fun x => m_toEngReqS x.1⟩
theorem o_toEngReqS : k_toEngReqS.Ok Try.prog := con_sub o_e_toEngReqS fun x z hz => by
  obtain ⟨h, e⟩ := gdC_some hz
  subst e
  exact s_toEngReqS _ h

def m_e_eqIntS_k1  : Option Bool := some true
def m_e_eqIntS_l0 (a : List Int) (b : List Int) (kx0_0 : Option Bool) : Nat → Int → Option Bool
  | 0, _ => none
  | n0 + 1, s0_0 => if decide (s0_0 < (a.length : Int)) = true then ((getI a s0_0).bind fun x3 => ((getI b s0_0).bind fun x4 => (if decide (x3 = x4) = true then (gd (ok64 (s0_0 + 1)) ((m_e_eqIntS_l0 a b kx0_0 n0) (s0_0 + 1))) else (some false)))) else (kx0_0)
def m_e_eqIntS (a : List Int) (b : List Int) : Option Bool := if decide ((a.length : Int) = (b.length : Int)) = true then (m_e_eqIntS_l0 a b m_e_eqIntS_k1 FUEL 0) else (some false)
def k_e_eqIntS : Con := ⟨26, [.v (.sl .I) false, .v (.sl .I) false], [(.B, true)], [], fun x => m_e_eqIntS x.1 x.2.1⟩
def f_e_eqIntS : Fs := ⟨[], []⟩
theorem g_e_eqIntS : f_e_eqIntS.Ok Try.prog := fs0
def t_e_eqIntS_0 : Tmpl := ⟨[(0, .c (.s .I)), (1, .c (.s .I)), (5, .c .i)], []⟩
def x0_e_eqIntS_0 : Tmpl := ⟨[], []⟩
def L_e_eqIntS_0 (av : AV) (x : HP k_e_eqIntS.ps) (n : Nat) (v : t_e_eqIntS_0.den) (K : Ks (CR k_e_eqIntS)) : Option (CR k_e_eqIntS) := m_e_eqIntS_l0 v.1.1 v.1.2.1 (x0_e_eqIntS_0.at none ((), ()) (K (.exit 0))) n v.1.2.2.1
def h_e_eqIntS_0 (av : AV) (x : HP k_e_eqIntS.ps) : Hdl (CR k_e_eqIntS) := hnd [] t_e_eqIntS_0 (L_e_eqIntS_0 av x)
theorem l_e_eqIntS_0 : LP k_e_eqIntS Try.f26 [0] h_e_eqIntS_0 := lp_ok (W := []) (H := []) (xs := [x0_e_eqIntS_0]) g_e_eqIntS trivial rfl (fun av x v K => by kernel_rfl) (fun av x n v K => by kernel_rfl)
theorem o_e_eqIntS : k_e_eqIntS.Ok Try.prog := fn_ok (k := k_e_eqIntS) (fn := Try.f26) (W := []) (H := [h_e_eqIntS_0]) Try.func26 g_e_eqIntS ⟨l_e_eqIntS_0, trivial⟩ rfl rfl (fun av x => by kernel_rfl)
noncomputable def m_eqIntS (a : List Int) (b : List Int) : Option Bool := @gd ((a.length ≤ 1048576)) (Classical.propDecidable _) _ (some (decide (a = b)))
theorem c_eqIntS (a : List Int) (b : List Int) (h : (a.length ≤ 1048576)) : m_eqIntS a b = some (decide (a = b)) := gdC h
theorem s_eqIntS (a : List Int) (b : List Int) (h : (a.length ≤ 1048576)) : m_e_eqIntS a b = some (decide (a = b)) := by
  have hl := h
  refine eq_len fun hab => eq_gen (f := m_e_eqIntS_l0 a b m_e_eqIntS_k1) (by omega) hab (fun n i hi hj => ?_) (fun n => ?_)
  · rw [m_e_eqIntS_l0, if_pos (decide_eq_true (Int.ofNat_lt.2 hi)), getI_lt hi, Option.bind_some, getI_lt hj, Option.bind_some, gd_pos (ok64i hi h)]; rfl
  · rw [m_e_eqIntS_l0, if_neg (by simp)]; rfl
noncomputable def k_eqIntS : Con := ⟨26, [.v (.sl .I) false, .v (.sl .I) false], [(.B, true)], [], fun x => m_eqIntS x.1 x.2.1⟩
theorem o_eqIntS : k_eqIntS.Ok Try.prog := con_sub o_e_eqIntS fun x z hz => by
  obtain ⟨h, e⟩ := gdC_some hz
  subst e
  exact s_eqIntS _ _ h

def m_e_eqExpAsk (x : GAsk) (y : GAsk) : Option Bool := if decide (x.op = y.op) = true then (if decide (x.var = y.var) = true then (if decide (x.k = y.k) = true then (some true) else (some false)) else (some false)) else (some false)
def k_e_eqExpAsk : Con := ⟨100, [.v (.s .ask) false, .v (.s .ask) false], [(.B, true)], [], fun x => m_e_eqExpAsk x.1 x.2.1⟩
def f_e_eqExpAsk : Fs := ⟨[], []⟩
theorem g_e_eqExpAsk : f_e_eqExpAsk.Ok Try.prog := fs0
theorem o_e_eqExpAsk : k_e_eqExpAsk.Ok Try.prog := fn_ok (k := k_e_eqExpAsk) (fn := Try.f100) (W := []) (H := []) Try.func100 g_e_eqExpAsk trivial rfl rfl (fun av x => by kernel_rfl)
noncomputable def m_eqExpAsk (x : GAsk) (y : GAsk) : Option Bool := @gd (True) (Classical.propDecidable _) _ (some (decide (x = y)))
theorem c_eqExpAsk (x : GAsk) (y : GAsk) (h : True) : m_eqExpAsk x y = some (decide (x = y)) := gdC h
theorem s_eqExpAsk (x : GAsk) (y : GAsk) (h : True) : m_e_eqExpAsk x y = some (decide (x = y)) := by
  unfold m_e_eqExpAsk
  refine (eq_step (eq_step (eq_step eq_end))).trans (congrArg some (decide_eq_decide.2 ⟨fun ⟨h0, h1, h2, _⟩ => ?_, fun h => by subst h; simp⟩))
  cases x; cases y; simp_all
noncomputable def k_eqExpAsk : Con := ⟨100, [.v (.s .ask) false, .v (.s .ask) false], [(.B, true)], [], fun x => m_eqExpAsk x.1 x.2.1⟩
theorem o_eqExpAsk : k_eqExpAsk.Ok Try.prog := con_sub o_e_eqExpAsk fun x z hz => by
  obtain ⟨h, e⟩ := gdC_some hz
  subst e
  exact s_eqExpAsk _ _ h

def m_e_eqEngReq (x : GReq) (y : GReq) : Option Bool := if decide (x.kind = y.kind) = true then (if decide (x.who = y.who) = true then (if decide (x.case = y.case) = true then (if decide (x.task = y.task) = true then (if decide (x.var = y.var) = true then (if decide (x.num = y.num) = true then ((m_eqIntS x.data y.data).bind fun x7 => (if x7 = true then ((m_eqExpAsk x.if_ y.if_).bind fun x9 => (if x9 = true then (if decide (x.ans = y.ans) = true then (some true) else (some false)) else (some false))) else (some false))) else (some false)) else (some false)) else (some false)) else (some false)) else (some false)) else (some false)
def k_e_eqEngReq : Con := ⟨50, [.v (.s .req) false, .v (.s .req) false], [(.B, true)], [], fun x => m_e_eqEngReq x.1 x.2.1⟩
def f_e_eqEngReq : Fs := ⟨[k_eqIntS, k_eqExpAsk], []⟩
theorem g_e_eqEngReq : f_e_eqEngReq.Ok Try.prog := (fsK o_eqIntS (fsK o_eqExpAsk fs0))
theorem o_e_eqEngReq : k_e_eqEngReq.Ok Try.prog := fn_ok (k := k_e_eqEngReq) (fn := Try.f50) (W := []) (H := []) Try.func50 g_e_eqEngReq trivial rfl rfl (fun av x => by kernel_rfl)
noncomputable def m_eqEngReq (x : GReq) (y : GReq) : Option Bool := @gd ((GReq.lens (· ≤ 1048576) x) ∧ (GReq.lens (· ≤ 1048576) y)) (Classical.propDecidable _) _ (some (decide (x = y)))
theorem c_eqEngReq (x : GReq) (y : GReq) (h : (GReq.lens (· ≤ 1048576) x) ∧ (GReq.lens (· ≤ 1048576) y)) : m_eqEngReq x y = some (decide (x = y)) := gdC h
theorem s_eqEngReq (x : GReq) (y : GReq) (h : (GReq.lens (· ≤ 1048576) x) ∧ (GReq.lens (· ≤ 1048576) y)) : m_e_eqEngReq x y = some (decide (x = y)) := by
  rw [m_e_eqEngReq, c_eqIntS _ _ h.1, Option.bind_some, c_eqExpAsk _ _ trivial, Option.bind_some]
  refine (eq_step (eq_step (eq_step (eq_step (eq_step (eq_step (eq_step (eq_step (eq_step eq_end))))))))).trans (congrArg some (decide_eq_decide.2 ⟨fun ⟨h0, h1, h2, h3, h4, h5, h6, h7, h8, _⟩ => ?_, fun h => by subst h; simp⟩))
  cases x; cases y; simp_all
noncomputable def k_eqEngReq : Con := ⟨50, [.v (.s .req) false, .v (.s .req) false], [(.B, true)], [], fun x => m_eqEngReq x.1 x.2.1⟩
theorem o_eqEngReq : k_eqEngReq.Ok Try.prog := con_sub o_e_eqEngReq fun x z hz => by
  obtain ⟨h, e⟩ := gdC_some hz
  subst e
  exact s_eqEngReq _ _ h

def m_e_eqEngReqS_k1  : Option Bool := some true
def m_e_eqEngReqS_l0 (a : List GReq) (b : List GReq) (kx0_0 : Option Bool) : Nat → Int → Option Bool
  | 0, _ => none
  | n0 + 1, s0_0 => if decide (s0_0 < (a.length : Int)) = true then ((getI a s0_0).bind fun x3 => ((getI b s0_0).bind fun x4 => ((m_eqEngReq x3 x4).bind fun x5 => (if x5 = true then (gd (ok64 (s0_0 + 1)) ((m_e_eqEngReqS_l0 a b kx0_0 n0) (s0_0 + 1))) else (some false))))) else (kx0_0)
def m_e_eqEngReqS (a : List GReq) (b : List GReq) : Option Bool := if decide ((a.length : Int) = (b.length : Int)) = true then (m_e_eqEngReqS_l0 a b m_e_eqEngReqS_k1 FUEL 0) else (some false)
def k_e_eqEngReqS : Con := ⟨15, [.v (.sl (.s .req)) false, .v (.sl (.s .req)) false], [(.B, true)], [], fun x => m_e_eqEngReqS x.1 x.2.1⟩
def f_e_eqEngReqS : Fs := ⟨[k_eqEngReq], []⟩
theorem g_e_eqEngReqS : f_e_eqEngReqS.Ok Try.prog := (fsK o_eqEngReq fs0)
def t_e_eqEngReqS_0 : Tmpl := ⟨[(0, .c (.s (.s .req))), (1, .c (.s (.s .req))), (5, .c .i)], []⟩
def x0_e_eqEngReqS_0 : Tmpl := ⟨[], []⟩
def L_e_eqEngReqS_0 (av : AV) (x : HP k_e_eqEngReqS.ps) (n : Nat) (v : t_e_eqEngReqS_0.den) (K : Ks (CR k_e_eqEngReqS)) : Option (CR k_e_eqEngReqS) := m_e_eqEngReqS_l0 v.1.1 v.1.2.1 (x0_e_eqEngReqS_0.at none ((), ()) (K (.exit 0))) n v.1.2.2.1
def h_e_eqEngReqS_0 (av : AV) (x : HP k_e_eqEngReqS.ps) : Hdl (CR k_e_eqEngReqS) := hnd [] t_e_eqEngReqS_0 (L_e_eqEngReqS_0 av x)
theorem l_e_eqEngReqS_0 : LP k_e_eqEngReqS Try.f15 [0] h_e_eqEngReqS_0 := lp_ok (W := []) (H := []) (xs := [x0_e_eqEngReqS_0]) g_e_eqEngReqS trivial rfl (fun av x v K => by kernel_rfl) (fun av x n v K => by kernel_rfl)
theorem o_e_eqEngReqS : k_e_eqEngReqS.Ok Try.prog := fn_ok (k := k_e_eqEngReqS) (fn := Try.f15) (W := []) (H := [h_e_eqEngReqS_0]) Try.func15 g_e_eqEngReqS ⟨l_e_eqEngReqS_0, trivial⟩ rfl rfl (fun av x => by kernel_rfl)
noncomputable def m_eqEngReqS (a : List GReq) (b : List GReq) : Option Bool := @gd ((a.length ≤ 1048576) ∧ (∀ y ∈ a, GReq.lens (· ≤ 1048576) y) ∧ (∀ y ∈ b, GReq.lens (· ≤ 1048576) y)) (Classical.propDecidable _) _ (some (decide (a = b)))
theorem c_eqEngReqS (a : List GReq) (b : List GReq) (h : (a.length ≤ 1048576) ∧ (∀ y ∈ a, GReq.lens (· ≤ 1048576) y) ∧ (∀ y ∈ b, GReq.lens (· ≤ 1048576) y)) : m_eqEngReqS a b = some (decide (a = b)) := gdC h
theorem s_eqEngReqS (a : List GReq) (b : List GReq) (h : (a.length ≤ 1048576) ∧ (∀ y ∈ a, GReq.lens (· ≤ 1048576) y) ∧ (∀ y ∈ b, GReq.lens (· ≤ 1048576) y)) : m_e_eqEngReqS a b = some (decide (a = b)) := by
  have hl := h.1
  refine eq_len fun hab => eq_gen (f := m_e_eqEngReqS_l0 a b m_e_eqEngReqS_k1) (by omega) hab (fun n i hi hj => ?_) (fun n => ?_)
  · rw [m_e_eqEngReqS_l0, if_pos (decide_eq_true (Int.ofNat_lt.2 hi)), getI_lt hi, Option.bind_some, getI_lt hj, Option.bind_some, c_eqEngReq _ _ ⟨h.2.1 _ (List.getElem_mem _), h.2.2 _ (List.getElem_mem _)⟩, Option.bind_some, gd_pos (ok64i hi h.1)]; rfl
  · rw [m_e_eqEngReqS_l0, if_neg (by simp)]; rfl
noncomputable def k_eqEngReqS : Con := ⟨15, [.v (.sl (.s .req)) false, .v (.sl (.s .req)) false], [(.B, true)], [], fun x => m_eqEngReqS x.1 x.2.1⟩
theorem o_eqEngReqS : k_eqEngReqS.Ok Try.prog := con_sub o_e_eqEngReqS fun x z hz => by
  obtain ⟨h, e⟩ := gdC_some hz
  subst e
  exact s_eqEngReqS _ _ h

def m_spec_l1In (n : Int) (low : Int) (high : Int) : Option Bool := if decide (low ≤ n) = true then (some (decide (n ≤ high))) else (some false)

def m_spec_DatOk_k1  : Option Bool := some true
def m_spec_DatOk_l0 (data : List Int) (kx0_0 : Option Bool) : Nat → Int → Option Bool
  | 0, _ => none
  | n0 + 1, s0_0 => if decide (s0_0 < (data.length : Int)) = true then ((getI data s0_0).bind fun x3 => ((m_spec_l1In x3 (-99) 99).bind fun x4 => (if x4 = true then (gd (ok64 (s0_0 + 1)) ((m_spec_DatOk_l0 data kx0_0 n0) (s0_0 + 1))) else (some false)))) else (kx0_0)
def m_spec_DatOk (data : List Int) : Option Bool := if decide ((data.length : Int) = 3) = true then (m_spec_DatOk_l0 data m_spec_DatOk_k1 FUEL 0) else (some false)

def m_spec_ExpOk (e : GAsk) : Option Bool := if decide (e.op = 0) = true then (some (decide ([e.op, e.var, e.k] = [0, 0, 0]))) else ((m_spec_l1In e.op 1 3).bind fun x2 => (if x2 = true then ((m_spec_l1In e.var 0 2).bind fun x4 => (if x4 = true then ((m_spec_l1In e.k (-99) 99).bind fun x6 => (some x6)) else (some false))) else (some false)))

def m_impl_in (n : Int) (low : Int) (high : Int) : Option Bool := if decide (low ≤ n) = true then (some (decide (n ≤ high))) else (some false)
def k_impl_in : Con := ⟨52, [.v .I false, .v .I false, .v .I false], [(.B, true)], [], fun x => m_impl_in x.1 x.2.1 x.2.2.1⟩
def f_impl_in : Fs := ⟨[], []⟩
theorem g_impl_in : f_impl_in.Ok Try.prog := fs0
theorem o_impl_in : k_impl_in.Ok Try.prog := fn_ok (k := k_impl_in) (fn := Try.f52) (W := []) (H := []) Try.func52 g_impl_in trivial rfl rfl (fun av x => by kernel_rfl)

def m_impl_isDatum (n : Int) : Option Bool := (m_impl_in n (-99) 99).bind fun x1 => (some x1)

def m_impl_cloneInts (list : List Int) : Option (List Int) := gd (([] : List Int).length + list.length ≤ SMALL) (some (([] : List Int) ++ list))
def k_impl_cloneInts : Con := ⟨80, [.v (.sl .I) false], [((.sl .I), true)], [], fun x => m_impl_cloneInts x.1⟩
def f_impl_cloneInts : Fs := ⟨[], []⟩
theorem g_impl_cloneInts : f_impl_cloneInts.Ok Try.prog := fs0
theorem o_impl_cloneInts : k_impl_cloneInts.Ok Try.prog := fn_ok (k := k_impl_cloneInts) (fn := Try.f80) (W := []) (H := []) Try.func80 g_impl_cloneInts trivial rfl rfl (fun av x => by kernel_rfl)

def m_impl_ExpOk (e : GAsk) : Option Bool := if decide (e.op = 0) = true then (if decide (e.var = 0) = true then (some (decide (e.k = 0))) else (some false)) else ((m_impl_in e.op 1 3).bind fun x3 => (if x3 = true then ((m_impl_in e.var 0 2).bind fun x5 => (if x5 = true then ((m_impl_isDatum e.k).bind fun x7 => (some x7)) else (some false))) else (some false)))

def m_impl_EngReq_clone (r : GReq) : Option GReq := (m_impl_cloneInts r.data).bind fun x1 => (some (GReq.mk r.kind r.who r.case r.task r.var r.num x1 r.if_ r.ans))
def k_impl_EngReq_clone : Con := ⟨53, [.v (.s .req) false], [((.s .req), true)], [], fun x => m_impl_EngReq_clone x.1⟩
def f_impl_EngReq_clone : Fs := ⟨[k_impl_cloneInts], []⟩
theorem g_impl_EngReq_clone : f_impl_EngReq_clone.Ok Try.prog := (fsK o_impl_cloneInts fs0)
theorem o_impl_EngReq_clone : k_impl_EngReq_clone.Ok Try.prog := fn_ok (k := k_impl_EngReq_clone) (fn := Try.f53) (W := []) (H := []) Try.func53 g_impl_EngReq_clone trivial rfl rfl (fun av x => by kernel_rfl)

def m_spec_l10Req (r : GReq) : Option GReq := gd (([] : List Int).length + r.data.length ≤ SMALL) (some (GReq.mk r.kind r.who r.case r.task r.var r.num (([] : List Int) ++ r.data) r.if_ r.ans))
def k_spec_l10Req : Con := ⟨51, [.v (.s .req) false], [((.s .req), true)], [], fun x => m_spec_l10Req x.1⟩
def f_spec_l10Req : Fs := ⟨[], []⟩
theorem g_spec_l10Req : f_spec_l10Req.Ok Try.prog := fs0
theorem o_spec_l10Req : k_spec_l10Req.Ok Try.prog := fn_ok (k := k_spec_l10Req) (fn := Try.f51) (W := []) (H := []) Try.func51 g_spec_l10Req trivial rfl rfl (fun av x => by kernel_rfl)

def m_IndexFunc_I_k1  : Option Int := some (-1)
def m_IndexFunc_I_l0 (s : List Int) (p : Int → Option Bool) (p0_0 : Int) (kx0_0 : Option Int) : Nat → Int → Option Int
  | 0, _ => none
  | n0 + 1, s0_0 => if decide (s0_0 < p0_0) = true then ((getI s s0_0).bind fun x2 => ((p x2).bind fun x3 => (if x3 = true then (some s0_0) else (gd (ok64 (s0_0 + 1)) ((m_IndexFunc_I_l0 s p p0_0 kx0_0 n0) (s0_0 + 1)))))) else (kx0_0)
def m_IndexFunc_I (s : List Int) (p : Int → Option Bool) : Option Int := m_IndexFunc_I_l0 s p (s.length : Int) m_IndexFunc_I_k1 FUEL 0

def m_ContainsFunc_I (s : List Int) (p : Int → Option Bool) : Option Bool := (m_IndexFunc_I s p).bind fun x1 => (some (decide (0 ≤ x1)))

def m_IndexFunc_GReq_k1  : Option Int := some (-1)
def m_IndexFunc_GReq_l0 (s : List GReq) (p : GReq → Option Bool) (p0_0 : Int) (kx0_0 : Option Int) : Nat → Int → Option Int
  | 0, _ => none
  | n0 + 1, s0_0 => if decide (s0_0 < p0_0) = true then ((getI s s0_0).bind fun x2 => ((p x2).bind fun x3 => (if x3 = true then (some s0_0) else (gd (ok64 (s0_0 + 1)) ((m_IndexFunc_GReq_l0 s p p0_0 kx0_0 n0) (s0_0 + 1)))))) else (kx0_0)
def m_IndexFunc_GReq (s : List GReq) (p : GReq → Option Bool) : Option Int := m_IndexFunc_GReq_l0 s p (s.length : Int) m_IndexFunc_GReq_k1 FUEL 0

def m_ContainsFunc_GReq (s : List GReq) (p : GReq → Option Bool) : Option Bool := (m_IndexFunc_GReq s p).bind fun x1 => (some (decide (0 ≤ x1)))

def m_IndexFunc_GTask_k1  : Option Int := some (-1)
def m_IndexFunc_GTask_l0 (s : List GTask) (p : GTask → Option Bool) (p0_0 : Int) (kx0_0 : Option Int) : Nat → Int → Option Int
  | 0, _ => none
  | n0 + 1, s0_0 => if decide (s0_0 < p0_0) = true then ((getI s s0_0).bind fun x2 => ((p x2).bind fun x3 => (if x3 = true then (some s0_0) else (gd (ok64 (s0_0 + 1)) ((m_IndexFunc_GTask_l0 s p p0_0 kx0_0 n0) (s0_0 + 1)))))) else (kx0_0)
def m_IndexFunc_GTask (s : List GTask) (p : GTask → Option Bool) : Option Int := m_IndexFunc_GTask_l0 s p (s.length : Int) m_IndexFunc_GTask_k1 FUEL 0

def m_ContainsFunc_GTask (s : List GTask) (p : GTask → Option Bool) : Option Bool := (m_IndexFunc_GTask s p).bind fun x1 => (some (decide (0 ≤ x1)))

def m_IndexFunc_GNet_k1  : Option Int := some (-1)
def m_IndexFunc_GNet_l0 (s : List GNet) (p : GNet → Option Bool) (p0_0 : Int) (kx0_0 : Option Int) : Nat → Int → Option Int
  | 0, _ => none
  | n0 + 1, s0_0 => if decide (s0_0 < p0_0) = true then ((getI s s0_0).bind fun x2 => ((p x2).bind fun x3 => (if x3 = true then (some s0_0) else (gd (ok64 (s0_0 + 1)) ((m_IndexFunc_GNet_l0 s p p0_0 kx0_0 n0) (s0_0 + 1)))))) else (kx0_0)
def m_IndexFunc_GNet (s : List GNet) (p : GNet → Option Bool) : Option Int := m_IndexFunc_GNet_l0 s p (s.length : Int) m_IndexFunc_GNet_k1 FUEL 0

def m_ContainsFunc_GNet (s : List GNet) (p : GNet → Option Bool) : Option Bool := (m_IndexFunc_GNet s p).bind fun x1 => (some (decide (0 ≤ x1)))

def m_IndexFunc_GItem_k1  : Option Int := some (-1)
def m_IndexFunc_GItem_l0 (s : List GItem) (p : GItem → Option Bool) (p0_0 : Int) (kx0_0 : Option Int) : Nat → Int → Option Int
  | 0, _ => none
  | n0 + 1, s0_0 => if decide (s0_0 < p0_0) = true then ((getI s s0_0).bind fun x2 => ((p x2).bind fun x3 => (if x3 = true then (some s0_0) else (gd (ok64 (s0_0 + 1)) ((m_IndexFunc_GItem_l0 s p p0_0 kx0_0 n0) (s0_0 + 1)))))) else (kx0_0)
def m_IndexFunc_GItem (s : List GItem) (p : GItem → Option Bool) : Option Int := m_IndexFunc_GItem_l0 s p (s.length : Int) m_IndexFunc_GItem_k1 FUEL 0

def m_ContainsFunc_GItem (s : List GItem) (p : GItem → Option Bool) : Option Bool := (m_IndexFunc_GItem s p).bind fun x1 => (some (decide (0 ≤ x1)))

def m_Index_I_k1  : Option Int := some (-1)
def m_Index_I_l0 (s : List Int) (v : Int) (p0_0 : Int) (kx0_0 : Option Int) : Nat → Int → Option Int
  | 0, _ => none
  | n0 + 1, s0_0 => if decide (s0_0 < p0_0) = true then ((getI s s0_0).bind fun x2 => (if decide (v = x2) = true then (some s0_0) else (gd (ok64 (s0_0 + 1)) ((m_Index_I_l0 s v p0_0 kx0_0 n0) (s0_0 + 1))))) else (kx0_0)
def m_Index_I (s : List Int) (v : Int) : Option Int := m_Index_I_l0 s v (s.length : Int) m_Index_I_k1 FUEL 0

def m_Contains_I (s : List Int) (v : Int) : Option Bool := (m_Index_I s v).bind fun x1 => (some (decide (0 ≤ x1)))

def m_impl_DatOk_1 (n : Int) : Option Bool := (m_impl_isDatum n).bind fun x1 => (some (!x1))

def m_impl_DatOk (data : List Int) : Option Bool := if decide ((data.length : Int) = 3) = true then ((m_ContainsFunc_I data (fun z => m_impl_DatOk_1 z )).bind fun x2 => (some (!x2))) else (some false)

def m_spec_LogCase_k1 (l0_1 : List GReq) : Option (List GReq) := some l0_1
def m_spec_LogCase_l0 (log : List GReq) (k : Int) (kx0_0 : List GReq → Option (List GReq)) : Nat → Int → List GReq → Option (List GReq)
  | 0, _, _ => none
  | n0 + 1, s0_0, l0_1 => if decide (s0_0 < (log.length : Int)) = true then ((getI log s0_0).bind fun x2 => (if decide (2 ≤ x2.kind) = true then ((getI log s0_0).bind fun x4 => (if decide (x4.kind ≤ 4) = true then ((getI log s0_0).bind fun x6 => (if decide (x6.case = k) = true then ((getI log s0_0).bind fun x8 => ((m_spec_l10Req x8).bind fun x9 => (gd (l0_1.length + [x9].length ≤ SMALL) (gd (ok64 (s0_0 + 1)) ((m_spec_LogCase_l0 log k kx0_0 n0) (s0_0 + 1) (l0_1 ++ [x9])))))) else (gd (ok64 (s0_0 + 1)) ((m_spec_LogCase_l0 log k kx0_0 n0) (s0_0 + 1) l0_1)))) else (gd (ok64 (s0_0 + 1)) ((m_spec_LogCase_l0 log k kx0_0 n0) (s0_0 + 1) l0_1)))) else (gd (ok64 (s0_0 + 1)) ((m_spec_LogCase_l0 log k kx0_0 n0) (s0_0 + 1) l0_1)))) else (kx0_0 l0_1)
def m_spec_LogCase (log : List GReq) (k : Int) : Option (List GReq) := m_spec_LogCase_l0 log k m_spec_LogCase_k1 FUEL 0 ([] : List GReq)
def k_spec_LogCase : Con := ⟨16, [.v (.sl (.s .req)) false, .v .I false], [((.sl (.s .req)), true)], [], fun x => m_spec_LogCase x.1 x.2.1⟩
def f_spec_LogCase : Fs := ⟨[k_spec_l10Req], []⟩
theorem g_spec_LogCase : f_spec_LogCase.Ok Try.prog := (fsK o_spec_l10Req fs0)
def t_spec_LogCase_0 : Tmpl := ⟨[(0, .c (.s (.s .req))), (1, .c .i), (5, .c (.ref 7)), (6, .c .i)], [(7, .arr (.s .req) true)]⟩
def x0_spec_LogCase_0 : Tmpl := ⟨[(5, .c (.ref 7))], [(7, .arr (.s .req) true)]⟩
def L_spec_LogCase_0 (av : AV) (x : HP k_spec_LogCase.ps) (n : Nat) (v : t_spec_LogCase_0.den) (K : Ks (CR k_spec_LogCase)) : Option (CR k_spec_LogCase) := m_spec_LogCase_l0 v.1.1 v.1.2.1 (fun l0_1 => x0_spec_LogCase_0.at none (((), ()), (l0_1, ())) (K (.exit 0))) n v.1.2.2.2.1 v.2.1
def h_spec_LogCase_0 (av : AV) (x : HP k_spec_LogCase.ps) : Hdl (CR k_spec_LogCase) := hnd [] t_spec_LogCase_0 (L_spec_LogCase_0 av x)
theorem l_spec_LogCase_0 : LP k_spec_LogCase Try.f16 [0] h_spec_LogCase_0 := lp_ok (W := []) (H := []) (xs := [x0_spec_LogCase_0]) g_spec_LogCase trivial rfl (fun av x v K => by kernel_rfl) (fun av x n v K => by kernel_rfl)
theorem o_spec_LogCase : k_spec_LogCase.Ok Try.prog := fn_ok (k := k_spec_LogCase) (fn := Try.f16) (W := []) (H := [h_spec_LogCase_0]) Try.func16 g_spec_LogCase ⟨l_spec_LogCase_0, trivial⟩ rfl rfl (fun av x => by kernel_rfl)

def m_impl_LogCase_k1 (l0_1 : List GReq) : Option (List GReq) := some l0_1
def m_impl_LogCase_l0 (log : List GReq) (k : Int) (p0_0 : Int) (kx0_0 : List GReq → Option (List GReq)) : Nat → Int → List GReq → Option (List GReq)
  | 0, _, _ => none
  | n0 + 1, s0_0, l0_1 => if decide (s0_0 < p0_0) = true then ((getI log s0_0).bind fun x2 => ((m_impl_in x2.kind 2 4).bind fun x3 => (if x3 = true then (if decide (x2.case = k) = true then ((m_impl_EngReq_clone x2).bind fun x6 => (gd (l0_1.length + [x6].length ≤ SMALL) (gd (ok64 (s0_0 + 1)) ((m_impl_LogCase_l0 log k p0_0 kx0_0 n0) (s0_0 + 1) (l0_1 ++ [x6]))))) else (gd (ok64 (s0_0 + 1)) ((m_impl_LogCase_l0 log k p0_0 kx0_0 n0) (s0_0 + 1) l0_1))) else (gd (ok64 (s0_0 + 1)) ((m_impl_LogCase_l0 log k p0_0 kx0_0 n0) (s0_0 + 1) l0_1))))) else (kx0_0 l0_1)
def m_impl_LogCase (log : List GReq) (k : Int) : Option (List GReq) := m_impl_LogCase_l0 log k (log.length : Int) m_impl_LogCase_k1 FUEL 0 ([] : List GReq)
def k_impl_LogCase : Con := ⟨17, [.v (.sl (.s .req)) false, .v .I false], [((.sl (.s .req)), true)], [], fun x => m_impl_LogCase x.1 x.2.1⟩
def f_impl_LogCase : Fs := ⟨[k_impl_in, k_impl_EngReq_clone], []⟩
theorem g_impl_LogCase : f_impl_LogCase.Ok Try.prog := (fsK o_impl_in (fsK o_impl_EngReq_clone fs0))
def t_impl_LogCase_0 : Tmpl := ⟨[(1, .c .i), (5, .c (.ref 500005)), (8, .c (.s (.s .req))), (9, .c .i), (10, .c .i)], [(500005, .arr (.s .req) true)]⟩
def x0_impl_LogCase_0 : Tmpl := ⟨[(5, .c (.ref 500005))], [(500005, .arr (.s .req) true)]⟩
def L_impl_LogCase_0 (av : AV) (x : HP k_impl_LogCase.ps) (n : Nat) (v : t_impl_LogCase_0.den) (K : Ks (CR k_impl_LogCase)) : Option (CR k_impl_LogCase) := m_impl_LogCase_l0 v.1.2.2.1 v.1.1 v.1.2.2.2.1 (fun l0_1 => x0_impl_LogCase_0.at none (((), ()), (l0_1, ())) (K (.exit 0))) n v.1.2.2.2.2.1 v.2.1
def h_impl_LogCase_0 (av : AV) (x : HP k_impl_LogCase.ps) : Hdl (CR k_impl_LogCase) := hnd [.e 5 500005 (.s .req)] t_impl_LogCase_0 (L_impl_LogCase_0 av x)
theorem l_impl_LogCase_0 : LP k_impl_LogCase Try.f17 [0] h_impl_LogCase_0 := lp_ok (W := []) (H := []) (xs := [x0_impl_LogCase_0]) g_impl_LogCase trivial rfl (fun av x v K => by kernel_rfl) (fun av x n v K => by kernel_rfl)
theorem o_impl_LogCase : k_impl_LogCase.Ok Try.prog := fn_ok (k := k_impl_LogCase) (fn := Try.f17) (W := []) (H := [h_impl_LogCase_0]) Try.func17 g_impl_LogCase ⟨l_impl_LogCase_0, trivial⟩ rfl rfl (fun av x => by kernel_rfl)

def m_markIntS_k1 (s0_0 : Int) (l0_2 : List Int) : Option (Int × (List Int)) := some (s0_0, l0_2)
def m_markIntS_l0 (kx0_0 : Int → List Int → Option (Int × (List Int))) : Nat → Int → Int → List Int → Option (Int × (List Int))
  | 0, _, _, _ => none
  | n0 + 1, s0_0, s0_1, l0_2 => if decide (s0_1 < (l0_2.length : Int)) = true then ((getI l0_2 s0_1).bind fun x2 => (gd (ok64 (s0_0 + 1)) (gd (ok64 (s0_1 + 1)) ((m_markIntS_l0 kx0_0 n0) (s0_0 + 1) (s0_1 + 1) (l0_2.set s0_1.toNat s0_0))))) else (kx0_0 s0_0 l0_2)
def m_markIntS (a : List Int) (k : Int) : Option (Int × (List Int)) := m_markIntS_l0 m_markIntS_k1 FUEL k 0 a
def k_markIntS : Con := ⟨29, [.v (.sl .I) true, .v .I false], [(.I, true)], [(0, .v (.sl .I) true)], fun x => m_markIntS x.1 x.2.1⟩
def f_markIntS : Fs := ⟨[], []⟩
theorem g_markIntS : f_markIntS.Ok Try.prog := fs0
def t_markIntS_0 : Tmpl := ⟨[(0, .c (.ref 1000000)), (1, .c .i), (5, .c .i)], [(1000000, .arr .I true)]⟩
def x0_markIntS_0 : Tmpl := ⟨[(1, .c .i)], [(1000000, .arr .I true)]⟩
def L_markIntS_0 (av : AV) (x : HP k_markIntS.ps) (n : Nat) (v : t_markIntS_0.den) (K : Ks (CR k_markIntS)) : Option (CR k_markIntS) := m_markIntS_l0 (fun s0_0 l0_2 => x0_markIntS_0.at none ((s0_0, ()), (l0_2, ())) (K (.exit 0))) n v.1.2.1 v.1.2.2.1 v.2.1
def h_markIntS_0 (av : AV) (x : HP k_markIntS.ps) : Hdl (CR k_markIntS) := hnd [] t_markIntS_0 (L_markIntS_0 av x)
theorem l_markIntS_0 : LP k_markIntS Try.f29 [0] h_markIntS_0 := lp_ok (W := []) (H := []) (xs := [x0_markIntS_0]) g_markIntS trivial rfl (fun av x v K => by kernel_rfl) (fun av x n v K => by kernel_rfl)
theorem o_markIntS : k_markIntS.Ok Try.prog := fn_ok (k := k_markIntS) (fn := Try.f29) (W := []) (H := [h_markIntS_0]) Try.func29 g_markIntS ⟨l_markIntS_0, trivial⟩ rfl rfl (fun av x => by kernel_rfl)

def m_heldIntS_k1 (s0_0 : Int) : Option Int := some s0_0
def m_heldIntS_l0 (a : List Int) (kx0_0 : Int → Option Int) : Nat → Int → Int → Option Int
  | 0, _, _ => none
  | n0 + 1, s0_0, s0_1 => if decide (s0_1 < (a.length : Int)) = true then ((getI a s0_1).bind fun x2 => (if decide (x2 = s0_0) = true then (gd (ok64 (s0_0 + 1)) (gd (ok64 (s0_1 + 1)) ((m_heldIntS_l0 a kx0_0 n0) (s0_0 + 1) (s0_1 + 1)))) else (some (-1)))) else (kx0_0 s0_0)
def m_heldIntS (a : List Int) (k : Int) : Option Int := m_heldIntS_l0 a m_heldIntS_k1 FUEL k 0
def k_heldIntS : Con := ⟨30, [.v (.sl .I) false, .v .I false], [(.I, true)], [], fun x => m_heldIntS x.1 x.2.1⟩
def f_heldIntS : Fs := ⟨[], []⟩
theorem g_heldIntS : f_heldIntS.Ok Try.prog := fs0
def t_heldIntS_0 : Tmpl := ⟨[(0, .c (.s .I)), (1, .c .i), (5, .c .i)], []⟩
def x0_heldIntS_0 : Tmpl := ⟨[(1, .c .i)], []⟩
def L_heldIntS_0 (av : AV) (x : HP k_heldIntS.ps) (n : Nat) (v : t_heldIntS_0.den) (K : Ks (CR k_heldIntS)) : Option (CR k_heldIntS) := m_heldIntS_l0 v.1.1 (fun s0_0 => x0_heldIntS_0.at none ((s0_0, ()), ()) (K (.exit 0))) n v.1.2.1 v.1.2.2.1
def h_heldIntS_0 (av : AV) (x : HP k_heldIntS.ps) : Hdl (CR k_heldIntS) := hnd [] t_heldIntS_0 (L_heldIntS_0 av x)
theorem l_heldIntS_0 : LP k_heldIntS Try.f30 [0] h_heldIntS_0 := lp_ok (W := []) (H := []) (xs := [x0_heldIntS_0]) g_heldIntS trivial rfl (fun av x v K => by kernel_rfl) (fun av x n v K => by kernel_rfl)
theorem o_heldIntS : k_heldIntS.Ok Try.prog := fn_ok (k := k_heldIntS) (fn := Try.f30) (W := []) (H := [h_heldIntS_0]) Try.func30 g_heldIntS ⟨l_heldIntS_0, trivial⟩ rfl rfl (fun av x => by kernel_rfl)

def m_markNetFlowS_k1 (s0_0 : Int) (l0_2 : List GFlow) : Option (Int × (List GFlow)) := some (s0_0, l0_2)
def m_markNetFlowS_l0 (kx0_0 : Int → List GFlow → Option (Int × (List GFlow))) : Nat → Int → Int → List GFlow → Option (Int × (List GFlow))
  | 0, _, _, _ => none
  | n0 + 1, s0_0, s0_1, l0_2 => if decide (s0_1 < (l0_2.length : Int)) = true then ((getI l0_2 s0_1).bind fun x2 => (gd (ok64 (s0_0 + 1)) ((getI (l0_2.set s0_1.toNat (GFlow.mk s0_0 x2.if_)) s0_1).bind fun x4 => (gd (ok64 ((s0_0 + 1) + 1)) ((getI ((l0_2.set s0_1.toNat (GFlow.mk s0_0 x2.if_)).set s0_1.toNat (GFlow.mk x4.to (GAsk.mk (s0_0 + 1) x4.if_.var x4.if_.k))) s0_1).bind fun x6 => (gd (ok64 (((s0_0 + 1) + 1) + 1)) ((getI (((l0_2.set s0_1.toNat (GFlow.mk s0_0 x2.if_)).set s0_1.toNat (GFlow.mk x4.to (GAsk.mk (s0_0 + 1) x4.if_.var x4.if_.k))).set s0_1.toNat (GFlow.mk x6.to (GAsk.mk x6.if_.op ((s0_0 + 1) + 1) x6.if_.k))) s0_1).bind fun x8 => (gd (ok64 ((((s0_0 + 1) + 1) + 1) + 1)) (gd (ok64 (s0_1 + 1)) ((m_markNetFlowS_l0 kx0_0 n0) ((((s0_0 + 1) + 1) + 1) + 1) (s0_1 + 1) ((((l0_2.set s0_1.toNat (GFlow.mk s0_0 x2.if_)).set s0_1.toNat (GFlow.mk x4.to (GAsk.mk (s0_0 + 1) x4.if_.var x4.if_.k))).set s0_1.toNat (GFlow.mk x6.to (GAsk.mk x6.if_.op ((s0_0 + 1) + 1) x6.if_.k))).set s0_1.toNat (GFlow.mk x8.to (GAsk.mk x8.if_.op x8.if_.var (((s0_0 + 1) + 1) + 1)))))))))))))) else (kx0_0 s0_0 l0_2)
def m_markNetFlowS (a : List GFlow) (k : Int) : Option (Int × (List GFlow)) := m_markNetFlowS_l0 m_markNetFlowS_k1 FUEL k 0 a

def m_heldNetFlowS_k1 (s0_0 : Int) : Option Int := some s0_0
def m_heldNetFlowS_l0 (a : List GFlow) (kx0_0 : Int → Option Int) : Nat → Int → Int → Option Int
  | 0, _, _ => none
  | n0 + 1, s0_0, s0_1 => if decide (s0_1 < (a.length : Int)) = true then ((getI a s0_1).bind fun x2 => (if decide (x2.to = s0_0) = true then (gd (ok64 (s0_0 + 1)) ((getI a s0_1).bind fun x5 => (if decide (x5.if_.op = (s0_0 + 1)) = true then (gd (ok64 ((s0_0 + 1) + 1)) ((getI a s0_1).bind fun x8 => (if decide (x8.if_.var = ((s0_0 + 1) + 1)) = true then (gd (ok64 (((s0_0 + 1) + 1) + 1)) ((getI a s0_1).bind fun x11 => (if decide (x11.if_.k = (((s0_0 + 1) + 1) + 1)) = true then (gd (ok64 ((((s0_0 + 1) + 1) + 1) + 1)) (gd (ok64 (s0_1 + 1)) ((m_heldNetFlowS_l0 a kx0_0 n0) ((((s0_0 + 1) + 1) + 1) + 1) (s0_1 + 1)))) else (some (-1))))) else (some (-1))))) else (some (-1))))) else (some (-1)))) else (kx0_0 s0_0)
def m_heldNetFlowS (a : List GFlow) (k : Int) : Option Int := m_heldNetFlowS_l0 a m_heldNetFlowS_k1 FUEL k 0

def m_markNetTaskS_k1 (s0_0 : Int) (l0_2 : List GTask) : Option (Int × (List GTask)) := some (s0_0, l0_2)
def m_markNetTaskS_l0 (kx0_0 : Int → List GTask → Option (Int × (List GTask))) : Nat → Int → Int → List GTask → Option (Int × (List GTask))
  | 0, _, _, _ => none
  | n0 + 1, s0_0, s0_1, l0_2 => if decide (s0_1 < (l0_2.length : Int)) = true then ((getI l0_2 s0_1).bind fun x2 => (gd (ok64 (s0_0 + 1)) ((getI (l0_2.set s0_1.toNat (GTask.mk s0_0 x2.split x2.in_ x2.out x2.clear x2.role x2.apart x2.all x2.need)) s0_1).bind fun x4 => (gd (ok64 ((s0_0 + 1) + 1)) ((getI ((l0_2.set s0_1.toNat (GTask.mk s0_0 x2.split x2.in_ x2.out x2.clear x2.role x2.apart x2.all x2.need)).set s0_1.toNat (GTask.mk x4.join (s0_0 + 1) x4.in_ x4.out x4.clear x4.role x4.apart x4.all x4.need)) s0_1).bind fun x6 => ((m_markIntS x6.in_ ((s0_0 + 1) + 1)).bind fun x7 => ((getI (((l0_2.set s0_1.toNat (GTask.mk s0_0 x2.split x2.in_ x2.out x2.clear x2.role x2.apart x2.all x2.need)).set s0_1.toNat (GTask.mk x4.join (s0_0 + 1) x4.in_ x4.out x4.clear x4.role x4.apart x4.all x4.need)).set s0_1.toNat (GTask.mk x6.join x6.split x7.2 x6.out x6.clear x6.role x6.apart x6.all x6.need)) s0_1).bind fun x8 => ((m_markNetFlowS x8.out x7.1).bind fun x9 => ((getI ((((l0_2.set s0_1.toNat (GTask.mk s0_0 x2.split x2.in_ x2.out x2.clear x2.role x2.apart x2.all x2.need)).set s0_1.toNat (GTask.mk x4.join (s0_0 + 1) x4.in_ x4.out x4.clear x4.role x4.apart x4.all x4.need)).set s0_1.toNat (GTask.mk x6.join x6.split x7.2 x6.out x6.clear x6.role x6.apart x6.all x6.need)).set s0_1.toNat (GTask.mk x8.join x8.split x8.in_ x9.2 x8.clear x8.role x8.apart x8.all x8.need)) s0_1).bind fun x10 => ((m_markIntS x10.clear x9.1).bind fun x11 => ((getI (((((l0_2.set s0_1.toNat (GTask.mk s0_0 x2.split x2.in_ x2.out x2.clear x2.role x2.apart x2.all x2.need)).set s0_1.toNat (GTask.mk x4.join (s0_0 + 1) x4.in_ x4.out x4.clear x4.role x4.apart x4.all x4.need)).set s0_1.toNat (GTask.mk x6.join x6.split x7.2 x6.out x6.clear x6.role x6.apart x6.all x6.need)).set s0_1.toNat (GTask.mk x8.join x8.split x8.in_ x9.2 x8.clear x8.role x8.apart x8.all x8.need)).set s0_1.toNat (GTask.mk x10.join x10.split x10.in_ x10.out x11.2 x10.role x10.apart x10.all x10.need)) s0_1).bind fun x12 => (gd (ok64 (x11.1 + 1)) ((getI ((((((l0_2.set s0_1.toNat (GTask.mk s0_0 x2.split x2.in_ x2.out x2.clear x2.role x2.apart x2.all x2.need)).set s0_1.toNat (GTask.mk x4.join (s0_0 + 1) x4.in_ x4.out x4.clear x4.role x4.apart x4.all x4.need)).set s0_1.toNat (GTask.mk x6.join x6.split x7.2 x6.out x6.clear x6.role x6.apart x6.all x6.need)).set s0_1.toNat (GTask.mk x8.join x8.split x8.in_ x9.2 x8.clear x8.role x8.apart x8.all x8.need)).set s0_1.toNat (GTask.mk x10.join x10.split x10.in_ x10.out x11.2 x10.role x10.apart x10.all x10.need)).set s0_1.toNat (GTask.mk x12.join x12.split x12.in_ x12.out x12.clear x11.1 x12.apart x12.all x12.need)) s0_1).bind fun x14 => (gd (ok64 ((x11.1 + 1) + 1)) ((getI (((((((l0_2.set s0_1.toNat (GTask.mk s0_0 x2.split x2.in_ x2.out x2.clear x2.role x2.apart x2.all x2.need)).set s0_1.toNat (GTask.mk x4.join (s0_0 + 1) x4.in_ x4.out x4.clear x4.role x4.apart x4.all x4.need)).set s0_1.toNat (GTask.mk x6.join x6.split x7.2 x6.out x6.clear x6.role x6.apart x6.all x6.need)).set s0_1.toNat (GTask.mk x8.join x8.split x8.in_ x9.2 x8.clear x8.role x8.apart x8.all x8.need)).set s0_1.toNat (GTask.mk x10.join x10.split x10.in_ x10.out x11.2 x10.role x10.apart x10.all x10.need)).set s0_1.toNat (GTask.mk x12.join x12.split x12.in_ x12.out x12.clear x11.1 x12.apart x12.all x12.need)).set s0_1.toNat (GTask.mk x14.join x14.split x14.in_ x14.out x14.clear x14.role (x11.1 + 1) x14.all x14.need)) s0_1).bind fun x16 => (gd (ok64 (((x11.1 + 1) + 1) + 1)) ((getI ((((((((l0_2.set s0_1.toNat (GTask.mk s0_0 x2.split x2.in_ x2.out x2.clear x2.role x2.apart x2.all x2.need)).set s0_1.toNat (GTask.mk x4.join (s0_0 + 1) x4.in_ x4.out x4.clear x4.role x4.apart x4.all x4.need)).set s0_1.toNat (GTask.mk x6.join x6.split x7.2 x6.out x6.clear x6.role x6.apart x6.all x6.need)).set s0_1.toNat (GTask.mk x8.join x8.split x8.in_ x9.2 x8.clear x8.role x8.apart x8.all x8.need)).set s0_1.toNat (GTask.mk x10.join x10.split x10.in_ x10.out x11.2 x10.role x10.apart x10.all x10.need)).set s0_1.toNat (GTask.mk x12.join x12.split x12.in_ x12.out x12.clear x11.1 x12.apart x12.all x12.need)).set s0_1.toNat (GTask.mk x14.join x14.split x14.in_ x14.out x14.clear x14.role (x11.1 + 1) x14.all x14.need)).set s0_1.toNat (GTask.mk x16.join x16.split x16.in_ x16.out x16.clear x16.role x16.apart ((x11.1 + 1) + 1) x16.need)) s0_1).bind fun x18 => (gd (ok64 ((((x11.1 + 1) + 1) + 1) + 1)) (gd (ok64 (s0_1 + 1)) ((m_markNetTaskS_l0 kx0_0 n0) ((((x11.1 + 1) + 1) + 1) + 1) (s0_1 + 1) (((((((((l0_2.set s0_1.toNat (GTask.mk s0_0 x2.split x2.in_ x2.out x2.clear x2.role x2.apart x2.all x2.need)).set s0_1.toNat (GTask.mk x4.join (s0_0 + 1) x4.in_ x4.out x4.clear x4.role x4.apart x4.all x4.need)).set s0_1.toNat (GTask.mk x6.join x6.split x7.2 x6.out x6.clear x6.role x6.apart x6.all x6.need)).set s0_1.toNat (GTask.mk x8.join x8.split x8.in_ x9.2 x8.clear x8.role x8.apart x8.all x8.need)).set s0_1.toNat (GTask.mk x10.join x10.split x10.in_ x10.out x11.2 x10.role x10.apart x10.all x10.need)).set s0_1.toNat (GTask.mk x12.join x12.split x12.in_ x12.out x12.clear x11.1 x12.apart x12.all x12.need)).set s0_1.toNat (GTask.mk x14.join x14.split x14.in_ x14.out x14.clear x14.role (x11.1 + 1) x14.all x14.need)).set s0_1.toNat (GTask.mk x16.join x16.split x16.in_ x16.out x16.clear x16.role x16.apart ((x11.1 + 1) + 1) x16.need)).set s0_1.toNat (GTask.mk x18.join x18.split x18.in_ x18.out x18.clear x18.role x18.apart x18.all (((x11.1 + 1) + 1) + 1))))))))))))))))))))))) else (kx0_0 s0_0 l0_2)
def m_markNetTaskS (a : List GTask) (k : Int) : Option (Int × (List GTask)) := m_markNetTaskS_l0 m_markNetTaskS_k1 FUEL k 0 a

def m_heldNetTaskS_k1 (s0_0 : Int) : Option Int := some s0_0
def m_heldNetTaskS_l0 (a : List GTask) (kx0_0 : Int → Option Int) : Nat → Int → Int → Option Int
  | 0, _, _ => none
  | n0 + 1, s0_0, s0_1 => if decide (s0_1 < (a.length : Int)) = true then ((getI a s0_1).bind fun x2 => (if decide (x2.join = s0_0) = true then (gd (ok64 (s0_0 + 1)) ((getI a s0_1).bind fun x5 => (if decide (x5.split = (s0_0 + 1)) = true then (gd (ok64 ((s0_0 + 1) + 1)) ((getI a s0_1).bind fun x8 => ((m_heldIntS x8.in_ ((s0_0 + 1) + 1)).bind fun x9 => (if decide (x9 < 0) = true then (some (-1)) else ((getI a s0_1).bind fun x11 => ((m_heldNetFlowS x11.out x9).bind fun x12 => (if decide (x12 < 0) = true then (some (-1)) else ((getI a s0_1).bind fun x14 => ((m_heldIntS x14.clear x12).bind fun x15 => (if decide (x15 < 0) = true then (some (-1)) else ((getI a s0_1).bind fun x17 => (if decide (x17.role = x15) = true then (gd (ok64 (x15 + 1)) ((getI a s0_1).bind fun x20 => (if decide (x20.apart = (x15 + 1)) = true then (gd (ok64 ((x15 + 1) + 1)) ((getI a s0_1).bind fun x23 => (if decide (x23.all = ((x15 + 1) + 1)) = true then (gd (ok64 (((x15 + 1) + 1) + 1)) ((getI a s0_1).bind fun x26 => (if decide (x26.need = (((x15 + 1) + 1) + 1)) = true then (gd (ok64 ((((x15 + 1) + 1) + 1) + 1)) (gd (ok64 (s0_1 + 1)) ((m_heldNetTaskS_l0 a kx0_0 n0) ((((x15 + 1) + 1) + 1) + 1) (s0_1 + 1)))) else (some (-1))))) else (some (-1))))) else (some (-1))))) else (some (-1)))))))))))))) else (some (-1))))) else (some (-1)))) else (kx0_0 s0_0)
def m_heldNetTaskS (a : List GTask) (k : Int) : Option Int := m_heldNetTaskS_l0 a m_heldNetTaskS_k1 FUEL k 0

def m_markNetNetS_k1 (s0_0 : Int) (l0_2 : List GNet) : Option (Int × (List GNet)) := some (s0_0, l0_2)
def m_markNetNetS_l0 (kx0_0 : Int → List GNet → Option (Int × (List GNet))) : Nat → Int → Int → List GNet → Option (Int × (List GNet))
  | 0, _, _, _ => none
  | n0 + 1, s0_0, s0_1, l0_2 => if decide (s0_1 < (l0_2.length : Int)) = true then ((getI l0_2 s0_1).bind fun x2 => (gd (ok64 (s0_0 + 1)) ((getI (l0_2.set s0_1.toNat (GNet.mk s0_0 x2.tasks)) s0_1).bind fun x4 => ((m_markNetTaskS x4.tasks (s0_0 + 1)).bind fun x5 => (gd (ok64 (s0_1 + 1)) ((m_markNetNetS_l0 kx0_0 n0) x5.1 (s0_1 + 1) ((l0_2.set s0_1.toNat (GNet.mk s0_0 x2.tasks)).set s0_1.toNat (GNet.mk x4.places x5.2)))))))) else (kx0_0 s0_0 l0_2)
def m_markNetNetS (a : List GNet) (k : Int) : Option (Int × (List GNet)) := m_markNetNetS_l0 m_markNetNetS_k1 FUEL k 0 a

def m_heldNetNetS_k1 (s0_0 : Int) : Option Int := some s0_0
def m_heldNetNetS_l0 (a : List GNet) (kx0_0 : Int → Option Int) : Nat → Int → Int → Option Int
  | 0, _, _ => none
  | n0 + 1, s0_0, s0_1 => if decide (s0_1 < (a.length : Int)) = true then ((getI a s0_1).bind fun x2 => (if decide (x2.places = s0_0) = true then (gd (ok64 (s0_0 + 1)) ((getI a s0_1).bind fun x5 => ((m_heldNetTaskS x5.tasks (s0_0 + 1)).bind fun x6 => (if decide (x6 < 0) = true then (some (-1)) else (gd (ok64 (s0_1 + 1)) ((m_heldNetNetS_l0 a kx0_0 n0) x6 (s0_1 + 1))))))) else (some (-1)))) else (kx0_0 s0_0)
def m_heldNetNetS (a : List GNet) (k : Int) : Option Int := m_heldNetNetS_l0 a m_heldNetNetS_k1 FUEL k 0

def m_markRdrNodeS_k1 (s0_0 : Int) (l0_2 : List GNode) : Option (Int × (List GNode)) := some (s0_0, l0_2)
def m_markRdrNodeS_l0 (kx0_0 : Int → List GNode → Option (Int × (List GNode))) : Nat → Int → Int → List GNode → Option (Int × (List GNode))
  | 0, _, _, _ => none
  | n0 + 1, s0_0, s0_1, l0_2 => if decide (s0_1 < (l0_2.length : Int)) = true then ((getI l0_2 s0_1).bind fun x2 => (gd (ok64 (s0_0 + 1)) ((getI (l0_2.set s0_1.toNat (GNode.mk (GAsk.mk s0_0 x2.if_.var x2.if_.k) x2.yes x2.no x2.ans x2.stone)) s0_1).bind fun x4 => (gd (ok64 ((s0_0 + 1) + 1)) ((getI ((l0_2.set s0_1.toNat (GNode.mk (GAsk.mk s0_0 x2.if_.var x2.if_.k) x2.yes x2.no x2.ans x2.stone)).set s0_1.toNat (GNode.mk (GAsk.mk x4.if_.op (s0_0 + 1) x4.if_.k) x4.yes x4.no x4.ans x4.stone)) s0_1).bind fun x6 => (gd (ok64 (((s0_0 + 1) + 1) + 1)) ((getI (((l0_2.set s0_1.toNat (GNode.mk (GAsk.mk s0_0 x2.if_.var x2.if_.k) x2.yes x2.no x2.ans x2.stone)).set s0_1.toNat (GNode.mk (GAsk.mk x4.if_.op (s0_0 + 1) x4.if_.k) x4.yes x4.no x4.ans x4.stone)).set s0_1.toNat (GNode.mk (GAsk.mk x6.if_.op x6.if_.var ((s0_0 + 1) + 1)) x6.yes x6.no x6.ans x6.stone)) s0_1).bind fun x8 => (gd (ok64 ((((s0_0 + 1) + 1) + 1) + 1)) ((getI ((((l0_2.set s0_1.toNat (GNode.mk (GAsk.mk s0_0 x2.if_.var x2.if_.k) x2.yes x2.no x2.ans x2.stone)).set s0_1.toNat (GNode.mk (GAsk.mk x4.if_.op (s0_0 + 1) x4.if_.k) x4.yes x4.no x4.ans x4.stone)).set s0_1.toNat (GNode.mk (GAsk.mk x6.if_.op x6.if_.var ((s0_0 + 1) + 1)) x6.yes x6.no x6.ans x6.stone)).set s0_1.toNat (GNode.mk x8.if_ (((s0_0 + 1) + 1) + 1) x8.no x8.ans x8.stone)) s0_1).bind fun x10 => (gd (ok64 (((((s0_0 + 1) + 1) + 1) + 1) + 1)) ((getI (((((l0_2.set s0_1.toNat (GNode.mk (GAsk.mk s0_0 x2.if_.var x2.if_.k) x2.yes x2.no x2.ans x2.stone)).set s0_1.toNat (GNode.mk (GAsk.mk x4.if_.op (s0_0 + 1) x4.if_.k) x4.yes x4.no x4.ans x4.stone)).set s0_1.toNat (GNode.mk (GAsk.mk x6.if_.op x6.if_.var ((s0_0 + 1) + 1)) x6.yes x6.no x6.ans x6.stone)).set s0_1.toNat (GNode.mk x8.if_ (((s0_0 + 1) + 1) + 1) x8.no x8.ans x8.stone)).set s0_1.toNat (GNode.mk x10.if_ x10.yes ((((s0_0 + 1) + 1) + 1) + 1) x10.ans x10.stone)) s0_1).bind fun x12 => (gd (ok64 ((((((s0_0 + 1) + 1) + 1) + 1) + 1) + 1)) ((getI ((((((l0_2.set s0_1.toNat (GNode.mk (GAsk.mk s0_0 x2.if_.var x2.if_.k) x2.yes x2.no x2.ans x2.stone)).set s0_1.toNat (GNode.mk (GAsk.mk x4.if_.op (s0_0 + 1) x4.if_.k) x4.yes x4.no x4.ans x4.stone)).set s0_1.toNat (GNode.mk (GAsk.mk x6.if_.op x6.if_.var ((s0_0 + 1) + 1)) x6.yes x6.no x6.ans x6.stone)).set s0_1.toNat (GNode.mk x8.if_ (((s0_0 + 1) + 1) + 1) x8.no x8.ans x8.stone)).set s0_1.toNat (GNode.mk x10.if_ x10.yes ((((s0_0 + 1) + 1) + 1) + 1) x10.ans x10.stone)).set s0_1.toNat (GNode.mk x12.if_ x12.yes x12.no (((((s0_0 + 1) + 1) + 1) + 1) + 1) x12.stone)) s0_1).bind fun x14 => ((m_markIntS x14.stone ((((((s0_0 + 1) + 1) + 1) + 1) + 1) + 1)).bind fun x15 => (gd (ok64 (s0_1 + 1)) ((m_markRdrNodeS_l0 kx0_0 n0) x15.1 (s0_1 + 1) (((((((l0_2.set s0_1.toNat (GNode.mk (GAsk.mk s0_0 x2.if_.var x2.if_.k) x2.yes x2.no x2.ans x2.stone)).set s0_1.toNat (GNode.mk (GAsk.mk x4.if_.op (s0_0 + 1) x4.if_.k) x4.yes x4.no x4.ans x4.stone)).set s0_1.toNat (GNode.mk (GAsk.mk x6.if_.op x6.if_.var ((s0_0 + 1) + 1)) x6.yes x6.no x6.ans x6.stone)).set s0_1.toNat (GNode.mk x8.if_ (((s0_0 + 1) + 1) + 1) x8.no x8.ans x8.stone)).set s0_1.toNat (GNode.mk x10.if_ x10.yes ((((s0_0 + 1) + 1) + 1) + 1) x10.ans x10.stone)).set s0_1.toNat (GNode.mk x12.if_ x12.yes x12.no (((((s0_0 + 1) + 1) + 1) + 1) + 1) x12.stone)).set s0_1.toNat (GNode.mk x14.if_ x14.yes x14.no x14.ans x15.2)))))))))))))))))) else (kx0_0 s0_0 l0_2)
def m_markRdrNodeS (a : List GNode) (k : Int) : Option (Int × (List GNode)) := m_markRdrNodeS_l0 m_markRdrNodeS_k1 FUEL k 0 a

def m_heldRdrNodeS_k1 (s0_0 : Int) : Option Int := some s0_0
def m_heldRdrNodeS_l0 (a : List GNode) (kx0_0 : Int → Option Int) : Nat → Int → Int → Option Int
  | 0, _, _ => none
  | n0 + 1, s0_0, s0_1 => if decide (s0_1 < (a.length : Int)) = true then ((getI a s0_1).bind fun x2 => (if decide (x2.if_.op = s0_0) = true then (gd (ok64 (s0_0 + 1)) ((getI a s0_1).bind fun x5 => (if decide (x5.if_.var = (s0_0 + 1)) = true then (gd (ok64 ((s0_0 + 1) + 1)) ((getI a s0_1).bind fun x8 => (if decide (x8.if_.k = ((s0_0 + 1) + 1)) = true then (gd (ok64 (((s0_0 + 1) + 1) + 1)) ((getI a s0_1).bind fun x11 => (if decide (x11.yes = (((s0_0 + 1) + 1) + 1)) = true then (gd (ok64 ((((s0_0 + 1) + 1) + 1) + 1)) ((getI a s0_1).bind fun x14 => (if decide (x14.no = ((((s0_0 + 1) + 1) + 1) + 1)) = true then (gd (ok64 (((((s0_0 + 1) + 1) + 1) + 1) + 1)) ((getI a s0_1).bind fun x17 => (if decide (x17.ans = (((((s0_0 + 1) + 1) + 1) + 1) + 1)) = true then (gd (ok64 ((((((s0_0 + 1) + 1) + 1) + 1) + 1) + 1)) ((getI a s0_1).bind fun x20 => ((m_heldIntS x20.stone ((((((s0_0 + 1) + 1) + 1) + 1) + 1) + 1)).bind fun x21 => (if decide (x21 < 0) = true then (some (-1)) else (gd (ok64 (s0_1 + 1)) ((m_heldRdrNodeS_l0 a kx0_0 n0) x21 (s0_1 + 1))))))) else (some (-1))))) else (some (-1))))) else (some (-1))))) else (some (-1))))) else (some (-1))))) else (some (-1)))) else (kx0_0 s0_0)
def m_heldRdrNodeS (a : List GNode) (k : Int) : Option Int := m_heldRdrNodeS_l0 a m_heldRdrNodeS_k1 FUEL k 0

def m_markCasItemS_k1 (s0_0 : Int) (l0_2 : List GItem) : Option (Int × (List GItem)) := some (s0_0, l0_2)
def m_markCasItemS_l0 (kx0_0 : Int → List GItem → Option (Int × (List GItem))) : Nat → Int → Int → List GItem → Option (Int × (List GItem))
  | 0, _, _, _ => none
  | n0 + 1, s0_0, s0_1, l0_2 => if decide (s0_1 < (l0_2.length : Int)) = true then ((getI l0_2 s0_1).bind fun x2 => (gd (ok64 (s0_0 + 1)) ((getI (l0_2.set s0_1.toNat (GItem.mk s0_0 x2.who x2.did)) s0_1).bind fun x4 => (gd (ok64 ((s0_0 + 1) + 1)) ((getI ((l0_2.set s0_1.toNat (GItem.mk s0_0 x2.who x2.did)).set s0_1.toNat (GItem.mk x4.task (s0_0 + 1) x4.did)) s0_1).bind fun x6 => (gd (ok64 (((s0_0 + 1) + 1) + 1)) (gd (ok64 (s0_1 + 1)) ((m_markCasItemS_l0 kx0_0 n0) (((s0_0 + 1) + 1) + 1) (s0_1 + 1) (((l0_2.set s0_1.toNat (GItem.mk s0_0 x2.who x2.did)).set s0_1.toNat (GItem.mk x4.task (s0_0 + 1) x4.did)).set s0_1.toNat (GItem.mk x6.task x6.who ((s0_0 + 1) + 1))))))))))) else (kx0_0 s0_0 l0_2)
def m_markCasItemS (a : List GItem) (k : Int) : Option (Int × (List GItem)) := m_markCasItemS_l0 m_markCasItemS_k1 FUEL k 0 a

def m_heldCasItemS_k1 (s0_0 : Int) : Option Int := some s0_0
def m_heldCasItemS_l0 (a : List GItem) (kx0_0 : Int → Option Int) : Nat → Int → Int → Option Int
  | 0, _, _ => none
  | n0 + 1, s0_0, s0_1 => if decide (s0_1 < (a.length : Int)) = true then ((getI a s0_1).bind fun x2 => (if decide (x2.task = s0_0) = true then (gd (ok64 (s0_0 + 1)) ((getI a s0_1).bind fun x5 => (if decide (x5.who = (s0_0 + 1)) = true then (gd (ok64 ((s0_0 + 1) + 1)) ((getI a s0_1).bind fun x8 => (if decide (x8.did = ((s0_0 + 1) + 1)) = true then (gd (ok64 (((s0_0 + 1) + 1) + 1)) (gd (ok64 (s0_1 + 1)) ((m_heldCasItemS_l0 a kx0_0 n0) (((s0_0 + 1) + 1) + 1) (s0_1 + 1)))) else (some (-1))))) else (some (-1))))) else (some (-1)))) else (kx0_0 s0_0)
def m_heldCasItemS (a : List GItem) (k : Int) : Option Int := m_heldCasItemS_l0 a m_heldCasItemS_k1 FUEL k 0

def m_markCasDidS_k1 (s0_0 : Int) (l0_2 : List GDid) : Option (Int × (List GDid)) := some (s0_0, l0_2)
def m_markCasDidS_l0 (kx0_0 : Int → List GDid → Option (Int × (List GDid))) : Nat → Int → Int → List GDid → Option (Int × (List GDid))
  | 0, _, _, _ => none
  | n0 + 1, s0_0, s0_1, l0_2 => if decide (s0_1 < (l0_2.length : Int)) = true then ((getI l0_2 s0_1).bind fun x2 => (gd (ok64 (s0_0 + 1)) ((getI (l0_2.set s0_1.toNat (GDid.mk s0_0 x2.who)) s0_1).bind fun x4 => (gd (ok64 ((s0_0 + 1) + 1)) (gd (ok64 (s0_1 + 1)) ((m_markCasDidS_l0 kx0_0 n0) ((s0_0 + 1) + 1) (s0_1 + 1) ((l0_2.set s0_1.toNat (GDid.mk s0_0 x2.who)).set s0_1.toNat (GDid.mk x4.task (s0_0 + 1))))))))) else (kx0_0 s0_0 l0_2)
def m_markCasDidS (a : List GDid) (k : Int) : Option (Int × (List GDid)) := m_markCasDidS_l0 m_markCasDidS_k1 FUEL k 0 a

def m_heldCasDidS_k1 (s0_0 : Int) : Option Int := some s0_0
def m_heldCasDidS_l0 (a : List GDid) (kx0_0 : Int → Option Int) : Nat → Int → Int → Option Int
  | 0, _, _ => none
  | n0 + 1, s0_0, s0_1 => if decide (s0_1 < (a.length : Int)) = true then ((getI a s0_1).bind fun x2 => (if decide (x2.task = s0_0) = true then (gd (ok64 (s0_0 + 1)) ((getI a s0_1).bind fun x5 => (if decide (x5.who = (s0_0 + 1)) = true then (gd (ok64 ((s0_0 + 1) + 1)) (gd (ok64 (s0_1 + 1)) ((m_heldCasDidS_l0 a kx0_0 n0) ((s0_0 + 1) + 1) (s0_1 + 1)))) else (some (-1))))) else (some (-1)))) else (kx0_0 s0_0)
def m_heldCasDidS (a : List GDid) (k : Int) : Option Int := m_heldCasDidS_l0 a m_heldCasDidS_k1 FUEL k 0

def m_markEngRunS_k1 (s0_0 : Int) (l0_2 : List GRun) : Option (Int × (List GRun)) := some (s0_0, l0_2)
def m_markEngRunS_l0 (kx0_0 : Int → List GRun → Option (Int × (List GRun))) : Nat → Int → Int → List GRun → Option (Int × (List GRun))
  | 0, _, _, _ => none
  | n0 + 1, s0_0, s0_1, l0_2 => if decide (s0_1 < (l0_2.length : Int)) = true then ((getI l0_2 s0_1).bind fun x2 => (gd (ok64 (s0_0 + 1)) ((getI (l0_2.set s0_1.toNat (GRun.mk s0_0 x2.case)) s0_1).bind fun x4 => (gd (ok64 ((s0_0 + 1) + 1)) ((getI ((l0_2.set s0_1.toNat (GRun.mk s0_0 x2.case)).set s0_1.toNat (GRun.mk x4.net (GCase.mk (s0_0 + 1) x4.case.marks x4.case.busy x4.case.data x4.case.did))) s0_1).bind fun x6 => ((m_markIntS x6.case.marks ((s0_0 + 1) + 1)).bind fun x7 => ((getI (((l0_2.set s0_1.toNat (GRun.mk s0_0 x2.case)).set s0_1.toNat (GRun.mk x4.net (GCase.mk (s0_0 + 1) x4.case.marks x4.case.busy x4.case.data x4.case.did))).set s0_1.toNat (GRun.mk x6.net (GCase.mk x6.case.state x7.2 x6.case.busy x6.case.data x6.case.did))) s0_1).bind fun x8 => ((m_markCasItemS x8.case.busy x7.1).bind fun x9 => ((getI ((((l0_2.set s0_1.toNat (GRun.mk s0_0 x2.case)).set s0_1.toNat (GRun.mk x4.net (GCase.mk (s0_0 + 1) x4.case.marks x4.case.busy x4.case.data x4.case.did))).set s0_1.toNat (GRun.mk x6.net (GCase.mk x6.case.state x7.2 x6.case.busy x6.case.data x6.case.did))).set s0_1.toNat (GRun.mk x8.net (GCase.mk x8.case.state x8.case.marks x9.2 x8.case.data x8.case.did))) s0_1).bind fun x10 => ((m_markIntS x10.case.data x9.1).bind fun x11 => ((getI (((((l0_2.set s0_1.toNat (GRun.mk s0_0 x2.case)).set s0_1.toNat (GRun.mk x4.net (GCase.mk (s0_0 + 1) x4.case.marks x4.case.busy x4.case.data x4.case.did))).set s0_1.toNat (GRun.mk x6.net (GCase.mk x6.case.state x7.2 x6.case.busy x6.case.data x6.case.did))).set s0_1.toNat (GRun.mk x8.net (GCase.mk x8.case.state x8.case.marks x9.2 x8.case.data x8.case.did))).set s0_1.toNat (GRun.mk x10.net (GCase.mk x10.case.state x10.case.marks x10.case.busy x11.2 x10.case.did))) s0_1).bind fun x12 => ((m_markCasDidS x12.case.did x11.1).bind fun x13 => (gd (ok64 (s0_1 + 1)) ((m_markEngRunS_l0 kx0_0 n0) x13.1 (s0_1 + 1) ((((((l0_2.set s0_1.toNat (GRun.mk s0_0 x2.case)).set s0_1.toNat (GRun.mk x4.net (GCase.mk (s0_0 + 1) x4.case.marks x4.case.busy x4.case.data x4.case.did))).set s0_1.toNat (GRun.mk x6.net (GCase.mk x6.case.state x7.2 x6.case.busy x6.case.data x6.case.did))).set s0_1.toNat (GRun.mk x8.net (GCase.mk x8.case.state x8.case.marks x9.2 x8.case.data x8.case.did))).set s0_1.toNat (GRun.mk x10.net (GCase.mk x10.case.state x10.case.marks x10.case.busy x11.2 x10.case.did))).set s0_1.toNat (GRun.mk x12.net (GCase.mk x12.case.state x12.case.marks x12.case.busy x12.case.data x13.2))))))))))))))))) else (kx0_0 s0_0 l0_2)
def m_markEngRunS (a : List GRun) (k : Int) : Option (Int × (List GRun)) := m_markEngRunS_l0 m_markEngRunS_k1 FUEL k 0 a

def m_heldEngRunS_k1 (s0_0 : Int) : Option Int := some s0_0
def m_heldEngRunS_l0 (a : List GRun) (kx0_0 : Int → Option Int) : Nat → Int → Int → Option Int
  | 0, _, _ => none
  | n0 + 1, s0_0, s0_1 => if decide (s0_1 < (a.length : Int)) = true then ((getI a s0_1).bind fun x2 => (if decide (x2.net = s0_0) = true then (gd (ok64 (s0_0 + 1)) ((getI a s0_1).bind fun x5 => (if decide (x5.case.state = (s0_0 + 1)) = true then (gd (ok64 ((s0_0 + 1) + 1)) ((getI a s0_1).bind fun x8 => ((m_heldIntS x8.case.marks ((s0_0 + 1) + 1)).bind fun x9 => (if decide (x9 < 0) = true then (some (-1)) else ((getI a s0_1).bind fun x11 => ((m_heldCasItemS x11.case.busy x9).bind fun x12 => (if decide (x12 < 0) = true then (some (-1)) else ((getI a s0_1).bind fun x14 => ((m_heldIntS x14.case.data x12).bind fun x15 => (if decide (x15 < 0) = true then (some (-1)) else ((getI a s0_1).bind fun x17 => ((m_heldCasDidS x17.case.did x15).bind fun x18 => (if decide (x18 < 0) = true then (some (-1)) else (gd (ok64 (s0_1 + 1)) ((m_heldEngRunS_l0 a kx0_0 n0) x18 (s0_1 + 1)))))))))))))))) else (some (-1))))) else (some (-1)))) else (kx0_0 s0_0)
def m_heldEngRunS (a : List GRun) (k : Int) : Option Int := m_heldEngRunS_l0 a m_heldEngRunS_k1 FUEL k 0

def m_markEngReqS_k1 (s0_0 : Int) (l0_2 : List GReq) : Option (Int × (List GReq)) := some (s0_0, l0_2)
def m_markEngReqS_l0 (kx0_0 : Int → List GReq → Option (Int × (List GReq))) : Nat → Int → Int → List GReq → Option (Int × (List GReq))
  | 0, _, _, _ => none
  | n0 + 1, s0_0, s0_1, l0_2 => if decide (s0_1 < (l0_2.length : Int)) = true then ((getI l0_2 s0_1).bind fun x2 => (gd (ok64 (s0_0 + 1)) ((getI (l0_2.set s0_1.toNat (GReq.mk s0_0 x2.who x2.case x2.task x2.var x2.num x2.data x2.if_ x2.ans)) s0_1).bind fun x4 => (gd (ok64 ((s0_0 + 1) + 1)) ((getI ((l0_2.set s0_1.toNat (GReq.mk s0_0 x2.who x2.case x2.task x2.var x2.num x2.data x2.if_ x2.ans)).set s0_1.toNat (GReq.mk x4.kind (s0_0 + 1) x4.case x4.task x4.var x4.num x4.data x4.if_ x4.ans)) s0_1).bind fun x6 => (gd (ok64 (((s0_0 + 1) + 1) + 1)) ((getI (((l0_2.set s0_1.toNat (GReq.mk s0_0 x2.who x2.case x2.task x2.var x2.num x2.data x2.if_ x2.ans)).set s0_1.toNat (GReq.mk x4.kind (s0_0 + 1) x4.case x4.task x4.var x4.num x4.data x4.if_ x4.ans)).set s0_1.toNat (GReq.mk x6.kind x6.who ((s0_0 + 1) + 1) x6.task x6.var x6.num x6.data x6.if_ x6.ans)) s0_1).bind fun x8 => (gd (ok64 ((((s0_0 + 1) + 1) + 1) + 1)) ((getI ((((l0_2.set s0_1.toNat (GReq.mk s0_0 x2.who x2.case x2.task x2.var x2.num x2.data x2.if_ x2.ans)).set s0_1.toNat (GReq.mk x4.kind (s0_0 + 1) x4.case x4.task x4.var x4.num x4.data x4.if_ x4.ans)).set s0_1.toNat (GReq.mk x6.kind x6.who ((s0_0 + 1) + 1) x6.task x6.var x6.num x6.data x6.if_ x6.ans)).set s0_1.toNat (GReq.mk x8.kind x8.who x8.case (((s0_0 + 1) + 1) + 1) x8.var x8.num x8.data x8.if_ x8.ans)) s0_1).bind fun x10 => (gd (ok64 (((((s0_0 + 1) + 1) + 1) + 1) + 1)) ((getI (((((l0_2.set s0_1.toNat (GReq.mk s0_0 x2.who x2.case x2.task x2.var x2.num x2.data x2.if_ x2.ans)).set s0_1.toNat (GReq.mk x4.kind (s0_0 + 1) x4.case x4.task x4.var x4.num x4.data x4.if_ x4.ans)).set s0_1.toNat (GReq.mk x6.kind x6.who ((s0_0 + 1) + 1) x6.task x6.var x6.num x6.data x6.if_ x6.ans)).set s0_1.toNat (GReq.mk x8.kind x8.who x8.case (((s0_0 + 1) + 1) + 1) x8.var x8.num x8.data x8.if_ x8.ans)).set s0_1.toNat (GReq.mk x10.kind x10.who x10.case x10.task ((((s0_0 + 1) + 1) + 1) + 1) x10.num x10.data x10.if_ x10.ans)) s0_1).bind fun x12 => (gd (ok64 ((((((s0_0 + 1) + 1) + 1) + 1) + 1) + 1)) ((getI ((((((l0_2.set s0_1.toNat (GReq.mk s0_0 x2.who x2.case x2.task x2.var x2.num x2.data x2.if_ x2.ans)).set s0_1.toNat (GReq.mk x4.kind (s0_0 + 1) x4.case x4.task x4.var x4.num x4.data x4.if_ x4.ans)).set s0_1.toNat (GReq.mk x6.kind x6.who ((s0_0 + 1) + 1) x6.task x6.var x6.num x6.data x6.if_ x6.ans)).set s0_1.toNat (GReq.mk x8.kind x8.who x8.case (((s0_0 + 1) + 1) + 1) x8.var x8.num x8.data x8.if_ x8.ans)).set s0_1.toNat (GReq.mk x10.kind x10.who x10.case x10.task ((((s0_0 + 1) + 1) + 1) + 1) x10.num x10.data x10.if_ x10.ans)).set s0_1.toNat (GReq.mk x12.kind x12.who x12.case x12.task x12.var (((((s0_0 + 1) + 1) + 1) + 1) + 1) x12.data x12.if_ x12.ans)) s0_1).bind fun x14 => ((m_markIntS x14.data ((((((s0_0 + 1) + 1) + 1) + 1) + 1) + 1)).bind fun x15 => ((getI (((((((l0_2.set s0_1.toNat (GReq.mk s0_0 x2.who x2.case x2.task x2.var x2.num x2.data x2.if_ x2.ans)).set s0_1.toNat (GReq.mk x4.kind (s0_0 + 1) x4.case x4.task x4.var x4.num x4.data x4.if_ x4.ans)).set s0_1.toNat (GReq.mk x6.kind x6.who ((s0_0 + 1) + 1) x6.task x6.var x6.num x6.data x6.if_ x6.ans)).set s0_1.toNat (GReq.mk x8.kind x8.who x8.case (((s0_0 + 1) + 1) + 1) x8.var x8.num x8.data x8.if_ x8.ans)).set s0_1.toNat (GReq.mk x10.kind x10.who x10.case x10.task ((((s0_0 + 1) + 1) + 1) + 1) x10.num x10.data x10.if_ x10.ans)).set s0_1.toNat (GReq.mk x12.kind x12.who x12.case x12.task x12.var (((((s0_0 + 1) + 1) + 1) + 1) + 1) x12.data x12.if_ x12.ans)).set s0_1.toNat (GReq.mk x14.kind x14.who x14.case x14.task x14.var x14.num x15.2 x14.if_ x14.ans)) s0_1).bind fun x16 => (gd (ok64 (x15.1 + 1)) ((getI ((((((((l0_2.set s0_1.toNat (GReq.mk s0_0 x2.who x2.case x2.task x2.var x2.num x2.data x2.if_ x2.ans)).set s0_1.toNat (GReq.mk x4.kind (s0_0 + 1) x4.case x4.task x4.var x4.num x4.data x4.if_ x4.ans)).set s0_1.toNat (GReq.mk x6.kind x6.who ((s0_0 + 1) + 1) x6.task x6.var x6.num x6.data x6.if_ x6.ans)).set s0_1.toNat (GReq.mk x8.kind x8.who x8.case (((s0_0 + 1) + 1) + 1) x8.var x8.num x8.data x8.if_ x8.ans)).set s0_1.toNat (GReq.mk x10.kind x10.who x10.case x10.task ((((s0_0 + 1) + 1) + 1) + 1) x10.num x10.data x10.if_ x10.ans)).set s0_1.toNat (GReq.mk x12.kind x12.who x12.case x12.task x12.var (((((s0_0 + 1) + 1) + 1) + 1) + 1) x12.data x12.if_ x12.ans)).set s0_1.toNat (GReq.mk x14.kind x14.who x14.case x14.task x14.var x14.num x15.2 x14.if_ x14.ans)).set s0_1.toNat (GReq.mk x16.kind x16.who x16.case x16.task x16.var x16.num x16.data (GAsk.mk x15.1 x16.if_.var x16.if_.k) x16.ans)) s0_1).bind fun x18 => (gd (ok64 ((x15.1 + 1) + 1)) ((getI (((((((((l0_2.set s0_1.toNat (GReq.mk s0_0 x2.who x2.case x2.task x2.var x2.num x2.data x2.if_ x2.ans)).set s0_1.toNat (GReq.mk x4.kind (s0_0 + 1) x4.case x4.task x4.var x4.num x4.data x4.if_ x4.ans)).set s0_1.toNat (GReq.mk x6.kind x6.who ((s0_0 + 1) + 1) x6.task x6.var x6.num x6.data x6.if_ x6.ans)).set s0_1.toNat (GReq.mk x8.kind x8.who x8.case (((s0_0 + 1) + 1) + 1) x8.var x8.num x8.data x8.if_ x8.ans)).set s0_1.toNat (GReq.mk x10.kind x10.who x10.case x10.task ((((s0_0 + 1) + 1) + 1) + 1) x10.num x10.data x10.if_ x10.ans)).set s0_1.toNat (GReq.mk x12.kind x12.who x12.case x12.task x12.var (((((s0_0 + 1) + 1) + 1) + 1) + 1) x12.data x12.if_ x12.ans)).set s0_1.toNat (GReq.mk x14.kind x14.who x14.case x14.task x14.var x14.num x15.2 x14.if_ x14.ans)).set s0_1.toNat (GReq.mk x16.kind x16.who x16.case x16.task x16.var x16.num x16.data (GAsk.mk x15.1 x16.if_.var x16.if_.k) x16.ans)).set s0_1.toNat (GReq.mk x18.kind x18.who x18.case x18.task x18.var x18.num x18.data (GAsk.mk x18.if_.op (x15.1 + 1) x18.if_.k) x18.ans)) s0_1).bind fun x20 => (gd (ok64 (((x15.1 + 1) + 1) + 1)) ((getI ((((((((((l0_2.set s0_1.toNat (GReq.mk s0_0 x2.who x2.case x2.task x2.var x2.num x2.data x2.if_ x2.ans)).set s0_1.toNat (GReq.mk x4.kind (s0_0 + 1) x4.case x4.task x4.var x4.num x4.data x4.if_ x4.ans)).set s0_1.toNat (GReq.mk x6.kind x6.who ((s0_0 + 1) + 1) x6.task x6.var x6.num x6.data x6.if_ x6.ans)).set s0_1.toNat (GReq.mk x8.kind x8.who x8.case (((s0_0 + 1) + 1) + 1) x8.var x8.num x8.data x8.if_ x8.ans)).set s0_1.toNat (GReq.mk x10.kind x10.who x10.case x10.task ((((s0_0 + 1) + 1) + 1) + 1) x10.num x10.data x10.if_ x10.ans)).set s0_1.toNat (GReq.mk x12.kind x12.who x12.case x12.task x12.var (((((s0_0 + 1) + 1) + 1) + 1) + 1) x12.data x12.if_ x12.ans)).set s0_1.toNat (GReq.mk x14.kind x14.who x14.case x14.task x14.var x14.num x15.2 x14.if_ x14.ans)).set s0_1.toNat (GReq.mk x16.kind x16.who x16.case x16.task x16.var x16.num x16.data (GAsk.mk x15.1 x16.if_.var x16.if_.k) x16.ans)).set s0_1.toNat (GReq.mk x18.kind x18.who x18.case x18.task x18.var x18.num x18.data (GAsk.mk x18.if_.op (x15.1 + 1) x18.if_.k) x18.ans)).set s0_1.toNat (GReq.mk x20.kind x20.who x20.case x20.task x20.var x20.num x20.data (GAsk.mk x20.if_.op x20.if_.var ((x15.1 + 1) + 1)) x20.ans)) s0_1).bind fun x22 => (gd (ok64 ((((x15.1 + 1) + 1) + 1) + 1)) (gd (ok64 (s0_1 + 1)) ((m_markEngReqS_l0 kx0_0 n0) ((((x15.1 + 1) + 1) + 1) + 1) (s0_1 + 1) (((((((((((l0_2.set s0_1.toNat (GReq.mk s0_0 x2.who x2.case x2.task x2.var x2.num x2.data x2.if_ x2.ans)).set s0_1.toNat (GReq.mk x4.kind (s0_0 + 1) x4.case x4.task x4.var x4.num x4.data x4.if_ x4.ans)).set s0_1.toNat (GReq.mk x6.kind x6.who ((s0_0 + 1) + 1) x6.task x6.var x6.num x6.data x6.if_ x6.ans)).set s0_1.toNat (GReq.mk x8.kind x8.who x8.case (((s0_0 + 1) + 1) + 1) x8.var x8.num x8.data x8.if_ x8.ans)).set s0_1.toNat (GReq.mk x10.kind x10.who x10.case x10.task ((((s0_0 + 1) + 1) + 1) + 1) x10.num x10.data x10.if_ x10.ans)).set s0_1.toNat (GReq.mk x12.kind x12.who x12.case x12.task x12.var (((((s0_0 + 1) + 1) + 1) + 1) + 1) x12.data x12.if_ x12.ans)).set s0_1.toNat (GReq.mk x14.kind x14.who x14.case x14.task x14.var x14.num x15.2 x14.if_ x14.ans)).set s0_1.toNat (GReq.mk x16.kind x16.who x16.case x16.task x16.var x16.num x16.data (GAsk.mk x15.1 x16.if_.var x16.if_.k) x16.ans)).set s0_1.toNat (GReq.mk x18.kind x18.who x18.case x18.task x18.var x18.num x18.data (GAsk.mk x18.if_.op (x15.1 + 1) x18.if_.k) x18.ans)).set s0_1.toNat (GReq.mk x20.kind x20.who x20.case x20.task x20.var x20.num x20.data (GAsk.mk x20.if_.op x20.if_.var ((x15.1 + 1) + 1)) x20.ans)).set s0_1.toNat (GReq.mk x22.kind x22.who x22.case x22.task x22.var x22.num x22.data x22.if_ (((x15.1 + 1) + 1) + 1))))))))))))))))))))))))))) else (kx0_0 s0_0 l0_2)
def m_markEngReqS (a : List GReq) (k : Int) : Option (Int × (List GReq)) := m_markEngReqS_l0 m_markEngReqS_k1 FUEL k 0 a
def k_markEngReqS : Con := ⟨18, [.v (.sl (.s .req)) true, .v .I false], [(.I, true)], [(0, .v (.sl (.s .req)) true)], fun x => m_markEngReqS x.1 x.2.1⟩
def f_markEngReqS : Fs := ⟨[k_markIntS], []⟩
theorem g_markEngReqS : f_markEngReqS.Ok Try.prog := (fsK o_markIntS fs0)
def t_markEngReqS_0 : Tmpl := ⟨[(0, .c (.ref 1000000)), (1, .c .i), (5, .c .i)], [(1000000, .arr (.s .req) true)]⟩
def x0_markEngReqS_0 : Tmpl := ⟨[(1, .c .i)], [(1000000, .arr (.s .req) true)]⟩
def L_markEngReqS_0 (av : AV) (x : HP k_markEngReqS.ps) (n : Nat) (v : t_markEngReqS_0.den) (K : Ks (CR k_markEngReqS)) : Option (CR k_markEngReqS) := m_markEngReqS_l0 (fun s0_0 l0_2 => x0_markEngReqS_0.at none ((s0_0, ()), (l0_2, ())) (K (.exit 0))) n v.1.2.1 v.1.2.2.1 v.2.1
def h_markEngReqS_0 (av : AV) (x : HP k_markEngReqS.ps) : Hdl (CR k_markEngReqS) := hnd [] t_markEngReqS_0 (L_markEngReqS_0 av x)
theorem l_markEngReqS_0 : LP k_markEngReqS Try.f18 [0] h_markEngReqS_0 := lp_ok (W := []) (H := []) (xs := [x0_markEngReqS_0]) g_markEngReqS trivial rfl (fun av x v K => by kernel_rfl) (fun av x n v K => by kernel_rfl)
theorem o_markEngReqS : k_markEngReqS.Ok Try.prog := fn_ok (k := k_markEngReqS) (fn := Try.f18) (W := []) (H := [h_markEngReqS_0]) Try.func18 g_markEngReqS ⟨l_markEngReqS_0, trivial⟩ rfl rfl (fun av x => by kernel_rfl)

def m_heldEngReqS_k1 (s0_0 : Int) : Option Int := some s0_0
def m_heldEngReqS_l0 (a : List GReq) (kx0_0 : Int → Option Int) : Nat → Int → Int → Option Int
  | 0, _, _ => none
  | n0 + 1, s0_0, s0_1 => if decide (s0_1 < (a.length : Int)) = true then ((getI a s0_1).bind fun x2 => (if decide (x2.kind = s0_0) = true then (gd (ok64 (s0_0 + 1)) ((getI a s0_1).bind fun x5 => (if decide (x5.who = (s0_0 + 1)) = true then (gd (ok64 ((s0_0 + 1) + 1)) ((getI a s0_1).bind fun x8 => (if decide (x8.case = ((s0_0 + 1) + 1)) = true then (gd (ok64 (((s0_0 + 1) + 1) + 1)) ((getI a s0_1).bind fun x11 => (if decide (x11.task = (((s0_0 + 1) + 1) + 1)) = true then (gd (ok64 ((((s0_0 + 1) + 1) + 1) + 1)) ((getI a s0_1).bind fun x14 => (if decide (x14.var = ((((s0_0 + 1) + 1) + 1) + 1)) = true then (gd (ok64 (((((s0_0 + 1) + 1) + 1) + 1) + 1)) ((getI a s0_1).bind fun x17 => (if decide (x17.num = (((((s0_0 + 1) + 1) + 1) + 1) + 1)) = true then (gd (ok64 ((((((s0_0 + 1) + 1) + 1) + 1) + 1) + 1)) ((getI a s0_1).bind fun x20 => ((m_heldIntS x20.data ((((((s0_0 + 1) + 1) + 1) + 1) + 1) + 1)).bind fun x21 => (if decide (x21 < 0) = true then (some (-1)) else ((getI a s0_1).bind fun x23 => (if decide (x23.if_.op = x21) = true then (gd (ok64 (x21 + 1)) ((getI a s0_1).bind fun x26 => (if decide (x26.if_.var = (x21 + 1)) = true then (gd (ok64 ((x21 + 1) + 1)) ((getI a s0_1).bind fun x29 => (if decide (x29.if_.k = ((x21 + 1) + 1)) = true then (gd (ok64 (((x21 + 1) + 1) + 1)) ((getI a s0_1).bind fun x32 => (if decide (x32.ans = (((x21 + 1) + 1) + 1)) = true then (gd (ok64 ((((x21 + 1) + 1) + 1) + 1)) (gd (ok64 (s0_1 + 1)) ((m_heldEngReqS_l0 a kx0_0 n0) ((((x21 + 1) + 1) + 1) + 1) (s0_1 + 1)))) else (some (-1))))) else (some (-1))))) else (some (-1))))) else (some (-1)))))))) else (some (-1))))) else (some (-1))))) else (some (-1))))) else (some (-1))))) else (some (-1))))) else (some (-1)))) else (kx0_0 s0_0)
def m_heldEngReqS (a : List GReq) (k : Int) : Option Int := m_heldEngReqS_l0 a m_heldEngReqS_k1 FUEL k 0
def k_heldEngReqS : Con := ⟨19, [.v (.sl (.s .req)) false, .v .I false], [(.I, true)], [], fun x => m_heldEngReqS x.1 x.2.1⟩
def f_heldEngReqS : Fs := ⟨[k_heldIntS], []⟩
theorem g_heldEngReqS : f_heldEngReqS.Ok Try.prog := (fsK o_heldIntS fs0)
def t_heldEngReqS_0 : Tmpl := ⟨[(0, .c (.s (.s .req))), (1, .c .i), (5, .c .i)], []⟩
def x0_heldEngReqS_0 : Tmpl := ⟨[(1, .c .i)], []⟩
def L_heldEngReqS_0 (av : AV) (x : HP k_heldEngReqS.ps) (n : Nat) (v : t_heldEngReqS_0.den) (K : Ks (CR k_heldEngReqS)) : Option (CR k_heldEngReqS) := m_heldEngReqS_l0 v.1.1 (fun s0_0 => x0_heldEngReqS_0.at none ((s0_0, ()), ()) (K (.exit 0))) n v.1.2.1 v.1.2.2.1
def h_heldEngReqS_0 (av : AV) (x : HP k_heldEngReqS.ps) : Hdl (CR k_heldEngReqS) := hnd [] t_heldEngReqS_0 (L_heldEngReqS_0 av x)
theorem l_heldEngReqS_0 : LP k_heldEngReqS Try.f19 [0] h_heldEngReqS_0 := lp_ok (W := []) (H := []) (xs := [x0_heldEngReqS_0]) g_heldEngReqS trivial rfl (fun av x v K => by kernel_rfl) (fun av x n v K => by kernel_rfl)
theorem o_heldEngReqS : k_heldEngReqS.Ok Try.prog := fn_ok (k := k_heldEngReqS) (fn := Try.f19) (W := []) (H := [h_heldEngReqS_0]) Try.func19 g_heldEngReqS ⟨l_heldEngReqS_0, trivial⟩ rfl rfl (fun av x => by kernel_rfl)

def m_laws_FnExactLogCase (aLog : List GReq) (aK : Int) : Option Bool := (m_szEngReqS aLog 1048576).bind fun x1 => (if decide (x1 < 0) = true then (some true) else ((m_toEngReqS aLog).bind fun x3 => ((m_spec_LogCase x3 aK).bind fun x4 => ((m_toEngReqS aLog).bind fun x5 => ((m_impl_LogCase x5 aK).bind fun x6 => ((m_eqEngReqS x6 x4).bind fun x7 => (if x7 = true then ((m_toEngReqS aLog).bind fun x9 => ((m_eqEngReqS x5 x9).bind fun x10 => (if x10 = true then ((m_markEngReqS x5 1).bind fun x12 => (if decide (x12.1 < 0) = true then (some false) else ((m_eqEngReqS x6 x4).bind fun x14 => (if x14 = true then ((m_markEngReqS x6 1).bind fun x16 => ((m_heldEngReqS x16.2 1).bind fun x17 => (if decide (x17 < 0) = true then (some false) else (if decide (x17 = x16.1) = true then ((m_toEngReqS aLog).bind fun x20 => ((m_impl_LogCase x20 aK).bind fun x21 => ((m_eqEngReqS x21 x4).bind fun x22 => (if x22 = true then ((m_heldEngReqS x16.2 1).bind fun x24 => (if decide (x24 < 0) = true then (some false) else (if decide (x24 = x16.1) = true then (some true) else (some false)))) else (some false))))) else (some false))))) else (some false))))) else (some false)))) else (some false))))))))
def k_laws_FnExactLogCase : Con := ⟨4, [.v (.sl (.s .req)) false, .v .I false], [(.B, true)], [], fun x => m_laws_FnExactLogCase x.1 x.2.1⟩
def f_laws_FnExactLogCase : Fs := ⟨[k_szEngReqS, k_toEngReqS, k_spec_LogCase, k_impl_LogCase, k_eqEngReqS, k_markEngReqS, k_heldEngReqS], []⟩
theorem g_laws_FnExactLogCase : f_laws_FnExactLogCase.Ok Try.prog := (fsK o_szEngReqS (fsK o_toEngReqS (fsK o_spec_LogCase (fsK o_impl_LogCase (fsK o_eqEngReqS (fsK o_markEngReqS (fsK o_heldEngReqS fs0)))))))
theorem o_laws_FnExactLogCase : k_laws_FnExactLogCase.Ok Try.prog := fn_ok (k := k_laws_FnExactLogCase) (fn := Try.f4) (W := []) (H := []) Try.func4 g_laws_FnExactLogCase trivial rfl rfl (fun av x => by kernel_rfl)

end
end Go.Am
