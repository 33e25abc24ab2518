/- Mirrors and contracts, printed. Own work. -/
import Derived.Test.YtcbpckbehdaloaaXb5
set_option linter.unusedSimpArgs false
set_option maxRecDepth 100000
set_option maxHeartbeats 4000000
set_option linter.unusedVariables false
namespace Go.Am
noncomputable section
open Go Go.Proofs
def m_e_szIntS (l : List Int) (left : Int) : Option Int := gd (ok64 (left - (l.length : Int))) (if decide ((left - (l.length : Int)) < 0) = true then (some (-1)) else (some (left - (l.length : Int))))
def k_e_szIntS : Con := ⟨59, [.v (.sl .I) false, .v .I false], [(.I, true)], [], fun x => m_e_szIntS x.1 x.2.1⟩
def f_e_szIntS : Fs := ⟨[], []⟩
theorem g_e_szIntS : f_e_szIntS.Ok Try.prog := fs0
theorem o_e_szIntS : k_e_szIntS.Ok Try.prog := fn_ok (k := k_e_szIntS) (fn := Try.f59) (W := []) (H := []) Try.func59 g_e_szIntS trivial rfl rfl (fun av x => by kernel_rfl)
noncomputable def m_szIntS (l : List Int) (left : Int) : Option Int := @gd ((0 ≤ left) ∧ (left ≤ 1048576) ∧ (l.length ≤ 9223372036854775807)) (Classical.propDecidable _) _ (some (szR left l.length))
theorem c_szIntS (l : List Int) (left : Int) (h : (0 ≤ left) ∧ (left ≤ 1048576) ∧ (l.length ≤ 9223372036854775807)) : m_szIntS l left = some (szR left l.length) := gdC h
theorem s_szIntS (l : List Int) (left : Int) (h : (0 ≤ left) ∧ (left ≤ 1048576) ∧ (l.length ≤ 9223372036854775807)) : m_e_szIntS l left = some (szR left l.length) := by
  exact sz_flat h.1 h.2.1 h.2.2
noncomputable def k_szIntS : Con := ⟨59, [.v (.sl .I) false, .v .I false], [(.I, true)], [], fun x => m_szIntS x.1 x.2.1⟩
theorem o_szIntS : k_szIntS.Ok Try.prog := con_sub o_e_szIntS fun x z hz => by
  obtain ⟨h, e⟩ := gdC_some hz
  subst e
  exact s_szIntS _ _ h

def m_e_szEngReq (x : GReq) (left : Int) : Option Int := (m_szIntS x.data left).bind fun x1 => (if decide (x1 < 0) = true then (some (-1)) else (some x1))
def k_e_szEngReq : Con := ⟨48, [.v (.s .req) false, .v .I false], [(.I, true)], [], fun x => m_e_szEngReq x.1 x.2.1⟩
def f_e_szEngReq : Fs := ⟨[k_szIntS], []⟩
theorem g_e_szEngReq : f_e_szEngReq.Ok Try.prog := (fsK o_szIntS fs0)
theorem o_e_szEngReq : k_e_szEngReq.Ok Try.prog := fn_ok (k := k_e_szEngReq) (fn := Try.f48) (W := []) (H := []) Try.func48 g_e_szEngReq trivial rfl rfl (fun av x => by kernel_rfl)
noncomputable def m_szEngReq (x : GReq) (left : Int) : Option Int := @gd ((0 ≤ left) ∧ (left ≤ 1048576) ∧ (GReq.lens (· ≤ 9223372036854775807) x)) (Classical.propDecidable _) _ (some (szR left (GReq.W x)))
theorem c_szEngReq (x : GReq) (left : Int) (h : (0 ≤ left) ∧ (left ≤ 1048576) ∧ (GReq.lens (· ≤ 9223372036854775807) x)) : m_szEngReq x left = some (szR left (GReq.W x)) := gdC h
theorem s_szEngReq (x : GReq) (left : Int) (h : (0 ≤ left) ∧ (left ≤ 1048576) ∧ (GReq.lens (· ≤ 9223372036854775807) x)) : m_e_szEngReq x left = some (szR left (GReq.W x)) := by
  have e : GReq.W x = (x.data.length + 0) := by simp only [GReq.W]; omega
  rw [e]
  have g1 := h.1
  have g2 := h.2.1
  unfold m_e_szEngReq
  rw [c_szIntS _ _ ⟨g1, g2, h.2.2⟩]; refine sz_step g1 g2 fun left g1 g2 => ?_
  exact szR_zero g1
noncomputable def k_szEngReq : Con := ⟨48, [.v (.s .req) false, .v .I false], [(.I, true)], [], fun x => m_szEngReq x.1 x.2.1⟩
theorem o_szEngReq : k_szEngReq.Ok Try.prog := con_sub o_e_szEngReq fun x z hz => by
  obtain ⟨h, e⟩ := gdC_some hz
  subst e
  exact s_szEngReq _ _ h

def m_e_szEngReqS_k1 (s0_0 : Int) : Option Int := some s0_0
def m_e_szEngReqS_l0 (l : List GReq) (kx0_0 : Int → Option Int) : Nat → Int → Int → Option Int
  | 0, _, _ => none
  | n0 + 1, s0_0, s0_1 => if decide (s0_1 < (l.length : Int)) = true then ((getI l s0_1).bind fun x4 => ((m_szEngReq x4 s0_0).bind fun x5 => (if decide (x5 < 0) = true then (some (-1)) else (gd (ok64 (s0_1 + 1)) ((m_e_szEngReqS_l0 l kx0_0 n0) x5 (s0_1 + 1)))))) else (kx0_0 s0_0)
def m_e_szEngReqS (l : List GReq) (left : Int) : Option Int := gd (ok64 (left - (l.length : Int))) (if decide ((left - (l.length : Int)) < 0) = true then (some (-1)) else (m_e_szEngReqS_l0 l m_e_szEngReqS_k1 FUEL (left - (l.length : Int)) 0))
def k_e_szEngReqS : Con := ⟨11, [.v (.sl (.s .req)) false, .v .I false], [(.I, true)], [], fun x => m_e_szEngReqS x.1 x.2.1⟩
def f_e_szEngReqS : Fs := ⟨[k_szEngReq], []⟩
theorem g_e_szEngReqS : f_e_szEngReqS.Ok Try.prog := (fsK o_szEngReq fs0)
def t_e_szEngReqS_0 : Tmpl := ⟨[(0, .c (.s (.s .req))), (1, .c .i), (5, .c .i)], []⟩
def x0_e_szEngReqS_0 : Tmpl := ⟨[(1, .c .i)], []⟩
def L_e_szEngReqS_0 (av : AV) (x : HP k_e_szEngReqS.ps) (n : Nat) (v : t_e_szEngReqS_0.den) (K : Ks (CR k_e_szEngReqS)) : Option (CR k_e_szEngReqS) := m_e_szEngReqS_l0 v.1.1 (fun s0_0 => x0_e_szEngReqS_0.at none ((s0_0, ()), ()) (K (.exit 0))) n v.1.2.1 v.1.2.2.1
def h_e_szEngReqS_0 (av : AV) (x : HP k_e_szEngReqS.ps) : Hdl (CR k_e_szEngReqS) := hnd [] t_e_szEngReqS_0 (L_e_szEngReqS_0 av x)
theorem l_e_szEngReqS_0 : LP k_e_szEngReqS Try.f11 [0] h_e_szEngReqS_0 := lp_ok (W := []) (H := []) (xs := [x0_e_szEngReqS_0]) g_e_szEngReqS trivial rfl (fun av x v K => by kernel_rfl) (fun av x n v K => by kernel_rfl)
theorem o_e_szEngReqS : k_e_szEngReqS.Ok Try.prog := fn_ok (k := k_e_szEngReqS) (fn := Try.f11) (W := []) (H := [h_e_szEngReqS_0]) Try.func11 g_e_szEngReqS ⟨l_e_szEngReqS_0, trivial⟩ rfl rfl (fun av x => by kernel_rfl)
noncomputable def m_szEngReqS (l : List GReq) (left : Int) : Option Int := @gd ((0 ≤ left) ∧ (left ≤ 1048576) ∧ (l.length ≤ 9223372036854775807) ∧ (∀ y ∈ l, GReq.lens (· ≤ 9223372036854775807) y)) (Classical.propDecidable _) _ (some (szR left (l.length + sumW GReq.W l)))
theorem c_szEngReqS (l : List GReq) (left : Int) (h : (0 ≤ left) ∧ (left ≤ 1048576) ∧ (l.length ≤ 9223372036854775807) ∧ (∀ y ∈ l, GReq.lens (· ≤ 9223372036854775807) y)) : m_szEngReqS l left = some (szR left (l.length + sumW GReq.W l)) := gdC h
theorem s_szEngReqS (l : List GReq) (left : Int) (h : (0 ≤ left) ∧ (left ≤ 1048576) ∧ (l.length ≤ 9223372036854775807) ∧ (∀ y ∈ l, GReq.lens (· ≤ 9223372036854775807) y)) : m_e_szEngReqS l left = some (szR left (l.length + sumW GReq.W l)) := by
  refine sz_nest (f := m_e_szEngReqS_l0 l m_e_szEngReqS_k1) h.1 h.2.1 h.2.2.1 (fun n i m hi hn g1 g2 => ?_) (fun n m => ?_)
  · rw [m_e_szEngReqS_l0, if_pos (decide_eq_true (Int.ofNat_lt.2 hi)), getI_lt hi, Option.bind_some, c_szEngReq _ _ ⟨g1, g2, h.2.2.2 _ (List.getElem_mem _)⟩, Option.bind_some, gd_pos (ok64i hi hn)]; rfl
  · rw [m_e_szEngReqS_l0, if_neg (by simp)]; rfl
noncomputable def k_szEngReqS : Con := ⟨11, [.v (.sl (.s .req)) false, .v .I false], [(.I, true)], [], fun x => m_szEngReqS x.1 x.2.1⟩
theorem o_szEngReqS : k_szEngReqS.Ok Try.prog := con_sub o_e_szEngReqS fun x z hz => by
  obtain ⟨h, e⟩ := gdC_some hz
  subst e
  exact s_szEngReqS _ _ h

def m_e_toIntS_k1 (l0_1 : List Int) : Option (List Int) := some l0_1
def m_e_toIntS_l0 (l : List Int) (kx0_0 : List Int → Option (List Int)) : Nat → Int → List Int → Option (List Int)
  | 0, _, _ => none
  | n0 + 1, s0_0, l0_1 => if decide (s0_0 < (l.length : Int)) = true then ((getI l s0_0).bind fun x3 => ((getI l0_1 s0_0).bind fun x4 => (gd (ok64 (s0_0 + 1)) ((m_e_toIntS_l0 l kx0_0 n0) (s0_0 + 1) (l0_1.set s0_0.toNat x3))))) else (kx0_0 l0_1)
def m_e_toIntS (l : List Int) : Option (List Int) := gd ((0 : Int) ≤ (l.length : Int) ∧ (l.length : Int) ≤ (1000000000 : Int)) (m_e_toIntS_l0 l m_e_toIntS_k1 FUEL 0 (List.replicate (l.length : Int).toNat (0 : Int)))
def k_e_toIntS : Con := ⟨63, [.v (.sl .I) false], [((.sl .I), true)], [], fun x => m_e_toIntS x.1⟩
def f_e_toIntS : Fs := ⟨[], []⟩
theorem g_e_toIntS : f_e_toIntS.Ok Try.prog := fs0
def t_e_toIntS_0 : Tmpl := ⟨[(0, .c (.s .I)), (3, .c (.ref 7)), (4, .c .i)], [(7, .arr .I true)]⟩
def x0_e_toIntS_0 : Tmpl := ⟨[(3, .c (.ref 7))], [(7, .arr .I true)]⟩
def L_e_toIntS_0 (av : AV) (x : HP k_e_toIntS.ps) (n : Nat) (v : t_e_toIntS_0.den) (K : Ks (CR k_e_toIntS)) : Option (CR k_e_toIntS) := m_e_toIntS_l0 v.1.1 (fun l0_1 => x0_e_toIntS_0.at none (((), ()), (l0_1, ())) (K (.exit 0))) n v.1.2.2.1 v.2.1
def h_e_toIntS_0 (av : AV) (x : HP k_e_toIntS.ps) : Hdl (CR k_e_toIntS) := hnd [] t_e_toIntS_0 (L_e_toIntS_0 av x)
theorem l_e_toIntS_0 : LP k_e_toIntS Try.f63 [0] h_e_toIntS_0 := lp_ok (W := []) (H := []) (xs := [x0_e_toIntS_0]) g_e_toIntS trivial rfl (fun av x v K => by kernel_rfl) (fun av x n v K => by kernel_rfl)
theorem o_e_toIntS : k_e_toIntS.Ok Try.prog := fn_ok (k := k_e_toIntS) (fn := Try.f63) (W := []) (H := [h_e_toIntS_0]) Try.func63 g_e_toIntS ⟨l_e_toIntS_0, trivial⟩ rfl rfl (fun av x => by kernel_rfl)
noncomputable def m_toIntS (l : List Int) : Option (List Int) := @gd ((l.length ≤ 1048576)) (Classical.propDecidable _) _ (some l)
theorem c_toIntS (l : List Int) (h : (l.length ≤ 1048576)) : m_toIntS l = some l := gdC h
theorem s_toIntS (l : List Int) (h : (l.length ≤ 1048576)) : m_e_toIntS l = some l := by
  refine (gd_pos (toOk h)).trans ?_
  have hl := h
  refine to_gen (f := m_e_toIntS_l0 l m_e_toIntS_k1) (by omega) (fun n i acc hi ha => ?_) (fun n acc => ?_)
  · rw [m_e_toIntS_l0, if_pos (decide_eq_true (Int.ofNat_lt.2 hi)), getI_lt hi, Option.bind_some, getI_lt (by omega), Option.bind_some, gd_pos (ok64i hi h)]; rfl
  · rw [m_e_toIntS_l0, if_neg (by simp)]; rfl
noncomputable def k_toIntS : Con := ⟨63, [.v (.sl .I) false], [((.sl .I), true)], [], fun x => m_toIntS x.1⟩
theorem o_toIntS : k_toIntS.Ok Try.prog := con_sub o_e_toIntS fun x z hz => by
  obtain ⟨h, e⟩ := gdC_some hz
  subst e
  exact s_toIntS _ h

def m_e_toExpAsk (x : GAsk) : Option GAsk := some x
def k_e_toExpAsk : Con := ⟨99, [.v (.s .ask) false], [((.s .ask), true)], [], fun x => m_e_toExpAsk x.1⟩
def f_e_toExpAsk : Fs := ⟨[], []⟩
theorem g_e_toExpAsk : f_e_toExpAsk.Ok Try.prog := fs0
theorem o_e_toExpAsk : k_e_toExpAsk.Ok Try.prog := fn_ok (k := k_e_toExpAsk) (fn := Try.f99) (W := []) (H := []) Try.func99 g_e_toExpAsk trivial rfl rfl (fun av x => by kernel_rfl)
noncomputable def m_toExpAsk (x : GAsk) : Option GAsk := @gd (True) (Classical.propDecidable _) _ (some x)
theorem c_toExpAsk (x : GAsk) (h : True) : m_toExpAsk x = some x := gdC h
theorem s_toExpAsk (x : GAsk) (h : True) : m_e_toExpAsk x = some x := by
  rfl
noncomputable def k_toExpAsk : Con := ⟨99, [.v (.s .ask) false], [((.s .ask), true)], [], fun x => m_toExpAsk x.1⟩
theorem o_toExpAsk : k_toExpAsk.Ok Try.prog := con_sub o_e_toExpAsk fun x z hz => by
  obtain ⟨h, e⟩ := gdC_some hz
  subst e
  exact s_toExpAsk _ h

def m_e_toEngReq (x : GReq) : Option GReq := (m_toIntS x.data).bind fun x1 => ((m_toExpAsk x.if_).bind fun x2 => (some (GReq.mk x.kind x.who x.case x.task x.var x.num x1 x2 x.ans)))
def k_e_toEngReq : Con := ⟨49, [.v (.s .req) false], [((.s .req), true)], [], fun x => m_e_toEngReq x.1⟩
def f_e_toEngReq : Fs := ⟨[k_toIntS, k_toExpAsk], []⟩
theorem g_e_toEngReq : f_e_toEngReq.Ok Try.prog := (fsK o_toIntS (fsK o_toExpAsk fs0))
theorem o_e_toEngReq : k_e_toEngReq.Ok Try.prog := fn_ok (k := k_e_toEngReq) (fn := Try.f49) (W := []) (H := []) Try.func49 g_e_toEngReq trivial rfl rfl (fun av x => by kernel_rfl)
noncomputable def m_toEngReq (x : GReq) : Option GReq := @gd ((GReq.lens (· ≤ 1048576) x)) (Classical.propDecidable _) _ (some x)
theorem c_toEngReq (x : GReq) (h : (GReq.lens (· ≤ 1048576) x)) : m_toEngReq x = some x := gdC h
theorem s_toEngReq (x : GReq) (h : (GReq.lens (· ≤ 1048576) x)) : m_e_toEngReq x = some x := by
  rw [m_e_toEngReq, c_toIntS _ h, Option.bind_some, c_toExpAsk _ trivial, Option.bind_some]
noncomputable def k_toEngReq : Con := ⟨49, [.v (.s .req) false], [((.s .req), true)], [], fun x => m_toEngReq x.1⟩
theorem o_toEngReq : k_toEngReq.Ok Try.prog := con_sub o_e_toEngReq fun x z hz => by
  obtain ⟨h, e⟩ := gdC_some hz
  subst e
  exact s_toEngReq _ h

def m_e_toEngReqS_k1 (l0_1 : List GReq) : Option (List GReq) := some l0_1
def m_e_toEngReqS_l0 (l : List GReq) (kx0_0 : List GReq → Option (List GReq)) : Nat → Int → List GReq → Option (List GReq)
  | 0, _, _ => none
  | n0 + 1, s0_0, l0_1 => if decide (s0_0 < (l.length : Int)) = true then ((getI l s0_0).bind fun x3 => ((m_toEngReq x3).bind fun x4 => ((getI l0_1 s0_0).bind fun x5 => (gd (ok64 (s0_0 + 1)) ((m_e_toEngReqS_l0 l kx0_0 n0) (s0_0 + 1) (l0_1.set s0_0.toNat x4)))))) else (kx0_0 l0_1)
def m_e_toEngReqS (l : List GReq) : Option (List GReq) := gd ((0 : Int) ≤ (l.length : Int) ∧ (l.length : Int) ≤ (1000000000 : Int)) (m_e_toEngReqS_l0 l m_e_toEngReqS_k1 FUEL 0 (List.replicate (l.length : Int).toNat GReq.zero))
def k_e_toEngReqS : Con := ⟨13, [.v (.sl (.s .req)) false], [((.sl (.s .req)), true)], [], fun x => m_e_toEngReqS x.1⟩
def f_e_toEngReqS : Fs := ⟨[k_toEngReq], []⟩
theorem g_e_toEngReqS : f_e_toEngReqS.Ok Try.prog := (fsK o_toEngReq fs0)
def t_e_toEngReqS_0 : Tmpl := ⟨[(0, .c (.s (.s .req))), (3, .c (.ref 7)), (4, .c .i)], [(7, .arr (.s .req) true)]⟩
def x0_e_toEngReqS_0 : Tmpl := ⟨[(3, .c (.ref 7))], [(7, .arr (.s .req) true)]⟩
def L_e_toEngReqS_0 (av : AV) (x : HP k_e_toEngReqS.ps) (n : Nat) (v : t_e_toEngReqS_0.den) (K : Ks (CR k_e_toEngReqS)) : Option (CR k_e_toEngReqS) := m_e_toEngReqS_l0 v.1.1 (fun l0_1 => x0_e_toEngReqS_0.at none (((), ()), (l0_1, ())) (K (.exit 0))) n v.1.2.2.1 v.2.1
def h_e_toEngReqS_0 (av : AV) (x : HP k_e_toEngReqS.ps) : Hdl (CR k_e_toEngReqS) := hnd [] t_e_toEngReqS_0 (L_e_toEngReqS_0 av x)
theorem l_e_toEngReqS_0 : LP k_e_toEngReqS Try.f13 [0] h_e_toEngReqS_0 := lp_ok (W := []) (H := []) (xs := [x0_e_toEngReqS_0]) g_e_toEngReqS trivial rfl (fun av x v K => by kernel_rfl) (fun av x n v K => by kernel_rfl)
theorem o_e_toEngReqS : k_e_toEngReqS.Ok Try.prog := fn_ok (k := k_e_toEngReqS) (fn := Try.f13) (W := []) (H := [h_e_toEngReqS_0]) Try.func13 g_e_toEngReqS ⟨l_e_toEngReqS_0, trivial⟩ rfl rfl (fun av x => by kernel_rfl)
noncomputable def m_toEngReqS (l : List GReq) : Option (List GReq) := @gd ((l.length ≤ 1048576) ∧ (∀ y ∈ l, GReq.lens (· ≤ 1048576) y)) (Classical.propDecidable _) _ (some l)
theorem c_toEngReqS (l : List GReq) (h : (l.length ≤ 1048576) ∧ (∀ y ∈ l, GReq.lens (· ≤ 1048576) y)) : m_toEngReqS l = some l := gdC h
theorem s_toEngReqS (l : List GReq) (h : (l.length ≤ 1048576) ∧ (∀ y ∈ l, GReq.lens (· ≤ 1048576) y)) : m_e_toEngReqS l = some l := by
  refine (gd_pos (toOk h.1)).trans ?_
  have hl := h.1
  refine to_gen (f := m_e_toEngReqS_l0 l m_e_toEngReqS_k1) (by omega) (fun n i acc hi ha => ?_) (fun n acc => ?_)
  · rw [m_e_toEngReqS_l0, if_pos (decide_eq_true (Int.ofNat_lt.2 hi)), getI_lt hi, Option.bind_some, c_toEngReq _ (h.2 _ (List.getElem_mem _)), Option.bind_some, getI_lt (by omega), Option.bind_some, gd_pos (ok64i hi h.1)]; rfl
  · rw [m_e_toEngReqS_l0, if_neg (by simp)]; rfl
noncomputable def k_toEngReqS : Con := ⟨13, [.v (.sl (.s .req)) false], [((.sl (.s .req)), true)], [], fun x => m_toEngReqS x.1⟩
theorem o_toEngReqS : k_toEngReqS.Ok Try.prog := con_sub o_e_toEngReqS fun x z hz => by
  obtain ⟨h, e⟩ := gdC_some hz
  subst e
  exact s_toEngReqS _ h

def m_e_eqIntS_k1  : Option Bool := some true
def m_e_eqIntS_l0 (a : List Int) (b : List Int) (kx0_0 : Option Bool) : Nat → Int → Option Bool
  | 0, _ => none
  | n0 + 1, s0_0 => if decide (s0_0 < (a.length : Int)) = true then ((getI a s0_0).bind fun x3 => ((getI b s0_0).bind fun x4 => (if decide (x3 = x4) = true then (gd (ok64 (s0_0 + 1)) ((m_e_eqIntS_l0 a b kx0_0 n0) (s0_0 + 1))) else (some false)))) else (kx0_0)
def m_e_eqIntS (a : List Int) (b : List Int) : Option Bool := if decide ((a.length : Int) = (b.length : Int)) = true then (m_e_eqIntS_l0 a b m_e_eqIntS_k1 FUEL 0) else (some false)
def k_e_eqIntS : Con := ⟨26, [.v (.sl .I) false, .v (.sl .I) false], [(.B, true)], [], fun x => m_e_eqIntS x.1 x.2.1⟩
def f_e_eqIntS : Fs := ⟨[], []⟩
theorem g_e_eqIntS : f_e_eqIntS.Ok Try.prog := fs0
def t_e_eqIntS_0 : Tmpl := ⟨[(0, .c (.s .I)), (1, .c (.s .I)), (5, .c .i)], []⟩
def x0_e_eqIntS_0 : Tmpl := ⟨[], []⟩
def L_e_eqIntS_0 (av : AV) (x : HP k_e_eqIntS.ps) (n : Nat) (v : t_e_eqIntS_0.den) (K : Ks (CR k_e_eqIntS)) : Option (CR k_e_eqIntS) := m_e_eqIntS_l0 v.1.1 v.1.2.1 (x0_e_eqIntS_0.at none ((), ()) (K (.exit 0))) n v.1.2.2.1
def h_e_eqIntS_0 (av : AV) (x : HP k_e_eqIntS.ps) : Hdl (CR k_e_eqIntS) := hnd [] t_e_eqIntS_0 (L_e_eqIntS_0 av x)
theorem l_e_eqIntS_0 : LP k_e_eqIntS Try.f26 [0] h_e_eqIntS_0 := lp_ok (W := []) (H := []) (xs := [x0_e_eqIntS_0]) g_e_eqIntS trivial rfl (fun av x v K => by kernel_rfl) (fun av x n v K => by kernel_rfl)
theorem o_e_eqIntS : k_e_eqIntS.Ok Try.prog := fn_ok (k := k_e_eqIntS) (fn := Try.f26) (W := []) (H := [h_e_eqIntS_0]) Try.func26 g_e_eqIntS ⟨l_e_eqIntS_0, trivial⟩ rfl rfl (fun av x => by kernel_rfl)
noncomputable def m_eqIntS (a : List Int) (b : List Int) : Option Bool := @gd ((a.length ≤ 1048576)) (Classical.propDecidable _) _ (some (decide (a = b)))
theorem c_eqIntS (a : List Int) (b : List Int) (h : (a.length ≤ 1048576)) : m_eqIntS a b = some (decide (a = b)) := gdC h
theorem s_eqIntS (a : List Int) (b : List Int) (h : (a.length ≤ 1048576)) : m_e_eqIntS a b = some (decide (a = b)) := by
  have hl := h
  refine eq_len fun hab => eq_gen (f := m_e_eqIntS_l0 a b m_e_eqIntS_k1) (by omega) hab (fun n i hi hj => ?_) (fun n => ?_)
  · rw [m_e_eqIntS_l0, if_pos (decide_eq_true (Int.ofNat_lt.2 hi)), getI_lt hi, Option.bind_some, getI_lt hj, Option.bind_some, gd_pos (ok64i hi h)]; rfl
  · rw [m_e_eqIntS_l0, if_neg (by simp)]; rfl
noncomputable def k_eqIntS : Con := ⟨26, [.v (.sl .I) false, .v (.sl .I) false], [(.B, true)], [], fun x => m_eqIntS x.1 x.2.1⟩
theorem o_eqIntS : k_eqIntS.Ok Try.prog := con_sub o_e_eqIntS fun x z hz => by
  obtain ⟨h, e⟩ := gdC_some hz
  subst e
  exact s_eqIntS _ _ h

def m_e_eqExpAsk (x : GAsk) (y : GAsk) : Option Bool := if decide (x.op = y.op) = true then (if decide (x.var = y.var) = true then (if decide (x.k = y.k) = true then (some true) else (some false)) else (some false)) else (some false)
def k_e_eqExpAsk : Con := ⟨100, [.v (.s .ask) false, .v (.s .ask) false], [(.B, true)], [], fun x => m_e_eqExpAsk x.1 x.2.1⟩
def f_e_eqExpAsk : Fs := ⟨[], []⟩
theorem g_e_eqExpAsk : f_e_eqExpAsk.Ok Try.prog := fs0
theorem o_e_eqExpAsk : k_e_eqExpAsk.Ok Try.prog := fn_ok (k := k_e_eqExpAsk) (fn := Try.f100) (W := []) (H := []) Try.func100 g_e_eqExpAsk trivial rfl rfl (fun av x => by kernel_rfl)
noncomputable def m_eqExpAsk (x : GAsk) (y : GAsk) : Option Bool := @gd (True) (Classical.propDecidable _) _ (some (decide (x = y)))
theorem c_eqExpAsk (x : GAsk) (y : GAsk) (h : True) : m_eqExpAsk x y = some (decide (x = y)) := gdC h
theorem s_eqExpAsk (x : GAsk) (y : GAsk) (h : True) : m_e_eqExpAsk x y = some (decide (x = y)) := by
  unfold m_e_eqExpAsk
  refine (eq_step (eq_step (eq_step eq_end))).trans (congrArg some (decide_eq_decide.2 ⟨fun ⟨h0, h1, h2, _⟩ => ?_, fun h => by subst h; simp⟩))
  cases x; cases y; simp_all
noncomputable def k_eqExpAsk : Con := ⟨100, [.v (.s .ask) false, .v (.s .ask) false], [(.B, true)], [], fun x => m_eqExpAsk x.1 x.2.1⟩
theorem o_eqExpAsk : k_eqExpAsk.Ok Try.prog := con_sub o_e_eqExpAsk fun x z hz => by
  obtain ⟨h, e⟩ := gdC_some hz
  subst e
  exact s_eqExpAsk _ _ h

def m_e_eqEngReq (x : GReq) (y : GReq) : Option Bool := if decide (x.kind = y.kind) = true then (if decide (x.who = y.who) = true then (if decide (x.case = y.case) = true then (if decide (x.task = y.task) = true then (if decide (x.var = y.var) = true then (if decide (x.num = y.num) = true then ((m_eqIntS x.data y.data).bind fun x7 => (if x7 = true then ((m_eqExpAsk x.if_ y.if_).bind fun x9 => (if x9 = true then (if decide (x.ans = y.ans) = true then (some true) else (some false)) else (some false))) else (some false))) else (some false)) else (some false)) else (some false)) else (some false)) else (some false)) else (some false)
def k_e_eqEngReq : Con := ⟨50, [.v (.s .req) false, .v (.s .req) false], [(.B, true)], [], fun x => m_e_eqEngReq x.1 x.2.1⟩
def f_e_eqEngReq : Fs := ⟨[k_eqIntS, k_eqExpAsk], []⟩
theorem g_e_eqEngReq : f_e_eqEngReq.Ok Try.prog := (fsK o_eqIntS (fsK o_eqExpAsk fs0))
theorem o_e_eqEngReq : k_e_eqEngReq.Ok Try.prog := fn_ok (k := k_e_eqEngReq) (fn := Try.f50) (W := []) (H := []) Try.func50 g_e_eqEngReq trivial rfl rfl (fun av x => by kernel_rfl)
noncomputable def m_eqEngReq (x : GReq) (y : GReq) : Option Bool := @gd ((GReq.lens (· ≤ 1048576) x) ∧ (GReq.lens (· ≤ 1048576) y)) (Classical.propDecidable _) _ (some (decide (x = y)))
theorem c_eqEngReq (x : GReq) (y : GReq) (h : (GReq.lens (· ≤ 1048576) x) ∧ (GReq.lens (· ≤ 1048576) y)) : m_eqEngReq x y = some (decide (x = y)) := gdC h
theorem s_eqEngReq (x : GReq) (y : GReq) (h : (GReq.lens (· ≤ 1048576) x) ∧ (GReq.lens (· ≤ 1048576) y)) : m_e_eqEngReq x y = some (decide (x = y)) := by
  rw [m_e_eqEngReq, c_eqIntS _ _ h.1, Option.bind_some, c_eqExpAsk _ _ trivial, Option.bind_some]
  refine (eq_step (eq_step (eq_step (eq_step (eq_step (eq_step (eq_step (eq_step (eq_step eq_end))))))))).trans (congrArg some (decide_eq_decide.2 ⟨fun ⟨h0, h1, h2, h3, h4, h5, h6, h7, h8, _⟩ => ?_, fun h => by subst h; simp⟩))
  cases x; cases y; simp_all
noncomputable def k_eqEngReq : Con := ⟨50, [.v (.s .req) false, .v (.s .req) false], [(.B, true)], [], fun x => m_eqEngReq x.1 x.2.1⟩
theorem o_eqEngReq : k_eqEngReq.Ok Try.prog := con_sub o_e_eqEngReq fun x z hz => by
  obtain ⟨h, e⟩ := gdC_some hz
  subst e
  exact s_eqEngReq _ _ h

def m_e_eqEngReqS_k1  : Option Bool := some true
def m_e_eqEngReqS_l0 (a : List GReq) (b : List GReq) (kx0_0 : Option Bool) : Nat → Int → Option Bool
  | 0, _ => none
  | n0 + 1, s0_0 => if decide (s0_0 < (a.length : Int)) = true then ((getI a s0_0).bind fun x3 => ((getI b s0_0).bind fun x4 => ((m_eqEngReq x3 x4).bind fun x5 => (if x5 = true then (gd (ok64 (s0_0 + 1)) ((m_e_eqEngReqS_l0 a b kx0_0 n0) (s0_0 + 1))) else (some false))))) else (kx0_0)
def m_e_eqEngReqS (a : List GReq) (b : List GReq) : Option Bool := if decide ((a.length : Int) = (b.length : Int)) = true then (m_e_eqEngReqS_l0 a b m_e_eqEngReqS_k1 FUEL 0) else (some false)
def k_e_eqEngReqS : Con := ⟨15, [.v (.sl (.s .req)) false, .v (.sl (.s .req)) false], [(.B, true)], [], fun x => m_e_eqEngReqS x.1 x.2.1⟩
def f_e_eqEngReqS : Fs := ⟨[k_eqEngReq], []⟩
theorem g_e_eqEngReqS : f_e_eqEngReqS.Ok Try.prog := (fsK o_eqEngReq fs0)
def t_e_eqEngReqS_0 : Tmpl := ⟨[(0, .c (.s (.s .req))), (1, .c (.s (.s .req))), (5, .c .i)], []⟩
def x0_e_eqEngReqS_0 : Tmpl := ⟨[], []⟩
def L_e_eqEngReqS_0 (av : AV) (x : HP k_e_eqEngReqS.ps) (n : Nat) (v : t_e_eqEngReqS_0.den) (K : Ks (CR k_e_eqEngReqS)) : Option (CR k_e_eqEngReqS) := m_e_eqEngReqS_l0 v.1.1 v.1.2.1 (x0_e_eqEngReqS_0.at none ((), ()) (K (.exit 0))) n v.1.2.2.1
def h_e_eqEngReqS_0 (av : AV) (x : HP k_e_eqEngReqS.ps) : Hdl (CR k_e_eqEngReqS) := hnd [] t_e_eqEngReqS_0 (L_e_eqEngReqS_0 av x)
theorem l_e_eqEngReqS_0 : LP k_e_eqEngReqS Try.f15 [0] h_e_eqEngReqS_0 := lp_ok (W := []) (H := []) (xs := [x0_e_eqEngReqS_0]) g_e_eqEngReqS trivial rfl (fun av x v K => by kernel_rfl) (fun av x n v K => by kernel_rfl)
theorem o_e_eqEngReqS : k_e_eqEngReqS.Ok Try.prog := fn_ok (k := k_e_eqEngReqS) (fn := Try.f15) (W := []) (H := [h_e_eqEngReqS_0]) Try.func15 g_e_eqEngReqS ⟨l_e_eqEngReqS_0, trivial⟩ rfl rfl (fun av x => by kernel_rfl)
noncomputable def m_eqEngReqS (a : List GReq) (b : List GReq) : Option Bool := @gd ((a.length ≤ 1048576) ∧ (∀ y ∈ a, GReq.lens (· ≤ 1048576) y) ∧ (∀ y ∈ b, GReq.lens (· ≤ 1048576) y)) (Classical.propDecidable _) _ (some (decide (a = b)))
theorem c_eqEngReqS (a : List GReq) (b : List GReq) (h : (a.length ≤ 1048576) ∧ (∀ y ∈ a, GReq.lens (· ≤ 1048576) y) ∧ (∀ y ∈ b, GReq.lens (· ≤ 1048576) y)) : m_eqEngReqS a b = some (decide (a = b)) := gdC h
theorem s_eqEngReqS (a : List GReq) (b : List GReq) (h : (a.length ≤ 1048576) ∧ (∀ y ∈ a, GReq.lens (· ≤ 1048576) y) ∧ (∀ y ∈ b, GReq.lens (· ≤ 1048576) y)) : m_e_eqEngReqS a b = some (decide (a = b)) := by
  have hl := h.1
  refine eq_len fun hab => eq_gen (f := m_e_eqEngReqS_l0 a b m_e_eqEngReqS_k1) (by omega) hab (fun n i hi hj => ?_) (fun n => ?_)
  · rw [m_e_eqEngReqS_l0, if_pos (decide_eq_true (Int.ofNat_lt.2 hi)), getI_lt hi, Option.bind_some, getI_lt hj, Option.bind_some, c_eqEngReq _ _ ⟨h.2.1 _ (List.getElem_mem _), h.2.2 _ (List.getElem_mem _)⟩, Option.bind_some, gd_pos (ok64i hi h.1)]; rfl
  · rw [m_e_eqEngReqS_l0, if_neg (by simp)]; rfl
noncomputable def k_eqEngReqS : Con := ⟨15, [.v (.sl (.s .req)) false, .v (.sl (.s .req)) false], [(.B, true)], [], fun x => m_eqEngReqS x.1 x.2.1⟩
theorem o_eqEngReqS : k_eqEngReqS.Ok Try.prog := con_sub o_e_eqEngReqS fun x z hz => by
  obtain ⟨h, e⟩ := gdC_some hz
  subst e
  exact s_eqEngReqS _ _ h

def m_spec_l1In (n : Int) (low : Int) (high : Int) : Option Bool := if decide (low ≤ n) = true then (some (decide (n ≤ high))) else (some false)
def k_spec_l1In : Con := ⟨93, [.v .I false, .v .I false, .v .I false], [(.B, true)], [], fun x => m_spec_l1In x.1 x.2.1 x.2.2.1⟩
def f_spec_l1In : Fs := ⟨[], []⟩
theorem g_spec_l1In : f_spec_l1In.Ok Try.prog := fs0
theorem o_spec_l1In : k_spec_l1In.Ok Try.prog := fn_ok (k := k_spec_l1In) (fn := Try.f93) (W := []) (H := []) Try.func93 g_spec_l1In trivial rfl rfl (fun av x => by kernel_rfl)

def m_spec_DatOk_k1  : Option Bool := some true
def m_spec_DatOk_l0 (data : List Int) (kx0_0 : Option Bool) : Nat → Int → Option Bool
  | 0, _ => none
  | n0 + 1, s0_0 => if decide (s0_0 < (data.length : Int)) = true then ((getI data s0_0).bind fun x3 => ((m_spec_l1In x3 (-99) 99).bind fun x4 => (if x4 = true then (gd (ok64 (s0_0 + 1)) ((m_spec_DatOk_l0 data kx0_0 n0) (s0_0 + 1))) else (some false)))) else (kx0_0)
def m_spec_DatOk (data : List Int) : Option Bool := if decide ((data.length : Int) = 3) = true then (m_spec_DatOk_l0 data m_spec_DatOk_k1 FUEL 0) else (some false)
def k_spec_DatOk : Con := ⟨104, [.v (.sl .I) false], [(.B, true)], [], fun x => m_spec_DatOk x.1⟩
def f_spec_DatOk : Fs := ⟨[k_spec_l1In], []⟩
theorem g_spec_DatOk : f_spec_DatOk.Ok Try.prog := (fsK o_spec_l1In fs0)
def t_spec_DatOk_0 : Tmpl := ⟨[(0, .c (.s .I)), (3, .c .i)], []⟩
def x0_spec_DatOk_0 : Tmpl := ⟨[], []⟩
def L_spec_DatOk_0 (av : AV) (x : HP k_spec_DatOk.ps) (n : Nat) (v : t_spec_DatOk_0.den) (K : Ks (CR k_spec_DatOk)) : Option (CR k_spec_DatOk) := m_spec_DatOk_l0 v.1.1 (x0_spec_DatOk_0.at none ((), ()) (K (.exit 0))) n v.1.2.1
def h_spec_DatOk_0 (av : AV) (x : HP k_spec_DatOk.ps) : Hdl (CR k_spec_DatOk) := hnd [] t_spec_DatOk_0 (L_spec_DatOk_0 av x)
theorem l_spec_DatOk_0 : LP k_spec_DatOk Try.f104 [0] h_spec_DatOk_0 := lp_ok (W := []) (H := []) (xs := [x0_spec_DatOk_0]) g_spec_DatOk trivial rfl (fun av x v K => by kernel_rfl) (fun av x n v K => by kernel_rfl)
theorem o_spec_DatOk : k_spec_DatOk.Ok Try.prog := fn_ok (k := k_spec_DatOk) (fn := Try.f104) (W := []) (H := [h_spec_DatOk_0]) Try.func104 g_spec_DatOk ⟨l_spec_DatOk_0, trivial⟩ rfl rfl (fun av x => by kernel_rfl)

def m_spec_ExpOk (e : GAsk) : Option Bool := if decide (e.op = 0) = true then (some (decide ([e.op, e.var, e.k] = [0, 0, 0]))) else ((m_spec_l1In e.op 1 3).bind fun x2 => (if x2 = true then ((m_spec_l1In e.var 0 2).bind fun x4 => (if x4 = true then ((m_spec_l1In e.k (-99) 99).bind fun x6 => (some x6)) else (some false))) else (some false)))
def k_spec_ExpOk : Con := ⟨103, [.v (.s .ask) false], [(.B, true)], [], fun x => m_spec_ExpOk x.1⟩
def f_spec_ExpOk : Fs := ⟨[k_spec_l1In], []⟩
theorem g_spec_ExpOk : f_spec_ExpOk.Ok Try.prog := (fsK o_spec_l1In fs0)
theorem o_spec_ExpOk : k_spec_ExpOk.Ok Try.prog := fn_ok (k := k_spec_ExpOk) (fn := Try.f103) (W := []) (H := []) Try.func103 g_spec_ExpOk trivial rfl rfl (fun av x => by kernel_rfl)

def m_impl_in (n : Int) (low : Int) (high : Int) : Option Bool := if decide (low ≤ n) = true then (some (decide (n ≤ high))) else (some false)
def k_impl_in : Con := ⟨52, [.v .I false, .v .I false, .v .I false], [(.B, true)], [], fun x => m_impl_in x.1 x.2.1 x.2.2.1⟩
def f_impl_in : Fs := ⟨[], []⟩
theorem g_impl_in : f_impl_in.Ok Try.prog := fs0
theorem o_impl_in : k_impl_in.Ok Try.prog := fn_ok (k := k_impl_in) (fn := Try.f52) (W := []) (H := []) Try.func52 g_impl_in trivial rfl rfl (fun av x => by kernel_rfl)

def m_impl_isDatum (n : Int) : Option Bool := (m_impl_in n (-99) 99).bind fun x1 => (some x1)
def k_impl_isDatum : Con := ⟨96, [.v .I false], [(.B, true)], [], fun x => m_impl_isDatum x.1⟩
def f_impl_isDatum : Fs := ⟨[k_impl_in], []⟩
theorem g_impl_isDatum : f_impl_isDatum.Ok Try.prog := (fsK o_impl_in fs0)
theorem o_impl_isDatum : k_impl_isDatum.Ok Try.prog := fn_ok (k := k_impl_isDatum) (fn := Try.f96) (W := []) (H := []) Try.func96 g_impl_isDatum trivial rfl rfl (fun av x => by kernel_rfl)

def m_impl_ExpOk (e : GAsk) : Option Bool := if decide (e.op = 0) = true then (if decide (e.var = 0) = true then (some (decide (e.k = 0))) else (some false)) else ((m_impl_in e.op 1 3).bind fun x3 => (if x3 = true then ((m_impl_in e.var 0 2).bind fun x5 => (if x5 = true then ((m_impl_isDatum e.k).bind fun x7 => (some x7)) else (some false))) else (some false)))
def k_impl_ExpOk : Con := ⟨106, [.v (.s .ask) false], [(.B, true)], [], fun x => m_impl_ExpOk x.1⟩
def f_impl_ExpOk : Fs := ⟨[k_impl_in, k_impl_isDatum], []⟩
theorem g_impl_ExpOk : f_impl_ExpOk.Ok Try.prog := (fsK o_impl_in (fsK o_impl_isDatum fs0))
theorem o_impl_ExpOk : k_impl_ExpOk.Ok Try.prog := fn_ok (k := k_impl_ExpOk) (fn := Try.f106) (W := []) (H := []) Try.func106 g_impl_ExpOk trivial rfl rfl (fun av x => by kernel_rfl)

def m_impl_isAnswer (ans : Int) : Option Bool := (m_impl_in ans 0 2).bind fun x1 => (some x1)
def k_impl_isAnswer : Con := ⟨107, [.v .I false], [(.B, true)], [], fun x => m_impl_isAnswer x.1⟩
def f_impl_isAnswer : Fs := ⟨[k_impl_in], []⟩
theorem g_impl_isAnswer : f_impl_isAnswer.Ok Try.prog := (fsK o_impl_in fs0)
theorem o_impl_isAnswer : k_impl_isAnswer.Ok Try.prog := fn_ok (k := k_impl_isAnswer) (fn := Try.f107) (W := []) (H := []) Try.func107 g_impl_isAnswer trivial rfl rfl (fun av x => by kernel_rfl)

def m_spec_l9Form (r : GReq) : Option GReq := if decide (r.kind = 1) = true then (some (GReq.mk r.kind 0 0 0 0 0 r.data (GAsk.mk 0 0 0) 0)) else (if decide (r.kind = 2) = true then (some (GReq.mk r.kind r.who r.case r.task 0 0 [] (GAsk.mk 0 0 0) 0)) else (if decide (r.kind = 3) = true then (some (GReq.mk r.kind 0 r.case r.task r.var r.num [] (GAsk.mk 0 0 0) 0)) else (if decide (r.kind = 4) = true then (some (GReq.mk r.kind 0 r.case 0 0 0 [] (GAsk.mk 0 0 0) 0)) else (if decide (r.kind = 5) = true then (some (GReq.mk r.kind 0 0 0 0 0 r.data r.if_ r.ans)) else (some (GReq.mk r.kind 0 0 0 0 0 [] (GAsk.mk 0 0 0) 0))))))
def k_spec_l9Form : Con := ⟨102, [.v (.s .req) false], [((.s .req), false)], [], fun x => m_spec_l9Form x.1⟩
def f_spec_l9Form : Fs := ⟨[], []⟩
theorem g_spec_l9Form : f_spec_l9Form.Ok Try.prog := fs0
theorem o_spec_l9Form : k_spec_l9Form.Ok Try.prog := fn_ok (k := k_spec_l9Form) (fn := Try.f102) (W := []) (H := []) Try.func102 g_spec_l9Form trivial rfl rfl (fun av x => by kernel_rfl)

def m_spec_l9Same_k1 (a : GReq) (b : GReq) : Option Bool := if decide (a.kind = b.kind) = true then (if decide (a.who = b.who) = true then (if decide (a.case = b.case) = true then (if decide (a.task = b.task) = true then (if decide (a.var = b.var) = true then (if decide (a.num = b.num) = true then (if decide ([a.if_.op, a.if_.var, a.if_.k] = [b.if_.op, b.if_.var, b.if_.k]) = true then (some (decide (a.ans = b.ans))) else (some false)) else (some false)) else (some false)) else (some false)) else (some false)) else (some false)) else (some false)
def m_spec_l9Same_l0 (a : GReq) (b : GReq) (kx0_0 : Option Bool) : Nat → Int → Option Bool
  | 0, _ => none
  | n0 + 1, s0_0 => if decide (s0_0 < (a.data.length : Int)) = true then ((getI a.data s0_0).bind fun x3 => ((getI b.data s0_0).bind fun x4 => (if decide (x3 = x4) = true then (gd (ok64 (s0_0 + 1)) ((m_spec_l9Same_l0 a b kx0_0 n0) (s0_0 + 1))) else (some false)))) else (kx0_0)
def m_spec_l9Same (a : GReq) (b : GReq) : Option Bool := if decide ((a.data.length : Int) = (b.data.length : Int)) = true then (m_spec_l9Same_l0 a b (m_spec_l9Same_k1 a b) FUEL 0) else (some false)
def k_spec_l9Same : Con := ⟨101, [.v (.s .req) false, .v (.s .req) false], [(.B, true)], [], fun x => m_spec_l9Same x.1 x.2.1⟩
def f_spec_l9Same : Fs := ⟨[], []⟩
theorem g_spec_l9Same : f_spec_l9Same.Ok Try.prog := fs0
def t_spec_l9Same_0 : Tmpl := ⟨[(2, .c (.bx 2 0)), (3, .c (.bx 3 0)), (5, .c .i)], [(2, .boxT (.s .req)), (3, .boxT (.s .req))]⟩
def x0_spec_l9Same_0 : Tmpl := ⟨[(2, .c (.bx 2 0)), (3, .c (.bx 3 0))], [(2, .boxT (.s .req)), (3, .boxT (.s .req))]⟩
def L_spec_l9Same_0 (av : AV) (x : HP k_spec_l9Same.ps) (n : Nat) (v : t_spec_l9Same_0.den) (K : Ks (CR k_spec_l9Same)) : Option (CR k_spec_l9Same) := m_spec_l9Same_l0 v.2.1 v.2.2.1 (x0_spec_l9Same_0.at none (((), (), ()), (v.2.1, v.2.2.1, ())) (K (.exit 0))) n v.1.2.2.1
def h_spec_l9Same_0 (av : AV) (x : HP k_spec_l9Same.ps) : Hdl (CR k_spec_l9Same) := hnd [] t_spec_l9Same_0 (L_spec_l9Same_0 av x)
theorem l_spec_l9Same_0 : LP k_spec_l9Same Try.f101 [0] h_spec_l9Same_0 := lp_ok (W := []) (H := []) (xs := [x0_spec_l9Same_0]) g_spec_l9Same trivial rfl (fun av x v K => by kernel_rfl) (fun av x n v K => by kernel_rfl)
theorem o_spec_l9Same : k_spec_l9Same.Ok Try.prog := fn_ok (k := k_spec_l9Same) (fn := Try.f101) (W := []) (H := [h_spec_l9Same_0]) Try.func101 g_spec_l9Same ⟨l_spec_l9Same_0, trivial⟩ rfl rfl (fun av x => by kernel_rfl)

def m_spec_EngReqOk (r : GReq) : Option Bool := (m_spec_l1In r.kind 1 5).bind fun x1 => (if x1 = true then ((m_spec_l9Form r).bind fun x3 => ((m_spec_l9Same r x3).bind fun x4 => (if x4 = true then ((m_spec_l1In r.who 0 4).bind fun x6 => (if x6 = true then ((m_spec_l1In r.case 0 4).bind fun x8 => (if x8 = true then ((m_spec_l1In r.task 0 5).bind fun x10 => (if x10 = true then ((m_spec_l1In r.var (-1) 2).bind fun x12 => (if x12 = true then ((m_spec_l1In r.num (-99) 99).bind fun x14 => (if x14 = true then ((m_spec_ExpOk r.if_).bind fun x16 => (if x16 = true then ((m_spec_l1In r.ans 0 2).bind fun x18 => (if x18 = true then (if decide (r.kind = 1) = true then ((m_spec_DatOk r.data).bind fun x21 => (some (true == x21))) else ((m_spec_DatOk r.data).bind fun x22 => (some ((decide (r.kind = 5)) == x22)))) else (some false))) else (some false))) else (some false))) else (some false))) else (some false))) else (some false))) else (some false))) else (some false)))) else (some false))
def k_spec_EngReqOk : Con := ⟨54, [.v (.s .req) false], [(.B, true)], [], fun x => m_spec_EngReqOk x.1⟩
def f_spec_EngReqOk : Fs := ⟨[k_spec_l1In, k_spec_l9Form, k_spec_l9Same, k_spec_ExpOk, k_spec_DatOk], []⟩
theorem g_spec_EngReqOk : f_spec_EngReqOk.Ok Try.prog := (fsK o_spec_l1In (fsK o_spec_l9Form (fsK o_spec_l9Same (fsK o_spec_ExpOk (fsK o_spec_DatOk fs0)))))
theorem o_spec_EngReqOk : k_spec_EngReqOk.Ok Try.prog := fn_ok (k := k_spec_EngReqOk) (fn := Try.f54) (W := []) (H := []) Try.func54 g_spec_EngReqOk trivial rfl rfl (fun av x => by kernel_rfl)

def m_spec_LogOk_k1  : Option Bool := some true
def m_spec_LogOk_l0 (log : List GReq) (kx0_0 : Option Bool) : Nat → Int → Option Bool
  | 0, _ => none
  | n0 + 1, s0_0 => if decide (s0_0 < (log.length : Int)) = true then ((getI log s0_0).bind fun x3 => ((m_spec_EngReqOk x3).bind fun x4 => (if x4 = true then (gd (ok64 (s0_0 + 1)) ((m_spec_LogOk_l0 log kx0_0 n0) (s0_0 + 1))) else (some false)))) else (kx0_0)
def m_spec_LogOk (log : List GReq) : Option Bool := if decide (150 < (log.length : Int)) = true then (some false) else (m_spec_LogOk_l0 log m_spec_LogOk_k1 FUEL 0)
def k_spec_LogOk : Con := ⟨20, [.v (.sl (.s .req)) false], [(.B, true)], [], fun x => m_spec_LogOk x.1⟩
def f_spec_LogOk : Fs := ⟨[k_spec_EngReqOk], []⟩
theorem g_spec_LogOk : f_spec_LogOk.Ok Try.prog := (fsK o_spec_EngReqOk fs0)
def t_spec_LogOk_0 : Tmpl := ⟨[(0, .c (.s (.s .req))), (3, .c .i)], []⟩
def x0_spec_LogOk_0 : Tmpl := ⟨[], []⟩
def L_spec_LogOk_0 (av : AV) (x : HP k_spec_LogOk.ps) (n : Nat) (v : t_spec_LogOk_0.den) (K : Ks (CR k_spec_LogOk)) : Option (CR k_spec_LogOk) := m_spec_LogOk_l0 v.1.1 (x0_spec_LogOk_0.at none ((), ()) (K (.exit 0))) n v.1.2.1
def h_spec_LogOk_0 (av : AV) (x : HP k_spec_LogOk.ps) : Hdl (CR k_spec_LogOk) := hnd [] t_spec_LogOk_0 (L_spec_LogOk_0 av x)
theorem l_spec_LogOk_0 : LP k_spec_LogOk Try.f20 [0] h_spec_LogOk_0 := lp_ok (W := []) (H := []) (xs := [x0_spec_LogOk_0]) g_spec_LogOk trivial rfl (fun av x v K => by kernel_rfl) (fun av x n v K => by kernel_rfl)
theorem o_spec_LogOk : k_spec_LogOk.Ok Try.prog := fn_ok (k := k_spec_LogOk) (fn := Try.f20) (W := []) (H := [h_spec_LogOk_0]) Try.func20 g_spec_LogOk ⟨l_spec_LogOk_0, trivial⟩ rfl rfl (fun av x => by kernel_rfl)

def m_IndexFunc_I_k1  : Option Int := some (-1)
def m_IndexFunc_I_l0 (s : List Int) (p : Int → Option Bool) (p0_0 : Int) (kx0_0 : Option Int) : Nat → Int → Option Int
  | 0, _ => none
  | n0 + 1, s0_0 => if decide (s0_0 < p0_0) = true then ((getI s s0_0).bind fun x2 => ((p x2).bind fun x3 => (if x3 = true then (some s0_0) else (gd (ok64 (s0_0 + 1)) ((m_IndexFunc_I_l0 s p p0_0 kx0_0 n0) (s0_0 + 1)))))) else (kx0_0)
def m_IndexFunc_I (s : List Int) (p : Int → Option Bool) : Option Int := m_IndexFunc_I_l0 s p (s.length : Int) m_IndexFunc_I_k1 FUEL 0
def k_IndexFunc_I : Con := ⟨141, [.v (.sl .I) false, .fn .I], [(.I, true)], [], fun x => m_IndexFunc_I x.1 x.2.1⟩
def f_IndexFunc_I : Fs := ⟨[], []⟩
theorem g_IndexFunc_I : f_IndexFunc_I.Ok Try.prog := fs0
def t_IndexFunc_I_0 : Tmpl := ⟨[(0, .c (.s .I)), (1, .c .fp), (7, .c .i), (8, .c .i)], []⟩
def x0_IndexFunc_I_0 : Tmpl := ⟨[], []⟩
def L_IndexFunc_I_0 (av : AV) (x : HP k_IndexFunc_I.ps) (n : Nat) (v : t_IndexFunc_I_0.den) (K : Ks (CR k_IndexFunc_I)) : Option (CR k_IndexFunc_I) := m_IndexFunc_I_l0 v.1.1 x.2.1 v.1.2.2.1 (x0_IndexFunc_I_0.at (fpOf k_IndexFunc_I.ps x av) ((), ()) (K (.exit 0))) n v.1.2.2.2.1
def h_IndexFunc_I_0 (av : AV) (x : HP k_IndexFunc_I.ps) : Hdl (CR k_IndexFunc_I) := hnd [] t_IndexFunc_I_0 (L_IndexFunc_I_0 av x)
theorem l_IndexFunc_I_0 : LP k_IndexFunc_I Try.f141 [0] h_IndexFunc_I_0 := lp_ok (W := []) (H := []) (xs := [x0_IndexFunc_I_0]) g_IndexFunc_I trivial rfl (fun av x v K => by kernel_rfl) (fun av x n v K => by kernel_rfl)
theorem o_IndexFunc_I : k_IndexFunc_I.Ok Try.prog := fn_ok (k := k_IndexFunc_I) (fn := Try.f141) (W := []) (H := [h_IndexFunc_I_0]) Try.func141 g_IndexFunc_I ⟨l_IndexFunc_I_0, trivial⟩ rfl rfl (fun av x => by kernel_rfl)

def m_ContainsFunc_I (s : List Int) (p : Int → Option Bool) : Option Bool := (m_IndexFunc_I s p).bind fun x1 => (some (decide (0 ≤ x1)))
def k_ContainsFunc_I : Con := ⟨127, [.v (.sl .I) false, .fn .I], [(.B, true)], [], fun x => m_ContainsFunc_I x.1 x.2.1⟩
def f_ContainsFunc_I : Fs := ⟨[k_IndexFunc_I], []⟩
theorem g_ContainsFunc_I : f_ContainsFunc_I.Ok Try.prog := (fsK o_IndexFunc_I fs0)
theorem o_ContainsFunc_I : k_ContainsFunc_I.Ok Try.prog := fn_ok (k := k_ContainsFunc_I) (fn := Try.f127) (W := []) (H := []) Try.func127 g_ContainsFunc_I trivial rfl rfl (fun av x => by kernel_rfl)

def m_IndexFunc_GReq_k1  : Option Int := some (-1)
def m_IndexFunc_GReq_l0 (s : List GReq) (p : GReq → Option Bool) (p0_0 : Int) (kx0_0 : Option Int) : Nat → Int → Option Int
  | 0, _ => none
  | n0 + 1, s0_0 => if decide (s0_0 < p0_0) = true then ((getI s s0_0).bind fun x2 => ((p x2).bind fun x3 => (if x3 = true then (some s0_0) else (gd (ok64 (s0_0 + 1)) ((m_IndexFunc_GReq_l0 s p p0_0 kx0_0 n0) (s0_0 + 1)))))) else (kx0_0)
def m_IndexFunc_GReq (s : List GReq) (p : GReq → Option Bool) : Option Int := m_IndexFunc_GReq_l0 s p (s.length : Int) m_IndexFunc_GReq_k1 FUEL 0
def k_IndexFunc_GReq : Con := ⟨105, [.v (.sl (.s .req)) false, .fn (.s .req)], [(.I, true)], [], fun x => m_IndexFunc_GReq x.1 x.2.1⟩
def f_IndexFunc_GReq : Fs := ⟨[], []⟩
theorem g_IndexFunc_GReq : f_IndexFunc_GReq.Ok Try.prog := fs0
def t_IndexFunc_GReq_0 : Tmpl := ⟨[(0, .c (.s (.s .req))), (1, .c .fp), (7, .c .i), (8, .c .i)], []⟩
def x0_IndexFunc_GReq_0 : Tmpl := ⟨[], []⟩
def L_IndexFunc_GReq_0 (av : AV) (x : HP k_IndexFunc_GReq.ps) (n : Nat) (v : t_IndexFunc_GReq_0.den) (K : Ks (CR k_IndexFunc_GReq)) : Option (CR k_IndexFunc_GReq) := m_IndexFunc_GReq_l0 v.1.1 x.2.1 v.1.2.2.1 (x0_IndexFunc_GReq_0.at (fpOf k_IndexFunc_GReq.ps x av) ((), ()) (K (.exit 0))) n v.1.2.2.2.1
def h_IndexFunc_GReq_0 (av : AV) (x : HP k_IndexFunc_GReq.ps) : Hdl (CR k_IndexFunc_GReq) := hnd [] t_IndexFunc_GReq_0 (L_IndexFunc_GReq_0 av x)
theorem l_IndexFunc_GReq_0 : LP k_IndexFunc_GReq Try.f105 [0] h_IndexFunc_GReq_0 := lp_ok (W := []) (H := []) (xs := [x0_IndexFunc_GReq_0]) g_IndexFunc_GReq trivial rfl (fun av x v K => by kernel_rfl) (fun av x n v K => by kernel_rfl)
theorem o_IndexFunc_GReq : k_IndexFunc_GReq.Ok Try.prog := fn_ok (k := k_IndexFunc_GReq) (fn := Try.f105) (W := []) (H := [h_IndexFunc_GReq_0]) Try.func105 g_IndexFunc_GReq ⟨l_IndexFunc_GReq_0, trivial⟩ rfl rfl (fun av x => by kernel_rfl)

def m_ContainsFunc_GReq (s : List GReq) (p : GReq → Option Bool) : Option Bool := (m_IndexFunc_GReq s p).bind fun x1 => (some (decide (0 ≤ x1)))
def k_ContainsFunc_GReq : Con := ⟨55, [.v (.sl (.s .req)) false, .fn (.s .req)], [(.B, true)], [], fun x => m_ContainsFunc_GReq x.1 x.2.1⟩
def f_ContainsFunc_GReq : Fs := ⟨[k_IndexFunc_GReq], []⟩
theorem g_ContainsFunc_GReq : f_ContainsFunc_GReq.Ok Try.prog := (fsK o_IndexFunc_GReq fs0)
theorem o_ContainsFunc_GReq : k_ContainsFunc_GReq.Ok Try.prog := fn_ok (k := k_ContainsFunc_GReq) (fn := Try.f55) (W := []) (H := []) Try.func55 g_ContainsFunc_GReq trivial rfl rfl (fun av x => by kernel_rfl)

def m_IndexFunc_GTask_k1  : Option Int := some (-1)
def m_IndexFunc_GTask_l0 (s : List GTask) (p : GTask → Option Bool) (p0_0 : Int) (kx0_0 : Option Int) : Nat → Int → Option Int
  | 0, _ => none
  | n0 + 1, s0_0 => if decide (s0_0 < p0_0) = true then ((getI s s0_0).bind fun x2 => ((p x2).bind fun x3 => (if x3 = true then (some s0_0) else (gd (ok64 (s0_0 + 1)) ((m_IndexFunc_GTask_l0 s p p0_0 kx0_0 n0) (s0_0 + 1)))))) else (kx0_0)
def m_IndexFunc_GTask (s : List GTask) (p : GTask → Option Bool) : Option Int := m_IndexFunc_GTask_l0 s p (s.length : Int) m_IndexFunc_GTask_k1 FUEL 0

def m_ContainsFunc_GTask (s : List GTask) (p : GTask → Option Bool) : Option Bool := (m_IndexFunc_GTask s p).bind fun x1 => (some (decide (0 ≤ x1)))

def m_IndexFunc_GNet_k1  : Option Int := some (-1)
def m_IndexFunc_GNet_l0 (s : List GNet) (p : GNet → Option Bool) (p0_0 : Int) (kx0_0 : Option Int) : Nat → Int → Option Int
  | 0, _ => none
  | n0 + 1, s0_0 => if decide (s0_0 < p0_0) = true then ((getI s s0_0).bind fun x2 => ((p x2).bind fun x3 => (if x3 = true then (some s0_0) else (gd (ok64 (s0_0 + 1)) ((m_IndexFunc_GNet_l0 s p p0_0 kx0_0 n0) (s0_0 + 1)))))) else (kx0_0)
def m_IndexFunc_GNet (s : List GNet) (p : GNet → Option Bool) : Option Int := m_IndexFunc_GNet_l0 s p (s.length : Int) m_IndexFunc_GNet_k1 FUEL 0

def m_ContainsFunc_GNet (s : List GNet) (p : GNet → Option Bool) : Option Bool := (m_IndexFunc_GNet s p).bind fun x1 => (some (decide (0 ≤ x1)))

def m_IndexFunc_GItem_k1  : Option Int := some (-1)
def m_IndexFunc_GItem_l0 (s : List GItem) (p : GItem → Option Bool) (p0_0 : Int) (kx0_0 : Option Int) : Nat → Int → Option Int
  | 0, _ => none
  | n0 + 1, s0_0 => if decide (s0_0 < p0_0) = true then ((getI s s0_0).bind fun x2 => ((p x2).bind fun x3 => (if x3 = true then (some s0_0) else (gd (ok64 (s0_0 + 1)) ((m_IndexFunc_GItem_l0 s p p0_0 kx0_0 n0) (s0_0 + 1)))))) else (kx0_0)
def m_IndexFunc_GItem (s : List GItem) (p : GItem → Option Bool) : Option Int := m_IndexFunc_GItem_l0 s p (s.length : Int) m_IndexFunc_GItem_k1 FUEL 0

def m_ContainsFunc_GItem (s : List GItem) (p : GItem → Option Bool) : Option Bool := (m_IndexFunc_GItem s p).bind fun x1 => (some (decide (0 ≤ x1)))

def m_Index_I_k1  : Option Int := some (-1)
def m_Index_I_l0 (s : List Int) (v : Int) (p0_0 : Int) (kx0_0 : Option Int) : Nat → Int → Option Int
  | 0, _ => none
  | n0 + 1, s0_0 => if decide (s0_0 < p0_0) = true then ((getI s s0_0).bind fun x2 => (if decide (v = x2) = true then (some s0_0) else (gd (ok64 (s0_0 + 1)) ((m_Index_I_l0 s v p0_0 kx0_0 n0) (s0_0 + 1))))) else (kx0_0)
def m_Index_I (s : List Int) (v : Int) : Option Int := m_Index_I_l0 s v (s.length : Int) m_Index_I_k1 FUEL 0

def m_Contains_I (s : List Int) (v : Int) : Option Bool := (m_Index_I s v).bind fun x1 => (some (decide (0 ≤ x1)))

def m_Equal_I_k1  : Option Bool := some true
def m_Equal_I_l0 (s1 : List Int) (s2 : List Int) (p0_0 : Int) (kx0_0 : Option Bool) : Nat → Int → Option Bool
  | 0, _ => none
  | n0 + 1, s0_0 => if decide (s0_0 < p0_0) = true then ((getI s1 s0_0).bind fun x3 => ((getI s2 s0_0).bind fun x4 => (if decide (x3 = x4) = true then (gd (ok64 (s0_0 + 1)) ((m_Equal_I_l0 s1 s2 p0_0 kx0_0 n0) (s0_0 + 1))) else (some false)))) else (kx0_0)
def m_Equal_I (s1 : List Int) (s2 : List Int) : Option Bool := if decide ((s1.length : Int) = (s2.length : Int)) = true then (m_Equal_I_l0 s1 s2 (s1.length : Int) m_Equal_I_k1 FUEL 0) else (some false)
def k_Equal_I : Con := ⟨136, [.v (.sl .I) false, .v (.sl .I) false], [(.B, true)], [], fun x => m_Equal_I x.1 x.2.1⟩
def f_Equal_I : Fs := ⟨[], []⟩
theorem g_Equal_I : f_Equal_I.Ok Try.prog := fs0
def t_Equal_I_0 : Tmpl := ⟨[(0, .c (.s .I)), (1, .c (.s .I)), (12, .c .i), (13, .c .i)], []⟩
def x0_Equal_I_0 : Tmpl := ⟨[], []⟩
def L_Equal_I_0 (av : AV) (x : HP k_Equal_I.ps) (n : Nat) (v : t_Equal_I_0.den) (K : Ks (CR k_Equal_I)) : Option (CR k_Equal_I) := m_Equal_I_l0 v.1.1 v.1.2.1 v.1.2.2.1 (x0_Equal_I_0.at none ((), ()) (K (.exit 0))) n v.1.2.2.2.1
def h_Equal_I_0 (av : AV) (x : HP k_Equal_I.ps) : Hdl (CR k_Equal_I) := hnd [] t_Equal_I_0 (L_Equal_I_0 av x)
theorem l_Equal_I_0 : LP k_Equal_I Try.f136 [0] h_Equal_I_0 := lp_ok (W := []) (H := []) (xs := [x0_Equal_I_0]) g_Equal_I trivial rfl (fun av x v K => by kernel_rfl) (fun av x n v K => by kernel_rfl)
theorem o_Equal_I : k_Equal_I.Ok Try.prog := fn_ok (k := k_Equal_I) (fn := Try.f136) (W := []) (H := [h_Equal_I_0]) Try.func136 g_Equal_I ⟨l_Equal_I_0, trivial⟩ rfl rfl (fun av x => by kernel_rfl)

def m_impl_DatOk_1 (n : Int) : Option Bool := (m_impl_isDatum n).bind fun x1 => (some (!x1))
def q_impl_DatOk_1 : FCon := ⟨135, .I, [], fun z c => m_impl_DatOk_1 z ⟩
def f_impl_DatOk_1 : Fs := ⟨[k_impl_isDatum], []⟩
theorem g_impl_DatOk_1 : f_impl_DatOk_1.Ok Try.prog := (fsK o_impl_isDatum fs0)
theorem o_impl_DatOk_1 : q_impl_DatOk_1.Ok Try.prog := FCon.ok (fn_ok (k := q_impl_DatOk_1.con) (fn := Try.f135) (W := []) (H := []) Try.func135 g_impl_DatOk_1 trivial rfl rfl (fun av x => by kernel_rfl))

def m_impl_DatOk (data : List Int) : Option Bool := if decide ((data.length : Int) = 3) = true then ((m_ContainsFunc_I data (fun z => m_impl_DatOk_1 z )).bind fun x2 => (some (!x2))) else (some false)
def k_impl_DatOk : Con := ⟨108, [.v (.sl .I) false], [(.B, true)], [], fun x => m_impl_DatOk x.1⟩
def f_impl_DatOk : Fs := ⟨[k_ContainsFunc_I], [q_impl_DatOk_1]⟩
theorem g_impl_DatOk : f_impl_DatOk.Ok Try.prog := (fsK o_ContainsFunc_I (fsF o_impl_DatOk_1 fs0))
theorem o_impl_DatOk : k_impl_DatOk.Ok Try.prog := fn_ok (k := k_impl_DatOk) (fn := Try.f108) (W := []) (H := []) Try.func108 g_impl_DatOk trivial rfl rfl (fun av x => by kernel_rfl)

def m_impl_EngReq_same (r : GReq) (s : GReq) : Option Bool := if decide (r.kind = s.kind) = true then (if decide (r.who = s.who) = true then (if decide (r.case = s.case) = true then (if decide (r.task = s.task) = true then (if decide (r.var = s.var) = true then (if decide (r.num = s.num) = true then (if decide ([r.if_.op, r.if_.var, r.if_.k] = [s.if_.op, s.if_.var, s.if_.k]) = true then (if decide (r.ans = s.ans) = true then ((m_Equal_I r.data s.data).bind fun x9 => (some x9)) else (some false)) else (some false)) else (some false)) else (some false)) else (some false)) else (some false)) else (some false)) else (some false)
def k_impl_EngReq_same : Con := ⟨109, [.v (.s .req) false, .v (.s .req) false], [(.B, true)], [], fun x => m_impl_EngReq_same x.1 x.2.1⟩
def f_impl_EngReq_same : Fs := ⟨[k_Equal_I], []⟩
theorem g_impl_EngReq_same : f_impl_EngReq_same.Ok Try.prog := (fsK o_Equal_I fs0)
theorem o_impl_EngReq_same : k_impl_EngReq_same.Ok Try.prog := fn_ok (k := k_impl_EngReq_same) (fn := Try.f109) (W := []) (H := []) Try.func109 g_impl_EngReq_same trivial rfl rfl (fun av x => by kernel_rfl)

def m_impl_EngReq_named (r : GReq) : Option GReq := if decide (r.kind = 1) = true then (some (GReq.mk r.kind 0 0 0 0 0 r.data (GAsk.mk 0 0 0) 0)) else (if decide (r.kind = 2) = true then (some (GReq.mk r.kind r.who r.case r.task 0 0 [] (GAsk.mk 0 0 0) 0)) else (if decide (r.kind = 3) = true then (some (GReq.mk r.kind 0 r.case r.task r.var r.num [] (GAsk.mk 0 0 0) 0)) else (if decide (r.kind = 4) = true then (some (GReq.mk r.kind 0 r.case 0 0 0 [] (GAsk.mk 0 0 0) 0)) else (some (GReq.mk r.kind 0 0 0 0 0 r.data r.if_ r.ans)))))
def k_impl_EngReq_named : Con := ⟨110, [.v (.s .req) false], [((.s .req), false)], [], fun x => m_impl_EngReq_named x.1⟩
def f_impl_EngReq_named : Fs := ⟨[], []⟩
theorem g_impl_EngReq_named : f_impl_EngReq_named.Ok Try.prog := fs0
theorem o_impl_EngReq_named : k_impl_EngReq_named.Ok Try.prog := fn_ok (k := k_impl_EngReq_named) (fn := Try.f110) (W := []) (H := []) Try.func110 g_impl_EngReq_named trivial rfl rfl (fun av x => by kernel_rfl)

def m_impl_EngReqOk (r : GReq) : Option Bool := if decide (r.kind = 1) = true then ((m_impl_in r.kind 1 5).bind fun x2 => (if x2 = true then ((m_impl_in r.who 0 4).bind fun x4 => (if x4 = true then ((m_impl_in r.case 0 4).bind fun x6 => (if x6 = true then ((m_impl_in r.task 0 5).bind fun x8 => (if x8 = true then ((m_impl_in r.var (-1) 2).bind fun x10 => (if x10 = true then ((m_impl_isDatum r.num).bind fun x12 => (if x12 = true then ((m_impl_ExpOk r.if_).bind fun x14 => (if x14 = true then ((m_impl_isAnswer r.ans).bind fun x16 => (if x16 = true then ((m_impl_DatOk r.data).bind fun x18 => (if (x18 == true) = true then ((m_impl_EngReq_named r).bind fun x20 => ((m_impl_EngReq_same r x20).bind fun x21 => (some x21))) else (some false))) else (some false))) else (some false))) else (some false))) else (some false))) else (some false))) else (some false))) else (some false))) else (some false))) else ((m_impl_in r.kind 1 5).bind fun x22 => (if x22 = true then ((m_impl_in r.who 0 4).bind fun x24 => (if x24 = true then ((m_impl_in r.case 0 4).bind fun x26 => (if x26 = true then ((m_impl_in r.task 0 5).bind fun x28 => (if x28 = true then ((m_impl_in r.var (-1) 2).bind fun x30 => (if x30 = true then ((m_impl_isDatum r.num).bind fun x32 => (if x32 = true then ((m_impl_ExpOk r.if_).bind fun x34 => (if x34 = true then ((m_impl_isAnswer r.ans).bind fun x36 => (if x36 = true then ((m_impl_DatOk r.data).bind fun x38 => (if (x38 == (decide (r.kind = 5))) = true then ((m_impl_EngReq_named r).bind fun x40 => ((m_impl_EngReq_same r x40).bind fun x41 => (some x41))) else (some false))) else (some false))) else (some false))) else (some false))) else (some false))) else (some false))) else (some false))) else (some false))) else (some false)))
def k_impl_EngReqOk : Con := ⟨57, [.v (.s .req) false], [(.B, true)], [], fun x => m_impl_EngReqOk x.1⟩
def f_impl_EngReqOk : Fs := ⟨[k_impl_in, k_impl_isDatum, k_impl_ExpOk, k_impl_isAnswer, k_impl_DatOk, k_impl_EngReq_named, k_impl_EngReq_same], []⟩
theorem g_impl_EngReqOk : f_impl_EngReqOk.Ok Try.prog := (fsK o_impl_in (fsK o_impl_isDatum (fsK o_impl_ExpOk (fsK o_impl_isAnswer (fsK o_impl_DatOk (fsK o_impl_EngReq_named (fsK o_impl_EngReq_same fs0)))))))
theorem o_impl_EngReqOk : k_impl_EngReqOk.Ok Try.prog := fn_ok (k := k_impl_EngReqOk) (fn := Try.f57) (W := []) (H := []) Try.func57 g_impl_EngReqOk trivial rfl rfl (fun av x => by kernel_rfl)

def m_impl_LogOk_1 (r : GReq) : Option Bool := (m_impl_EngReqOk r).bind fun x1 => (some (!x1))
def q_impl_LogOk_1 : FCon := ⟨56, (.s .req), [], fun z c => m_impl_LogOk_1 z ⟩
def f_impl_LogOk_1 : Fs := ⟨[k_impl_EngReqOk], []⟩
theorem g_impl_LogOk_1 : f_impl_LogOk_1.Ok Try.prog := (fsK o_impl_EngReqOk fs0)
theorem o_impl_LogOk_1 : q_impl_LogOk_1.Ok Try.prog := FCon.ok (fn_ok (k := q_impl_LogOk_1.con) (fn := Try.f56) (W := []) (H := []) Try.func56 g_impl_LogOk_1 trivial rfl rfl (fun av x => by kernel_rfl))

def m_impl_LogOk (log : List GReq) : Option Bool := if decide ((log.length : Int) ≤ 150) = true then ((m_ContainsFunc_GReq log (fun z => m_impl_LogOk_1 z )).bind fun x2 => (some (!x2))) else (some false)
def k_impl_LogOk : Con := ⟨21, [.v (.sl (.s .req)) false], [(.B, true)], [], fun x => m_impl_LogOk x.1⟩
def f_impl_LogOk : Fs := ⟨[k_ContainsFunc_GReq], [q_impl_LogOk_1]⟩
theorem g_impl_LogOk : f_impl_LogOk.Ok Try.prog := (fsK o_ContainsFunc_GReq (fsF o_impl_LogOk_1 fs0))
theorem o_impl_LogOk : k_impl_LogOk.Ok Try.prog := fn_ok (k := k_impl_LogOk) (fn := Try.f21) (W := []) (H := []) Try.func21 g_impl_LogOk trivial rfl rfl (fun av x => by kernel_rfl)

def m_laws_FnExactLogOk (aLog : List GReq) : Option Bool := (m_szEngReqS aLog 1048576).bind fun x1 => (if decide (x1 < 0) = true then (some true) else ((m_toEngReqS aLog).bind fun x3 => ((m_spec_LogOk x3).bind fun x4 => ((m_toEngReqS aLog).bind fun x5 => ((m_impl_LogOk x5).bind fun x6 => (if (x6 == x4) = true then ((m_toEngReqS aLog).bind fun x8 => ((m_eqEngReqS x5 x8).bind fun x9 => (if x9 = true then (some true) else (some false)))) else (some false)))))))
def k_laws_FnExactLogOk : Con := ⟨5, [.v (.sl (.s .req)) false], [(.B, true)], [], fun x => m_laws_FnExactLogOk x.1⟩
def f_laws_FnExactLogOk : Fs := ⟨[k_szEngReqS, k_toEngReqS, k_spec_LogOk, k_impl_LogOk, k_eqEngReqS], []⟩
theorem g_laws_FnExactLogOk : f_laws_FnExactLogOk.Ok Try.prog := (fsK o_szEngReqS (fsK o_toEngReqS (fsK o_spec_LogOk (fsK o_impl_LogOk (fsK o_eqEngReqS fs0)))))
theorem o_laws_FnExactLogOk : k_laws_FnExactLogOk.Ok Try.prog := fn_ok (k := k_laws_FnExactLogOk) (fn := Try.f5) (W := []) (H := []) Try.func5 g_laws_FnExactLogOk trivial rfl rfl (fun av x => by kernel_rfl)

end
end Go.Am
