/- Mirrors and contracts, printed. Own work. -/
import Derived.Test.YtcbpckbehdaloaaGreatDnD1
set_option linter.unusedSimpArgs false
set_option maxRecDepth 100000
set_option maxHeartbeats 4000000
set_option linter.unusedVariables false
namespace Go.Am
noncomputable section
open Go Go.Proofs
def m_e_szIntS (l : List Int) (left : Int) : Option Int := gd (ok64 (left - (l.length : Int))) (if decide ((left - (l.length : Int)) < 0) = true then (some (-1)) else (some (left - (l.length : Int))))
def k_e_szIntS : Con := ⟨57, [.v (.sl .I) false, .v .I false], [(.I, true)], [], fun x => m_e_szIntS x.1 x.2.1⟩
def f_e_szIntS : Fs := ⟨[], []⟩
theorem g_e_szIntS : f_e_szIntS.Ok Tryz.prog := fs0
theorem o_e_szIntS : k_e_szIntS.Ok Tryz.prog := fn_ok (k := k_e_szIntS) (fn := Tryz.f57) (W := []) (H := []) Tryz.func57 g_e_szIntS trivial rfl rfl (fun av x => by kernel_rfl)
noncomputable def m_szIntS (l : List Int) (left : Int) : Option Int := @gd ((0 ≤ left) ∧ (left ≤ 1048576) ∧ (l.length ≤ 9223372036854775807)) (Classical.propDecidable _) _ (some (szR left l.length))
theorem c_szIntS (l : List Int) (left : Int) (h : (0 ≤ left) ∧ (left ≤ 1048576) ∧ (l.length ≤ 9223372036854775807)) : m_szIntS l left = some (szR left l.length) := gdC h
theorem s_szIntS (l : List Int) (left : Int) (h : (0 ≤ left) ∧ (left ≤ 1048576) ∧ (l.length ≤ 9223372036854775807)) : m_e_szIntS l left = some (szR left l.length) := by
  exact sz_flat h.1 h.2.1 h.2.2
noncomputable def k_szIntS : Con := ⟨57, [.v (.sl .I) false, .v .I false], [(.I, true)], [], fun x => m_szIntS x.1 x.2.1⟩
theorem o_szIntS : k_szIntS.Ok Tryz.prog := con_sub o_e_szIntS fun x z hz => by
  obtain ⟨h, e⟩ := gdC_some hz
  subst e
  exact s_szIntS _ _ h

def m_e_szNetFlowS (l : List GFlow) (left : Int) : Option Int := gd (ok64 (left - (l.length : Int))) (if decide ((left - (l.length : Int)) < 0) = true then (some (-1)) else (some (left - (l.length : Int))))
def k_e_szNetFlowS : Con := ⟨213, [.v (.sl (.s .flow)) false, .v .I false], [(.I, true)], [], fun x => m_e_szNetFlowS x.1 x.2.1⟩
def f_e_szNetFlowS : Fs := ⟨[], []⟩
theorem g_e_szNetFlowS : f_e_szNetFlowS.Ok Tryz.prog := fs0
theorem o_e_szNetFlowS : k_e_szNetFlowS.Ok Tryz.prog := fn_ok (k := k_e_szNetFlowS) (fn := Tryz.f213) (W := []) (H := []) Tryz.func213 g_e_szNetFlowS trivial rfl rfl (fun av x => by kernel_rfl)
noncomputable def m_szNetFlowS (l : List GFlow) (left : Int) : Option Int := @gd ((0 ≤ left) ∧ (left ≤ 1048576) ∧ (l.length ≤ 9223372036854775807)) (Classical.propDecidable _) _ (some (szR left l.length))
theorem c_szNetFlowS (l : List GFlow) (left : Int) (h : (0 ≤ left) ∧ (left ≤ 1048576) ∧ (l.length ≤ 9223372036854775807)) : m_szNetFlowS l left = some (szR left l.length) := gdC h
theorem s_szNetFlowS (l : List GFlow) (left : Int) (h : (0 ≤ left) ∧ (left ≤ 1048576) ∧ (l.length ≤ 9223372036854775807)) : m_e_szNetFlowS l left = some (szR left l.length) := by
  exact sz_flat h.1 h.2.1 h.2.2
noncomputable def k_szNetFlowS : Con := ⟨213, [.v (.sl (.s .flow)) false, .v .I false], [(.I, true)], [], fun x => m_szNetFlowS x.1 x.2.1⟩
theorem o_szNetFlowS : k_szNetFlowS.Ok Tryz.prog := con_sub o_e_szNetFlowS fun x z hz => by
  obtain ⟨h, e⟩ := gdC_some hz
  subst e
  exact s_szNetFlowS _ _ h

def m_e_szNetTask (x : GTask) (left : Int) : Option Int := (m_szIntS x.in_ left).bind fun x1 => (if decide (x1 < 0) = true then (some (-1)) else ((m_szNetFlowS x.out x1).bind fun x3 => (if decide (x3 < 0) = true then (some (-1)) else ((m_szIntS x.clear x3).bind fun x5 => (if decide (x5 < 0) = true then (some (-1)) else (some x5))))))
def k_e_szNetTask : Con := ⟨171, [.v (.s .task) false, .v .I false], [(.I, true)], [], fun x => m_e_szNetTask x.1 x.2.1⟩
def f_e_szNetTask : Fs := ⟨[k_szIntS, k_szNetFlowS], []⟩
theorem g_e_szNetTask : f_e_szNetTask.Ok Tryz.prog := (fsK o_szIntS (fsK o_szNetFlowS fs0))
theorem o_e_szNetTask : k_e_szNetTask.Ok Tryz.prog := fn_ok (k := k_e_szNetTask) (fn := Tryz.f171) (W := []) (H := []) Tryz.func171 g_e_szNetTask trivial rfl rfl (fun av x => by kernel_rfl)
noncomputable def m_szNetTask (x : GTask) (left : Int) : Option Int := @gd ((0 ≤ left) ∧ (left ≤ 1048576) ∧ (GTask.lens (· ≤ 9223372036854775807) x)) (Classical.propDecidable _) _ (some (szR left (GTask.W x)))
theorem c_szNetTask (x : GTask) (left : Int) (h : (0 ≤ left) ∧ (left ≤ 1048576) ∧ (GTask.lens (· ≤ 9223372036854775807) x)) : m_szNetTask x left = some (szR left (GTask.W x)) := gdC h
theorem s_szNetTask (x : GTask) (left : Int) (h : (0 ≤ left) ∧ (left ≤ 1048576) ∧ (GTask.lens (· ≤ 9223372036854775807) x)) : m_e_szNetTask x left = some (szR left (GTask.W x)) := by
  have e : GTask.W x = (x.in_.length + (x.out.length + (x.clear.length + 0))) := by simp only [GTask.W]; omega
  rw [e]
  have g1 := h.1
  have g2 := h.2.1
  unfold m_e_szNetTask
  rw [c_szIntS _ _ ⟨g1, g2, h.2.2.1⟩]; refine sz_step g1 g2 fun left g1 g2 => ?_
  rw [c_szNetFlowS _ _ ⟨g1, g2, h.2.2.2.1⟩]; refine sz_step g1 g2 fun left g1 g2 => ?_
  rw [c_szIntS _ _ ⟨g1, g2, h.2.2.2.2⟩]; refine sz_step g1 g2 fun left g1 g2 => ?_
  exact szR_zero g1
noncomputable def k_szNetTask : Con := ⟨171, [.v (.s .task) false, .v .I false], [(.I, true)], [], fun x => m_szNetTask x.1 x.2.1⟩
theorem o_szNetTask : k_szNetTask.Ok Tryz.prog := con_sub o_e_szNetTask fun x z hz => by
  obtain ⟨h, e⟩ := gdC_some hz
  subst e
  exact s_szNetTask _ _ h

def m_e_szNetTaskS_k1 (s0_0 : Int) : Option Int := some s0_0
def m_e_szNetTaskS_l0 (l : List GTask) (kx0_0 : Int → Option Int) : Nat → Int → Int → Option Int
  | 0, _, _ => none
  | n0 + 1, s0_0, s0_1 => if decide (s0_1 < (l.length : Int)) = true then ((getI l s0_1).bind fun x4 => ((m_szNetTask x4 s0_0).bind fun x5 => (if decide (x5 < 0) = true then (some (-1)) else (gd (ok64 (s0_1 + 1)) ((m_e_szNetTaskS_l0 l kx0_0 n0) x5 (s0_1 + 1)))))) else (kx0_0 s0_0)
def m_e_szNetTaskS (l : List GTask) (left : Int) : Option Int := gd (ok64 (left - (l.length : Int))) (if decide ((left - (l.length : Int)) < 0) = true then (some (-1)) else (m_e_szNetTaskS_l0 l m_e_szNetTaskS_k1 FUEL (left - (l.length : Int)) 0))
def k_e_szNetTaskS : Con := ⟨94, [.v (.sl (.s .task)) false, .v .I false], [(.I, true)], [], fun x => m_e_szNetTaskS x.1 x.2.1⟩
def f_e_szNetTaskS : Fs := ⟨[k_szNetTask], []⟩
theorem g_e_szNetTaskS : f_e_szNetTaskS.Ok Tryz.prog := (fsK o_szNetTask fs0)
def t_e_szNetTaskS_0 : Tmpl := ⟨[(0, .c (.s (.s .task))), (1, .c .i), (5, .c .i)], []⟩
def x0_e_szNetTaskS_0 : Tmpl := ⟨[(1, .c .i)], []⟩
def L_e_szNetTaskS_0 (av : AV) (x : HP k_e_szNetTaskS.ps) (n : Nat) (v : t_e_szNetTaskS_0.den) (K : Ks (CR k_e_szNetTaskS)) : Option (CR k_e_szNetTaskS) := m_e_szNetTaskS_l0 v.1.1 (fun s0_0 => x0_e_szNetTaskS_0.at none ((s0_0, ()), ()) (K (.exit 0))) n v.1.2.1 v.1.2.2.1
def h_e_szNetTaskS_0 (av : AV) (x : HP k_e_szNetTaskS.ps) : Hdl (CR k_e_szNetTaskS) := hnd [] t_e_szNetTaskS_0 (L_e_szNetTaskS_0 av x)
theorem l_e_szNetTaskS_0 : LP k_e_szNetTaskS Tryz.f94 [0] h_e_szNetTaskS_0 := lp_ok (W := []) (H := []) (xs := [x0_e_szNetTaskS_0]) g_e_szNetTaskS trivial rfl (fun av x v K => by kernel_rfl) (fun av x n v K => by kernel_rfl)
theorem o_e_szNetTaskS : k_e_szNetTaskS.Ok Tryz.prog := fn_ok (k := k_e_szNetTaskS) (fn := Tryz.f94) (W := []) (H := [h_e_szNetTaskS_0]) Tryz.func94 g_e_szNetTaskS ⟨l_e_szNetTaskS_0, trivial⟩ rfl rfl (fun av x => by kernel_rfl)
noncomputable def m_szNetTaskS (l : List GTask) (left : Int) : Option Int := @gd ((0 ≤ left) ∧ (left ≤ 1048576) ∧ (l.length ≤ 9223372036854775807) ∧ (∀ y ∈ l, GTask.lens (· ≤ 9223372036854775807) y)) (Classical.propDecidable _) _ (some (szR left (l.length + sumW GTask.W l)))
theorem c_szNetTaskS (l : List GTask) (left : Int) (h : (0 ≤ left) ∧ (left ≤ 1048576) ∧ (l.length ≤ 9223372036854775807) ∧ (∀ y ∈ l, GTask.lens (· ≤ 9223372036854775807) y)) : m_szNetTaskS l left = some (szR left (l.length + sumW GTask.W l)) := gdC h
theorem s_szNetTaskS (l : List GTask) (left : Int) (h : (0 ≤ left) ∧ (left ≤ 1048576) ∧ (l.length ≤ 9223372036854775807) ∧ (∀ y ∈ l, GTask.lens (· ≤ 9223372036854775807) y)) : m_e_szNetTaskS l left = some (szR left (l.length + sumW GTask.W l)) := by
  refine sz_nest (f := m_e_szNetTaskS_l0 l m_e_szNetTaskS_k1) h.1 h.2.1 h.2.2.1 (fun n i m hi hn g1 g2 => ?_) (fun n m => ?_)
  · rw [m_e_szNetTaskS_l0, if_pos (decide_eq_true (Int.ofNat_lt.2 hi)), getI_lt hi, Option.bind_some, c_szNetTask _ _ ⟨g1, g2, h.2.2.2 _ (List.getElem_mem _)⟩, Option.bind_some, gd_pos (ok64i hi hn)]; rfl
  · rw [m_e_szNetTaskS_l0, if_neg (by simp)]; rfl
noncomputable def k_szNetTaskS : Con := ⟨94, [.v (.sl (.s .task)) false, .v .I false], [(.I, true)], [], fun x => m_szNetTaskS x.1 x.2.1⟩
theorem o_szNetTaskS : k_szNetTaskS.Ok Tryz.prog := con_sub o_e_szNetTaskS fun x z hz => by
  obtain ⟨h, e⟩ := gdC_some hz
  subst e
  exact s_szNetTaskS _ _ h

def m_e_szNetNet (x : GNet) (left : Int) : Option Int := (m_szNetTaskS x.tasks left).bind fun x1 => (if decide (x1 < 0) = true then (some (-1)) else (some x1))
def k_e_szNetNet : Con := ⟨33, [.v (.s .net) false, .v .I false], [(.I, true)], [], fun x => m_e_szNetNet x.1 x.2.1⟩
def f_e_szNetNet : Fs := ⟨[k_szNetTaskS], []⟩
theorem g_e_szNetNet : f_e_szNetNet.Ok Tryz.prog := (fsK o_szNetTaskS fs0)
theorem o_e_szNetNet : k_e_szNetNet.Ok Tryz.prog := fn_ok (k := k_e_szNetNet) (fn := Tryz.f33) (W := []) (H := []) Tryz.func33 g_e_szNetNet trivial rfl rfl (fun av x => by kernel_rfl)
noncomputable def m_szNetNet (x : GNet) (left : Int) : Option Int := @gd ((0 ≤ left) ∧ (left ≤ 1048576) ∧ (GNet.lens (· ≤ 9223372036854775807) x)) (Classical.propDecidable _) _ (some (szR left (GNet.W x)))
theorem c_szNetNet (x : GNet) (left : Int) (h : (0 ≤ left) ∧ (left ≤ 1048576) ∧ (GNet.lens (· ≤ 9223372036854775807) x)) : m_szNetNet x left = some (szR left (GNet.W x)) := gdC h
theorem s_szNetNet (x : GNet) (left : Int) (h : (0 ≤ left) ∧ (left ≤ 1048576) ∧ (GNet.lens (· ≤ 9223372036854775807) x)) : m_e_szNetNet x left = some (szR left (GNet.W x)) := by
  have e : GNet.W x = ((x.tasks.length + sumW GTask.W x.tasks) + 0) := by simp only [GNet.W]; omega
  rw [e]
  have g1 := h.1
  have g2 := h.2.1
  unfold m_e_szNetNet
  rw [c_szNetTaskS _ _ ⟨g1, g2, h.2.2.1, h.2.2.2⟩]; refine sz_step g1 g2 fun left g1 g2 => ?_
  exact szR_zero g1
noncomputable def k_szNetNet : Con := ⟨33, [.v (.s .net) false, .v .I false], [(.I, true)], [], fun x => m_szNetNet x.1 x.2.1⟩
theorem o_szNetNet : k_szNetNet.Ok Tryz.prog := con_sub o_e_szNetNet fun x z hz => by
  obtain ⟨h, e⟩ := gdC_some hz
  subst e
  exact s_szNetNet _ _ h

def m_e_szCasItemS (l : List GItem) (left : Int) : Option Int := gd (ok64 (left - (l.length : Int))) (if decide ((left - (l.length : Int)) < 0) = true then (some (-1)) else (some (left - (l.length : Int))))
def k_e_szCasItemS : Con := ⟨95, [.v (.sl (.s .item)) false, .v .I false], [(.I, true)], [], fun x => m_e_szCasItemS x.1 x.2.1⟩
def f_e_szCasItemS : Fs := ⟨[], []⟩
theorem g_e_szCasItemS : f_e_szCasItemS.Ok Tryz.prog := fs0
theorem o_e_szCasItemS : k_e_szCasItemS.Ok Tryz.prog := fn_ok (k := k_e_szCasItemS) (fn := Tryz.f95) (W := []) (H := []) Tryz.func95 g_e_szCasItemS trivial rfl rfl (fun av x => by kernel_rfl)
noncomputable def m_szCasItemS (l : List GItem) (left : Int) : Option Int := @gd ((0 ≤ left) ∧ (left ≤ 1048576) ∧ (l.length ≤ 9223372036854775807)) (Classical.propDecidable _) _ (some (szR left l.length))
theorem c_szCasItemS (l : List GItem) (left : Int) (h : (0 ≤ left) ∧ (left ≤ 1048576) ∧ (l.length ≤ 9223372036854775807)) : m_szCasItemS l left = some (szR left l.length) := gdC h
theorem s_szCasItemS (l : List GItem) (left : Int) (h : (0 ≤ left) ∧ (left ≤ 1048576) ∧ (l.length ≤ 9223372036854775807)) : m_e_szCasItemS l left = some (szR left l.length) := by
  exact sz_flat h.1 h.2.1 h.2.2
noncomputable def k_szCasItemS : Con := ⟨95, [.v (.sl (.s .item)) false, .v .I false], [(.I, true)], [], fun x => m_szCasItemS x.1 x.2.1⟩
theorem o_szCasItemS : k_szCasItemS.Ok Tryz.prog := con_sub o_e_szCasItemS fun x z hz => by
  obtain ⟨h, e⟩ := gdC_some hz
  subst e
  exact s_szCasItemS _ _ h

def m_e_szCasDidS (l : List GDid) (left : Int) : Option Int := gd (ok64 (left - (l.length : Int))) (if decide ((left - (l.length : Int)) < 0) = true then (some (-1)) else (some (left - (l.length : Int))))
def k_e_szCasDidS : Con := ⟨96, [.v (.sl (.s .did)) false, .v .I false], [(.I, true)], [], fun x => m_e_szCasDidS x.1 x.2.1⟩
def f_e_szCasDidS : Fs := ⟨[], []⟩
theorem g_e_szCasDidS : f_e_szCasDidS.Ok Tryz.prog := fs0
theorem o_e_szCasDidS : k_e_szCasDidS.Ok Tryz.prog := fn_ok (k := k_e_szCasDidS) (fn := Tryz.f96) (W := []) (H := []) Tryz.func96 g_e_szCasDidS trivial rfl rfl (fun av x => by kernel_rfl)
noncomputable def m_szCasDidS (l : List GDid) (left : Int) : Option Int := @gd ((0 ≤ left) ∧ (left ≤ 1048576) ∧ (l.length ≤ 9223372036854775807)) (Classical.propDecidable _) _ (some (szR left l.length))
theorem c_szCasDidS (l : List GDid) (left : Int) (h : (0 ≤ left) ∧ (left ≤ 1048576) ∧ (l.length ≤ 9223372036854775807)) : m_szCasDidS l left = some (szR left l.length) := gdC h
theorem s_szCasDidS (l : List GDid) (left : Int) (h : (0 ≤ left) ∧ (left ≤ 1048576) ∧ (l.length ≤ 9223372036854775807)) : m_e_szCasDidS l left = some (szR left l.length) := by
  exact sz_flat h.1 h.2.1 h.2.2
noncomputable def k_szCasDidS : Con := ⟨96, [.v (.sl (.s .did)) false, .v .I false], [(.I, true)], [], fun x => m_szCasDidS x.1 x.2.1⟩
theorem o_szCasDidS : k_szCasDidS.Ok Tryz.prog := con_sub o_e_szCasDidS fun x z hz => by
  obtain ⟨h, e⟩ := gdC_some hz
  subst e
  exact s_szCasDidS _ _ h

def m_e_szCasCase (x : GCase) (left : Int) : Option Int := (m_szIntS x.marks left).bind fun x1 => (if decide (x1 < 0) = true then (some (-1)) else ((m_szCasItemS x.busy x1).bind fun x3 => (if decide (x3 < 0) = true then (some (-1)) else ((m_szIntS x.data x3).bind fun x5 => (if decide (x5 < 0) = true then (some (-1)) else ((m_szCasDidS x.did x5).bind fun x7 => (if decide (x7 < 0) = true then (some (-1)) else (some x7))))))))
def k_e_szCasCase : Con := ⟨34, [.v (.s .kase) false, .v .I false], [(.I, true)], [], fun x => m_e_szCasCase x.1 x.2.1⟩
def f_e_szCasCase : Fs := ⟨[k_szIntS, k_szCasItemS, k_szCasDidS], []⟩
theorem g_e_szCasCase : f_e_szCasCase.Ok Tryz.prog := (fsK o_szIntS (fsK o_szCasItemS (fsK o_szCasDidS fs0)))
theorem o_e_szCasCase : k_e_szCasCase.Ok Tryz.prog := fn_ok (k := k_e_szCasCase) (fn := Tryz.f34) (W := []) (H := []) Tryz.func34 g_e_szCasCase trivial rfl rfl (fun av x => by kernel_rfl)
noncomputable def m_szCasCase (x : GCase) (left : Int) : Option Int := @gd ((0 ≤ left) ∧ (left ≤ 1048576) ∧ (GCase.lens (· ≤ 9223372036854775807) x)) (Classical.propDecidable _) _ (some (szR left (GCase.W x)))
theorem c_szCasCase (x : GCase) (left : Int) (h : (0 ≤ left) ∧ (left ≤ 1048576) ∧ (GCase.lens (· ≤ 9223372036854775807) x)) : m_szCasCase x left = some (szR left (GCase.W x)) := gdC h
theorem s_szCasCase (x : GCase) (left : Int) (h : (0 ≤ left) ∧ (left ≤ 1048576) ∧ (GCase.lens (· ≤ 9223372036854775807) x)) : m_e_szCasCase x left = some (szR left (GCase.W x)) := by
  have e : GCase.W x = (x.marks.length + (x.busy.length + (x.data.length + (x.did.length + 0)))) := by simp only [GCase.W]; omega
  rw [e]
  have g1 := h.1
  have g2 := h.2.1
  unfold m_e_szCasCase
  rw [c_szIntS _ _ ⟨g1, g2, h.2.2.1⟩]; refine sz_step g1 g2 fun left g1 g2 => ?_
  rw [c_szCasItemS _ _ ⟨g1, g2, h.2.2.2.1⟩]; refine sz_step g1 g2 fun left g1 g2 => ?_
  rw [c_szIntS _ _ ⟨g1, g2, h.2.2.2.2.1⟩]; refine sz_step g1 g2 fun left g1 g2 => ?_
  rw [c_szCasDidS _ _ ⟨g1, g2, h.2.2.2.2.2⟩]; refine sz_step g1 g2 fun left g1 g2 => ?_
  exact szR_zero g1
noncomputable def k_szCasCase : Con := ⟨34, [.v (.s .kase) false, .v .I false], [(.I, true)], [], fun x => m_szCasCase x.1 x.2.1⟩
theorem o_szCasCase : k_szCasCase.Ok Tryz.prog := con_sub o_e_szCasCase fun x z hz => by
  obtain ⟨h, e⟩ := gdC_some hz
  subst e
  exact s_szCasCase _ _ h

def m_e_toIntS_k1 (l0_1 : List Int) : Option (List Int) := some l0_1
def m_e_toIntS_l0 (l : List Int) (kx0_0 : List Int → Option (List Int)) : Nat → Int → List Int → Option (List Int)
  | 0, _, _ => none
  | n0 + 1, s0_0, l0_1 => if decide (s0_0 < (l.length : Int)) = true then ((getI l s0_0).bind fun x3 => ((getI l0_1 s0_0).bind fun x4 => (gd (ok64 (s0_0 + 1)) ((m_e_toIntS_l0 l kx0_0 n0) (s0_0 + 1) (l0_1.set s0_0.toNat x3))))) else (kx0_0 l0_1)
def m_e_toIntS (l : List Int) : Option (List Int) := gd ((0 : Int) ≤ (l.length : Int) ∧ (l.length : Int) ≤ (1000000000 : Int)) (m_e_toIntS_l0 l m_e_toIntS_k1 FUEL 0 (List.replicate (l.length : Int).toNat (0 : Int)))
def k_e_toIntS : Con := ⟨37, [.v (.sl .I) false], [((.sl .I), true)], [], fun x => m_e_toIntS x.1⟩
def f_e_toIntS : Fs := ⟨[], []⟩
theorem g_e_toIntS : f_e_toIntS.Ok Tryz.prog := fs0
def t_e_toIntS_0 : Tmpl := ⟨[(0, .c (.s .I)), (3, .c (.ref 7)), (4, .c .i)], [(7, .arr .I true)]⟩
def x0_e_toIntS_0 : Tmpl := ⟨[(3, .c (.ref 7))], [(7, .arr .I true)]⟩
def L_e_toIntS_0 (av : AV) (x : HP k_e_toIntS.ps) (n : Nat) (v : t_e_toIntS_0.den) (K : Ks (CR k_e_toIntS)) : Option (CR k_e_toIntS) := m_e_toIntS_l0 v.1.1 (fun l0_1 => x0_e_toIntS_0.at none (((), ()), (l0_1, ())) (K (.exit 0))) n v.1.2.2.1 v.2.1
def h_e_toIntS_0 (av : AV) (x : HP k_e_toIntS.ps) : Hdl (CR k_e_toIntS) := hnd [] t_e_toIntS_0 (L_e_toIntS_0 av x)
theorem l_e_toIntS_0 : LP k_e_toIntS Tryz.f37 [0] h_e_toIntS_0 := lp_ok (W := []) (H := []) (xs := [x0_e_toIntS_0]) g_e_toIntS trivial rfl (fun av x v K => by kernel_rfl) (fun av x n v K => by kernel_rfl)
theorem o_e_toIntS : k_e_toIntS.Ok Tryz.prog := fn_ok (k := k_e_toIntS) (fn := Tryz.f37) (W := []) (H := [h_e_toIntS_0]) Tryz.func37 g_e_toIntS ⟨l_e_toIntS_0, trivial⟩ rfl rfl (fun av x => by kernel_rfl)
noncomputable def m_toIntS (l : List Int) : Option (List Int) := @gd ((l.length ≤ 1048576)) (Classical.propDecidable _) _ (some l)
theorem c_toIntS (l : List Int) (h : (l.length ≤ 1048576)) : m_toIntS l = some l := gdC h
theorem s_toIntS (l : List Int) (h : (l.length ≤ 1048576)) : m_e_toIntS l = some l := by
  refine (gd_pos (toOk h)).trans ?_
  have hl := h
  refine to_gen (f := m_e_toIntS_l0 l m_e_toIntS_k1) (by omega) (fun n i acc hi ha => ?_) (fun n acc => ?_)
  · rw [m_e_toIntS_l0, if_pos (decide_eq_true (Int.ofNat_lt.2 hi)), getI_lt hi, Option.bind_some, getI_lt (by omega), Option.bind_some, gd_pos (ok64i hi h)]; rfl
  · rw [m_e_toIntS_l0, if_neg (by simp)]; rfl
noncomputable def k_toIntS : Con := ⟨37, [.v (.sl .I) false], [((.sl .I), true)], [], fun x => m_toIntS x.1⟩
theorem o_toIntS : k_toIntS.Ok Tryz.prog := con_sub o_e_toIntS fun x z hz => by
  obtain ⟨h, e⟩ := gdC_some hz
  subst e
  exact s_toIntS _ h

def m_e_toExpAsk (x : GAsk) : Option GAsk := some x
def k_e_toExpAsk : Con := ⟨65, [.v (.s .ask) false], [((.s .ask), true)], [], fun x => m_e_toExpAsk x.1⟩
def f_e_toExpAsk : Fs := ⟨[], []⟩
theorem g_e_toExpAsk : f_e_toExpAsk.Ok Tryz.prog := fs0
theorem o_e_toExpAsk : k_e_toExpAsk.Ok Tryz.prog := fn_ok (k := k_e_toExpAsk) (fn := Tryz.f65) (W := []) (H := []) Tryz.func65 g_e_toExpAsk trivial rfl rfl (fun av x => by kernel_rfl)
noncomputable def m_toExpAsk (x : GAsk) : Option GAsk := @gd (True) (Classical.propDecidable _) _ (some x)
theorem c_toExpAsk (x : GAsk) (h : True) : m_toExpAsk x = some x := gdC h
theorem s_toExpAsk (x : GAsk) (h : True) : m_e_toExpAsk x = some x := by
  rfl
noncomputable def k_toExpAsk : Con := ⟨65, [.v (.s .ask) false], [((.s .ask), true)], [], fun x => m_toExpAsk x.1⟩
theorem o_toExpAsk : k_toExpAsk.Ok Tryz.prog := con_sub o_e_toExpAsk fun x z hz => by
  obtain ⟨h, e⟩ := gdC_some hz
  subst e
  exact s_toExpAsk _ h

def m_e_toNetFlow (x : GFlow) : Option GFlow := (m_toExpAsk x.if_).bind fun x1 => (some (GFlow.mk x.to x1))
def k_e_toNetFlow : Con := ⟨229, [.v (.s .flow) false], [((.s .flow), true)], [], fun x => m_e_toNetFlow x.1⟩
def f_e_toNetFlow : Fs := ⟨[k_toExpAsk], []⟩
theorem g_e_toNetFlow : f_e_toNetFlow.Ok Tryz.prog := (fsK o_toExpAsk fs0)
theorem o_e_toNetFlow : k_e_toNetFlow.Ok Tryz.prog := fn_ok (k := k_e_toNetFlow) (fn := Tryz.f229) (W := []) (H := []) Tryz.func229 g_e_toNetFlow trivial rfl rfl (fun av x => by kernel_rfl)
noncomputable def m_toNetFlow (x : GFlow) : Option GFlow := @gd (True) (Classical.propDecidable _) _ (some x)
theorem c_toNetFlow (x : GFlow) (h : True) : m_toNetFlow x = some x := gdC h
theorem s_toNetFlow (x : GFlow) (h : True) : m_e_toNetFlow x = some x := by
  rw [m_e_toNetFlow, c_toExpAsk _ trivial, Option.bind_some]
noncomputable def k_toNetFlow : Con := ⟨229, [.v (.s .flow) false], [((.s .flow), true)], [], fun x => m_toNetFlow x.1⟩
theorem o_toNetFlow : k_toNetFlow.Ok Tryz.prog := con_sub o_e_toNetFlow fun x z hz => by
  obtain ⟨h, e⟩ := gdC_some hz
  subst e
  exact s_toNetFlow _ h

def m_e_toNetFlowS_k1 (l0_1 : List GFlow) : Option (List GFlow) := some l0_1
def m_e_toNetFlowS_l0 (l : List GFlow) (kx0_0 : List GFlow → Option (List GFlow)) : Nat → Int → List GFlow → Option (List GFlow)
  | 0, _, _ => none
  | n0 + 1, s0_0, l0_1 => if decide (s0_0 < (l.length : Int)) = true then ((getI l s0_0).bind fun x3 => ((m_toNetFlow x3).bind fun x4 => ((getI l0_1 s0_0).bind fun x5 => (gd (ok64 (s0_0 + 1)) ((m_e_toNetFlowS_l0 l kx0_0 n0) (s0_0 + 1) (l0_1.set s0_0.toNat x4)))))) else (kx0_0 l0_1)
def m_e_toNetFlowS (l : List GFlow) : Option (List GFlow) := gd ((0 : Int) ≤ (l.length : Int) ∧ (l.length : Int) ≤ (1000000000 : Int)) (m_e_toNetFlowS_l0 l m_e_toNetFlowS_k1 FUEL 0 (List.replicate (l.length : Int).toNat GFlow.zero))
def k_e_toNetFlowS : Con := ⟨216, [.v (.sl (.s .flow)) false], [((.sl (.s .flow)), true)], [], fun x => m_e_toNetFlowS x.1⟩
def f_e_toNetFlowS : Fs := ⟨[k_toNetFlow], []⟩
theorem g_e_toNetFlowS : f_e_toNetFlowS.Ok Tryz.prog := (fsK o_toNetFlow fs0)
def t_e_toNetFlowS_0 : Tmpl := ⟨[(0, .c (.s (.s .flow))), (3, .c (.ref 7)), (4, .c .i)], [(7, .arr (.s .flow) true)]⟩
def x0_e_toNetFlowS_0 : Tmpl := ⟨[(3, .c (.ref 7))], [(7, .arr (.s .flow) true)]⟩
def L_e_toNetFlowS_0 (av : AV) (x : HP k_e_toNetFlowS.ps) (n : Nat) (v : t_e_toNetFlowS_0.den) (K : Ks (CR k_e_toNetFlowS)) : Option (CR k_e_toNetFlowS) := m_e_toNetFlowS_l0 v.1.1 (fun l0_1 => x0_e_toNetFlowS_0.at none (((), ()), (l0_1, ())) (K (.exit 0))) n v.1.2.2.1 v.2.1
def h_e_toNetFlowS_0 (av : AV) (x : HP k_e_toNetFlowS.ps) : Hdl (CR k_e_toNetFlowS) := hnd [] t_e_toNetFlowS_0 (L_e_toNetFlowS_0 av x)
theorem l_e_toNetFlowS_0 : LP k_e_toNetFlowS Tryz.f216 [0] h_e_toNetFlowS_0 := lp_ok (W := []) (H := []) (xs := [x0_e_toNetFlowS_0]) g_e_toNetFlowS trivial rfl (fun av x v K => by kernel_rfl) (fun av x n v K => by kernel_rfl)
theorem o_e_toNetFlowS : k_e_toNetFlowS.Ok Tryz.prog := fn_ok (k := k_e_toNetFlowS) (fn := Tryz.f216) (W := []) (H := [h_e_toNetFlowS_0]) Tryz.func216 g_e_toNetFlowS ⟨l_e_toNetFlowS_0, trivial⟩ rfl rfl (fun av x => by kernel_rfl)
noncomputable def m_toNetFlowS (l : List GFlow) : Option (List GFlow) := @gd ((l.length ≤ 1048576)) (Classical.propDecidable _) _ (some l)
theorem c_toNetFlowS (l : List GFlow) (h : (l.length ≤ 1048576)) : m_toNetFlowS l = some l := gdC h
theorem s_toNetFlowS (l : List GFlow) (h : (l.length ≤ 1048576)) : m_e_toNetFlowS l = some l := by
  refine (gd_pos (toOk h)).trans ?_
  have hl := h
  refine to_gen (f := m_e_toNetFlowS_l0 l m_e_toNetFlowS_k1) (by omega) (fun n i acc hi ha => ?_) (fun n acc => ?_)
  · rw [m_e_toNetFlowS_l0, if_pos (decide_eq_true (Int.ofNat_lt.2 hi)), getI_lt hi, Option.bind_some, c_toNetFlow _ trivial, Option.bind_some, getI_lt (by omega), Option.bind_some, gd_pos (ok64i hi h)]; rfl
  · rw [m_e_toNetFlowS_l0, if_neg (by simp)]; rfl
noncomputable def k_toNetFlowS : Con := ⟨216, [.v (.sl (.s .flow)) false], [((.sl (.s .flow)), true)], [], fun x => m_toNetFlowS x.1⟩
theorem o_toNetFlowS : k_toNetFlowS.Ok Tryz.prog := con_sub o_e_toNetFlowS fun x z hz => by
  obtain ⟨h, e⟩ := gdC_some hz
  subst e
  exact s_toNetFlowS _ h

def m_e_toNetTask (x : GTask) : Option GTask := (m_toIntS x.in_).bind fun x1 => ((m_toNetFlowS x.out).bind fun x2 => ((m_toIntS x.clear).bind fun x3 => (some (GTask.mk x.join x.split x1 x2 x3 x.role x.apart x.all x.need))))
def k_e_toNetTask : Con := ⟨175, [.v (.s .task) false], [((.s .task), true)], [], fun x => m_e_toNetTask x.1⟩
def f_e_toNetTask : Fs := ⟨[k_toIntS, k_toNetFlowS], []⟩
theorem g_e_toNetTask : f_e_toNetTask.Ok Tryz.prog := (fsK o_toIntS (fsK o_toNetFlowS fs0))
theorem o_e_toNetTask : k_e_toNetTask.Ok Tryz.prog := fn_ok (k := k_e_toNetTask) (fn := Tryz.f175) (W := []) (H := []) Tryz.func175 g_e_toNetTask trivial rfl rfl (fun av x => by kernel_rfl)
noncomputable def m_toNetTask (x : GTask) : Option GTask := @gd ((GTask.lens (· ≤ 1048576) x)) (Classical.propDecidable _) _ (some x)
theorem c_toNetTask (x : GTask) (h : (GTask.lens (· ≤ 1048576) x)) : m_toNetTask x = some x := gdC h
theorem s_toNetTask (x : GTask) (h : (GTask.lens (· ≤ 1048576) x)) : m_e_toNetTask x = some x := by
  rw [m_e_toNetTask, c_toIntS _ h.1, Option.bind_some, c_toNetFlowS _ h.2.1, Option.bind_some, c_toIntS _ h.2.2, Option.bind_some]
noncomputable def k_toNetTask : Con := ⟨175, [.v (.s .task) false], [((.s .task), true)], [], fun x => m_toNetTask x.1⟩
theorem o_toNetTask : k_toNetTask.Ok Tryz.prog := con_sub o_e_toNetTask fun x z hz => by
  obtain ⟨h, e⟩ := gdC_some hz
  subst e
  exact s_toNetTask _ h

def m_e_toNetTaskS_k1 (l0_1 : List GTask) : Option (List GTask) := some l0_1
def m_e_toNetTaskS_l0 (l : List GTask) (kx0_0 : List GTask → Option (List GTask)) : Nat → Int → List GTask → Option (List GTask)
  | 0, _, _ => none
  | n0 + 1, s0_0, l0_1 => if decide (s0_0 < (l.length : Int)) = true then ((getI l s0_0).bind fun x3 => ((m_toNetTask x3).bind fun x4 => ((getI l0_1 s0_0).bind fun x5 => (gd (ok64 (s0_0 + 1)) ((m_e_toNetTaskS_l0 l kx0_0 n0) (s0_0 + 1) (l0_1.set s0_0.toNat x4)))))) else (kx0_0 l0_1)
def m_e_toNetTaskS (l : List GTask) : Option (List GTask) := gd ((0 : Int) ≤ (l.length : Int) ∧ (l.length : Int) ≤ (1000000000 : Int)) (m_e_toNetTaskS_l0 l m_e_toNetTaskS_k1 FUEL 0 (List.replicate (l.length : Int).toNat GTask.zero))
def k_e_toNetTaskS : Con := ⟨102, [.v (.sl (.s .task)) false], [((.sl (.s .task)), true)], [], fun x => m_e_toNetTaskS x.1⟩
def f_e_toNetTaskS : Fs := ⟨[k_toNetTask], []⟩
theorem g_e_toNetTaskS : f_e_toNetTaskS.Ok Tryz.prog := (fsK o_toNetTask fs0)
def t_e_toNetTaskS_0 : Tmpl := ⟨[(0, .c (.s (.s .task))), (3, .c (.ref 7)), (4, .c .i)], [(7, .arr (.s .task) true)]⟩
def x0_e_toNetTaskS_0 : Tmpl := ⟨[(3, .c (.ref 7))], [(7, .arr (.s .task) true)]⟩
def L_e_toNetTaskS_0 (av : AV) (x : HP k_e_toNetTaskS.ps) (n : Nat) (v : t_e_toNetTaskS_0.den) (K : Ks (CR k_e_toNetTaskS)) : Option (CR k_e_toNetTaskS) := m_e_toNetTaskS_l0 v.1.1 (fun l0_1 => x0_e_toNetTaskS_0.at none (((), ()), (l0_1, ())) (K (.exit 0))) n v.1.2.2.1 v.2.1
def h_e_toNetTaskS_0 (av : AV) (x : HP k_e_toNetTaskS.ps) : Hdl (CR k_e_toNetTaskS) := hnd [] t_e_toNetTaskS_0 (L_e_toNetTaskS_0 av x)
theorem l_e_toNetTaskS_0 : LP k_e_toNetTaskS Tryz.f102 [0] h_e_toNetTaskS_0 := lp_ok (W := []) (H := []) (xs := [x0_e_toNetTaskS_0]) g_e_toNetTaskS trivial rfl (fun av x v K => by kernel_rfl) (fun av x n v K => by kernel_rfl)
theorem o_e_toNetTaskS : k_e_toNetTaskS.Ok Tryz.prog := fn_ok (k := k_e_toNetTaskS) (fn := Tryz.f102) (W := []) (H := [h_e_toNetTaskS_0]) Tryz.func102 g_e_toNetTaskS ⟨l_e_toNetTaskS_0, trivial⟩ rfl rfl (fun av x => by kernel_rfl)
noncomputable def m_toNetTaskS (l : List GTask) : Option (List GTask) := @gd ((l.length ≤ 1048576) ∧ (∀ y ∈ l, GTask.lens (· ≤ 1048576) y)) (Classical.propDecidable _) _ (some l)
theorem c_toNetTaskS (l : List GTask) (h : (l.length ≤ 1048576) ∧ (∀ y ∈ l, GTask.lens (· ≤ 1048576) y)) : m_toNetTaskS l = some l := gdC h
theorem s_toNetTaskS (l : List GTask) (h : (l.length ≤ 1048576) ∧ (∀ y ∈ l, GTask.lens (· ≤ 1048576) y)) : m_e_toNetTaskS l = some l := by
  refine (gd_pos (toOk h.1)).trans ?_
  have hl := h.1
  refine to_gen (f := m_e_toNetTaskS_l0 l m_e_toNetTaskS_k1) (by omega) (fun n i acc hi ha => ?_) (fun n acc => ?_)
  · rw [m_e_toNetTaskS_l0, if_pos (decide_eq_true (Int.ofNat_lt.2 hi)), getI_lt hi, Option.bind_some, c_toNetTask _ (h.2 _ (List.getElem_mem _)), Option.bind_some, getI_lt (by omega), Option.bind_some, gd_pos (ok64i hi h.1)]; rfl
  · rw [m_e_toNetTaskS_l0, if_neg (by simp)]; rfl
noncomputable def k_toNetTaskS : Con := ⟨102, [.v (.sl (.s .task)) false], [((.sl (.s .task)), true)], [], fun x => m_toNetTaskS x.1⟩
theorem o_toNetTaskS : k_toNetTaskS.Ok Tryz.prog := con_sub o_e_toNetTaskS fun x z hz => by
  obtain ⟨h, e⟩ := gdC_some hz
  subst e
  exact s_toNetTaskS _ h

def m_e_toNetNet (x : GNet) : Option GNet := (m_toNetTaskS x.tasks).bind fun x1 => (some (GNet.mk x.places x1))
def k_e_toNetNet : Con := ⟨36, [.v (.s .net) false], [((.s .net), true)], [], fun x => m_e_toNetNet x.1⟩
def f_e_toNetNet : Fs := ⟨[k_toNetTaskS], []⟩
theorem g_e_toNetNet : f_e_toNetNet.Ok Tryz.prog := (fsK o_toNetTaskS fs0)
theorem o_e_toNetNet : k_e_toNetNet.Ok Tryz.prog := fn_ok (k := k_e_toNetNet) (fn := Tryz.f36) (W := []) (H := []) Tryz.func36 g_e_toNetNet trivial rfl rfl (fun av x => by kernel_rfl)
noncomputable def m_toNetNet (x : GNet) : Option GNet := @gd ((GNet.lens (· ≤ 1048576) x)) (Classical.propDecidable _) _ (some x)
theorem c_toNetNet (x : GNet) (h : (GNet.lens (· ≤ 1048576) x)) : m_toNetNet x = some x := gdC h
theorem s_toNetNet (x : GNet) (h : (GNet.lens (· ≤ 1048576) x)) : m_e_toNetNet x = some x := by
  rw [m_e_toNetNet, c_toNetTaskS _ ⟨h.1, h.2⟩, Option.bind_some]
noncomputable def k_toNetNet : Con := ⟨36, [.v (.s .net) false], [((.s .net), true)], [], fun x => m_toNetNet x.1⟩
theorem o_toNetNet : k_toNetNet.Ok Tryz.prog := con_sub o_e_toNetNet fun x z hz => by
  obtain ⟨h, e⟩ := gdC_some hz
  subst e
  exact s_toNetNet _ h

def m_e_toCasItem (x : GItem) : Option GItem := some x
def k_e_toCasItem : Con := ⟨176, [.v (.s .item) false], [((.s .item), true)], [], fun x => m_e_toCasItem x.1⟩
def f_e_toCasItem : Fs := ⟨[], []⟩
theorem g_e_toCasItem : f_e_toCasItem.Ok Tryz.prog := fs0
theorem o_e_toCasItem : k_e_toCasItem.Ok Tryz.prog := fn_ok (k := k_e_toCasItem) (fn := Tryz.f176) (W := []) (H := []) Tryz.func176 g_e_toCasItem trivial rfl rfl (fun av x => by kernel_rfl)
noncomputable def m_toCasItem (x : GItem) : Option GItem := @gd (True) (Classical.propDecidable _) _ (some x)
theorem c_toCasItem (x : GItem) (h : True) : m_toCasItem x = some x := gdC h
theorem s_toCasItem (x : GItem) (h : True) : m_e_toCasItem x = some x := by
  rfl
noncomputable def k_toCasItem : Con := ⟨176, [.v (.s .item) false], [((.s .item), true)], [], fun x => m_toCasItem x.1⟩
theorem o_toCasItem : k_toCasItem.Ok Tryz.prog := con_sub o_e_toCasItem fun x z hz => by
  obtain ⟨h, e⟩ := gdC_some hz
  subst e
  exact s_toCasItem _ h

def m_e_toCasItemS_k1 (l0_1 : List GItem) : Option (List GItem) := some l0_1
def m_e_toCasItemS_l0 (l : List GItem) (kx0_0 : List GItem → Option (List GItem)) : Nat → Int → List GItem → Option (List GItem)
  | 0, _, _ => none
  | n0 + 1, s0_0, l0_1 => if decide (s0_0 < (l.length : Int)) = true then ((getI l s0_0).bind fun x3 => ((m_toCasItem x3).bind fun x4 => ((getI l0_1 s0_0).bind fun x5 => (gd (ok64 (s0_0 + 1)) ((m_e_toCasItemS_l0 l kx0_0 n0) (s0_0 + 1) (l0_1.set s0_0.toNat x4)))))) else (kx0_0 l0_1)
def m_e_toCasItemS (l : List GItem) : Option (List GItem) := gd ((0 : Int) ≤ (l.length : Int) ∧ (l.length : Int) ≤ (1000000000 : Int)) (m_e_toCasItemS_l0 l m_e_toCasItemS_k1 FUEL 0 (List.replicate (l.length : Int).toNat GItem.zero))
def k_e_toCasItemS : Con := ⟨103, [.v (.sl (.s .item)) false], [((.sl (.s .item)), true)], [], fun x => m_e_toCasItemS x.1⟩
def f_e_toCasItemS : Fs := ⟨[k_toCasItem], []⟩
theorem g_e_toCasItemS : f_e_toCasItemS.Ok Tryz.prog := (fsK o_toCasItem fs0)
def t_e_toCasItemS_0 : Tmpl := ⟨[(0, .c (.s (.s .item))), (3, .c (.ref 7)), (4, .c .i)], [(7, .arr (.s .item) true)]⟩
def x0_e_toCasItemS_0 : Tmpl := ⟨[(3, .c (.ref 7))], [(7, .arr (.s .item) true)]⟩
def L_e_toCasItemS_0 (av : AV) (x : HP k_e_toCasItemS.ps) (n : Nat) (v : t_e_toCasItemS_0.den) (K : Ks (CR k_e_toCasItemS)) : Option (CR k_e_toCasItemS) := m_e_toCasItemS_l0 v.1.1 (fun l0_1 => x0_e_toCasItemS_0.at none (((), ()), (l0_1, ())) (K (.exit 0))) n v.1.2.2.1 v.2.1
def h_e_toCasItemS_0 (av : AV) (x : HP k_e_toCasItemS.ps) : Hdl (CR k_e_toCasItemS) := hnd [] t_e_toCasItemS_0 (L_e_toCasItemS_0 av x)
theorem l_e_toCasItemS_0 : LP k_e_toCasItemS Tryz.f103 [0] h_e_toCasItemS_0 := lp_ok (W := []) (H := []) (xs := [x0_e_toCasItemS_0]) g_e_toCasItemS trivial rfl (fun av x v K => by kernel_rfl) (fun av x n v K => by kernel_rfl)
theorem o_e_toCasItemS : k_e_toCasItemS.Ok Tryz.prog := fn_ok (k := k_e_toCasItemS) (fn := Tryz.f103) (W := []) (H := [h_e_toCasItemS_0]) Tryz.func103 g_e_toCasItemS ⟨l_e_toCasItemS_0, trivial⟩ rfl rfl (fun av x => by kernel_rfl)
noncomputable def m_toCasItemS (l : List GItem) : Option (List GItem) := @gd ((l.length ≤ 1048576)) (Classical.propDecidable _) _ (some l)
theorem c_toCasItemS (l : List GItem) (h : (l.length ≤ 1048576)) : m_toCasItemS l = some l := gdC h
theorem s_toCasItemS (l : List GItem) (h : (l.length ≤ 1048576)) : m_e_toCasItemS l = some l := by
  refine (gd_pos (toOk h)).trans ?_
  have hl := h
  refine to_gen (f := m_e_toCasItemS_l0 l m_e_toCasItemS_k1) (by omega) (fun n i acc hi ha => ?_) (fun n acc => ?_)
  · rw [m_e_toCasItemS_l0, if_pos (decide_eq_true (Int.ofNat_lt.2 hi)), getI_lt hi, Option.bind_some, c_toCasItem _ trivial, Option.bind_some, getI_lt (by omega), Option.bind_some, gd_pos (ok64i hi h)]; rfl
  · rw [m_e_toCasItemS_l0, if_neg (by simp)]; rfl
noncomputable def k_toCasItemS : Con := ⟨103, [.v (.sl (.s .item)) false], [((.sl (.s .item)), true)], [], fun x => m_toCasItemS x.1⟩
theorem o_toCasItemS : k_toCasItemS.Ok Tryz.prog := con_sub o_e_toCasItemS fun x z hz => by
  obtain ⟨h, e⟩ := gdC_some hz
  subst e
  exact s_toCasItemS _ h

def m_e_toCasDid (x : GDid) : Option GDid := some x
def k_e_toCasDid : Con := ⟨177, [.v (.s .did) false], [((.s .did), true)], [], fun x => m_e_toCasDid x.1⟩
def f_e_toCasDid : Fs := ⟨[], []⟩
theorem g_e_toCasDid : f_e_toCasDid.Ok Tryz.prog := fs0
theorem o_e_toCasDid : k_e_toCasDid.Ok Tryz.prog := fn_ok (k := k_e_toCasDid) (fn := Tryz.f177) (W := []) (H := []) Tryz.func177 g_e_toCasDid trivial rfl rfl (fun av x => by kernel_rfl)
noncomputable def m_toCasDid (x : GDid) : Option GDid := @gd (True) (Classical.propDecidable _) _ (some x)
theorem c_toCasDid (x : GDid) (h : True) : m_toCasDid x = some x := gdC h
theorem s_toCasDid (x : GDid) (h : True) : m_e_toCasDid x = some x := by
  rfl
noncomputable def k_toCasDid : Con := ⟨177, [.v (.s .did) false], [((.s .did), true)], [], fun x => m_toCasDid x.1⟩
theorem o_toCasDid : k_toCasDid.Ok Tryz.prog := con_sub o_e_toCasDid fun x z hz => by
  obtain ⟨h, e⟩ := gdC_some hz
  subst e
  exact s_toCasDid _ h

def m_e_toCasDidS_k1 (l0_1 : List GDid) : Option (List GDid) := some l0_1
def m_e_toCasDidS_l0 (l : List GDid) (kx0_0 : List GDid → Option (List GDid)) : Nat → Int → List GDid → Option (List GDid)
  | 0, _, _ => none
  | n0 + 1, s0_0, l0_1 => if decide (s0_0 < (l.length : Int)) = true then ((getI l s0_0).bind fun x3 => ((m_toCasDid x3).bind fun x4 => ((getI l0_1 s0_0).bind fun x5 => (gd (ok64 (s0_0 + 1)) ((m_e_toCasDidS_l0 l kx0_0 n0) (s0_0 + 1) (l0_1.set s0_0.toNat x4)))))) else (kx0_0 l0_1)
def m_e_toCasDidS (l : List GDid) : Option (List GDid) := gd ((0 : Int) ≤ (l.length : Int) ∧ (l.length : Int) ≤ (1000000000 : Int)) (m_e_toCasDidS_l0 l m_e_toCasDidS_k1 FUEL 0 (List.replicate (l.length : Int).toNat GDid.zero))
def k_e_toCasDidS : Con := ⟨104, [.v (.sl (.s .did)) false], [((.sl (.s .did)), true)], [], fun x => m_e_toCasDidS x.1⟩
def f_e_toCasDidS : Fs := ⟨[k_toCasDid], []⟩
theorem g_e_toCasDidS : f_e_toCasDidS.Ok Tryz.prog := (fsK o_toCasDid fs0)
def t_e_toCasDidS_0 : Tmpl := ⟨[(0, .c (.s (.s .did))), (3, .c (.ref 7)), (4, .c .i)], [(7, .arr (.s .did) true)]⟩
def x0_e_toCasDidS_0 : Tmpl := ⟨[(3, .c (.ref 7))], [(7, .arr (.s .did) true)]⟩
def L_e_toCasDidS_0 (av : AV) (x : HP k_e_toCasDidS.ps) (n : Nat) (v : t_e_toCasDidS_0.den) (K : Ks (CR k_e_toCasDidS)) : Option (CR k_e_toCasDidS) := m_e_toCasDidS_l0 v.1.1 (fun l0_1 => x0_e_toCasDidS_0.at none (((), ()), (l0_1, ())) (K (.exit 0))) n v.1.2.2.1 v.2.1
def h_e_toCasDidS_0 (av : AV) (x : HP k_e_toCasDidS.ps) : Hdl (CR k_e_toCasDidS) := hnd [] t_e_toCasDidS_0 (L_e_toCasDidS_0 av x)
theorem l_e_toCasDidS_0 : LP k_e_toCasDidS Tryz.f104 [0] h_e_toCasDidS_0 := lp_ok (W := []) (H := []) (xs := [x0_e_toCasDidS_0]) g_e_toCasDidS trivial rfl (fun av x v K => by kernel_rfl) (fun av x n v K => by kernel_rfl)
theorem o_e_toCasDidS : k_e_toCasDidS.Ok Tryz.prog := fn_ok (k := k_e_toCasDidS) (fn := Tryz.f104) (W := []) (H := [h_e_toCasDidS_0]) Tryz.func104 g_e_toCasDidS ⟨l_e_toCasDidS_0, trivial⟩ rfl rfl (fun av x => by kernel_rfl)
noncomputable def m_toCasDidS (l : List GDid) : Option (List GDid) := @gd ((l.length ≤ 1048576)) (Classical.propDecidable _) _ (some l)
theorem c_toCasDidS (l : List GDid) (h : (l.length ≤ 1048576)) : m_toCasDidS l = some l := gdC h
theorem s_toCasDidS (l : List GDid) (h : (l.length ≤ 1048576)) : m_e_toCasDidS l = some l := by
  refine (gd_pos (toOk h)).trans ?_
  have hl := h
  refine to_gen (f := m_e_toCasDidS_l0 l m_e_toCasDidS_k1) (by omega) (fun n i acc hi ha => ?_) (fun n acc => ?_)
  · rw [m_e_toCasDidS_l0, if_pos (decide_eq_true (Int.ofNat_lt.2 hi)), getI_lt hi, Option.bind_some, c_toCasDid _ trivial, Option.bind_some, getI_lt (by omega), Option.bind_some, gd_pos (ok64i hi h)]; rfl
  · rw [m_e_toCasDidS_l0, if_neg (by simp)]; rfl
noncomputable def k_toCasDidS : Con := ⟨104, [.v (.sl (.s .did)) false], [((.sl (.s .did)), true)], [], fun x => m_toCasDidS x.1⟩
theorem o_toCasDidS : k_toCasDidS.Ok Tryz.prog := con_sub o_e_toCasDidS fun x z hz => by
  obtain ⟨h, e⟩ := gdC_some hz
  subst e
  exact s_toCasDidS _ h

def m_e_toCasCase (x : GCase) : Option GCase := (m_toIntS x.marks).bind fun x1 => ((m_toCasItemS x.busy).bind fun x2 => ((m_toIntS x.data).bind fun x3 => ((m_toCasDidS x.did).bind fun x4 => (some (GCase.mk x.state x1 x2 x3 x4)))))
def k_e_toCasCase : Con := ⟨38, [.v (.s .kase) false], [((.s .kase), true)], [], fun x => m_e_toCasCase x.1⟩
def f_e_toCasCase : Fs := ⟨[k_toIntS, k_toCasItemS, k_toCasDidS], []⟩
theorem g_e_toCasCase : f_e_toCasCase.Ok Tryz.prog := (fsK o_toIntS (fsK o_toCasItemS (fsK o_toCasDidS fs0)))
theorem o_e_toCasCase : k_e_toCasCase.Ok Tryz.prog := fn_ok (k := k_e_toCasCase) (fn := Tryz.f38) (W := []) (H := []) Tryz.func38 g_e_toCasCase trivial rfl rfl (fun av x => by kernel_rfl)
noncomputable def m_toCasCase (x : GCase) : Option GCase := @gd ((GCase.lens (· ≤ 1048576) x)) (Classical.propDecidable _) _ (some x)
theorem c_toCasCase (x : GCase) (h : (GCase.lens (· ≤ 1048576) x)) : m_toCasCase x = some x := gdC h
theorem s_toCasCase (x : GCase) (h : (GCase.lens (· ≤ 1048576) x)) : m_e_toCasCase x = some x := by
  rw [m_e_toCasCase, c_toIntS _ h.1, Option.bind_some, c_toCasItemS _ h.2.1, Option.bind_some, c_toIntS _ h.2.2.1, Option.bind_some, c_toCasDidS _ h.2.2.2, Option.bind_some]
noncomputable def k_toCasCase : Con := ⟨38, [.v (.s .kase) false], [((.s .kase), true)], [], fun x => m_toCasCase x.1⟩
theorem o_toCasCase : k_toCasCase.Ok Tryz.prog := con_sub o_e_toCasCase fun x z hz => by
  obtain ⟨h, e⟩ := gdC_some hz
  subst e
  exact s_toCasCase _ h

def m_e_eqIntS_k1  : Option Bool := some true
def m_e_eqIntS_l0 (a : List Int) (b : List Int) (kx0_0 : Option Bool) : Nat → Int → Option Bool
  | 0, _ => none
  | n0 + 1, s0_0 => if decide (s0_0 < (a.length : Int)) = true then ((getI a s0_0).bind fun x3 => ((getI b s0_0).bind fun x4 => (if decide (x3 = x4) = true then (gd (ok64 (s0_0 + 1)) ((m_e_eqIntS_l0 a b kx0_0 n0) (s0_0 + 1))) else (some false)))) else (kx0_0)
def m_e_eqIntS (a : List Int) (b : List Int) : Option Bool := if decide ((a.length : Int) = (b.length : Int)) = true then (m_e_eqIntS_l0 a b m_e_eqIntS_k1 FUEL 0) else (some false)
def k_e_eqIntS : Con := ⟨42, [.v (.sl .I) false, .v (.sl .I) false], [(.B, true)], [], fun x => m_e_eqIntS x.1 x.2.1⟩
def f_e_eqIntS : Fs := ⟨[], []⟩
theorem g_e_eqIntS : f_e_eqIntS.Ok Tryz.prog := fs0
def t_e_eqIntS_0 : Tmpl := ⟨[(0, .c (.s .I)), (1, .c (.s .I)), (5, .c .i)], []⟩
def x0_e_eqIntS_0 : Tmpl := ⟨[], []⟩
def L_e_eqIntS_0 (av : AV) (x : HP k_e_eqIntS.ps) (n : Nat) (v : t_e_eqIntS_0.den) (K : Ks (CR k_e_eqIntS)) : Option (CR k_e_eqIntS) := m_e_eqIntS_l0 v.1.1 v.1.2.1 (x0_e_eqIntS_0.at none ((), ()) (K (.exit 0))) n v.1.2.2.1
def h_e_eqIntS_0 (av : AV) (x : HP k_e_eqIntS.ps) : Hdl (CR k_e_eqIntS) := hnd [] t_e_eqIntS_0 (L_e_eqIntS_0 av x)
theorem l_e_eqIntS_0 : LP k_e_eqIntS Tryz.f42 [0] h_e_eqIntS_0 := lp_ok (W := []) (H := []) (xs := [x0_e_eqIntS_0]) g_e_eqIntS trivial rfl (fun av x v K => by kernel_rfl) (fun av x n v K => by kernel_rfl)
theorem o_e_eqIntS : k_e_eqIntS.Ok Tryz.prog := fn_ok (k := k_e_eqIntS) (fn := Tryz.f42) (W := []) (H := [h_e_eqIntS_0]) Tryz.func42 g_e_eqIntS ⟨l_e_eqIntS_0, trivial⟩ rfl rfl (fun av x => by kernel_rfl)
noncomputable def m_eqIntS (a : List Int) (b : List Int) : Option Bool := @gd ((a.length ≤ 1048576)) (Classical.propDecidable _) _ (some (decide (a = b)))
theorem c_eqIntS (a : List Int) (b : List Int) (h : (a.length ≤ 1048576)) : m_eqIntS a b = some (decide (a = b)) := gdC h
theorem s_eqIntS (a : List Int) (b : List Int) (h : (a.length ≤ 1048576)) : m_e_eqIntS a b = some (decide (a = b)) := by
  have hl := h
  refine eq_len fun hab => eq_gen (f := m_e_eqIntS_l0 a b m_e_eqIntS_k1) (by omega) hab (fun n i hi hj => ?_) (fun n => ?_)
  · rw [m_e_eqIntS_l0, if_pos (decide_eq_true (Int.ofNat_lt.2 hi)), getI_lt hi, Option.bind_some, getI_lt hj, Option.bind_some, gd_pos (ok64i hi h)]; rfl
  · rw [m_e_eqIntS_l0, if_neg (by simp)]; rfl
noncomputable def k_eqIntS : Con := ⟨42, [.v (.sl .I) false, .v (.sl .I) false], [(.B, true)], [], fun x => m_eqIntS x.1 x.2.1⟩
theorem o_eqIntS : k_eqIntS.Ok Tryz.prog := con_sub o_e_eqIntS fun x z hz => by
  obtain ⟨h, e⟩ := gdC_some hz
  subst e
  exact s_eqIntS _ _ h

def m_e_eqExpAsk (x : GAsk) (y : GAsk) : Option Bool := if decide (x.op = y.op) = true then (if decide (x.var = y.var) = true then (if decide (x.k = y.k) = true then (some true) else (some false)) else (some false)) else (some false)
def k_e_eqExpAsk : Con := ⟨71, [.v (.s .ask) false, .v (.s .ask) false], [(.B, true)], [], fun x => m_e_eqExpAsk x.1 x.2.1⟩
def f_e_eqExpAsk : Fs := ⟨[], []⟩
theorem g_e_eqExpAsk : f_e_eqExpAsk.Ok Tryz.prog := fs0
theorem o_e_eqExpAsk : k_e_eqExpAsk.Ok Tryz.prog := fn_ok (k := k_e_eqExpAsk) (fn := Tryz.f71) (W := []) (H := []) Tryz.func71 g_e_eqExpAsk trivial rfl rfl (fun av x => by kernel_rfl)
noncomputable def m_eqExpAsk (x : GAsk) (y : GAsk) : Option Bool := @gd (True) (Classical.propDecidable _) _ (some (decide (x = y)))
theorem c_eqExpAsk (x : GAsk) (y : GAsk) (h : True) : m_eqExpAsk x y = some (decide (x = y)) := gdC h
theorem s_eqExpAsk (x : GAsk) (y : GAsk) (h : True) : m_e_eqExpAsk x y = some (decide (x = y)) := by
  unfold m_e_eqExpAsk
  refine (eq_step (eq_step (eq_step eq_end))).trans (congrArg some (decide_eq_decide.2 ⟨fun ⟨h0, h1, h2, _⟩ => ?_, fun h => by subst h; simp⟩))
  cases x; cases y; simp_all
noncomputable def k_eqExpAsk : Con := ⟨71, [.v (.s .ask) false, .v (.s .ask) false], [(.B, true)], [], fun x => m_eqExpAsk x.1 x.2.1⟩
theorem o_eqExpAsk : k_eqExpAsk.Ok Tryz.prog := con_sub o_e_eqExpAsk fun x z hz => by
  obtain ⟨h, e⟩ := gdC_some hz
  subst e
  exact s_eqExpAsk _ _ h

def m_e_eqNetFlow (x : GFlow) (y : GFlow) : Option Bool := if decide (x.to = y.to) = true then ((m_eqExpAsk x.if_ y.if_).bind fun x2 => (if x2 = true then (some true) else (some false))) else (some false)
def k_e_eqNetFlow : Con := ⟨233, [.v (.s .flow) false, .v (.s .flow) false], [(.B, true)], [], fun x => m_e_eqNetFlow x.1 x.2.1⟩
def f_e_eqNetFlow : Fs := ⟨[k_eqExpAsk], []⟩
theorem g_e_eqNetFlow : f_e_eqNetFlow.Ok Tryz.prog := (fsK o_eqExpAsk fs0)
theorem o_e_eqNetFlow : k_e_eqNetFlow.Ok Tryz.prog := fn_ok (k := k_e_eqNetFlow) (fn := Tryz.f233) (W := []) (H := []) Tryz.func233 g_e_eqNetFlow trivial rfl rfl (fun av x => by kernel_rfl)
noncomputable def m_eqNetFlow (x : GFlow) (y : GFlow) : Option Bool := @gd (True) (Classical.propDecidable _) _ (some (decide (x = y)))
theorem c_eqNetFlow (x : GFlow) (y : GFlow) (h : True) : m_eqNetFlow x y = some (decide (x = y)) := gdC h
theorem s_eqNetFlow (x : GFlow) (y : GFlow) (h : True) : m_e_eqNetFlow x y = some (decide (x = y)) := by
  rw [m_e_eqNetFlow, c_eqExpAsk _ _ trivial, Option.bind_some]
  refine (eq_step (eq_step eq_end)).trans (congrArg some (decide_eq_decide.2 ⟨fun ⟨h0, h1, _⟩ => ?_, fun h => by subst h; simp⟩))
  cases x; cases y; simp_all
noncomputable def k_eqNetFlow : Con := ⟨233, [.v (.s .flow) false, .v (.s .flow) false], [(.B, true)], [], fun x => m_eqNetFlow x.1 x.2.1⟩
theorem o_eqNetFlow : k_eqNetFlow.Ok Tryz.prog := con_sub o_e_eqNetFlow fun x z hz => by
  obtain ⟨h, e⟩ := gdC_some hz
  subst e
  exact s_eqNetFlow _ _ h

def m_e_eqNetFlowS_k1  : Option Bool := some true
def m_e_eqNetFlowS_l0 (a : List GFlow) (b : List GFlow) (kx0_0 : Option Bool) : Nat → Int → Option Bool
  | 0, _ => none
  | n0 + 1, s0_0 => if decide (s0_0 < (a.length : Int)) = true then ((getI a s0_0).bind fun x3 => ((getI b s0_0).bind fun x4 => ((m_eqNetFlow x3 x4).bind fun x5 => (if x5 = true then (gd (ok64 (s0_0 + 1)) ((m_e_eqNetFlowS_l0 a b kx0_0 n0) (s0_0 + 1))) else (some false))))) else (kx0_0)
def m_e_eqNetFlowS (a : List GFlow) (b : List GFlow) : Option Bool := if decide ((a.length : Int) = (b.length : Int)) = true then (m_e_eqNetFlowS_l0 a b m_e_eqNetFlowS_k1 FUEL 0) else (some false)
def k_e_eqNetFlowS : Con := ⟨220, [.v (.sl (.s .flow)) false, .v (.sl (.s .flow)) false], [(.B, true)], [], fun x => m_e_eqNetFlowS x.1 x.2.1⟩
def f_e_eqNetFlowS : Fs := ⟨[k_eqNetFlow], []⟩
theorem g_e_eqNetFlowS : f_e_eqNetFlowS.Ok Tryz.prog := (fsK o_eqNetFlow fs0)
def t_e_eqNetFlowS_0 : Tmpl := ⟨[(0, .c (.s (.s .flow))), (1, .c (.s (.s .flow))), (5, .c .i)], []⟩
def x0_e_eqNetFlowS_0 : Tmpl := ⟨[], []⟩
def L_e_eqNetFlowS_0 (av : AV) (x : HP k_e_eqNetFlowS.ps) (n : Nat) (v : t_e_eqNetFlowS_0.den) (K : Ks (CR k_e_eqNetFlowS)) : Option (CR k_e_eqNetFlowS) := m_e_eqNetFlowS_l0 v.1.1 v.1.2.1 (x0_e_eqNetFlowS_0.at none ((), ()) (K (.exit 0))) n v.1.2.2.1
def h_e_eqNetFlowS_0 (av : AV) (x : HP k_e_eqNetFlowS.ps) : Hdl (CR k_e_eqNetFlowS) := hnd [] t_e_eqNetFlowS_0 (L_e_eqNetFlowS_0 av x)
theorem l_e_eqNetFlowS_0 : LP k_e_eqNetFlowS Tryz.f220 [0] h_e_eqNetFlowS_0 := lp_ok (W := []) (H := []) (xs := [x0_e_eqNetFlowS_0]) g_e_eqNetFlowS trivial rfl (fun av x v K => by kernel_rfl) (fun av x n v K => by kernel_rfl)
theorem o_e_eqNetFlowS : k_e_eqNetFlowS.Ok Tryz.prog := fn_ok (k := k_e_eqNetFlowS) (fn := Tryz.f220) (W := []) (H := [h_e_eqNetFlowS_0]) Tryz.func220 g_e_eqNetFlowS ⟨l_e_eqNetFlowS_0, trivial⟩ rfl rfl (fun av x => by kernel_rfl)
noncomputable def m_eqNetFlowS (a : List GFlow) (b : List GFlow) : Option Bool := @gd ((a.length ≤ 1048576)) (Classical.propDecidable _) _ (some (decide (a = b)))
theorem c_eqNetFlowS (a : List GFlow) (b : List GFlow) (h : (a.length ≤ 1048576)) : m_eqNetFlowS a b = some (decide (a = b)) := gdC h
theorem s_eqNetFlowS (a : List GFlow) (b : List GFlow) (h : (a.length ≤ 1048576)) : m_e_eqNetFlowS a b = some (decide (a = b)) := by
  have hl := h
  refine eq_len fun hab => eq_gen (f := m_e_eqNetFlowS_l0 a b m_e_eqNetFlowS_k1) (by omega) hab (fun n i hi hj => ?_) (fun n => ?_)
  · rw [m_e_eqNetFlowS_l0, if_pos (decide_eq_true (Int.ofNat_lt.2 hi)), getI_lt hi, Option.bind_some, getI_lt hj, Option.bind_some, c_eqNetFlow _ _ trivial, Option.bind_some, gd_pos (ok64i hi h)]; rfl
  · rw [m_e_eqNetFlowS_l0, if_neg (by simp)]; rfl
noncomputable def k_eqNetFlowS : Con := ⟨220, [.v (.sl (.s .flow)) false, .v (.sl (.s .flow)) false], [(.B, true)], [], fun x => m_eqNetFlowS x.1 x.2.1⟩
theorem o_eqNetFlowS : k_eqNetFlowS.Ok Tryz.prog := con_sub o_e_eqNetFlowS fun x z hz => by
  obtain ⟨h, e⟩ := gdC_some hz
  subst e
  exact s_eqNetFlowS _ _ h

def m_e_eqNetTask (x : GTask) (y : GTask) : Option Bool := if decide (x.join = y.join) = true then (if decide (x.split = y.split) = true then ((m_eqIntS x.in_ y.in_).bind fun x3 => (if x3 = true then ((m_eqNetFlowS x.out y.out).bind fun x5 => (if x5 = true then ((m_eqIntS x.clear y.clear).bind fun x7 => (if x7 = true then (if decide (x.role = y.role) = true then (if decide (x.apart = y.apart) = true then (if decide (x.all = y.all) = true then (if decide (x.need = y.need) = true then (some true) else (some false)) else (some false)) else (some false)) else (some false)) else (some false))) else (some false))) else (some false))) else (some false)) else (some false)
def k_e_eqNetTask : Con := ⟨188, [.v (.s .task) false, .v (.s .task) false], [(.B, true)], [], fun x => m_e_eqNetTask x.1 x.2.1⟩
def f_e_eqNetTask : Fs := ⟨[k_eqIntS, k_eqNetFlowS], []⟩
theorem g_e_eqNetTask : f_e_eqNetTask.Ok Tryz.prog := (fsK o_eqIntS (fsK o_eqNetFlowS fs0))
theorem o_e_eqNetTask : k_e_eqNetTask.Ok Tryz.prog := fn_ok (k := k_e_eqNetTask) (fn := Tryz.f188) (W := []) (H := []) Tryz.func188 g_e_eqNetTask trivial rfl rfl (fun av x => by kernel_rfl)
noncomputable def m_eqNetTask (x : GTask) (y : GTask) : Option Bool := @gd ((GTask.lens (· ≤ 1048576) x) ∧ (GTask.lens (· ≤ 1048576) y)) (Classical.propDecidable _) _ (some (decide (x = y)))
theorem c_eqNetTask (x : GTask) (y : GTask) (h : (GTask.lens (· ≤ 1048576) x) ∧ (GTask.lens (· ≤ 1048576) y)) : m_eqNetTask x y = some (decide (x = y)) := gdC h
theorem s_eqNetTask (x : GTask) (y : GTask) (h : (GTask.lens (· ≤ 1048576) x) ∧ (GTask.lens (· ≤ 1048576) y)) : m_e_eqNetTask x y = some (decide (x = y)) := by
  rw [m_e_eqNetTask, c_eqIntS _ _ h.1.1, Option.bind_some, c_eqNetFlowS _ _ h.1.2.1, Option.bind_some, c_eqIntS _ _ h.1.2.2, Option.bind_some]
  refine (eq_step (eq_step (eq_step (eq_step (eq_step (eq_step (eq_step (eq_step (eq_step eq_end))))))))).trans (congrArg some (decide_eq_decide.2 ⟨fun ⟨h0, h1, h2, h3, h4, h5, h6, h7, h8, _⟩ => ?_, fun h => by subst h; simp⟩))
  cases x; cases y; simp_all
noncomputable def k_eqNetTask : Con := ⟨188, [.v (.s .task) false, .v (.s .task) false], [(.B, true)], [], fun x => m_eqNetTask x.1 x.2.1⟩
theorem o_eqNetTask : k_eqNetTask.Ok Tryz.prog := con_sub o_e_eqNetTask fun x z hz => by
  obtain ⟨h, e⟩ := gdC_some hz
  subst e
  exact s_eqNetTask _ _ h

def m_e_eqNetTaskS_k1  : Option Bool := some true
def m_e_eqNetTaskS_l0 (a : List GTask) (b : List GTask) (kx0_0 : Option Bool) : Nat → Int → Option Bool
  | 0, _ => none
  | n0 + 1, s0_0 => if decide (s0_0 < (a.length : Int)) = true then ((getI a s0_0).bind fun x3 => ((getI b s0_0).bind fun x4 => ((m_eqNetTask x3 x4).bind fun x5 => (if x5 = true then (gd (ok64 (s0_0 + 1)) ((m_e_eqNetTaskS_l0 a b kx0_0 n0) (s0_0 + 1))) else (some false))))) else (kx0_0)
def m_e_eqNetTaskS (a : List GTask) (b : List GTask) : Option Bool := if decide ((a.length : Int) = (b.length : Int)) = true then (m_e_eqNetTaskS_l0 a b m_e_eqNetTaskS_k1 FUEL 0) else (some false)
def k_e_eqNetTaskS : Con := ⟨113, [.v (.sl (.s .task)) false, .v (.sl (.s .task)) false], [(.B, true)], [], fun x => m_e_eqNetTaskS x.1 x.2.1⟩
def f_e_eqNetTaskS : Fs := ⟨[k_eqNetTask], []⟩
theorem g_e_eqNetTaskS : f_e_eqNetTaskS.Ok Tryz.prog := (fsK o_eqNetTask fs0)
def t_e_eqNetTaskS_0 : Tmpl := ⟨[(0, .c (.s (.s .task))), (1, .c (.s (.s .task))), (5, .c .i)], []⟩
def x0_e_eqNetTaskS_0 : Tmpl := ⟨[], []⟩
def L_e_eqNetTaskS_0 (av : AV) (x : HP k_e_eqNetTaskS.ps) (n : Nat) (v : t_e_eqNetTaskS_0.den) (K : Ks (CR k_e_eqNetTaskS)) : Option (CR k_e_eqNetTaskS) := m_e_eqNetTaskS_l0 v.1.1 v.1.2.1 (x0_e_eqNetTaskS_0.at none ((), ()) (K (.exit 0))) n v.1.2.2.1
def h_e_eqNetTaskS_0 (av : AV) (x : HP k_e_eqNetTaskS.ps) : Hdl (CR k_e_eqNetTaskS) := hnd [] t_e_eqNetTaskS_0 (L_e_eqNetTaskS_0 av x)
theorem l_e_eqNetTaskS_0 : LP k_e_eqNetTaskS Tryz.f113 [0] h_e_eqNetTaskS_0 := lp_ok (W := []) (H := []) (xs := [x0_e_eqNetTaskS_0]) g_e_eqNetTaskS trivial rfl (fun av x v K => by kernel_rfl) (fun av x n v K => by kernel_rfl)
theorem o_e_eqNetTaskS : k_e_eqNetTaskS.Ok Tryz.prog := fn_ok (k := k_e_eqNetTaskS) (fn := Tryz.f113) (W := []) (H := [h_e_eqNetTaskS_0]) Tryz.func113 g_e_eqNetTaskS ⟨l_e_eqNetTaskS_0, trivial⟩ rfl rfl (fun av x => by kernel_rfl)
noncomputable def m_eqNetTaskS (a : List GTask) (b : List GTask) : Option Bool := @gd ((a.length ≤ 1048576) ∧ (∀ y ∈ a, GTask.lens (· ≤ 1048576) y) ∧ (∀ y ∈ b, GTask.lens (· ≤ 1048576) y)) (Classical.propDecidable _) _ (some (decide (a = b)))
theorem c_eqNetTaskS (a : List GTask) (b : List GTask) (h : (a.length ≤ 1048576) ∧ (∀ y ∈ a, GTask.lens (· ≤ 1048576) y) ∧ (∀ y ∈ b, GTask.lens (· ≤ 1048576) y)) : m_eqNetTaskS a b = some (decide (a = b)) := gdC h
theorem s_eqNetTaskS (a : List GTask) (b : List GTask) (h : (a.length ≤ 1048576) ∧ (∀ y ∈ a, GTask.lens (· ≤ 1048576) y) ∧ (∀ y ∈ b, GTask.lens (· ≤ 1048576) y)) : m_e_eqNetTaskS a b = some (decide (a = b)) := by
  have hl := h.1
  refine eq_len fun hab => eq_gen (f := m_e_eqNetTaskS_l0 a b m_e_eqNetTaskS_k1) (by omega) hab (fun n i hi hj => ?_) (fun n => ?_)
  · rw [m_e_eqNetTaskS_l0, if_pos (decide_eq_true (Int.ofNat_lt.2 hi)), getI_lt hi, Option.bind_some, getI_lt hj, Option.bind_some, c_eqNetTask _ _ ⟨h.2.1 _ (List.getElem_mem _), h.2.2 _ (List.getElem_mem _)⟩, Option.bind_some, gd_pos (ok64i hi h.1)]; rfl
  · rw [m_e_eqNetTaskS_l0, if_neg (by simp)]; rfl
noncomputable def k_eqNetTaskS : Con := ⟨113, [.v (.sl (.s .task)) false, .v (.sl (.s .task)) false], [(.B, true)], [], fun x => m_eqNetTaskS x.1 x.2.1⟩
theorem o_eqNetTaskS : k_eqNetTaskS.Ok Tryz.prog := con_sub o_e_eqNetTaskS fun x z hz => by
  obtain ⟨h, e⟩ := gdC_some hz
  subst e
  exact s_eqNetTaskS _ _ h

def m_e_eqNetNet (x : GNet) (y : GNet) : Option Bool := if decide (x.places = y.places) = true then ((m_eqNetTaskS x.tasks y.tasks).bind fun x2 => (if x2 = true then (some true) else (some false))) else (some false)
def k_e_eqNetNet : Con := ⟨41, [.v (.s .net) false, .v (.s .net) false], [(.B, true)], [], fun x => m_e_eqNetNet x.1 x.2.1⟩
def f_e_eqNetNet : Fs := ⟨[k_eqNetTaskS], []⟩
theorem g_e_eqNetNet : f_e_eqNetNet.Ok Tryz.prog := (fsK o_eqNetTaskS fs0)
theorem o_e_eqNetNet : k_e_eqNetNet.Ok Tryz.prog := fn_ok (k := k_e_eqNetNet) (fn := Tryz.f41) (W := []) (H := []) Tryz.func41 g_e_eqNetNet trivial rfl rfl (fun av x => by kernel_rfl)
noncomputable def m_eqNetNet (x : GNet) (y : GNet) : Option Bool := @gd ((GNet.lens (· ≤ 1048576) x) ∧ (GNet.lens (· ≤ 1048576) y)) (Classical.propDecidable _) _ (some (decide (x = y)))
theorem c_eqNetNet (x : GNet) (y : GNet) (h : (GNet.lens (· ≤ 1048576) x) ∧ (GNet.lens (· ≤ 1048576) y)) : m_eqNetNet x y = some (decide (x = y)) := gdC h
theorem s_eqNetNet (x : GNet) (y : GNet) (h : (GNet.lens (· ≤ 1048576) x) ∧ (GNet.lens (· ≤ 1048576) y)) : m_e_eqNetNet x y = some (decide (x = y)) := by
  rw [m_e_eqNetNet, c_eqNetTaskS _ _ ⟨h.1.1, h.1.2, h.2.2⟩, Option.bind_some]
  refine (eq_step (eq_step eq_end)).trans (congrArg some (decide_eq_decide.2 ⟨fun ⟨h0, h1, _⟩ => ?_, fun h => by subst h; simp⟩))
  cases x; cases y; simp_all
noncomputable def k_eqNetNet : Con := ⟨41, [.v (.s .net) false, .v (.s .net) false], [(.B, true)], [], fun x => m_eqNetNet x.1 x.2.1⟩
theorem o_eqNetNet : k_eqNetNet.Ok Tryz.prog := con_sub o_e_eqNetNet fun x z hz => by
  obtain ⟨h, e⟩ := gdC_some hz
  subst e
  exact s_eqNetNet _ _ h

def m_e_eqCasItem (x : GItem) (y : GItem) : Option Bool := if decide (x.task = y.task) = true then (if decide (x.who = y.who) = true then (if decide (x.did = y.did) = true then (some true) else (some false)) else (some false)) else (some false)
def k_e_eqCasItem : Con := ⟨186, [.v (.s .item) false, .v (.s .item) false], [(.B, true)], [], fun x => m_e_eqCasItem x.1 x.2.1⟩
def f_e_eqCasItem : Fs := ⟨[], []⟩
theorem g_e_eqCasItem : f_e_eqCasItem.Ok Tryz.prog := fs0
theorem o_e_eqCasItem : k_e_eqCasItem.Ok Tryz.prog := fn_ok (k := k_e_eqCasItem) (fn := Tryz.f186) (W := []) (H := []) Tryz.func186 g_e_eqCasItem trivial rfl rfl (fun av x => by kernel_rfl)
noncomputable def m_eqCasItem (x : GItem) (y : GItem) : Option Bool := @gd (True) (Classical.propDecidable _) _ (some (decide (x = y)))
theorem c_eqCasItem (x : GItem) (y : GItem) (h : True) : m_eqCasItem x y = some (decide (x = y)) := gdC h
theorem s_eqCasItem (x : GItem) (y : GItem) (h : True) : m_e_eqCasItem x y = some (decide (x = y)) := by
  unfold m_e_eqCasItem
  refine (eq_step (eq_step (eq_step eq_end))).trans (congrArg some (decide_eq_decide.2 ⟨fun ⟨h0, h1, h2, _⟩ => ?_, fun h => by subst h; simp⟩))
  cases x; cases y; simp_all
noncomputable def k_eqCasItem : Con := ⟨186, [.v (.s .item) false, .v (.s .item) false], [(.B, true)], [], fun x => m_eqCasItem x.1 x.2.1⟩
theorem o_eqCasItem : k_eqCasItem.Ok Tryz.prog := con_sub o_e_eqCasItem fun x z hz => by
  obtain ⟨h, e⟩ := gdC_some hz
  subst e
  exact s_eqCasItem _ _ h

def m_e_eqCasItemS_k1  : Option Bool := some true
def m_e_eqCasItemS_l0 (a : List GItem) (b : List GItem) (kx0_0 : Option Bool) : Nat → Int → Option Bool
  | 0, _ => none
  | n0 + 1, s0_0 => if decide (s0_0 < (a.length : Int)) = true then ((getI a s0_0).bind fun x3 => ((getI b s0_0).bind fun x4 => ((m_eqCasItem x3 x4).bind fun x5 => (if x5 = true then (gd (ok64 (s0_0 + 1)) ((m_e_eqCasItemS_l0 a b kx0_0 n0) (s0_0 + 1))) else (some false))))) else (kx0_0)
def m_e_eqCasItemS (a : List GItem) (b : List GItem) : Option Bool := if decide ((a.length : Int) = (b.length : Int)) = true then (m_e_eqCasItemS_l0 a b m_e_eqCasItemS_k1 FUEL 0) else (some false)
def k_e_eqCasItemS : Con := ⟨111, [.v (.sl (.s .item)) false, .v (.sl (.s .item)) false], [(.B, true)], [], fun x => m_e_eqCasItemS x.1 x.2.1⟩
def f_e_eqCasItemS : Fs := ⟨[k_eqCasItem], []⟩
theorem g_e_eqCasItemS : f_e_eqCasItemS.Ok Tryz.prog := (fsK o_eqCasItem fs0)
def t_e_eqCasItemS_0 : Tmpl := ⟨[(0, .c (.s (.s .item))), (1, .c (.s (.s .item))), (5, .c .i)], []⟩
def x0_e_eqCasItemS_0 : Tmpl := ⟨[], []⟩
def L_e_eqCasItemS_0 (av : AV) (x : HP k_e_eqCasItemS.ps) (n : Nat) (v : t_e_eqCasItemS_0.den) (K : Ks (CR k_e_eqCasItemS)) : Option (CR k_e_eqCasItemS) := m_e_eqCasItemS_l0 v.1.1 v.1.2.1 (x0_e_eqCasItemS_0.at none ((), ()) (K (.exit 0))) n v.1.2.2.1
def h_e_eqCasItemS_0 (av : AV) (x : HP k_e_eqCasItemS.ps) : Hdl (CR k_e_eqCasItemS) := hnd [] t_e_eqCasItemS_0 (L_e_eqCasItemS_0 av x)
theorem l_e_eqCasItemS_0 : LP k_e_eqCasItemS Tryz.f111 [0] h_e_eqCasItemS_0 := lp_ok (W := []) (H := []) (xs := [x0_e_eqCasItemS_0]) g_e_eqCasItemS trivial rfl (fun av x v K => by kernel_rfl) (fun av x n v K => by kernel_rfl)
theorem o_e_eqCasItemS : k_e_eqCasItemS.Ok Tryz.prog := fn_ok (k := k_e_eqCasItemS) (fn := Tryz.f111) (W := []) (H := [h_e_eqCasItemS_0]) Tryz.func111 g_e_eqCasItemS ⟨l_e_eqCasItemS_0, trivial⟩ rfl rfl (fun av x => by kernel_rfl)
noncomputable def m_eqCasItemS (a : List GItem) (b : List GItem) : Option Bool := @gd ((a.length ≤ 1048576)) (Classical.propDecidable _) _ (some (decide (a = b)))
theorem c_eqCasItemS (a : List GItem) (b : List GItem) (h : (a.length ≤ 1048576)) : m_eqCasItemS a b = some (decide (a = b)) := gdC h
theorem s_eqCasItemS (a : List GItem) (b : List GItem) (h : (a.length ≤ 1048576)) : m_e_eqCasItemS a b = some (decide (a = b)) := by
  have hl := h
  refine eq_len fun hab => eq_gen (f := m_e_eqCasItemS_l0 a b m_e_eqCasItemS_k1) (by omega) hab (fun n i hi hj => ?_) (fun n => ?_)
  · rw [m_e_eqCasItemS_l0, if_pos (decide_eq_true (Int.ofNat_lt.2 hi)), getI_lt hi, Option.bind_some, getI_lt hj, Option.bind_some, c_eqCasItem _ _ trivial, Option.bind_some, gd_pos (ok64i hi h)]; rfl
  · rw [m_e_eqCasItemS_l0, if_neg (by simp)]; rfl
noncomputable def k_eqCasItemS : Con := ⟨111, [.v (.sl (.s .item)) false, .v (.sl (.s .item)) false], [(.B, true)], [], fun x => m_eqCasItemS x.1 x.2.1⟩
theorem o_eqCasItemS : k_eqCasItemS.Ok Tryz.prog := con_sub o_e_eqCasItemS fun x z hz => by
  obtain ⟨h, e⟩ := gdC_some hz
  subst e
  exact s_eqCasItemS _ _ h

def m_e_eqCasDid (x : GDid) (y : GDid) : Option Bool := if decide (x.task = y.task) = true then (if decide (x.who = y.who) = true then (some true) else (some false)) else (some false)
def k_e_eqCasDid : Con := ⟨187, [.v (.s .did) false, .v (.s .did) false], [(.B, true)], [], fun x => m_e_eqCasDid x.1 x.2.1⟩
def f_e_eqCasDid : Fs := ⟨[], []⟩
theorem g_e_eqCasDid : f_e_eqCasDid.Ok Tryz.prog := fs0
theorem o_e_eqCasDid : k_e_eqCasDid.Ok Tryz.prog := fn_ok (k := k_e_eqCasDid) (fn := Tryz.f187) (W := []) (H := []) Tryz.func187 g_e_eqCasDid trivial rfl rfl (fun av x => by kernel_rfl)
noncomputable def m_eqCasDid (x : GDid) (y : GDid) : Option Bool := @gd (True) (Classical.propDecidable _) _ (some (decide (x = y)))
theorem c_eqCasDid (x : GDid) (y : GDid) (h : True) : m_eqCasDid x y = some (decide (x = y)) := gdC h
theorem s_eqCasDid (x : GDid) (y : GDid) (h : True) : m_e_eqCasDid x y = some (decide (x = y)) := by
  unfold m_e_eqCasDid
  refine (eq_step (eq_step eq_end)).trans (congrArg some (decide_eq_decide.2 ⟨fun ⟨h0, h1, _⟩ => ?_, fun h => by subst h; simp⟩))
  cases x; cases y; simp_all
noncomputable def k_eqCasDid : Con := ⟨187, [.v (.s .did) false, .v (.s .did) false], [(.B, true)], [], fun x => m_eqCasDid x.1 x.2.1⟩
theorem o_eqCasDid : k_eqCasDid.Ok Tryz.prog := con_sub o_e_eqCasDid fun x z hz => by
  obtain ⟨h, e⟩ := gdC_some hz
  subst e
  exact s_eqCasDid _ _ h

def m_e_eqCasDidS_k1  : Option Bool := some true
def m_e_eqCasDidS_l0 (a : List GDid) (b : List GDid) (kx0_0 : Option Bool) : Nat → Int → Option Bool
  | 0, _ => none
  | n0 + 1, s0_0 => if decide (s0_0 < (a.length : Int)) = true then ((getI a s0_0).bind fun x3 => ((getI b s0_0).bind fun x4 => ((m_eqCasDid x3 x4).bind fun x5 => (if x5 = true then (gd (ok64 (s0_0 + 1)) ((m_e_eqCasDidS_l0 a b kx0_0 n0) (s0_0 + 1))) else (some false))))) else (kx0_0)
def m_e_eqCasDidS (a : List GDid) (b : List GDid) : Option Bool := if decide ((a.length : Int) = (b.length : Int)) = true then (m_e_eqCasDidS_l0 a b m_e_eqCasDidS_k1 FUEL 0) else (some false)
def k_e_eqCasDidS : Con := ⟨112, [.v (.sl (.s .did)) false, .v (.sl (.s .did)) false], [(.B, true)], [], fun x => m_e_eqCasDidS x.1 x.2.1⟩
def f_e_eqCasDidS : Fs := ⟨[k_eqCasDid], []⟩
theorem g_e_eqCasDidS : f_e_eqCasDidS.Ok Tryz.prog := (fsK o_eqCasDid fs0)
def t_e_eqCasDidS_0 : Tmpl := ⟨[(0, .c (.s (.s .did))), (1, .c (.s (.s .did))), (5, .c .i)], []⟩
def x0_e_eqCasDidS_0 : Tmpl := ⟨[], []⟩
def L_e_eqCasDidS_0 (av : AV) (x : HP k_e_eqCasDidS.ps) (n : Nat) (v : t_e_eqCasDidS_0.den) (K : Ks (CR k_e_eqCasDidS)) : Option (CR k_e_eqCasDidS) := m_e_eqCasDidS_l0 v.1.1 v.1.2.1 (x0_e_eqCasDidS_0.at none ((), ()) (K (.exit 0))) n v.1.2.2.1
def h_e_eqCasDidS_0 (av : AV) (x : HP k_e_eqCasDidS.ps) : Hdl (CR k_e_eqCasDidS) := hnd [] t_e_eqCasDidS_0 (L_e_eqCasDidS_0 av x)
theorem l_e_eqCasDidS_0 : LP k_e_eqCasDidS Tryz.f112 [0] h_e_eqCasDidS_0 := lp_ok (W := []) (H := []) (xs := [x0_e_eqCasDidS_0]) g_e_eqCasDidS trivial rfl (fun av x v K => by kernel_rfl) (fun av x n v K => by kernel_rfl)
theorem o_e_eqCasDidS : k_e_eqCasDidS.Ok Tryz.prog := fn_ok (k := k_e_eqCasDidS) (fn := Tryz.f112) (W := []) (H := [h_e_eqCasDidS_0]) Tryz.func112 g_e_eqCasDidS ⟨l_e_eqCasDidS_0, trivial⟩ rfl rfl (fun av x => by kernel_rfl)
noncomputable def m_eqCasDidS (a : List GDid) (b : List GDid) : Option Bool := @gd ((a.length ≤ 1048576)) (Classical.propDecidable _) _ (some (decide (a = b)))
theorem c_eqCasDidS (a : List GDid) (b : List GDid) (h : (a.length ≤ 1048576)) : m_eqCasDidS a b = some (decide (a = b)) := gdC h
theorem s_eqCasDidS (a : List GDid) (b : List GDid) (h : (a.length ≤ 1048576)) : m_e_eqCasDidS a b = some (decide (a = b)) := by
  have hl := h
  refine eq_len fun hab => eq_gen (f := m_e_eqCasDidS_l0 a b m_e_eqCasDidS_k1) (by omega) hab (fun n i hi hj => ?_) (fun n => ?_)
  · rw [m_e_eqCasDidS_l0, if_pos (decide_eq_true (Int.ofNat_lt.2 hi)), getI_lt hi, Option.bind_some, getI_lt hj, Option.bind_some, c_eqCasDid _ _ trivial, Option.bind_some, gd_pos (ok64i hi h)]; rfl
  · rw [m_e_eqCasDidS_l0, if_neg (by simp)]; rfl
noncomputable def k_eqCasDidS : Con := ⟨112, [.v (.sl (.s .did)) false, .v (.sl (.s .did)) false], [(.B, true)], [], fun x => m_eqCasDidS x.1 x.2.1⟩
theorem o_eqCasDidS : k_eqCasDidS.Ok Tryz.prog := con_sub o_e_eqCasDidS fun x z hz => by
  obtain ⟨h, e⟩ := gdC_some hz
  subst e
  exact s_eqCasDidS _ _ h

def m_e_eqCasCase (x : GCase) (y : GCase) : Option Bool := if decide (x.state = y.state) = true then ((m_eqIntS x.marks y.marks).bind fun x2 => (if x2 = true then ((m_eqCasItemS x.busy y.busy).bind fun x4 => (if x4 = true then ((m_eqIntS x.data y.data).bind fun x6 => (if x6 = true then ((m_eqCasDidS x.did y.did).bind fun x8 => (if x8 = true then (some true) else (some false))) else (some false))) else (some false))) else (some false))) else (some false)
def k_e_eqCasCase : Con := ⟨40, [.v (.s .kase) false, .v (.s .kase) false], [(.B, true)], [], fun x => m_e_eqCasCase x.1 x.2.1⟩
def f_e_eqCasCase : Fs := ⟨[k_eqIntS, k_eqCasItemS, k_eqCasDidS], []⟩
theorem g_e_eqCasCase : f_e_eqCasCase.Ok Tryz.prog := (fsK o_eqIntS (fsK o_eqCasItemS (fsK o_eqCasDidS fs0)))
theorem o_e_eqCasCase : k_e_eqCasCase.Ok Tryz.prog := fn_ok (k := k_e_eqCasCase) (fn := Tryz.f40) (W := []) (H := []) Tryz.func40 g_e_eqCasCase trivial rfl rfl (fun av x => by kernel_rfl)
noncomputable def m_eqCasCase (x : GCase) (y : GCase) : Option Bool := @gd ((GCase.lens (· ≤ 1048576) x) ∧ (GCase.lens (· ≤ 1048576) y)) (Classical.propDecidable _) _ (some (decide (x = y)))
theorem c_eqCasCase (x : GCase) (y : GCase) (h : (GCase.lens (· ≤ 1048576) x) ∧ (GCase.lens (· ≤ 1048576) y)) : m_eqCasCase x y = some (decide (x = y)) := gdC h
theorem s_eqCasCase (x : GCase) (y : GCase) (h : (GCase.lens (· ≤ 1048576) x) ∧ (GCase.lens (· ≤ 1048576) y)) : m_e_eqCasCase x y = some (decide (x = y)) := by
  rw [m_e_eqCasCase, c_eqIntS _ _ h.1.1, Option.bind_some, c_eqCasItemS _ _ h.1.2.1, Option.bind_some, c_eqIntS _ _ h.1.2.2.1, Option.bind_some, c_eqCasDidS _ _ h.1.2.2.2, Option.bind_some]
  refine (eq_step (eq_step (eq_step (eq_step (eq_step eq_end))))).trans (congrArg some (decide_eq_decide.2 ⟨fun ⟨h0, h1, h2, h3, h4, _⟩ => ?_, fun h => by subst h; simp⟩))
  cases x; cases y; simp_all
noncomputable def k_eqCasCase : Con := ⟨40, [.v (.s .kase) false, .v (.s .kase) false], [(.B, true)], [], fun x => m_eqCasCase x.1 x.2.1⟩
theorem o_eqCasCase : k_eqCasCase.Ok Tryz.prog := con_sub o_e_eqCasCase fun x z hz => by
  obtain ⟨h, e⟩ := gdC_some hz
  subst e
  exact s_eqCasCase _ _ h

def m_spec_l1In (n : Int) (low : Int) (high : Int) : Option Bool := if decide (low ≤ n) = true then (some (decide (n ≤ high))) else (some false)
def k_spec_l1In : Con := ⟨85, [.v .I false, .v .I false, .v .I false], [(.B, true)], [], fun x => m_spec_l1In x.1 x.2.1 x.2.2.1⟩
def f_spec_l1In : Fs := ⟨[], []⟩
theorem g_spec_l1In : f_spec_l1In.Ok Tryz.prog := fs0
theorem o_spec_l1In : k_spec_l1In.Ok Tryz.prog := fn_ok (k := k_spec_l1In) (fn := Tryz.f85) (W := []) (H := []) Tryz.func85 g_spec_l1In trivial rfl rfl (fun av x => by kernel_rfl)

def m_spec_DatOk_k1  : Option Bool := some true
def m_spec_DatOk_l0 (data : List Int) (kx0_0 : Option Bool) : Nat → Int → Option Bool
  | 0, _ => none
  | n0 + 1, s0_0 => if decide (s0_0 < (data.length : Int)) = true then ((getI data s0_0).bind fun x3 => ((m_spec_l1In x3 (-99) 99).bind fun x4 => (if x4 = true then (gd (ok64 (s0_0 + 1)) ((m_spec_DatOk_l0 data kx0_0 n0) (s0_0 + 1))) else (some false)))) else (kx0_0)
def m_spec_DatOk (data : List Int) : Option Bool := if decide ((data.length : Int) = 3) = true then (m_spec_DatOk_l0 data m_spec_DatOk_k1 FUEL 0) else (some false)
def k_spec_DatOk : Con := ⟨129, [.v (.sl .I) false], [(.B, true)], [], fun x => m_spec_DatOk x.1⟩
def f_spec_DatOk : Fs := ⟨[k_spec_l1In], []⟩
theorem g_spec_DatOk : f_spec_DatOk.Ok Tryz.prog := (fsK o_spec_l1In fs0)
def t_spec_DatOk_0 : Tmpl := ⟨[(0, .c (.s .I)), (3, .c .i)], []⟩
def x0_spec_DatOk_0 : Tmpl := ⟨[], []⟩
def L_spec_DatOk_0 (av : AV) (x : HP k_spec_DatOk.ps) (n : Nat) (v : t_spec_DatOk_0.den) (K : Ks (CR k_spec_DatOk)) : Option (CR k_spec_DatOk) := m_spec_DatOk_l0 v.1.1 (x0_spec_DatOk_0.at none ((), ()) (K (.exit 0))) n v.1.2.1
def h_spec_DatOk_0 (av : AV) (x : HP k_spec_DatOk.ps) : Hdl (CR k_spec_DatOk) := hnd [] t_spec_DatOk_0 (L_spec_DatOk_0 av x)
theorem l_spec_DatOk_0 : LP k_spec_DatOk Tryz.f129 [0] h_spec_DatOk_0 := lp_ok (W := []) (H := []) (xs := [x0_spec_DatOk_0]) g_spec_DatOk trivial rfl (fun av x v K => by kernel_rfl) (fun av x n v K => by kernel_rfl)
theorem o_spec_DatOk : k_spec_DatOk.Ok Tryz.prog := fn_ok (k := k_spec_DatOk) (fn := Tryz.f129) (W := []) (H := [h_spec_DatOk_0]) Tryz.func129 g_spec_DatOk ⟨l_spec_DatOk_0, trivial⟩ rfl rfl (fun av x => by kernel_rfl)

def m_spec_DatSet (data : List Int) (k : Int) (n : Int) : Option (List Int) := (m_spec_DatOk data).bind fun x1 => (if x1 = true then ((m_spec_l1In k 0 2).bind fun x3 => (if x3 = true then ((m_spec_l1In n (-99) 99).bind fun x5 => (if x5 = true then (gd (([] : List Int).length + data.length ≤ SMALL) ((getI (([] : List Int) ++ data) k).bind fun x8 => (some ((([] : List Int) ++ data).set k.toNat n)))) else (gd (([] : List Int).length + data.length ≤ SMALL) (some (([] : List Int) ++ data))))) else (gd (([] : List Int).length + data.length ≤ SMALL) (some (([] : List Int) ++ data))))) else (gd (([] : List Int).length + data.length ≤ SMALL) (some (([] : List Int) ++ data))))
def k_spec_DatSet : Con := ⟨190, [.v (.sl .I) false, .v .I false, .v .I false], [((.sl .I), true)], [], fun x => m_spec_DatSet x.1 x.2.1 x.2.2.1⟩
def f_spec_DatSet : Fs := ⟨[k_spec_DatOk, k_spec_l1In], []⟩
theorem g_spec_DatSet : f_spec_DatSet.Ok Tryz.prog := (fsK o_spec_DatOk (fsK o_spec_l1In fs0))
theorem o_spec_DatSet : k_spec_DatSet.Ok Tryz.prog := fn_ok (k := k_spec_DatSet) (fn := Tryz.f190) (W := []) (H := []) Tryz.func190 g_spec_DatSet trivial rfl rfl (fun av x => by kernel_rfl)

def m_spec_ExpOk (e : GAsk) : Option Bool := if decide (e.op = 0) = true then (some (decide ([e.op, e.var, e.k] = [0, 0, 0]))) else ((m_spec_l1In e.op 1 3).bind fun x2 => (if x2 = true then ((m_spec_l1In e.var 0 2).bind fun x4 => (if x4 = true then ((m_spec_l1In e.k (-99) 99).bind fun x6 => (some x6)) else (some false))) else (some false)))
def k_spec_ExpOk : Con := ⟨128, [.v (.s .ask) false], [(.B, true)], [], fun x => m_spec_ExpOk x.1⟩
def f_spec_ExpOk : Fs := ⟨[k_spec_l1In], []⟩
theorem g_spec_ExpOk : f_spec_ExpOk.Ok Tryz.prog := (fsK o_spec_l1In fs0)
theorem o_spec_ExpOk : k_spec_ExpOk.Ok Tryz.prog := fn_ok (k := k_spec_ExpOk) (fn := Tryz.f128) (W := []) (H := []) Tryz.func128 g_spec_ExpOk trivial rfl rfl (fun av x => by kernel_rfl)

def m_spec_ExpHolds (e : GAsk) (data : List Int) : Option Bool := (m_spec_ExpOk e).bind fun x1 => (if x1 = true then ((m_spec_DatOk data).bind fun x3 => (if x3 = true then (if decide (e.op = 1) = true then ((getI data e.var).bind fun x6 => (some (decide (x6 < e.k)))) else (if decide (e.op = 2) = true then ((getI data e.var).bind fun x8 => (some (decide (x8 = e.k)))) else (if decide (e.op = 3) = true then ((getI data e.var).bind fun x10 => (some (decide (e.k < x10)))) else (some true)))) else (some false))) else (some false))
def k_spec_ExpHolds : Con := ⟨156, [.v (.s .ask) false, .v (.sl .I) false], [(.B, true)], [], fun x => m_spec_ExpHolds x.1 x.2.1⟩
def f_spec_ExpHolds : Fs := ⟨[k_spec_ExpOk, k_spec_DatOk], []⟩
theorem g_spec_ExpHolds : f_spec_ExpHolds.Ok Tryz.prog := (fsK o_spec_ExpOk (fsK o_spec_DatOk fs0))
theorem o_spec_ExpHolds : k_spec_ExpHolds.Ok Tryz.prog := fn_ok (k := k_spec_ExpHolds) (fn := Tryz.f156) (W := []) (H := []) Tryz.func156 g_spec_ExpHolds trivial rfl rfl (fun av x => by kernel_rfl)

def m_impl_in (n : Int) (low : Int) (high : Int) : Option Bool := if decide (low ≤ n) = true then (some (decide (n ≤ high))) else (some false)
def k_impl_in : Con := ⟨87, [.v .I false, .v .I false, .v .I false], [(.B, true)], [], fun x => m_impl_in x.1 x.2.1 x.2.2.1⟩
def f_impl_in : Fs := ⟨[], []⟩
theorem g_impl_in : f_impl_in.Ok Tryz.prog := fs0
theorem o_impl_in : k_impl_in.Ok Tryz.prog := fn_ok (k := k_impl_in) (fn := Tryz.f87) (W := []) (H := []) Tryz.func87 g_impl_in trivial rfl rfl (fun av x => by kernel_rfl)

def m_impl_isDatum (n : Int) : Option Bool := (m_impl_in n (-99) 99).bind fun x1 => (some x1)
def k_impl_isDatum : Con := ⟨137, [.v .I false], [(.B, true)], [], fun x => m_impl_isDatum x.1⟩
def f_impl_isDatum : Fs := ⟨[k_impl_in], []⟩
theorem g_impl_isDatum : f_impl_isDatum.Ok Tryz.prog := (fsK o_impl_in fs0)
theorem o_impl_isDatum : k_impl_isDatum.Ok Tryz.prog := fn_ok (k := k_impl_isDatum) (fn := Tryz.f137) (W := []) (H := []) Tryz.func137 g_impl_isDatum trivial rfl rfl (fun av x => by kernel_rfl)

def m_impl_cloneInts (list : List Int) : Option (List Int) := gd (([] : List Int).length + list.length ≤ SMALL) (some (([] : List Int) ++ list))
def k_impl_cloneInts : Con := ⟨143, [.v (.sl .I) false], [((.sl .I), true)], [], fun x => m_impl_cloneInts x.1⟩
def f_impl_cloneInts : Fs := ⟨[], []⟩
theorem g_impl_cloneInts : f_impl_cloneInts.Ok Tryz.prog := fs0
theorem o_impl_cloneInts : k_impl_cloneInts.Ok Tryz.prog := fn_ok (k := k_impl_cloneInts) (fn := Tryz.f143) (W := []) (H := []) Tryz.func143 g_impl_cloneInts trivial rfl rfl (fun av x => by kernel_rfl)

def m_impl_ExpOk (e : GAsk) : Option Bool := if decide (e.op = 0) = true then (if decide (e.var = 0) = true then (some (decide (e.k = 0))) else (some false)) else ((m_impl_in e.op 1 3).bind fun x3 => (if x3 = true then ((m_impl_in e.var 0 2).bind fun x5 => (if x5 = true then ((m_impl_isDatum e.k).bind fun x7 => (some x7)) else (some false))) else (some false)))
def k_impl_ExpOk : Con := ⟨138, [.v (.s .ask) false], [(.B, true)], [], fun x => m_impl_ExpOk x.1⟩
def f_impl_ExpOk : Fs := ⟨[k_impl_in, k_impl_isDatum], []⟩
theorem g_impl_ExpOk : f_impl_ExpOk.Ok Tryz.prog := (fsK o_impl_in (fsK o_impl_isDatum fs0))
theorem o_impl_ExpOk : k_impl_ExpOk.Ok Tryz.prog := fn_ok (k := k_impl_ExpOk) (fn := Tryz.f138) (W := []) (H := []) Tryz.func138 g_impl_ExpOk trivial rfl rfl (fun av x => by kernel_rfl)

def m_spec_l2Rises_k1  : Option Bool := some true
def m_spec_l2Rises_l0 (list : List Int) (low : Int) (high : Int) (kx0_0 : Option Bool) : Nat → Int → Option Bool
  | 0, _ => none
  | n0 + 1, s0_0 => if decide (s0_0 < (list.length : Int)) = true then ((getI list s0_0).bind fun x4 => ((m_spec_l1In x4 low high).bind fun x5 => (if x5 = true then (if decide (0 < s0_0) = true then (gd (ok64 (s0_0 - 1)) ((getI list (s0_0 - 1)).bind fun x9 => ((getI list s0_0).bind fun x10 => (if decide (x10 ≤ x9) = true then (some false) else (gd (ok64 (s0_0 + 1)) ((m_spec_l2Rises_l0 list low high kx0_0 n0) (s0_0 + 1))))))) else (gd (ok64 (s0_0 + 1)) ((m_spec_l2Rises_l0 list low high kx0_0 n0) (s0_0 + 1)))) else (some false)))) else (kx0_0)
def m_spec_l2Rises (list : List Int) (least : Int) (most : Int) (low : Int) (high : Int) : Option Bool := (m_spec_l1In (list.length : Int) least most).bind fun x1 => (if x1 = true then (m_spec_l2Rises_l0 list low high m_spec_l2Rises_k1 FUEL 0) else (some false))
def k_spec_l2Rises : Con := ⟨225, [.v (.sl .I) false, .v .I false, .v .I false, .v .I false, .v .I false], [(.B, true)], [], fun x => m_spec_l2Rises x.1 x.2.1 x.2.2.1 x.2.2.2.1 x.2.2.2.2.1⟩
def f_spec_l2Rises : Fs := ⟨[k_spec_l1In], []⟩
theorem g_spec_l2Rises : f_spec_l2Rises.Ok Tryz.prog := (fsK o_spec_l1In fs0)
def t_spec_l2Rises_0 : Tmpl := ⟨[(0, .c (.s .I)), (3, .c .i), (4, .c .i), (11, .c .i)], []⟩
def x0_spec_l2Rises_0 : Tmpl := ⟨[], []⟩
def L_spec_l2Rises_0 (av : AV) (x : HP k_spec_l2Rises.ps) (n : Nat) (v : t_spec_l2Rises_0.den) (K : Ks (CR k_spec_l2Rises)) : Option (CR k_spec_l2Rises) := m_spec_l2Rises_l0 v.1.1 v.1.2.1 v.1.2.2.1 (x0_spec_l2Rises_0.at none ((), ()) (K (.exit 0))) n v.1.2.2.2.1
def h_spec_l2Rises_0 (av : AV) (x : HP k_spec_l2Rises.ps) : Hdl (CR k_spec_l2Rises) := hnd [] t_spec_l2Rises_0 (L_spec_l2Rises_0 av x)
theorem l_spec_l2Rises_0 : LP k_spec_l2Rises Tryz.f225 [0] h_spec_l2Rises_0 := lp_ok (W := []) (H := []) (xs := [x0_spec_l2Rises_0]) g_spec_l2Rises trivial rfl (fun av x v K => by kernel_rfl) (fun av x n v K => by kernel_rfl)
theorem o_spec_l2Rises : k_spec_l2Rises.Ok Tryz.prog := fn_ok (k := k_spec_l2Rises) (fn := Tryz.f225) (W := []) (H := [h_spec_l2Rises_0]) Tryz.func225 g_spec_l2Rises ⟨l_spec_l2Rises_0, trivial⟩ rfl rfl (fun av x => by kernel_rfl)

def m_spec_l2Has_k1  : Option Bool := some false
def m_spec_l2Has_l0 (list : List Int) (n : Int) (kx0_0 : Option Bool) : Nat → Int → Option Bool
  | 0, _ => none
  | n0 + 1, s0_0 => if decide (s0_0 < (list.length : Int)) = true then ((getI list s0_0).bind fun x2 => (if decide (x2 = n) = true then (some true) else (gd (ok64 (s0_0 + 1)) ((m_spec_l2Has_l0 list n kx0_0 n0) (s0_0 + 1))))) else (kx0_0)
def m_spec_l2Has (list : List Int) (n : Int) : Option Bool := m_spec_l2Has_l0 list n m_spec_l2Has_k1 FUEL 0
def k_spec_l2Has : Con := ⟨99, [.v (.sl .I) false, .v .I false], [(.B, true)], [], fun x => m_spec_l2Has x.1 x.2.1⟩
def f_spec_l2Has : Fs := ⟨[], []⟩
theorem g_spec_l2Has : f_spec_l2Has.Ok Tryz.prog := fs0
def t_spec_l2Has_0 : Tmpl := ⟨[(0, .c (.s .I)), (1, .c .i), (5, .c .i)], []⟩
def x0_spec_l2Has_0 : Tmpl := ⟨[], []⟩
def L_spec_l2Has_0 (av : AV) (x : HP k_spec_l2Has.ps) (n : Nat) (v : t_spec_l2Has_0.den) (K : Ks (CR k_spec_l2Has)) : Option (CR k_spec_l2Has) := m_spec_l2Has_l0 v.1.1 v.1.2.1 (x0_spec_l2Has_0.at none ((), ()) (K (.exit 0))) n v.1.2.2.1
def h_spec_l2Has_0 (av : AV) (x : HP k_spec_l2Has.ps) : Hdl (CR k_spec_l2Has) := hnd [] t_spec_l2Has_0 (L_spec_l2Has_0 av x)
theorem l_spec_l2Has_0 : LP k_spec_l2Has Tryz.f99 [0] h_spec_l2Has_0 := lp_ok (W := []) (H := []) (xs := [x0_spec_l2Has_0]) g_spec_l2Has trivial rfl (fun av x v K => by kernel_rfl) (fun av x n v K => by kernel_rfl)
theorem o_spec_l2Has : k_spec_l2Has.Ok Tryz.prog := fn_ok (k := k_spec_l2Has) (fn := Tryz.f99) (W := []) (H := [h_spec_l2Has_0]) Tryz.func99 g_spec_l2Has ⟨l_spec_l2Has_0, trivial⟩ rfl rfl (fun av x => by kernel_rfl)

def m_spec_l2Flows_k1 (s0_0 : Int) (bk0 : Int → Option Bool) : Option Bool := gd (ok64 (s0_0 + 1)) (bk0 (s0_0 + 1))
def m_spec_l2Flows_l1 (t : GTask) (s0_0 : Int) (x4 : GFlow) (kx1_0 : Option Bool) : Nat → Int → Option Bool
  | 0, _ => none
  | n1 + 1, s1_0 => if decide (s1_0 < s0_0) = true then ((getI t.out s1_0).bind fun x14 => (if decide (x14.to = x4.to) = true then (some false) else (gd (ok64 (s1_0 + 1)) ((m_spec_l2Flows_l1 t s0_0 x4 kx1_0 n1) (s1_0 + 1))))) else (kx1_0)
def m_spec_l2Flows_k2 (s0_0 : Int) (bk0 : Int → Option Bool) : Option Bool := gd (ok64 (s0_0 + 1)) (bk0 (s0_0 + 1))
def m_spec_l2Flows_k3  : Option Bool := some true
def m_spec_l2Flows_l0 (t : GTask) (places : Int) (kx0_0 : Option Bool) : Nat → Int → Option Bool
  | 0, _ => none
  | n0 + 1, s0_0 => if decide (s0_0 < (t.out.length : Int)) = true then ((getI t.out s0_0).bind fun x4 => (gd (ok64 ((t.out.length : Int) - 1)) (if decide (s0_0 = ((t.out.length : Int) - 1)) = true then (gd (ok64 (places - 1)) ((m_spec_l1In x4.to 1 (places - 1)).bind fun x8 => (if x8 = true then ((m_spec_ExpOk x4.if_).bind fun x10 => (if x10 = true then (if (true == (decide (x4.if_.op = 0))) = true then (m_spec_l2Flows_l1 t s0_0 x4 (m_spec_l2Flows_k1 s0_0 (m_spec_l2Flows_l0 t places kx0_0 n0)) FUEL 0) else (some false)) else (some false))) else (some false)))) else (gd (ok64 (places - 1)) ((m_spec_l1In x4.to 1 (places - 1)).bind fun x19 => (if x19 = true then ((m_spec_ExpOk x4.if_).bind fun x21 => (if x21 = true then (if ((decide (t.split = 1)) == (decide (x4.if_.op = 0))) = true then (m_spec_l2Flows_l1 t s0_0 x4 (m_spec_l2Flows_k2 s0_0 (m_spec_l2Flows_l0 t places kx0_0 n0)) FUEL 0) else (some false)) else (some false))) else (some false))))))) else (kx0_0)
def m_spec_l2Flows (t : GTask) (places : Int) : Option Bool := (m_spec_l1In (t.out.length : Int) 1 3).bind fun x1 => (if x1 = true then (m_spec_l2Flows_l0 t places m_spec_l2Flows_k3 FUEL 0) else (some false))
def k_spec_l2Flows : Con := ⟨226, [.v (.s .task) false, .v .I false], [(.B, true)], [], fun x => m_spec_l2Flows x.1 x.2.1⟩
def f_spec_l2Flows : Fs := ⟨[k_spec_l1In, k_spec_ExpOk], []⟩
theorem g_spec_l2Flows : f_spec_l2Flows.Ok Tryz.prog := (fsK o_spec_l1In (fsK o_spec_ExpOk fs0))
def t_spec_l2Flows_0_0 : Tmpl := ⟨[(1, .c .i), (2, .c (.bx 2 0)), (5, .c .i), (6, .c (.bx 6 0)), (8, .c .i)], [(2, .boxT (.s .task)), (6, .boxT (.s .flow))]⟩
def x0_spec_l2Flows_0_0 : Tmpl := ⟨[(1, .c .i), (2, .c (.bx 2 0)), (5, .c .i)], [(2, .boxT (.s .task))]⟩
def L_spec_l2Flows_0_0 (av : AV) (x : HP k_spec_l2Flows.ps) (n : Nat) (v : t_spec_l2Flows_0_0.den) (K : Ks (CR k_spec_l2Flows)) : Option (CR k_spec_l2Flows) := m_spec_l2Flows_l1 v.2.1 v.1.2.2.1 v.2.2.1 (x0_spec_l2Flows_0_0.at none ((v.1.1, (), v.1.2.2.1, ()), (v.2.1, ())) (K (.exit 2))) n v.1.2.2.2.2.1
def h_spec_l2Flows_0_0 (av : AV) (x : HP k_spec_l2Flows.ps) : Hdl (CR k_spec_l2Flows) := hnd [] t_spec_l2Flows_0_0 (L_spec_l2Flows_0_0 av x)
theorem l_spec_l2Flows_0_0 : LP k_spec_l2Flows Tryz.f226 [0, 0] h_spec_l2Flows_0_0 := lp_ok (W := []) (H := []) (xs := [x0_spec_l2Flows_0_0]) g_spec_l2Flows trivial rfl (fun av x v K => by kernel_rfl) (fun av x n v K => by kernel_rfl)
def t_spec_l2Flows_0 : Tmpl := ⟨[(1, .c .i), (2, .c (.bx 2 0)), (5, .c .i)], [(2, .boxT (.s .task))]⟩
def x0_spec_l2Flows_0 : Tmpl := ⟨[], []⟩
def L_spec_l2Flows_0 (av : AV) (x : HP k_spec_l2Flows.ps) (n : Nat) (v : t_spec_l2Flows_0.den) (K : Ks (CR k_spec_l2Flows)) : Option (CR k_spec_l2Flows) := m_spec_l2Flows_l0 v.2.1 v.1.1 (x0_spec_l2Flows_0.at none ((), ()) (K (.exit 0))) n v.1.2.2.1
def h_spec_l2Flows_0 (av : AV) (x : HP k_spec_l2Flows.ps) : Hdl (CR k_spec_l2Flows) := hnd [] t_spec_l2Flows_0 (L_spec_l2Flows_0 av x)
theorem l_spec_l2Flows_0 : LP k_spec_l2Flows Tryz.f226 [0] h_spec_l2Flows_0 := lp_ok (W := []) (H := [h_spec_l2Flows_0_0]) (xs := [x0_spec_l2Flows_0]) g_spec_l2Flows ⟨l_spec_l2Flows_0_0, trivial⟩ rfl (fun av x v K => by kernel_rfl) (fun av x n v K => by kernel_rfl)
theorem o_spec_l2Flows : k_spec_l2Flows.Ok Tryz.prog := fn_ok (k := k_spec_l2Flows) (fn := Tryz.f226) (W := []) (H := [h_spec_l2Flows_0]) Tryz.func226 g_spec_l2Flows ⟨l_spec_l2Flows_0, trivial⟩ rfl rfl (fun av x => by kernel_rfl)

def m_spec_l2Task (t : GTask) (places : Int) (tasks : Int) : Option Bool := (m_spec_l1In t.join 1 3).bind fun x1 => (if x1 = true then ((m_spec_l1In t.split 1 3).bind fun x3 => (if x3 = true then (gd (ok64 (places - 1)) ((m_spec_l2Rises t.in_ 1 3 0 (places - 1)).bind fun x6 => (if x6 = true then ((m_spec_l2Has t.in_ 1).bind fun x8 => (if x8 = true then (some false) else ((m_spec_l2Flows t places).bind fun x10 => (if x10 = true then (gd (ok64 (places - 1)) ((m_spec_l2Rises t.clear 0 places 2 (places - 1)).bind fun x13 => (if x13 = true then ((m_spec_l1In t.role 1 3).bind fun x15 => (if x15 = true then (gd (ok64 (tasks - 1)) ((m_spec_l1In t.apart (-1) (tasks - 1)).bind fun x18 => (if x18 = true then ((m_spec_l1In t.all 1 3).bind fun x20 => (if x20 = true then ((m_spec_l1In t.need 1 t.all).bind fun x22 => (some x22)) else (some false))) else (some false)))) else (some false))) else (some false)))) else (some false))))) else (some false)))) else (some false))) else (some false))
def k_spec_l2Task : Con := ⟨205, [.v (.s .task) false, .v .I false, .v .I false], [(.B, true)], [], fun x => m_spec_l2Task x.1 x.2.1 x.2.2.1⟩
def f_spec_l2Task : Fs := ⟨[k_spec_l1In, k_spec_l2Rises, k_spec_l2Has, k_spec_l2Flows], []⟩
theorem g_spec_l2Task : f_spec_l2Task.Ok Tryz.prog := (fsK o_spec_l1In (fsK o_spec_l2Rises (fsK o_spec_l2Has (fsK o_spec_l2Flows fs0))))
theorem o_spec_l2Task : k_spec_l2Task.Ok Tryz.prog := fn_ok (k := k_spec_l2Task) (fn := Tryz.f205) (W := []) (H := []) Tryz.func205 g_spec_l2Task trivial rfl rfl (fun av x => by kernel_rfl)

def m_spec_NetOk_k1  : Option Bool := some true
def m_spec_NetOk_l0 (n : GNet) (kx0_0 : Option Bool) : Nat → Int → Option Bool
  | 0, _ => none
  | n0 + 1, s0_0 => if decide (s0_0 < (n.tasks.length : Int)) = true then ((getI n.tasks s0_0).bind fun x6 => ((m_spec_l2Task x6 n.places (n.tasks.length : Int)).bind fun x7 => (if x7 = true then (gd (ok64 (s0_0 + 1)) ((m_spec_NetOk_l0 n kx0_0 n0) (s0_0 + 1))) else (some false)))) else (kx0_0)
def m_spec_NetOk (n : GNet) : Option Bool := (m_spec_l1In n.places 2 8).bind fun x1 => (if x1 = true then ((m_spec_l1In (n.tasks.length : Int) 1 6).bind fun x3 => (if x3 = true then (m_spec_NetOk_l0 n m_spec_NetOk_k1 FUEL 0) else (some false))) else (some false))
def k_spec_NetOk : Con := ⟨155, [.v (.s .net) false], [(.B, true)], [], fun x => m_spec_NetOk x.1⟩
def f_spec_NetOk : Fs := ⟨[k_spec_l1In, k_spec_l2Task], []⟩
theorem g_spec_NetOk : f_spec_NetOk.Ok Tryz.prog := (fsK o_spec_l1In (fsK o_spec_l2Task fs0))
def t_spec_NetOk_0 : Tmpl := ⟨[(1, .c (.bx 1 0)), (3, .c .i)], [(1, .boxT (.s .net))]⟩
def x0_spec_NetOk_0 : Tmpl := ⟨[], []⟩
def L_spec_NetOk_0 (av : AV) (x : HP k_spec_NetOk.ps) (n : Nat) (v : t_spec_NetOk_0.den) (K : Ks (CR k_spec_NetOk)) : Option (CR k_spec_NetOk) := m_spec_NetOk_l0 v.2.1 (x0_spec_NetOk_0.at none ((), ()) (K (.exit 0))) n v.1.2.1
def h_spec_NetOk_0 (av : AV) (x : HP k_spec_NetOk.ps) : Hdl (CR k_spec_NetOk) := hnd [] t_spec_NetOk_0 (L_spec_NetOk_0 av x)
theorem l_spec_NetOk_0 : LP k_spec_NetOk Tryz.f155 [0] h_spec_NetOk_0 := lp_ok (W := []) (H := []) (xs := [x0_spec_NetOk_0]) g_spec_NetOk trivial rfl (fun av x v K => by kernel_rfl) (fun av x n v K => by kernel_rfl)
theorem o_spec_NetOk : k_spec_NetOk.Ok Tryz.prog := fn_ok (k := k_spec_NetOk) (fn := Tryz.f155) (W := []) (H := [h_spec_NetOk_0]) Tryz.func155 g_spec_NetOk ⟨l_spec_NetOk_0, trivial⟩ rfl rfl (fun av x => by kernel_rfl)

def m_spec_l2Spread_k2 (s1_0 : Int) (bk1 : Int → List Bool → Option (List Bool)) (l3_1 : List Bool) : Option (List Bool) := gd (ok64 (s1_0 + 1)) (bk1 (s1_0 + 1) l3_1)
def m_spec_l2Spread_k3 (s1_0 : Int) (bk1 : Int → List Bool → Option (List Bool)) (l3_1 : List Bool) : Option (List Bool) := gd (ok64 (s1_0 + 1)) (bk1 (s1_0 + 1) l3_1)
def m_spec_l2Spread_k4 (s1_0 : Int) (bk1 : Int → List Bool → Option (List Bool)) (l3_1 : List Bool) : Option (List Bool) := gd (ok64 (s1_0 + 1)) (bk1 (s1_0 + 1) l3_1)
def m_spec_l2Spread_l3 (n : GNet) (but : Int) (s1_0 : Int) (s2_0 : Bool) (kx3_0 : List Bool → Option (List Bool)) (kx3_1 : List Bool → Option (List Bool)) (kx3_2 : List Bool → Option (List Bool)) : Nat → Int → List Bool → Option (List Bool)
  | 0, _, _ => none
  | n3 + 1, s3_0, l3_1 => (getI n.tasks s1_0).bind fun x12 => (if decide (s3_0 < (x12.out.length : Int)) = true then (if s2_0 = true then (if decide (s1_0 = but) = true then (kx3_0 l3_1) else ((getI n.tasks s1_0).bind fun x17 => ((getI x17.out s3_0).bind fun x18 => ((getI l3_1 x18.to).bind fun x19 => (gd (ok64 (s3_0 + 1)) ((m_spec_l2Spread_l3 n but s1_0 s2_0 kx3_0 kx3_1 kx3_2 n3) (s3_0 + 1) (l3_1.set x18.to.toNat true))))))) else (kx3_1 l3_1)) else (kx3_2 l3_1))
def m_spec_l2Spread_k1 (n : GNet) (but : Int) (s1_0 : Int) (l1_1 : List Bool) (bk1 : Int → List Bool → Option (List Bool)) (s2_0 : Bool) : Option (List Bool) := m_spec_l2Spread_l3 n but s1_0 s2_0 (m_spec_l2Spread_k2 s1_0 bk1) (m_spec_l2Spread_k3 s1_0 bk1) (m_spec_l2Spread_k4 s1_0 bk1) FUEL 0 l1_1
def m_spec_l2Spread_l2 (n : GNet) (s1_0 : Int) (l1_1 : List Bool) (kx2_0 : Bool → Option (List Bool)) : Nat → Bool → Int → Option (List Bool)
  | 0, _, _ => none
  | n2 + 1, s2_0, s2_1 => (getI n.tasks s1_0).bind fun x4 => (if decide (s2_1 < (x4.in_.length : Int)) = true then (if s2_0 = true then (gd (ok64 (s2_1 + 1)) ((m_spec_l2Spread_l2 n s1_0 l1_1 kx2_0 n2) true (s2_1 + 1))) else ((getI n.tasks s1_0).bind fun x8 => ((getI x8.in_ s2_1).bind fun x9 => ((getI l1_1 x9).bind fun x10 => (gd (ok64 (s2_1 + 1)) ((m_spec_l2Spread_l2 n s1_0 l1_1 kx2_0 n2) x10 (s2_1 + 1))))))) else (kx2_0 s2_0))
def m_spec_l2Spread_k5 (s0_0 : Int) (bk0 : Int → List Bool → Option (List Bool)) (l1_1 : List Bool) : Option (List Bool) := gd (ok64 (s0_0 + 1)) (bk0 (s0_0 + 1) l1_1)
def m_spec_l2Spread_l1 (n : GNet) (but : Int) (kx1_0 : List Bool → Option (List Bool)) : Nat → Int → List Bool → Option (List Bool)
  | 0, _, _ => none
  | n1 + 1, s1_0, l1_1 => if decide (s1_0 < (n.tasks.length : Int)) = true then (m_spec_l2Spread_l2 n s1_0 l1_1 (m_spec_l2Spread_k1 n but s1_0 l1_1 (m_spec_l2Spread_l1 n but kx1_0 n1)) FUEL false 0) else (kx1_0 l1_1)
def m_spec_l2Spread_k6 (l0_1 : List Bool) : Option (List Bool) := some l0_1
def m_spec_l2Spread_l0 (n : GNet) (but : Int) (kx0_0 : List Bool → Option (List Bool)) : Nat → Int → List Bool → Option (List Bool)
  | 0, _, _ => none
  | n0 + 1, s0_0, l0_1 => if decide (s0_0 < n.places) = true then (m_spec_l2Spread_l1 n but (m_spec_l2Spread_k5 s0_0 (m_spec_l2Spread_l0 n but kx0_0 n0)) FUEL 0 l0_1) else (kx0_0 l0_1)
def m_spec_l2Spread (n : GNet) (marked : List Bool) (but : Int) : Option (List Bool) := gd (([] : List Bool).length + marked.length ≤ SMALL) (m_spec_l2Spread_l0 n but m_spec_l2Spread_k6 FUEL 0 (([] : List Bool) ++ marked))
def k_spec_l2Spread : Con := ⟨228, [.v (.s .net) false, .v (.sl .B) false, .v .I false], [((.sl .B), true)], [], fun x => m_spec_l2Spread x.1 x.2.1 x.2.2.1⟩
def f_spec_l2Spread : Fs := ⟨[], []⟩
theorem g_spec_l2Spread : f_spec_l2Spread.Ok Tryz.prog := fs0
def t_spec_l2Spread_0_0_0 : Tmpl := ⟨[(2, .c .i), (3, .c (.bx 3 0)), (7, .c (.ref 15)), (8, .c .i), (9, .c .i), (10, .c .b), (11, .c .i)], [(3, .boxT (.s .net)), (15, .arr .B true)]⟩
def x0_spec_l2Spread_0_0_0 : Tmpl := ⟨[(2, .c .i), (3, .c (.bx 3 0)), (7, .c (.ref 15)), (8, .c .i), (9, .c .i), (10, .c .b)], [(3, .boxT (.s .net)), (15, .arr .B true)]⟩
def L_spec_l2Spread_0_0_0 (av : AV) (x : HP k_spec_l2Spread.ps) (n : Nat) (v : t_spec_l2Spread_0_0_0.den) (K : Ks (CR k_spec_l2Spread)) : Option (CR k_spec_l2Spread) := m_spec_l2Spread_l2 v.2.1 v.1.2.2.2.2.1 v.2.2.1 (fun s2_0 => x0_spec_l2Spread_0_0_0.at none ((v.1.1, (), (), v.1.2.2.2.1, v.1.2.2.2.2.1, s2_0, ()), (v.2.1, v.2.2.1, ())) (K (.exit 4))) n v.1.2.2.2.2.2.1 v.1.2.2.2.2.2.2.1
def h_spec_l2Spread_0_0_0 (av : AV) (x : HP k_spec_l2Spread.ps) : Hdl (CR k_spec_l2Spread) := hnd [] t_spec_l2Spread_0_0_0 (L_spec_l2Spread_0_0_0 av x)
theorem l_spec_l2Spread_0_0_0 : LP k_spec_l2Spread Tryz.f228 [0, 0, 0] h_spec_l2Spread_0_0_0 := lp_ok (W := []) (H := []) (xs := [x0_spec_l2Spread_0_0_0]) g_spec_l2Spread trivial rfl (fun av x v K => by kernel_rfl) (fun av x n v K => by kernel_rfl)
def t_spec_l2Spread_0_0_1 : Tmpl := ⟨[(2, .c .i), (3, .c (.bx 3 0)), (7, .c (.ref 15)), (8, .c .i), (9, .c .i), (10, .c .b), (12, .c .i)], [(3, .boxT (.s .net)), (15, .arr .B true)]⟩
def x0_spec_l2Spread_0_0_1 : Tmpl := ⟨[(2, .c .i), (3, .c (.bx 3 0)), (7, .c (.ref 15)), (8, .c .i), (9, .c .i)], [(3, .boxT (.s .net)), (15, .arr .B true)]⟩
def L_spec_l2Spread_0_0_1 (av : AV) (x : HP k_spec_l2Spread.ps) (n : Nat) (v : t_spec_l2Spread_0_0_1.den) (K : Ks (CR k_spec_l2Spread)) : Option (CR k_spec_l2Spread) := m_spec_l2Spread_l3 v.2.1 v.1.1 v.1.2.2.2.2.1 v.1.2.2.2.2.2.1 (fun l3_1 => x0_spec_l2Spread_0_0_1.at none ((v.1.1, (), (), v.1.2.2.2.1, v.1.2.2.2.2.1, ()), (v.2.1, l3_1, ())) (K (.exit 6))) (fun l3_1 => x0_spec_l2Spread_0_0_1.at none ((v.1.1, (), (), v.1.2.2.2.1, v.1.2.2.2.2.1, ()), (v.2.1, l3_1, ())) (K (.exit 6))) (fun l3_1 => x0_spec_l2Spread_0_0_1.at none ((v.1.1, (), (), v.1.2.2.2.1, v.1.2.2.2.2.1, ()), (v.2.1, l3_1, ())) (K (.exit 6))) n v.1.2.2.2.2.2.2.1 v.2.2.1
def h_spec_l2Spread_0_0_1 (av : AV) (x : HP k_spec_l2Spread.ps) : Hdl (CR k_spec_l2Spread) := hnd [] t_spec_l2Spread_0_0_1 (L_spec_l2Spread_0_0_1 av x)
theorem l_spec_l2Spread_0_0_1 : LP k_spec_l2Spread Tryz.f228 [0, 0, 1] h_spec_l2Spread_0_0_1 := lp_ok (W := []) (H := []) (xs := [x0_spec_l2Spread_0_0_1]) g_spec_l2Spread trivial rfl (fun av x v K => by kernel_rfl) (fun av x n v K => by kernel_rfl)
def t_spec_l2Spread_0_0 : Tmpl := ⟨[(2, .c .i), (3, .c (.bx 3 0)), (7, .c (.ref 15)), (8, .c .i), (9, .c .i)], [(3, .boxT (.s .net)), (15, .arr .B true)]⟩
def x0_spec_l2Spread_0_0 : Tmpl := ⟨[(2, .c .i), (3, .c (.bx 3 0)), (7, .c (.ref 15)), (8, .c .i)], [(3, .boxT (.s .net)), (15, .arr .B true)]⟩
def L_spec_l2Spread_0_0 (av : AV) (x : HP k_spec_l2Spread.ps) (n : Nat) (v : t_spec_l2Spread_0_0.den) (K : Ks (CR k_spec_l2Spread)) : Option (CR k_spec_l2Spread) := m_spec_l2Spread_l1 v.2.1 v.1.1 (fun l1_1 => x0_spec_l2Spread_0_0.at none ((v.1.1, (), (), v.1.2.2.2.1, ()), (v.2.1, l1_1, ())) (K (.exit 2))) n v.1.2.2.2.2.1 v.2.2.1
def h_spec_l2Spread_0_0 (av : AV) (x : HP k_spec_l2Spread.ps) : Hdl (CR k_spec_l2Spread) := hnd [] t_spec_l2Spread_0_0 (L_spec_l2Spread_0_0 av x)
theorem l_spec_l2Spread_0_0 : LP k_spec_l2Spread Tryz.f228 [0, 0] h_spec_l2Spread_0_0 := lp_ok (W := []) (H := [h_spec_l2Spread_0_0_0, h_spec_l2Spread_0_0_1]) (xs := [x0_spec_l2Spread_0_0]) g_spec_l2Spread ⟨l_spec_l2Spread_0_0_0, l_spec_l2Spread_0_0_1, trivial⟩ rfl (fun av x v K => by kernel_rfl) (fun av x n v K => by kernel_rfl)
def t_spec_l2Spread_0 : Tmpl := ⟨[(2, .c .i), (3, .c (.bx 3 0)), (7, .c (.ref 15)), (8, .c .i)], [(3, .boxT (.s .net)), (15, .arr .B true)]⟩
def x0_spec_l2Spread_0 : Tmpl := ⟨[(7, .c (.ref 15))], [(15, .arr .B true)]⟩
def L_spec_l2Spread_0 (av : AV) (x : HP k_spec_l2Spread.ps) (n : Nat) (v : t_spec_l2Spread_0.den) (K : Ks (CR k_spec_l2Spread)) : Option (CR k_spec_l2Spread) := m_spec_l2Spread_l0 v.2.1 v.1.1 (fun l0_1 => x0_spec_l2Spread_0.at none (((), ()), (l0_1, ())) (K (.exit 0))) n v.1.2.2.2.1 v.2.2.1
def h_spec_l2Spread_0 (av : AV) (x : HP k_spec_l2Spread.ps) : Hdl (CR k_spec_l2Spread) := hnd [] t_spec_l2Spread_0 (L_spec_l2Spread_0 av x)
theorem l_spec_l2Spread_0 : LP k_spec_l2Spread Tryz.f228 [0] h_spec_l2Spread_0 := lp_ok (W := []) (H := [h_spec_l2Spread_0_0]) (xs := [x0_spec_l2Spread_0]) g_spec_l2Spread ⟨l_spec_l2Spread_0_0, trivial⟩ rfl (fun av x v K => by kernel_rfl) (fun av x n v K => by kernel_rfl)
theorem o_spec_l2Spread : k_spec_l2Spread.Ok Tryz.prog := fn_ok (k := k_spec_l2Spread) (fn := Tryz.f228) (W := []) (H := [h_spec_l2Spread_0]) Tryz.func228 g_spec_l2Spread ⟨l_spec_l2Spread_0, trivial⟩ rfl rfl (fun av x => by kernel_rfl)

def m_impl_isKind (kind : Int) : Option Bool := (m_impl_in kind 1 3).bind fun x1 => (some x1)
def k_impl_isKind : Con := ⟨207, [.v .I false], [(.B, true)], [], fun x => m_impl_isKind x.1⟩
def f_impl_isKind : Fs := ⟨[k_impl_in], []⟩
theorem g_impl_isKind : f_impl_isKind.Ok Tryz.prog := (fsK o_impl_in fs0)
theorem o_impl_isKind : k_impl_isKind.Ok Tryz.prog := fn_ok (k := k_impl_isKind) (fn := Tryz.f207) (W := []) (H := []) Tryz.func207 g_impl_isKind trivial rfl rfl (fun av x => by kernel_rfl)

def m_impl_isRole (role : Int) : Option Bool := (m_impl_in role 1 3).bind fun x1 => (some x1)
def k_impl_isRole : Con := ⟨210, [.v .I false], [(.B, true)], [], fun x => m_impl_isRole x.1⟩
def f_impl_isRole : Fs := ⟨[k_impl_in], []⟩
theorem g_impl_isRole : f_impl_isRole.Ok Tryz.prog := (fsK o_impl_in fs0)
theorem o_impl_isRole : k_impl_isRole.Ok Tryz.prog := fn_ok (k := k_impl_isRole) (fn := Tryz.f210) (W := []) (H := []) Tryz.func210 g_impl_isRole trivial rfl rfl (fun av x => by kernel_rfl)

def m_impl_sizesOk (places : Int) (tasks : Int) : Option Bool := (m_impl_in places 2 8).bind fun x1 => (if x1 = true then ((m_impl_in tasks 1 6).bind fun x3 => (some x3)) else (some false))
def k_impl_sizesOk : Con := ⟨160, [.v .I false, .v .I false], [(.B, true)], [], fun x => m_impl_sizesOk x.1 x.2.1⟩
def f_impl_sizesOk : Fs := ⟨[k_impl_in], []⟩
theorem g_impl_sizesOk : f_impl_sizesOk.Ok Tryz.prog := (fsK o_impl_in fs0)
theorem o_impl_sizesOk : k_impl_sizesOk.Ok Tryz.prog := fn_ok (k := k_impl_sizesOk) (fn := Tryz.f160) (W := []) (H := []) Tryz.func160 g_impl_sizesOk trivial rfl rfl (fun av x => by kernel_rfl)

def m_impl_NetNet_hasTask (n : GNet) (t : Int) : Option Bool := gd (ok64 ((n.tasks.length : Int) - 1)) ((m_impl_in t 0 ((n.tasks.length : Int) - 1)).bind fun x2 => (some x2))
def k_impl_NetNet_hasTask : Con := ⟨169, [.v (.s .net) false, .v .I false], [(.B, true)], [], fun x => m_impl_NetNet_hasTask x.1 x.2.1⟩
def f_impl_NetNet_hasTask : Fs := ⟨[k_impl_in], []⟩
theorem g_impl_NetNet_hasTask : f_impl_NetNet_hasTask.Ok Tryz.prog := (fsK o_impl_in fs0)
theorem o_impl_NetNet_hasTask : k_impl_NetNet_hasTask.Ok Tryz.prog := fn_ok (k := k_impl_NetNet_hasTask) (fn := Tryz.f169) (W := []) (H := []) Tryz.func169 g_impl_NetNet_hasTask trivial rfl rfl (fun av x => by kernel_rfl)

def m_spec_MrkOk_k1  : Option Bool := some true
def m_spec_MrkOk_l0 (marks : List Int) (kx0_0 : Option Bool) : Nat → Int → Option Bool
  | 0, _ => none
  | n0 + 1, s0_0 => if decide (s0_0 < (marks.length : Int)) = true then ((getI marks s0_0).bind fun x5 => ((m_spec_l1In x5 0 4).bind fun x6 => (if x6 = true then (gd (ok64 (s0_0 + 1)) ((m_spec_MrkOk_l0 marks kx0_0 n0) (s0_0 + 1))) else (some false)))) else (kx0_0)
def m_spec_MrkOk (n : GNet) (marks : List Int) : Option Bool := (m_spec_NetOk n).bind fun x1 => (if x1 = true then (if decide ((marks.length : Int) = n.places) = true then (m_spec_MrkOk_l0 marks m_spec_MrkOk_k1 FUEL 0) else (some false)) else (some false))
def k_spec_MrkOk : Con := ⟨157, [.v (.s .net) false, .v (.sl .I) false], [(.B, true)], [], fun x => m_spec_MrkOk x.1 x.2.1⟩
def f_spec_MrkOk : Fs := ⟨[k_spec_NetOk, k_spec_l1In], []⟩
theorem g_spec_MrkOk : f_spec_MrkOk.Ok Tryz.prog := (fsK o_spec_NetOk (fsK o_spec_l1In fs0))
def t_spec_MrkOk_0 : Tmpl := ⟨[(1, .c (.s .I)), (5, .c .i)], []⟩
def x0_spec_MrkOk_0 : Tmpl := ⟨[], []⟩
def L_spec_MrkOk_0 (av : AV) (x : HP k_spec_MrkOk.ps) (n : Nat) (v : t_spec_MrkOk_0.den) (K : Ks (CR k_spec_MrkOk)) : Option (CR k_spec_MrkOk) := m_spec_MrkOk_l0 v.1.1 (x0_spec_MrkOk_0.at none ((), ()) (K (.exit 0))) n v.1.2.1
def h_spec_MrkOk_0 (av : AV) (x : HP k_spec_MrkOk.ps) : Hdl (CR k_spec_MrkOk) := hnd [] t_spec_MrkOk_0 (L_spec_MrkOk_0 av x)
theorem l_spec_MrkOk_0 : LP k_spec_MrkOk Tryz.f157 [0] h_spec_MrkOk_0 := lp_ok (W := []) (H := []) (xs := [x0_spec_MrkOk_0]) g_spec_MrkOk trivial rfl (fun av x v K => by kernel_rfl) (fun av x n v K => by kernel_rfl)
theorem o_spec_MrkOk : k_spec_MrkOk.Ok Tryz.prog := fn_ok (k := k_spec_MrkOk) (fn := Tryz.f157) (W := []) (H := [h_spec_MrkOk_0]) Tryz.func157 g_spec_MrkOk ⟨l_spec_MrkOk_0, trivial⟩ rfl rfl (fun av x => by kernel_rfl)

def m_spec_l3Some_k1 (s0_0 : Bool) (s0_1 : Bool) : Option (Bool × Bool) := some (s0_0, s0_1)
def m_spec_l3Some_l0 (marks : List Int) (list : List Int) (kx0_0 : Bool → Bool → Option (Bool × Bool)) : Nat → Bool → Bool → Int → Option (Bool × Bool)
  | 0, _, _, _ => none
  | n0 + 1, s0_0, s0_1, s0_2 => if decide (s0_2 < (list.length : Int)) = true then (if s0_0 = true then (if s0_1 = true then ((getI list s0_2).bind fun x4 => ((getI marks x4).bind fun x5 => (gd (ok64 (s0_2 + 1)) ((m_spec_l3Some_l0 marks list kx0_0 n0) true (decide (0 < x5)) (s0_2 + 1))))) else (gd (ok64 (s0_2 + 1)) ((m_spec_l3Some_l0 marks list kx0_0 n0) true false (s0_2 + 1)))) else ((getI list s0_2).bind fun x8 => ((getI marks x8).bind fun x9 => (if s0_1 = true then ((getI list s0_2).bind fun x11 => ((getI marks x11).bind fun x12 => (gd (ok64 (s0_2 + 1)) ((m_spec_l3Some_l0 marks list kx0_0 n0) (decide (0 < x9)) (decide (0 < x12)) (s0_2 + 1))))) else (gd (ok64 (s0_2 + 1)) ((m_spec_l3Some_l0 marks list kx0_0 n0) (decide (0 < x9)) false (s0_2 + 1))))))) else (kx0_0 s0_0 s0_1)
def m_spec_l3Some (marks : List Int) (list : List Int) : Option (Bool × Bool) := m_spec_l3Some_l0 marks list m_spec_l3Some_k1 FUEL false true 0
def k_spec_l3Some : Con := ⟨214, [.v (.sl .I) false, .v (.sl .I) false], [(.B, true), (.B, true)], [], fun x => m_spec_l3Some x.1 x.2.1⟩
def f_spec_l3Some : Fs := ⟨[], []⟩
theorem g_spec_l3Some : f_spec_l3Some.Ok Tryz.prog := fs0
def t_spec_l3Some_0 : Tmpl := ⟨[(0, .c (.s .I)), (1, .c (.s .I)), (6, .c .b), (7, .c .b), (8, .c .i)], []⟩
def x0_spec_l3Some_0 : Tmpl := ⟨[(6, .c .b), (7, .c .b)], []⟩
def L_spec_l3Some_0 (av : AV) (x : HP k_spec_l3Some.ps) (n : Nat) (v : t_spec_l3Some_0.den) (K : Ks (CR k_spec_l3Some)) : Option (CR k_spec_l3Some) := m_spec_l3Some_l0 v.1.1 v.1.2.1 (fun s0_0 s0_1 => x0_spec_l3Some_0.at none ((s0_0, s0_1, ()), ()) (K (.exit 0))) n v.1.2.2.1 v.1.2.2.2.1 v.1.2.2.2.2.1
def h_spec_l3Some_0 (av : AV) (x : HP k_spec_l3Some.ps) : Hdl (CR k_spec_l3Some) := hnd [] t_spec_l3Some_0 (L_spec_l3Some_0 av x)
theorem l_spec_l3Some_0 : LP k_spec_l3Some Tryz.f214 [0] h_spec_l3Some_0 := lp_ok (W := []) (H := []) (xs := [x0_spec_l3Some_0]) g_spec_l3Some trivial rfl (fun av x v K => by kernel_rfl) (fun av x n v K => by kernel_rfl)
theorem o_spec_l3Some : k_spec_l3Some.Ok Tryz.prog := fn_ok (k := k_spec_l3Some) (fn := Tryz.f214) (W := []) (H := [h_spec_l3Some_0]) Tryz.func214 g_spec_l3Some ⟨l_spec_l3Some_0, trivial⟩ rfl rfl (fun av x => by kernel_rfl)

def m_spec_l3Coming_k2 (s1_0 : Int) (bk1 : Int → List Bool → Option Bool) (l2_1 : List Bool) : Option Bool := gd (ok64 (s1_0 + 1)) (bk1 (s1_0 + 1) l2_1)
def m_spec_l3Coming_l2 (p2_0 : List GFlow) (kx2_0 : List Bool → Option Bool) : Nat → Int → List Bool → Option Bool
  | 0, _, _ => none
  | n2 + 1, s2_0, l2_1 => if decide (s2_0 < (p2_0.length : Int)) = true then ((getI p2_0 s2_0).bind fun x15 => ((getI l2_1 x15.to).bind fun x16 => (gd (ok64 (s2_0 + 1)) ((m_spec_l3Coming_l2 p2_0 kx2_0 n2) (s2_0 + 1) (l2_1.set x15.to.toNat true))))) else (kx2_0 l2_1)
def m_spec_l3Coming_k4  : Option Bool := some false
def m_spec_l3Coming_l3 (n : GNet) (marks : List Int) (t : Int) (x19 : (List Bool)) (kx3_0 : Option Bool) : Nat → Int → Option Bool
  | 0, _ => none
  | n3 + 1, s3_0 => (getI n.tasks t).bind fun x20 => (if decide (s3_0 < (x20.in_.length : Int)) = true then ((getI n.tasks t).bind fun x22 => ((getI x22.in_ s3_0).bind fun x23 => ((getI marks x23).bind fun x24 => (if decide (x24 = 0) = true then ((getI n.tasks t).bind fun x26 => ((getI x26.in_ s3_0).bind fun x27 => ((getI x19 x27).bind fun x28 => (if x28 = true then (some true) else (gd (ok64 (s3_0 + 1)) ((m_spec_l3Coming_l3 n marks t x19 kx3_0 n3) (s3_0 + 1))))))) else (gd (ok64 (s3_0 + 1)) ((m_spec_l3Coming_l3 n marks t x19 kx3_0 n3) (s3_0 + 1))))))) else (kx3_0))
def m_spec_l3Coming_k3 (n : GNet) (marks : List Int) (t : Int) (l1_1 : List Bool) : Option Bool := (m_spec_l2Spread n l1_1 t).bind fun x19 => (m_spec_l3Coming_l3 n marks t x19 m_spec_l3Coming_k4 FUEL 0)
def m_spec_l3Coming_l1 (n : GNet) (busy : List GItem) (kx1_0 : List Bool → Option Bool) : Nat → Int → List Bool → Option Bool
  | 0, _, _ => none
  | n1 + 1, s1_0, l1_1 => if decide (s1_0 < (busy.length : Int)) = true then ((getI busy s1_0).bind fun x12 => ((getI n.tasks x12.task).bind fun x13 => (m_spec_l3Coming_l2 x13.out (m_spec_l3Coming_k2 s1_0 (m_spec_l3Coming_l1 n busy kx1_0 n1)) FUEL 0 l1_1))) else (kx1_0 l1_1)
def m_spec_l3Coming_k1 (n : GNet) (marks : List Int) (busy : List GItem) (t : Int) (l0_1 : List Bool) : Option Bool := m_spec_l3Coming_l1 n busy (m_spec_l3Coming_k3 n marks t) FUEL 0 l0_1
def m_spec_l3Coming_l0 (n : GNet) (marks : List Int) (t : Int) (kx0_0 : List Bool → Option Bool) : Nat → Int → List Bool → Option Bool
  | 0, _, _ => none
  | n0 + 1, s0_0, l0_1 => if decide (s0_0 < n.places) = true then ((getI marks s0_0).bind fun x3 => (if decide (0 < x3) = true then ((getI n.tasks t).bind fun x5 => ((m_spec_l2Has x5.in_ s0_0).bind fun x6 => ((getI l0_1 s0_0).bind fun x7 => (gd (ok64 (s0_0 + 1)) ((m_spec_l3Coming_l0 n marks t kx0_0 n0) (s0_0 + 1) (l0_1.set s0_0.toNat (!x6))))))) else ((getI l0_1 s0_0).bind fun x9 => (gd (ok64 (s0_0 + 1)) ((m_spec_l3Coming_l0 n marks t kx0_0 n0) (s0_0 + 1) (l0_1.set s0_0.toNat false)))))) else (kx0_0 l0_1)
def m_spec_l3Coming (n : GNet) (marks : List Int) (busy : List GItem) (t : Int) : Option Bool := gd ((0 : Int) ≤ n.places ∧ n.places ≤ (1000000000 : Int)) (m_spec_l3Coming_l0 n marks t (m_spec_l3Coming_k1 n marks busy t) FUEL 0 (List.replicate n.places.toNat false))
def k_spec_l3Coming : Con := ⟨215, [.v (.s .net) false, .v (.sl .I) false, .v (.sl (.s .item)) false, .v .I false], [(.B, true)], [], fun x => m_spec_l3Coming x.1 x.2.1 x.2.2.1 x.2.2.2.1⟩
def f_spec_l3Coming : Fs := ⟨[k_spec_l2Has, k_spec_l2Spread], []⟩
theorem g_spec_l3Coming : f_spec_l3Coming.Ok Tryz.prog := (fsK o_spec_l2Has (fsK o_spec_l2Spread fs0))
def t_spec_l3Coming_1_0 : Tmpl := ⟨[(1, .c (.s .I)), (2, .c (.s (.s .item))), (3, .c .i), (4, .c (.bx 4 0)), (9, .c (.ref 18)), (11, .c .i), (12, .c (.s (.s .flow))), (13, .c .i)], [(4, .boxT (.s .net)), (18, .arr .B true)]⟩
def x0_spec_l3Coming_1_0 : Tmpl := ⟨[(1, .c (.s .I)), (2, .c (.s (.s .item))), (3, .c .i), (4, .c (.bx 4 0)), (9, .c (.ref 18)), (11, .c .i)], [(4, .boxT (.s .net)), (18, .arr .B true)]⟩
def L_spec_l3Coming_1_0 (av : AV) (x : HP k_spec_l3Coming.ps) (n : Nat) (v : t_spec_l3Coming_1_0.den) (K : Ks (CR k_spec_l3Coming)) : Option (CR k_spec_l3Coming) := m_spec_l3Coming_l2 v.1.2.2.2.2.2.2.1 (fun l2_1 => x0_spec_l3Coming_1_0.at none ((v.1.1, v.1.2.1, v.1.2.2.1, (), (), v.1.2.2.2.2.2.1, ()), (v.2.1, l2_1, ())) (K (.exit 4))) n v.1.2.2.2.2.2.2.2.1 v.2.2.1
def h_spec_l3Coming_1_0 (av : AV) (x : HP k_spec_l3Coming.ps) : Hdl (CR k_spec_l3Coming) := hnd [] t_spec_l3Coming_1_0 (L_spec_l3Coming_1_0 av x)
theorem l_spec_l3Coming_1_0 : LP k_spec_l3Coming Tryz.f215 [1, 0] h_spec_l3Coming_1_0 := lp_ok (W := []) (H := []) (xs := [x0_spec_l3Coming_1_0]) g_spec_l3Coming trivial rfl (fun av x v K => by kernel_rfl) (fun av x n v K => by kernel_rfl)
def t_spec_l3Coming_0 : Tmpl := ⟨[(1, .c (.s .I)), (2, .c (.s (.s .item))), (3, .c .i), (4, .c (.bx 4 0)), (9, .c (.ref 18)), (10, .c .i)], [(4, .boxT (.s .net)), (18, .arr .B true)]⟩
def x0_spec_l3Coming_0 : Tmpl := ⟨[(1, .c (.s .I)), (2, .c (.s (.s .item))), (3, .c .i), (4, .c (.bx 4 0)), (9, .c (.ref 18))], [(4, .boxT (.s .net)), (18, .arr .B true)]⟩
def L_spec_l3Coming_0 (av : AV) (x : HP k_spec_l3Coming.ps) (n : Nat) (v : t_spec_l3Coming_0.den) (K : Ks (CR k_spec_l3Coming)) : Option (CR k_spec_l3Coming) := m_spec_l3Coming_l0 v.2.1 v.1.1 v.1.2.2.1 (fun l0_1 => x0_spec_l3Coming_0.at none ((v.1.1, v.1.2.1, v.1.2.2.1, (), (), ()), (v.2.1, l0_1, ())) (K (.exit 0))) n v.1.2.2.2.2.2.1 v.2.2.1
def h_spec_l3Coming_0 (av : AV) (x : HP k_spec_l3Coming.ps) : Hdl (CR k_spec_l3Coming) := hnd [] t_spec_l3Coming_0 (L_spec_l3Coming_0 av x)
theorem l_spec_l3Coming_0 : LP k_spec_l3Coming Tryz.f215 [0] h_spec_l3Coming_0 := lp_ok (W := []) (H := []) (xs := [x0_spec_l3Coming_0]) g_spec_l3Coming trivial rfl (fun av x v K => by kernel_rfl) (fun av x n v K => by kernel_rfl)
def t_spec_l3Coming_1 : Tmpl := ⟨[(1, .c (.s .I)), (2, .c (.s (.s .item))), (3, .c .i), (4, .c (.bx 4 0)), (9, .c (.ref 18)), (11, .c .i)], [(4, .boxT (.s .net)), (18, .arr .B true)]⟩
def x0_spec_l3Coming_1 : Tmpl := ⟨[(1, .c (.s .I)), (3, .c .i), (4, .c (.bx 4 0)), (9, .c (.ref 18))], [(4, .boxT (.s .net)), (18, .arr .B true)]⟩
def L_spec_l3Coming_1 (av : AV) (x : HP k_spec_l3Coming.ps) (n : Nat) (v : t_spec_l3Coming_1.den) (K : Ks (CR k_spec_l3Coming)) : Option (CR k_spec_l3Coming) := m_spec_l3Coming_l1 v.2.1 v.1.2.1 (fun l1_1 => x0_spec_l3Coming_1.at none ((v.1.1, v.1.2.2.1, (), (), ()), (v.2.1, l1_1, ())) (K (.exit 2))) n v.1.2.2.2.2.2.1 v.2.2.1
def h_spec_l3Coming_1 (av : AV) (x : HP k_spec_l3Coming.ps) : Hdl (CR k_spec_l3Coming) := hnd [] t_spec_l3Coming_1 (L_spec_l3Coming_1 av x)
theorem l_spec_l3Coming_1 : LP k_spec_l3Coming Tryz.f215 [1] h_spec_l3Coming_1 := lp_ok (W := []) (H := [h_spec_l3Coming_1_0]) (xs := [x0_spec_l3Coming_1]) g_spec_l3Coming ⟨l_spec_l3Coming_1_0, trivial⟩ rfl (fun av x v K => by kernel_rfl) (fun av x n v K => by kernel_rfl)
def t_spec_l3Coming_2 : Tmpl := ⟨[(1, .c (.s .I)), (3, .c .i), (4, .c (.bx 4 0)), (14, .c (.ref 76)), (15, .c .i)], [(4, .boxT (.s .net)), (76, .arr .B true)]⟩
def x0_spec_l3Coming_2 : Tmpl := ⟨[], []⟩
def L_spec_l3Coming_2 (av : AV) (x : HP k_spec_l3Coming.ps) (n : Nat) (v : t_spec_l3Coming_2.den) (K : Ks (CR k_spec_l3Coming)) : Option (CR k_spec_l3Coming) := m_spec_l3Coming_l3 v.2.1 v.1.1 v.1.2.1 v.2.2.1 (x0_spec_l3Coming_2.at none ((), ()) (K (.exit 6))) n v.1.2.2.2.2.1
def h_spec_l3Coming_2 (av : AV) (x : HP k_spec_l3Coming.ps) : Hdl (CR k_spec_l3Coming) := hnd [] t_spec_l3Coming_2 (L_spec_l3Coming_2 av x)
theorem l_spec_l3Coming_2 : LP k_spec_l3Coming Tryz.f215 [2] h_spec_l3Coming_2 := lp_ok (W := []) (H := []) (xs := [x0_spec_l3Coming_2]) g_spec_l3Coming trivial rfl (fun av x v K => by kernel_rfl) (fun av x n v K => by kernel_rfl)
theorem o_spec_l3Coming : k_spec_l3Coming.Ok Tryz.prog := fn_ok (k := k_spec_l3Coming) (fn := Tryz.f215) (W := []) (H := [h_spec_l3Coming_0, h_spec_l3Coming_1, h_spec_l3Coming_2]) Tryz.func215 g_spec_l3Coming ⟨l_spec_l3Coming_0, l_spec_l3Coming_1, l_spec_l3Coming_2, trivial⟩ rfl rfl (fun av x => by kernel_rfl)

def m_spec_l3Can (n : GNet) (marks : List Int) (busy : List GItem) (t : Int) : Option Bool := (getI n.tasks t).bind fun x1 => ((m_spec_l3Some marks x1.in_).bind fun x2 => ((getI n.tasks t).bind fun x3 => (if decide (x3.join = 1) = true then (some x2.2) else (if decide (x3.join = 2) = true then (some x2.1) else (if x2.1 = true then (if x2.2 = true then (some true) else ((m_spec_l3Coming n marks busy t).bind fun x8 => (some (!x8)))) else (some false))))))
def k_spec_l3Can : Con := ⟨172, [.v (.s .net) false, .v (.sl .I) false, .v (.sl (.s .item)) false, .v .I false], [(.B, true)], [], fun x => m_spec_l3Can x.1 x.2.1 x.2.2.1 x.2.2.2.1⟩
def f_spec_l3Can : Fs := ⟨[k_spec_l3Some, k_spec_l3Coming], []⟩
theorem g_spec_l3Can : f_spec_l3Can.Ok Tryz.prog := (fsK o_spec_l3Some (fsK o_spec_l3Coming fs0))
theorem o_spec_l3Can : k_spec_l3Can.Ok Tryz.prog := fn_ok (k := k_spec_l3Can) (fn := Tryz.f172) (W := []) (H := []) Tryz.func172 g_spec_l3Can trivial rfl rfl (fun av x => by kernel_rfl)

def m_spec_l3Busy_k1  : Option Bool := some true
def m_spec_l3Busy_l0 (n : GNet) (busy : List GItem) (kx0_0 : Option Bool) : Nat → Int → Option Bool
  | 0, _ => none
  | n0 + 1, s0_0 => if decide (s0_0 < (busy.length : Int)) = true then ((getI busy s0_0).bind fun x3 => (gd (ok64 ((n.tasks.length : Int) - 1)) ((m_spec_l1In x3.task 0 ((n.tasks.length : Int) - 1)).bind fun x5 => (if x5 = true then ((getI busy s0_0).bind fun x7 => ((m_spec_l1In x7.who 1 4).bind fun x8 => (if x8 = true then ((getI busy s0_0).bind fun x10 => ((getI busy s0_0).bind fun x11 => ((getI n.tasks x11.task).bind fun x12 => (gd (ok64 (x12.need - 1)) ((m_spec_l1In x10.did 0 (x12.need - 1)).bind fun x14 => (if x14 = true then (gd (ok64 (s0_0 + 1)) ((m_spec_l3Busy_l0 n busy kx0_0 n0) (s0_0 + 1))) else (some false))))))) else (some false)))) else (some false))))) else (kx0_0)
def m_spec_l3Busy (n : GNet) (busy : List GItem) : Option Bool := if decide (6 < (busy.length : Int)) = true then (some false) else (m_spec_l3Busy_l0 n busy m_spec_l3Busy_k1 FUEL 0)
def k_spec_l3Busy : Con := ⟨158, [.v (.s .net) false, .v (.sl (.s .item)) false], [(.B, true)], [], fun x => m_spec_l3Busy x.1 x.2.1⟩
def f_spec_l3Busy : Fs := ⟨[k_spec_l1In], []⟩
theorem g_spec_l3Busy : f_spec_l3Busy.Ok Tryz.prog := (fsK o_spec_l1In fs0)
def t_spec_l3Busy_0 : Tmpl := ⟨[(1, .c (.s (.s .item))), (2, .c (.bx 2 0)), (5, .c .i)], [(2, .boxT (.s .net))]⟩
def x0_spec_l3Busy_0 : Tmpl := ⟨[], []⟩
def L_spec_l3Busy_0 (av : AV) (x : HP k_spec_l3Busy.ps) (n : Nat) (v : t_spec_l3Busy_0.den) (K : Ks (CR k_spec_l3Busy)) : Option (CR k_spec_l3Busy) := m_spec_l3Busy_l0 v.2.1 v.1.1 (x0_spec_l3Busy_0.at none ((), ()) (K (.exit 0))) n v.1.2.2.1
def h_spec_l3Busy_0 (av : AV) (x : HP k_spec_l3Busy.ps) : Hdl (CR k_spec_l3Busy) := hnd [] t_spec_l3Busy_0 (L_spec_l3Busy_0 av x)
theorem l_spec_l3Busy_0 : LP k_spec_l3Busy Tryz.f158 [0] h_spec_l3Busy_0 := lp_ok (W := []) (H := []) (xs := [x0_spec_l3Busy_0]) g_spec_l3Busy trivial rfl (fun av x v K => by kernel_rfl) (fun av x n v K => by kernel_rfl)
theorem o_spec_l3Busy : k_spec_l3Busy.Ok Tryz.prog := fn_ok (k := k_spec_l3Busy) (fn := Tryz.f158) (W := []) (H := [h_spec_l3Busy_0]) Tryz.func158 g_spec_l3Busy ⟨l_spec_l3Busy_0, trivial⟩ rfl rfl (fun av x => by kernel_rfl)

def m_spec_EnaCan (n : GNet) (marks : List Int) (busy : List GItem) (t : Int) : Option Bool := (m_spec_MrkOk n marks).bind fun x1 => (if x1 = true then ((m_spec_l3Busy n busy).bind fun x3 => (if x3 = true then (gd (ok64 ((n.tasks.length : Int) - 1)) ((m_spec_l1In t 0 ((n.tasks.length : Int) - 1)).bind fun x6 => (if x6 = true then ((m_spec_l3Can n marks busy t).bind fun x8 => (some x8)) else (some false)))) else (some false))) else (some false))
def k_spec_EnaCan : Con := ⟨98, [.v (.s .net) false, .v (.sl .I) false, .v (.sl (.s .item)) false, .v .I false], [(.B, true)], [], fun x => m_spec_EnaCan x.1 x.2.1 x.2.2.1 x.2.2.2.1⟩
def f_spec_EnaCan : Fs := ⟨[k_spec_MrkOk, k_spec_l3Busy, k_spec_l1In, k_spec_l3Can], []⟩
theorem g_spec_EnaCan : f_spec_EnaCan.Ok Tryz.prog := (fsK o_spec_MrkOk (fsK o_spec_l3Busy (fsK o_spec_l1In (fsK o_spec_l3Can fs0))))
theorem o_spec_EnaCan : k_spec_EnaCan.Ok Tryz.prog := fn_ok (k := k_spec_EnaCan) (fn := Tryz.f98) (W := []) (H := []) Tryz.func98 g_spec_EnaCan trivial rfl rfl (fun av x => by kernel_rfl)

def m_spec_EnaTasks_k1 (l0_1 : List Int) : Option (List Int) := some l0_1
def m_spec_EnaTasks_l0 (n : GNet) (marks : List Int) (busy : List GItem) (kx0_0 : List Int → Option (List Int)) : Nat → Int → List Int → Option (List Int)
  | 0, _, _ => none
  | n0 + 1, s0_0, l0_1 => if decide (s0_0 < (n.tasks.length : Int)) = true then ((m_spec_EnaCan n marks busy s0_0).bind fun x2 => (if x2 = true then (gd (l0_1.length + [s0_0].length ≤ SMALL) (gd (ok64 (s0_0 + 1)) ((m_spec_EnaTasks_l0 n marks busy kx0_0 n0) (s0_0 + 1) (l0_1 ++ [s0_0])))) else (gd (ok64 (s0_0 + 1)) ((m_spec_EnaTasks_l0 n marks busy kx0_0 n0) (s0_0 + 1) l0_1)))) else (kx0_0 l0_1)
def m_spec_EnaTasks (n : GNet) (marks : List Int) (busy : List GItem) : Option (List Int) := m_spec_EnaTasks_l0 n marks busy m_spec_EnaTasks_k1 FUEL 0 ([] : List Int)
def k_spec_EnaTasks : Con := ⟨121, [.v (.s .net) false, .v (.sl .I) false, .v (.sl (.s .item)) false], [((.sl .I), true)], [], fun x => m_spec_EnaTasks x.1 x.2.1 x.2.2.1⟩
def f_spec_EnaTasks : Fs := ⟨[k_spec_EnaCan], []⟩
theorem g_spec_EnaTasks : f_spec_EnaTasks.Ok Tryz.prog := (fsK o_spec_EnaCan fs0)
def t_spec_EnaTasks_0 : Tmpl := ⟨[(1, .c (.s .I)), (2, .c (.s (.s .item))), (3, .c (.bx 3 0)), (7, .c (.ref 9)), (8, .c .i)], [(3, .boxT (.s .net)), (9, .arr .I true)]⟩
def x0_spec_EnaTasks_0 : Tmpl := ⟨[(7, .c (.ref 9))], [(9, .arr .I true)]⟩
def L_spec_EnaTasks_0 (av : AV) (x : HP k_spec_EnaTasks.ps) (n : Nat) (v : t_spec_EnaTasks_0.den) (K : Ks (CR k_spec_EnaTasks)) : Option (CR k_spec_EnaTasks) := m_spec_EnaTasks_l0 v.2.1 v.1.1 v.1.2.1 (fun l0_1 => x0_spec_EnaTasks_0.at none (((), ()), (l0_1, ())) (K (.exit 0))) n v.1.2.2.2.2.1 v.2.2.1
def h_spec_EnaTasks_0 (av : AV) (x : HP k_spec_EnaTasks.ps) : Hdl (CR k_spec_EnaTasks) := hnd [] t_spec_EnaTasks_0 (L_spec_EnaTasks_0 av x)
theorem l_spec_EnaTasks_0 : LP k_spec_EnaTasks Tryz.f121 [0] h_spec_EnaTasks_0 := lp_ok (W := []) (H := []) (xs := [x0_spec_EnaTasks_0]) g_spec_EnaTasks trivial rfl (fun av x v K => by kernel_rfl) (fun av x n v K => by kernel_rfl)
theorem o_spec_EnaTasks : k_spec_EnaTasks.Ok Tryz.prog := fn_ok (k := k_spec_EnaTasks) (fn := Tryz.f121) (W := []) (H := [h_spec_EnaTasks_0]) Tryz.func121 g_spec_EnaTasks ⟨l_spec_EnaTasks_0, trivial⟩ rfl rfl (fun av x => by kernel_rfl)

def m_spec_EnaTake_k1 (l0_1 : List Int) (x10 : Int) (x13 : Int) : Option (List Int) := some (l0_1.set x10.toNat (x13 - 1))
def m_spec_EnaTake_k2 (l0_1 : List Int) : Option (List Int) := some l0_1
def m_spec_EnaTake_l0 (n : GNet) (t : Int) (kx0_0 : List Int → Int → Int → Option (List Int)) (kx0_1 : List Int → Option (List Int)) : Nat → Int → List Int → Option (List Int)
  | 0, _, _ => none
  | n0 + 1, s0_0, l0_1 => (getI n.tasks t).bind fun x7 => (if decide (s0_0 < (x7.in_.length : Int)) = true then ((getI n.tasks t).bind fun x9 => ((getI x9.in_ s0_0).bind fun x10 => ((getI l0_1 x10).bind fun x11 => (if decide (0 < x11) = true then ((getI l0_1 x10).bind fun x13 => (gd (ok64 (x13 - 1)) ((getI l0_1 x10).bind fun x15 => ((getI n.tasks t).bind fun x16 => (if decide (x16.join = 2) = true then (kx0_0 l0_1 x10 x13) else (gd (ok64 (s0_0 + 1)) ((m_spec_EnaTake_l0 n t kx0_0 kx0_1 n0) (s0_0 + 1) (l0_1.set x10.toNat (x13 - 1))))))))) else (gd (ok64 (s0_0 + 1)) ((m_spec_EnaTake_l0 n t kx0_0 kx0_1 n0) (s0_0 + 1) l0_1)))))) else (kx0_1 l0_1))
def m_spec_EnaTake (n : GNet) (marks : List Int) (t : Int) : Option (List Int) := (m_spec_MrkOk n marks).bind fun x1 => (if x1 = true then (gd (ok64 ((n.tasks.length : Int) - 1)) ((m_spec_l1In t 0 ((n.tasks.length : Int) - 1)).bind fun x4 => (if x4 = true then (gd (([] : List Int).length + marks.length ≤ SMALL) (m_spec_EnaTake_l0 n t m_spec_EnaTake_k1 m_spec_EnaTake_k2 FUEL 0 (([] : List Int) ++ marks))) else (some ([] : List Int))))) else (some ([] : List Int)))
def k_spec_EnaTake : Con := ⟨101, [.v (.s .net) false, .v (.sl .I) false, .v .I false], [((.sl .I), true)], [], fun x => m_spec_EnaTake x.1 x.2.1 x.2.2.1⟩
def f_spec_EnaTake : Fs := ⟨[k_spec_MrkOk, k_spec_l1In], []⟩
theorem g_spec_EnaTake : f_spec_EnaTake.Ok Tryz.prog := (fsK o_spec_MrkOk (fsK o_spec_l1In fs0))
def t_spec_EnaTake_0 : Tmpl := ⟨[(2, .c .i), (3, .c (.bx 3 0)), (7, .c (.ref 26)), (8, .c .i)], [(3, .boxT (.s .net)), (26, .arr .I true)]⟩
def x0_spec_EnaTake_0 : Tmpl := ⟨[(7, .c (.ref 26))], [(26, .arr .I true)]⟩
def L_spec_EnaTake_0 (av : AV) (x : HP k_spec_EnaTake.ps) (n : Nat) (v : t_spec_EnaTake_0.den) (K : Ks (CR k_spec_EnaTake)) : Option (CR k_spec_EnaTake) := m_spec_EnaTake_l0 v.2.1 v.1.1 (fun l0_1 x10 x13 => x0_spec_EnaTake_0.at none (((), ()), ((l0_1.set x10.toNat (x13 - 1)), ())) (K (.exit 0))) (fun l0_1 => x0_spec_EnaTake_0.at none (((), ()), (l0_1, ())) (K (.exit 0))) n v.1.2.2.2.1 v.2.2.1
def h_spec_EnaTake_0 (av : AV) (x : HP k_spec_EnaTake.ps) : Hdl (CR k_spec_EnaTake) := hnd [] t_spec_EnaTake_0 (L_spec_EnaTake_0 av x)
theorem l_spec_EnaTake_0 : LP k_spec_EnaTake Tryz.f101 [0] h_spec_EnaTake_0 := lp_ok (W := []) (H := []) (xs := [x0_spec_EnaTake_0]) g_spec_EnaTake trivial rfl (fun av x v K => by kernel_rfl) (fun av x n v K => by kernel_rfl)
theorem o_spec_EnaTake : k_spec_EnaTake.Ok Tryz.prog := fn_ok (k := k_spec_EnaTake) (fn := Tryz.f101) (W := []) (H := [h_spec_EnaTake_0]) Tryz.func101 g_spec_EnaTake ⟨l_spec_EnaTake_0, trivial⟩ rfl rfl (fun av x => by kernel_rfl)

def m_impl_isPerson (who : Int) : Option Bool := (m_impl_in who 1 4).bind fun x1 => (some x1)
def k_impl_isPerson : Con := ⟨170, [.v .I false], [(.B, true)], [], fun x => m_impl_isPerson x.1⟩
def f_impl_isPerson : Fs := ⟨[k_impl_in], []⟩
theorem g_impl_isPerson : f_impl_isPerson.Ok Tryz.prog := (fsK o_impl_in fs0)
theorem o_impl_isPerson : k_impl_isPerson.Ok Tryz.prog := fn_ok (k := k_impl_isPerson) (fn := Tryz.f170) (W := []) (H := []) Tryz.func170 g_impl_isPerson trivial rfl rfl (fun av x => by kernel_rfl)

def m_spec_SplTo_k1 (l0_1 : List Int) (x8 : GFlow) : Option (List Int) := some (l0_1 ++ [x8.to])
def m_spec_SplTo_k2 (l0_1 : List Int) (x13 : GFlow) : Option (List Int) := some (l0_1 ++ [x13.to])
def m_spec_SplTo_k3 (l0_1 : List Int) (x18 : GFlow) : Option (List Int) := some (l0_1 ++ [x18.to])
def m_spec_SplTo_k4 (l0_1 : List Int) : Option (List Int) := some l0_1
def m_spec_SplTo_l0 (t : GTask) (data : List Int) (kx0_0 : List Int → GFlow → Option (List Int)) (kx0_1 : List Int → GFlow → Option (List Int)) (kx0_2 : List Int → GFlow → Option (List Int)) (kx0_3 : List Int → Option (List Int)) : Nat → Int → List Int → Option (List Int)
  | 0, _, _ => none
  | n0 + 1, s0_0, l0_1 => if decide (s0_0 < (t.out.length : Int)) = true then ((getI t.out s0_0).bind fun x2 => ((m_spec_ExpHolds x2.if_ data).bind fun x3 => (if x3 = true then (if decide (t.split = 3) = true then (gd (ok64 ((t.out.length : Int) - 1)) (if decide (s0_0 < ((t.out.length : Int) - 1)) = true then ((getI t.out s0_0).bind fun x8 => (gd (l0_1.length + [x8.to].length ≤ SMALL) (if decide (t.split = 2) = true then (kx0_0 l0_1 x8) else (gd (ok64 (s0_0 + 1)) ((m_spec_SplTo_l0 t data kx0_0 kx0_1 kx0_2 kx0_3 n0) (s0_0 + 1) (l0_1 ++ [x8.to])))))) else (if decide ((l0_1.length : Int) = 0) = true then ((getI t.out s0_0).bind fun x13 => (gd (l0_1.length + [x13.to].length ≤ SMALL) (if decide (t.split = 2) = true then (kx0_1 l0_1 x13) else (gd (ok64 (s0_0 + 1)) ((m_spec_SplTo_l0 t data kx0_0 kx0_1 kx0_2 kx0_3 n0) (s0_0 + 1) (l0_1 ++ [x13.to])))))) else (gd (ok64 (s0_0 + 1)) ((m_spec_SplTo_l0 t data kx0_0 kx0_1 kx0_2 kx0_3 n0) (s0_0 + 1) l0_1))))) else ((getI t.out s0_0).bind fun x18 => (gd (l0_1.length + [x18.to].length ≤ SMALL) (if decide (t.split = 2) = true then (kx0_2 l0_1 x18) else (gd (ok64 (s0_0 + 1)) ((m_spec_SplTo_l0 t data kx0_0 kx0_1 kx0_2 kx0_3 n0) (s0_0 + 1) (l0_1 ++ [x18.to]))))))) else (gd (ok64 (s0_0 + 1)) ((m_spec_SplTo_l0 t data kx0_0 kx0_1 kx0_2 kx0_3 n0) (s0_0 + 1) l0_1))))) else (kx0_3 l0_1)
def m_spec_SplTo (t : GTask) (data : List Int) : Option (List Int) := m_spec_SplTo_l0 t data m_spec_SplTo_k1 m_spec_SplTo_k2 m_spec_SplTo_k3 m_spec_SplTo_k4 FUEL 0 ([] : List Int)
def k_spec_SplTo : Con := ⟨221, [.v (.s .task) false, .v (.sl .I) false], [((.sl .I), true)], [], fun x => m_spec_SplTo x.1 x.2.1⟩
def f_spec_SplTo : Fs := ⟨[k_spec_ExpHolds], []⟩
theorem g_spec_SplTo : f_spec_SplTo.Ok Tryz.prog := (fsK o_spec_ExpHolds fs0)
def t_spec_SplTo_0 : Tmpl := ⟨[(1, .c (.s .I)), (2, .c (.bx 2 0)), (5, .c (.ref 7)), (6, .c .i)], [(2, .boxT (.s .task)), (7, .arr .I true)]⟩
def x0_spec_SplTo_0 : Tmpl := ⟨[(5, .c (.ref 49))], [(49, .arr .I true)]⟩
def L_spec_SplTo_0 (av : AV) (x : HP k_spec_SplTo.ps) (n : Nat) (v : t_spec_SplTo_0.den) (K : Ks (CR k_spec_SplTo)) : Option (CR k_spec_SplTo) := m_spec_SplTo_l0 v.2.1 v.1.1 (fun l0_1 x8 => x0_spec_SplTo_0.at none (((), ()), ((l0_1 ++ [x8.to]), ())) (K (.exit 0))) (fun l0_1 x13 => x0_spec_SplTo_0.at none (((), ()), ((l0_1 ++ [x13.to]), ())) (K (.exit 0))) (fun l0_1 x18 => x0_spec_SplTo_0.at none (((), ()), ((l0_1 ++ [x18.to]), ())) (K (.exit 0))) (fun l0_1 => x0_spec_SplTo_0.at none (((), ()), (l0_1, ())) (K (.exit 0))) n v.1.2.2.2.1 v.2.2.1
def h_spec_SplTo_0 (av : AV) (x : HP k_spec_SplTo.ps) : Hdl (CR k_spec_SplTo) := hnd [] t_spec_SplTo_0 (L_spec_SplTo_0 av x)
theorem l_spec_SplTo_0 : LP k_spec_SplTo Tryz.f221 [0] h_spec_SplTo_0 := lp_ok (W := []) (H := []) (xs := [x0_spec_SplTo_0]) g_spec_SplTo trivial rfl (fun av x v K => by kernel_rfl) (fun av x n v K => by kernel_rfl)
theorem o_spec_SplTo : k_spec_SplTo.Ok Tryz.prog := fn_ok (k := k_spec_SplTo) (fn := Tryz.f221) (W := []) (H := [h_spec_SplTo_0]) Tryz.func221 g_spec_SplTo ⟨l_spec_SplTo_0, trivial⟩ rfl rfl (fun av x => by kernel_rfl)

def m_spec_FirGive_k2 (l1_1 : List Int) : Option ((List Int) × Bool) := some (l1_1, true)
def m_spec_FirGive_l1 (x16 : (List Int)) (kx1_0 : List Int → Option ((List Int) × Bool)) : Nat → Int → List Int → Option ((List Int) × Bool)
  | 0, _, _ => none
  | n1 + 1, s1_0, l1_1 => if decide (s1_0 < (x16.length : Int)) = true then ((getI x16 s1_0).bind fun x18 => ((getI l1_1 x18).bind fun x19 => (if decide (x19 = 4) = true then (some (([] : List Int), false)) else ((getI x16 s1_0).bind fun x21 => ((getI x16 s1_0).bind fun x22 => ((getI l1_1 x22).bind fun x23 => (gd (ok64 (x23 + 1)) ((getI l1_1 x21).bind fun x25 => (gd (ok64 (s1_0 + 1)) ((m_spec_FirGive_l1 x16 kx1_0 n1) (s1_0 + 1) (l1_1.set x21.toNat (x23 + 1)))))))))))) else (kx1_0 l1_1)
def m_spec_FirGive_k1 (n : GNet) (t : Int) (data : List Int) (l0_1 : List Int) : Option ((List Int) × Bool) := (getI n.tasks t).bind fun x15 => ((m_spec_SplTo x15 data).bind fun x16 => (m_spec_FirGive_l1 x16 m_spec_FirGive_k2 FUEL 0 l0_1))
def m_spec_FirGive_l0 (n : GNet) (t : Int) (kx0_0 : List Int → Option ((List Int) × Bool)) : Nat → Int → List Int → Option ((List Int) × Bool)
  | 0, _, _ => none
  | n0 + 1, s0_0, l0_1 => (getI n.tasks t).bind fun x9 => (if decide (s0_0 < (x9.clear.length : Int)) = true then ((getI n.tasks t).bind fun x11 => ((getI x11.clear s0_0).bind fun x12 => ((getI l0_1 x12).bind fun x13 => (gd (ok64 (s0_0 + 1)) ((m_spec_FirGive_l0 n t kx0_0 n0) (s0_0 + 1) (l0_1.set x12.toNat 0)))))) else (kx0_0 l0_1))
def m_spec_FirGive (n : GNet) (marks : List Int) (t : Int) (data : List Int) : Option ((List Int) × Bool) := (m_spec_MrkOk n marks).bind fun x1 => (if x1 = true then (gd (ok64 ((n.tasks.length : Int) - 1)) ((m_spec_l1In t 0 ((n.tasks.length : Int) - 1)).bind fun x4 => (if x4 = true then ((m_spec_DatOk data).bind fun x6 => (if x6 = true then (gd (([] : List Int).length + marks.length ≤ SMALL) (m_spec_FirGive_l0 n t (m_spec_FirGive_k1 n t data) FUEL 0 (([] : List Int) ++ marks))) else (some (([] : List Int), false)))) else (some (([] : List Int), false))))) else (some (([] : List Int), false)))
def k_spec_FirGive : Con := ⟨191, [.v (.s .net) false, .v (.sl .I) false, .v .I false, .v (.sl .I) false], [((.sl .I), true), (.B, true)], [], fun x => m_spec_FirGive x.1 x.2.1 x.2.2.1 x.2.2.2.1⟩
def f_spec_FirGive : Fs := ⟨[k_spec_MrkOk, k_spec_l1In, k_spec_DatOk, k_spec_SplTo], []⟩
theorem g_spec_FirGive : f_spec_FirGive.Ok Tryz.prog := (fsK o_spec_MrkOk (fsK o_spec_l1In (fsK o_spec_DatOk (fsK o_spec_SplTo fs0))))
def t_spec_FirGive_0 : Tmpl := ⟨[(2, .c .i), (3, .c (.s .I)), (4, .c (.bx 4 0)), (10, .c (.ref 35)), (11, .c .i)], [(4, .boxT (.s .net)), (35, .arr .I true)]⟩
def x0_spec_FirGive_0 : Tmpl := ⟨[(2, .c .i), (3, .c (.s .I)), (4, .c (.bx 4 0)), (10, .c (.ref 35))], [(4, .boxT (.s .net)), (35, .arr .I true)]⟩
def L_spec_FirGive_0 (av : AV) (x : HP k_spec_FirGive.ps) (n : Nat) (v : t_spec_FirGive_0.den) (K : Ks (CR k_spec_FirGive)) : Option (CR k_spec_FirGive) := m_spec_FirGive_l0 v.2.1 v.1.1 (fun l0_1 => x0_spec_FirGive_0.at none ((v.1.1, v.1.2.1, (), (), ()), (v.2.1, l0_1, ())) (K (.exit 0))) n v.1.2.2.2.2.1 v.2.2.1
def h_spec_FirGive_0 (av : AV) (x : HP k_spec_FirGive.ps) : Hdl (CR k_spec_FirGive) := hnd [] t_spec_FirGive_0 (L_spec_FirGive_0 av x)
theorem l_spec_FirGive_0 : LP k_spec_FirGive Tryz.f191 [0] h_spec_FirGive_0 := lp_ok (W := []) (H := []) (xs := [x0_spec_FirGive_0]) g_spec_FirGive trivial rfl (fun av x v K => by kernel_rfl) (fun av x n v K => by kernel_rfl)
def t_spec_FirGive_1 : Tmpl := ⟨[(10, .c (.ref 35)), (12, .c (.ref 64)), (13, .c .i)], [(35, .arr .I true), (64, .arr .I true)]⟩
def x0_spec_FirGive_1 : Tmpl := ⟨[(10, .c (.ref 35))], [(35, .arr .I true)]⟩
def L_spec_FirGive_1 (av : AV) (x : HP k_spec_FirGive.ps) (n : Nat) (v : t_spec_FirGive_1.den) (K : Ks (CR k_spec_FirGive)) : Option (CR k_spec_FirGive) := m_spec_FirGive_l1 v.2.2.1 (fun l1_1 => x0_spec_FirGive_1.at none (((), ()), (l1_1, ())) (K (.exit 2))) n v.1.2.2.1 v.2.1
def h_spec_FirGive_1 (av : AV) (x : HP k_spec_FirGive.ps) : Hdl (CR k_spec_FirGive) := hnd [] t_spec_FirGive_1 (L_spec_FirGive_1 av x)
theorem l_spec_FirGive_1 : LP k_spec_FirGive Tryz.f191 [1] h_spec_FirGive_1 := lp_ok (W := []) (H := []) (xs := [x0_spec_FirGive_1]) g_spec_FirGive trivial rfl (fun av x v K => by kernel_rfl) (fun av x n v K => by kernel_rfl)
theorem o_spec_FirGive : k_spec_FirGive.Ok Tryz.prog := fn_ok (k := k_spec_FirGive) (fn := Tryz.f191) (W := []) (H := [h_spec_FirGive_0, h_spec_FirGive_1]) Tryz.func191 g_spec_FirGive ⟨l_spec_FirGive_0, l_spec_FirGive_1, trivial⟩ rfl rfl (fun av x => by kernel_rfl)

def m_spec_PplOk_k1  : Option Bool := some true
def m_spec_PplOk_l0 (people : List Int) (kx0_0 : Option Bool) : Nat → Int → Option Bool
  | 0, _ => none
  | n0 + 1, s0_0 => if decide (s0_0 < (people.length : Int)) = true then ((getI people s0_0).bind fun x4 => ((m_spec_l1In x4 0 7).bind fun x5 => (if x5 = true then (gd (ok64 (s0_0 + 1)) ((m_spec_PplOk_l0 people kx0_0 n0) (s0_0 + 1))) else (some false)))) else (kx0_0)
def m_spec_PplOk (people : List Int) : Option Bool := (m_spec_l1In (people.length : Int) 1 4).bind fun x1 => (if x1 = true then (m_spec_PplOk_l0 people m_spec_PplOk_k1 FUEL 0) else (some false))
def k_spec_PplOk : Con := ⟨83, [.v (.sl .I) false], [(.B, true)], [], fun x => m_spec_PplOk x.1⟩
def f_spec_PplOk : Fs := ⟨[k_spec_l1In], []⟩
theorem g_spec_PplOk : f_spec_PplOk.Ok Tryz.prog := (fsK o_spec_l1In fs0)
def t_spec_PplOk_0 : Tmpl := ⟨[(0, .c (.s .I)), (3, .c .i)], []⟩
def x0_spec_PplOk_0 : Tmpl := ⟨[], []⟩
def L_spec_PplOk_0 (av : AV) (x : HP k_spec_PplOk.ps) (n : Nat) (v : t_spec_PplOk_0.den) (K : Ks (CR k_spec_PplOk)) : Option (CR k_spec_PplOk) := m_spec_PplOk_l0 v.1.1 (x0_spec_PplOk_0.at none ((), ()) (K (.exit 0))) n v.1.2.1
def h_spec_PplOk_0 (av : AV) (x : HP k_spec_PplOk.ps) : Hdl (CR k_spec_PplOk) := hnd [] t_spec_PplOk_0 (L_spec_PplOk_0 av x)
theorem l_spec_PplOk_0 : LP k_spec_PplOk Tryz.f83 [0] h_spec_PplOk_0 := lp_ok (W := []) (H := []) (xs := [x0_spec_PplOk_0]) g_spec_PplOk trivial rfl (fun av x v K => by kernel_rfl) (fun av x n v K => by kernel_rfl)
theorem o_spec_PplOk : k_spec_PplOk.Ok Tryz.prog := fn_ok (k := k_spec_PplOk) (fn := Tryz.f83) (W := []) (H := [h_spec_PplOk_0]) Tryz.func83 g_spec_PplOk ⟨l_spec_PplOk_0, trivial⟩ rfl rfl (fun av x => by kernel_rfl)

def m_spec_PplHas_k1 (s0_0 : Int) : Option Bool := gd ((2 : Int) ≠ 0) (some (decide ((Int.tmod s0_0 2) = 1)))
def m_spec_PplHas_l0 (role : Int) (kx0_0 : Int → Option Bool) : Nat → Int → Int → Option Bool
  | 0, _, _ => none
  | n0 + 1, s0_0, s0_1 => if decide (s0_1 < role) = true then (gd ((2 : Int) ≠ 0 ∧ ok64 (Int.tdiv s0_0 2)) (gd (ok64 (s0_1 + 1)) ((m_spec_PplHas_l0 role kx0_0 n0) (Int.tdiv s0_0 2) (s0_1 + 1)))) else (kx0_0 s0_0)
def m_spec_PplHas (people : List Int) (who : Int) (role : Int) : Option Bool := (m_spec_PplOk people).bind fun x1 => (if x1 = true then ((m_spec_l1In who 1 (people.length : Int)).bind fun x3 => (if x3 = true then ((m_spec_l1In role 1 3).bind fun x5 => (if x5 = true then (gd (ok64 (who - 1)) ((getI people (who - 1)).bind fun x8 => (m_spec_PplHas_l0 role m_spec_PplHas_k1 FUEL x8 1))) else (some false))) else (some false))) else (some false))
def k_spec_PplHas : Con := ⟨173, [.v (.sl .I) false, .v .I false, .v .I false], [(.B, true)], [], fun x => m_spec_PplHas x.1 x.2.1 x.2.2.1⟩
def f_spec_PplHas : Fs := ⟨[k_spec_PplOk, k_spec_l1In], []⟩
theorem g_spec_PplHas : f_spec_PplHas.Ok Tryz.prog := (fsK o_spec_PplOk (fsK o_spec_l1In fs0))
def t_spec_PplHas_0 : Tmpl := ⟨[(2, .c .i), (7, .c .i), (8, .c .i)], []⟩
def x0_spec_PplHas_0 : Tmpl := ⟨[(7, .c .i)], []⟩
def L_spec_PplHas_0 (av : AV) (x : HP k_spec_PplHas.ps) (n : Nat) (v : t_spec_PplHas_0.den) (K : Ks (CR k_spec_PplHas)) : Option (CR k_spec_PplHas) := m_spec_PplHas_l0 v.1.1 (fun s0_0 => x0_spec_PplHas_0.at none ((s0_0, ()), ()) (K (.exit 0))) n v.1.2.1 v.1.2.2.1
def h_spec_PplHas_0 (av : AV) (x : HP k_spec_PplHas.ps) : Hdl (CR k_spec_PplHas) := hnd [] t_spec_PplHas_0 (L_spec_PplHas_0 av x)
theorem l_spec_PplHas_0 : LP k_spec_PplHas Tryz.f173 [0] h_spec_PplHas_0 := lp_ok (W := []) (H := []) (xs := [x0_spec_PplHas_0]) g_spec_PplHas trivial rfl (fun av x v K => by kernel_rfl) (fun av x n v K => by kernel_rfl)
theorem o_spec_PplHas : k_spec_PplHas.Ok Tryz.prog := fn_ok (k := k_spec_PplHas) (fn := Tryz.f173) (W := []) (H := [h_spec_PplHas_0]) Tryz.func173 g_spec_PplHas ⟨l_spec_PplHas_0, trivial⟩ rfl rfl (fun av x => by kernel_rfl)

def m_spec_PplDid_k1  : Option Bool := some false
def m_spec_PplDid_l0 (did : List GDid) (who : Int) (task : Int) (kx0_0 : Option Bool) : Nat → Int → Option Bool
  | 0, _ => none
  | n0 + 1, s0_0 => if decide (s0_0 < (did.length : Int)) = true then ((getI did s0_0).bind fun x2 => (if decide (x2.who = who) = true then ((getI did s0_0).bind fun x4 => (if decide (x4.task = task) = true then (some true) else (gd (ok64 (s0_0 + 1)) ((m_spec_PplDid_l0 did who task kx0_0 n0) (s0_0 + 1))))) else (gd (ok64 (s0_0 + 1)) ((m_spec_PplDid_l0 did who task kx0_0 n0) (s0_0 + 1))))) else (kx0_0)
def m_spec_PplDid (did : List GDid) (who : Int) (task : Int) : Option Bool := m_spec_PplDid_l0 did who task m_spec_PplDid_k1 FUEL 0
def k_spec_PplDid : Con := ⟨174, [.v (.sl (.s .did)) false, .v .I false, .v .I false], [(.B, true)], [], fun x => m_spec_PplDid x.1 x.2.1 x.2.2.1⟩
def f_spec_PplDid : Fs := ⟨[], []⟩
theorem g_spec_PplDid : f_spec_PplDid.Ok Tryz.prog := fs0
def t_spec_PplDid_0 : Tmpl := ⟨[(0, .c (.s (.s .did))), (1, .c .i), (2, .c .i), (7, .c .i)], []⟩
def x0_spec_PplDid_0 : Tmpl := ⟨[], []⟩
def L_spec_PplDid_0 (av : AV) (x : HP k_spec_PplDid.ps) (n : Nat) (v : t_spec_PplDid_0.den) (K : Ks (CR k_spec_PplDid)) : Option (CR k_spec_PplDid) := m_spec_PplDid_l0 v.1.1 v.1.2.1 v.1.2.2.1 (x0_spec_PplDid_0.at none ((), ()) (K (.exit 0))) n v.1.2.2.2.1
def h_spec_PplDid_0 (av : AV) (x : HP k_spec_PplDid.ps) : Hdl (CR k_spec_PplDid) := hnd [] t_spec_PplDid_0 (L_spec_PplDid_0 av x)
theorem l_spec_PplDid_0 : LP k_spec_PplDid Tryz.f174 [0] h_spec_PplDid_0 := lp_ok (W := []) (H := []) (xs := [x0_spec_PplDid_0]) g_spec_PplDid trivial rfl (fun av x v K => by kernel_rfl) (fun av x n v K => by kernel_rfl)
theorem o_spec_PplDid : k_spec_PplDid.Ok Tryz.prog := fn_ok (k := k_spec_PplDid) (fn := Tryz.f174) (W := []) (H := [h_spec_PplDid_0]) Tryz.func174 g_spec_PplDid ⟨l_spec_PplDid_0, trivial⟩ rfl rfl (fun av x => by kernel_rfl)

def m_spec_PplMay_k1 (n : GNet) (people : List Int) (did : List GDid) (t : Int) (s0_0 : Int) (l0_1 : List Int) (bk0 : Int → List Int → Option (List Int)) (s1_0 : Bool) : Option (List Int) := (getI n.tasks t).bind fun x18 => ((m_spec_PplHas people s0_0 x18.role).bind fun x19 => (if x19 = true then (if s1_0 = true then (gd (ok64 (s0_0 + 1)) (bk0 (s0_0 + 1) l0_1)) else ((getI n.tasks t).bind fun x23 => ((m_spec_PplDid did s0_0 x23.apart).bind fun x24 => (if x24 = true then (gd (ok64 (s0_0 + 1)) (bk0 (s0_0 + 1) l0_1)) else (gd (l0_1.length + [s0_0].length ≤ SMALL) (gd (ok64 (s0_0 + 1)) (bk0 (s0_0 + 1) (l0_1 ++ [s0_0])))))))) else (gd (ok64 (s0_0 + 1)) (bk0 (s0_0 + 1) l0_1))))
def m_spec_PplMay_l1 (n : GNet) (busy : List GItem) (t : Int) (s0_0 : Int) (kx1_0 : Bool → Option (List Int)) : Nat → Bool → Int → Option (List Int)
  | 0, _, _ => none
  | n1 + 1, s1_0, s1_1 => if decide (s1_1 < (busy.length : Int)) = true then (if s1_0 = true then (gd (ok64 (s1_1 + 1)) ((m_spec_PplMay_l1 n busy t s0_0 kx1_0 n1) true (s1_1 + 1))) else ((getI busy s1_1).bind fun x12 => (if decide (x12.who = s0_0) = true then ((getI busy s1_1).bind fun x14 => ((getI n.tasks t).bind fun x15 => (gd (ok64 (s1_1 + 1)) ((m_spec_PplMay_l1 n busy t s0_0 kx1_0 n1) (decide (x14.task = x15.apart)) (s1_1 + 1))))) else (gd (ok64 (s1_1 + 1)) ((m_spec_PplMay_l1 n busy t s0_0 kx1_0 n1) false (s1_1 + 1)))))) else (kx1_0 s1_0)
def m_spec_PplMay_k2 (l0_1 : List Int) : Option (List Int) := some l0_1
def m_spec_PplMay_l0 (n : GNet) (people : List Int) (did : List GDid) (busy : List GItem) (t : Int) (kx0_0 : List Int → Option (List Int)) : Nat → Int → List Int → Option (List Int)
  | 0, _, _ => none
  | n0 + 1, s0_0, l0_1 => if decide (s0_0 ≤ (people.length : Int)) = true then (m_spec_PplMay_l1 n busy t s0_0 (m_spec_PplMay_k1 n people did t s0_0 l0_1 (m_spec_PplMay_l0 n people did busy t kx0_0 n0)) FUEL false 0) else (kx0_0 l0_1)
def m_spec_PplMay (n : GNet) (people : List Int) (did : List GDid) (busy : List GItem) (t : Int) : Option (List Int) := (m_spec_NetOk n).bind fun x1 => (if x1 = true then ((m_spec_PplOk people).bind fun x3 => (if x3 = true then (gd (ok64 ((n.tasks.length : Int) - 1)) ((m_spec_l1In t 0 ((n.tasks.length : Int) - 1)).bind fun x6 => (if x6 = true then (m_spec_PplMay_l0 n people did busy t m_spec_PplMay_k2 FUEL 1 ([] : List Int)) else (some ([] : List Int))))) else (some ([] : List Int)))) else (some ([] : List Int)))
def k_spec_PplMay : Con := ⟨100, [.v (.s .net) false, .v (.sl .I) false, .v (.sl (.s .did)) false, .v (.sl (.s .item)) false, .v .I false], [((.sl .I), true)], [], fun x => m_spec_PplMay x.1 x.2.1 x.2.2.1 x.2.2.2.1 x.2.2.2.2.1⟩
def f_spec_PplMay : Fs := ⟨[k_spec_NetOk, k_spec_PplOk, k_spec_l1In, k_spec_PplHas, k_spec_PplDid], []⟩
theorem g_spec_PplMay : f_spec_PplMay.Ok Tryz.prog := (fsK o_spec_NetOk (fsK o_spec_PplOk (fsK o_spec_l1In (fsK o_spec_PplHas (fsK o_spec_PplDid fs0)))))
def t_spec_PplMay_0_0 : Tmpl := ⟨[(1, .c (.s .I)), (2, .c (.s (.s .did))), (3, .c (.s (.s .item))), (4, .c .i), (5, .c (.bx 5 0)), (11, .c (.ref 15)), (12, .c .i), (13, .c .b), (14, .c .i)], [(5, .boxT (.s .net)), (15, .arr .I true)]⟩
def x0_spec_PplMay_0_0 : Tmpl := ⟨[(1, .c (.s .I)), (2, .c (.s (.s .did))), (3, .c (.s (.s .item))), (4, .c .i), (5, .c (.bx 5 0)), (11, .c (.ref 15)), (12, .c .i), (13, .c .b)], [(5, .boxT (.s .net)), (15, .arr .I true)]⟩
def L_spec_PplMay_0_0 (av : AV) (x : HP k_spec_PplMay.ps) (n : Nat) (v : t_spec_PplMay_0_0.den) (K : Ks (CR k_spec_PplMay)) : Option (CR k_spec_PplMay) := m_spec_PplMay_l1 v.2.1 v.1.2.2.1 v.1.2.2.2.1 v.1.2.2.2.2.2.2.1 (fun s1_0 => x0_spec_PplMay_0_0.at none ((v.1.1, v.1.2.1, v.1.2.2.1, v.1.2.2.2.1, (), (), v.1.2.2.2.2.2.2.1, s1_0, ()), (v.2.1, v.2.2.1, ())) (K (.exit 2))) n v.1.2.2.2.2.2.2.2.1 v.1.2.2.2.2.2.2.2.2.1
def h_spec_PplMay_0_0 (av : AV) (x : HP k_spec_PplMay.ps) : Hdl (CR k_spec_PplMay) := hnd [] t_spec_PplMay_0_0 (L_spec_PplMay_0_0 av x)
theorem l_spec_PplMay_0_0 : LP k_spec_PplMay Tryz.f100 [0, 0] h_spec_PplMay_0_0 := lp_ok (W := []) (H := []) (xs := [x0_spec_PplMay_0_0]) g_spec_PplMay trivial rfl (fun av x v K => by kernel_rfl) (fun av x n v K => by kernel_rfl)
def t_spec_PplMay_0 : Tmpl := ⟨[(1, .c (.s .I)), (2, .c (.s (.s .did))), (3, .c (.s (.s .item))), (4, .c .i), (5, .c (.bx 5 0)), (11, .c (.ref 15)), (12, .c .i)], [(5, .boxT (.s .net)), (15, .arr .I true)]⟩
def x0_spec_PplMay_0 : Tmpl := ⟨[(11, .c (.ref 15))], [(15, .arr .I true)]⟩
def L_spec_PplMay_0 (av : AV) (x : HP k_spec_PplMay.ps) (n : Nat) (v : t_spec_PplMay_0.den) (K : Ks (CR k_spec_PplMay)) : Option (CR k_spec_PplMay) := m_spec_PplMay_l0 v.2.1 v.1.1 v.1.2.1 v.1.2.2.1 v.1.2.2.2.1 (fun l0_1 => x0_spec_PplMay_0.at none (((), ()), (l0_1, ())) (K (.exit 0))) n v.1.2.2.2.2.2.2.1 v.2.2.1
def h_spec_PplMay_0 (av : AV) (x : HP k_spec_PplMay.ps) : Hdl (CR k_spec_PplMay) := hnd [] t_spec_PplMay_0 (L_spec_PplMay_0 av x)
theorem l_spec_PplMay_0 : LP k_spec_PplMay Tryz.f100 [0] h_spec_PplMay_0 := lp_ok (W := []) (H := [h_spec_PplMay_0_0]) (xs := [x0_spec_PplMay_0]) g_spec_PplMay ⟨l_spec_PplMay_0_0, trivial⟩ rfl (fun av x v K => by kernel_rfl) (fun av x n v K => by kernel_rfl)
theorem o_spec_PplMay : k_spec_PplMay.Ok Tryz.prog := fn_ok (k := k_spec_PplMay) (fn := Tryz.f100) (W := []) (H := [h_spec_PplMay_0]) Tryz.func100 g_spec_PplMay ⟨l_spec_PplMay_0, trivial⟩ rfl rfl (fun av x => by kernel_rfl)

def m_spec_CasOk_k1 (c : GCase) : Option Bool := if decide (c.state = 1) = true then ((getI c.marks 1).bind fun x20 => (some (decide (x20 = 0)))) else (if decide ((c.busy.length : Int) = 0) = true then ((getI c.marks 1).bind fun x22 => (some ((decide (c.state = 2)) == (decide (0 < x22))))) else (some false))
def m_spec_CasOk_l0 (n : GNet) (c : GCase) (kx0_0 : Option Bool) : Nat → Int → Option Bool
  | 0, _ => none
  | n0 + 1, s0_0 => if decide (s0_0 < (c.did.length : Int)) = true then ((getI c.did s0_0).bind fun x11 => (gd (ok64 ((n.tasks.length : Int) - 1)) ((m_spec_l1In x11.task 0 ((n.tasks.length : Int) - 1)).bind fun x13 => (if x13 = true then ((getI c.did s0_0).bind fun x15 => ((m_spec_l1In x15.who 1 4).bind fun x16 => (if x16 = true then (gd (ok64 (s0_0 + 1)) ((m_spec_CasOk_l0 n c kx0_0 n0) (s0_0 + 1))) else (some false)))) else (some false))))) else (kx0_0)
def m_spec_CasOk (n : GNet) (c : GCase) : Option Bool := (m_spec_MrkOk n c.marks).bind fun x1 => (if x1 = true then ((m_spec_l3Busy n c.busy).bind fun x3 => (if x3 = true then ((m_spec_DatOk c.data).bind fun x5 => (if x5 = true then (if decide (60 < (c.did.length : Int)) = true then (some false) else ((m_spec_l1In c.state 1 3).bind fun x8 => (if x8 = true then (m_spec_CasOk_l0 n c (m_spec_CasOk_k1 c) FUEL 0) else (some false)))) else (some false))) else (some false))) else (some false))
def k_spec_CasOk : Con := ⟨86, [.v (.s .net) false, .v (.s .kase) false], [(.B, true)], [], fun x => m_spec_CasOk x.1 x.2.1⟩
def f_spec_CasOk : Fs := ⟨[k_spec_MrkOk, k_spec_l3Busy, k_spec_DatOk, k_spec_l1In], []⟩
theorem g_spec_CasOk : f_spec_CasOk.Ok Tryz.prog := (fsK o_spec_MrkOk (fsK o_spec_l3Busy (fsK o_spec_DatOk (fsK o_spec_l1In fs0))))
def t_spec_CasOk_0 : Tmpl := ⟨[(2, .c (.bx 2 0)), (3, .c (.bx 3 0)), (5, .c .i)], [(2, .boxT (.s .net)), (3, .boxT (.s .kase))]⟩
def x0_spec_CasOk_0 : Tmpl := ⟨[(3, .c (.bx 3 0))], [(3, .boxT (.s .kase))]⟩
def L_spec_CasOk_0 (av : AV) (x : HP k_spec_CasOk.ps) (n : Nat) (v : t_spec_CasOk_0.den) (K : Ks (CR k_spec_CasOk)) : Option (CR k_spec_CasOk) := m_spec_CasOk_l0 v.2.1 v.2.2.1 (x0_spec_CasOk_0.at none (((), ()), (v.2.2.1, ())) (K (.exit 0))) n v.1.2.2.1
def h_spec_CasOk_0 (av : AV) (x : HP k_spec_CasOk.ps) : Hdl (CR k_spec_CasOk) := hnd [] t_spec_CasOk_0 (L_spec_CasOk_0 av x)
theorem l_spec_CasOk_0 : LP k_spec_CasOk Tryz.f86 [0] h_spec_CasOk_0 := lp_ok (W := []) (H := []) (xs := [x0_spec_CasOk_0]) g_spec_CasOk trivial rfl (fun av x v K => by kernel_rfl) (fun av x n v K => by kernel_rfl)
theorem o_spec_CasOk : k_spec_CasOk.Ok Tryz.prog := fn_ok (k := k_spec_CasOk) (fn := Tryz.f86) (W := []) (H := [h_spec_CasOk_0]) Tryz.func86 g_spec_CasOk ⟨l_spec_CasOk_0, trivial⟩ rfl rfl (fun av x => by kernel_rfl)

def m_spec_l6Copy (c : GCase) : Option GCase := gd (([] : List Int).length + c.marks.length ≤ SMALL) (gd (([] : List GItem).length + c.busy.length ≤ SMALL) (gd (([] : List Int).length + c.data.length ≤ SMALL) (gd (([] : List GDid).length + c.did.length ≤ SMALL) (some (GCase.mk c.state (([] : List Int) ++ c.marks) (([] : List GItem) ++ c.busy) (([] : List Int) ++ c.data) (([] : List GDid) ++ c.did))))))
def k_spec_l6Copy : Con := ⟨97, [.v (.s .kase) false], [((.s .kase), true)], [], fun x => m_spec_l6Copy x.1⟩
def f_spec_l6Copy : Fs := ⟨[], []⟩
theorem g_spec_l6Copy : f_spec_l6Copy.Ok Tryz.prog := fs0
theorem o_spec_l6Copy : k_spec_l6Copy.Ok Tryz.prog := fn_ok (k := k_spec_l6Copy) (fn := Tryz.f97) (W := []) (H := []) Tryz.func97 g_spec_l6Copy trivial rfl rfl (fun av x => by kernel_rfl)

def m_spec_CasStart (n : GNet) (people : List Int) (c : GCase) (t : Int) (who : Int) : Option (GCase × Bool) := (m_spec_l6Copy c).bind fun x1 => ((m_spec_CasOk n c).bind fun x2 => (if x2 = true then (if decide (c.state = 1) = true then ((m_spec_EnaCan n c.marks c.busy t).bind fun x5 => (if x5 = true then ((m_spec_PplMay n people c.did c.busy t).bind fun x7 => ((m_spec_l2Has x7 who).bind fun x8 => (if x8 = true then (if decide ((c.busy.length : Int) = 6) = true then (some (x1, false)) else ((m_spec_EnaTake n c.marks t).bind fun x11 => (gd (x1.busy.length + [(GItem.mk t who 0)].length ≤ SMALL) (some ((GCase.mk x1.state x11 (x1.busy ++ [(GItem.mk t who 0)]) x1.data x1.did), true))))) else (some (x1, false))))) else (some (x1, false)))) else (some (x1, false))) else (some (x1, false))))
def k_spec_CasStart : Con := ⟨35, [.v (.s .net) false, .v (.sl .I) false, .v (.s .kase) false, .v .I false, .v .I false], [((.s .kase), true), (.B, true)], [], fun x => m_spec_CasStart x.1 x.2.1 x.2.2.1 x.2.2.2.1 x.2.2.2.2.1⟩
def f_spec_CasStart : Fs := ⟨[k_spec_l6Copy, k_spec_CasOk, k_spec_EnaCan, k_spec_PplMay, k_spec_l2Has, k_spec_EnaTake], []⟩
theorem g_spec_CasStart : f_spec_CasStart.Ok Tryz.prog := (fsK o_spec_l6Copy (fsK o_spec_CasOk (fsK o_spec_EnaCan (fsK o_spec_PplMay (fsK o_spec_l2Has (fsK o_spec_EnaTake fs0))))))
theorem o_spec_CasStart : k_spec_CasStart.Ok Tryz.prog := fn_ok (k := k_spec_CasStart) (fn := Tryz.f35) (W := []) (H := []) Tryz.func35 g_spec_CasStart trivial rfl rfl (fun av x => by kernel_rfl)

def m_spec_CasWork (n : GNet) (c : GCase) (k : Int) (v : Int) (num : Int) : Option (GCase × Bool) := (m_spec_l6Copy c).bind fun x1 => ((m_spec_CasOk n c).bind fun x2 => (if x2 = true then (if decide (c.state = 1) = true then (gd (ok64 ((c.busy.length : Int) - 1)) ((m_spec_l1In k 0 ((c.busy.length : Int) - 1)).bind fun x6 => (if x6 = true then ((m_spec_l1In v (-1) 2).bind fun x8 => (if x8 = true then ((m_spec_l1In num (-99) 99).bind fun x10 => (if x10 = true then (if decide ((c.did.length : Int) = 60) = true then (some (x1, false)) else ((getI c.busy k).bind fun x13 => ((m_spec_DatSet c.data v num).bind fun x14 => (gd (ok64 (x13.did + 1)) ((getI x1.busy k).bind fun x16 => (gd (ok64 (x13.did + 1)) ((getI n.tasks x13.task).bind fun x18 => (if decide ((x13.did + 1) < x18.need) = true then (some ((GCase.mk x1.state x1.marks (x1.busy.set k.toNat (GItem.mk x16.task x16.who (x13.did + 1))) x14 x1.did), true)) else ((m_spec_FirGive n c.marks x13.task x14).bind fun x20 => (if x20.2 = true then (gd (0 ≤ k ∧ k ≤ (c.busy.length : Int)) (gd (([] : List GItem).length + (c.busy.take k.toNat).length ≤ SMALL) (gd (ok64 (k + 1)) (gd (0 ≤ (k + 1) ∧ (k + 1) ≤ (c.busy.length : Int)) (gd ((([] : List GItem) ++ (c.busy.take k.toNat)).length + (c.busy.drop (k + 1).toNat).length ≤ SMALL) (gd (x1.did.length + [(GDid.mk x13.task x13.who)].length ≤ SMALL) ((getI x20.1 1).bind fun x28 => (if decide (0 < x28) = true then (some ((GCase.mk 2 x20.1 ([] : List GItem) x14 (x1.did ++ [(GDid.mk x13.task x13.who)])), true)) else (some ((GCase.mk x1.state x20.1 ((([] : List GItem) ++ (c.busy.take k.toNat)) ++ (c.busy.drop (k + 1).toNat)) x14 (x1.did ++ [(GDid.mk x13.task x13.who)])), true)))))))))) else ((m_spec_l6Copy c).bind fun x30 => (some (x30, false))))))))))))) else (some (x1, false)))) else (some (x1, false)))) else (some (x1, false))))) else (some (x1, false))) else (some (x1, false))))
def k_spec_CasWork : Con := ⟨120, [.v (.s .net) false, .v (.s .kase) false, .v .I false, .v .I false, .v .I false], [((.s .kase), true), (.B, true)], [], fun x => m_spec_CasWork x.1 x.2.1 x.2.2.1 x.2.2.2.1 x.2.2.2.2.1⟩
def f_spec_CasWork : Fs := ⟨[k_spec_l6Copy, k_spec_CasOk, k_spec_l1In, k_spec_DatSet, k_spec_FirGive], []⟩
theorem g_spec_CasWork : f_spec_CasWork.Ok Tryz.prog := (fsK o_spec_l6Copy (fsK o_spec_CasOk (fsK o_spec_l1In (fsK o_spec_DatSet (fsK o_spec_FirGive fs0)))))
theorem o_spec_CasWork : k_spec_CasWork.Ok Tryz.prog := fn_ok (k := k_spec_CasWork) (fn := Tryz.f120) (W := []) (H := []) Tryz.func120 g_spec_CasWork trivial rfl rfl (fun av x => by kernel_rfl)

def m_impl_CasCase_clone (c : GCase) : Option GCase := (m_impl_cloneInts c.marks).bind fun x1 => (gd (([] : List GItem).length + c.busy.length ≤ SMALL) ((m_impl_cloneInts c.data).bind fun x3 => (gd (([] : List GDid).length + c.did.length ≤ SMALL) (some (GCase.mk c.state x1 (([] : List GItem) ++ c.busy) x3 (([] : List GDid) ++ c.did))))))
def k_impl_CasCase_clone : Con := ⟨105, [.v (.s .kase) false], [((.s .kase), true)], [], fun x => m_impl_CasCase_clone x.1⟩
def f_impl_CasCase_clone : Fs := ⟨[k_impl_cloneInts], []⟩
theorem g_impl_CasCase_clone : f_impl_CasCase_clone.Ok Tryz.prog := (fsK o_impl_cloneInts fs0)
theorem o_impl_CasCase_clone : k_impl_CasCase_clone.Ok Tryz.prog := fn_ok (k := k_impl_CasCase_clone) (fn := Tryz.f105) (W := []) (H := []) Tryz.func105 g_impl_CasCase_clone trivial rfl rfl (fun av x => by kernel_rfl)

def m_spec_DrvNext_k1 (c : GCase) : Option (GCase × Bool) := (m_spec_l6Copy c).bind fun x17 => (some (x17, false))
def m_spec_DrvNext_l0 (n : GNet) (people : List Int) (c : GCase) (x8 : (List Int)) (kx0_0 : Option (GCase × Bool)) : Nat → Int → Option (GCase × Bool)
  | 0, _ => none
  | n0 + 1, s0_0 => if decide (s0_0 < (x8.length : Int)) = true then ((getI x8 s0_0).bind fun x10 => ((m_spec_PplMay n people c.did c.busy x10).bind fun x11 => (if decide (0 < (x11.length : Int)) = true then ((getI x8 s0_0).bind fun x13 => ((getI x11 0).bind fun x14 => ((m_spec_CasStart n people c x13 x14).bind fun x15 => (some (x15.1, x15.2))))) else (gd (ok64 (s0_0 + 1)) ((m_spec_DrvNext_l0 n people c x8 kx0_0 n0) (s0_0 + 1)))))) else (kx0_0)
def m_spec_DrvNext (n : GNet) (people : List Int) (c : GCase) : Option (GCase × Bool) := (m_spec_CasOk n c).bind fun x1 => (if x1 = true then ((m_spec_PplOk people).bind fun x3 => (if x3 = true then (if decide (c.state = 1) = true then (if decide (0 < (c.busy.length : Int)) = true then ((m_spec_CasWork n c 0 (-1) 0).bind fun x7 => (some (x7.1, x7.2))) else ((m_spec_EnaTasks n c.marks c.busy).bind fun x8 => (m_spec_DrvNext_l0 n people c x8 (m_spec_DrvNext_k1 c) FUEL 0))) else ((m_spec_l6Copy c).bind fun x18 => (some (x18, false)))) else ((m_spec_l6Copy c).bind fun x19 => (some (x19, false))))) else ((m_spec_l6Copy c).bind fun x20 => (some (x20, false))))
def k_spec_DrvNext : Con := ⟨53, [.v (.s .net) false, .v (.sl .I) false, .v (.s .kase) false], [((.s .kase), true), (.B, true)], [], fun x => m_spec_DrvNext x.1 x.2.1 x.2.2.1⟩
def f_spec_DrvNext : Fs := ⟨[k_spec_CasOk, k_spec_PplOk, k_spec_CasWork, k_spec_EnaTasks, k_spec_PplMay, k_spec_CasStart, k_spec_l6Copy], []⟩
theorem g_spec_DrvNext : f_spec_DrvNext.Ok Tryz.prog := (fsK o_spec_CasOk (fsK o_spec_PplOk (fsK o_spec_CasWork (fsK o_spec_EnaTasks (fsK o_spec_PplMay (fsK o_spec_CasStart (fsK o_spec_l6Copy fs0)))))))
def t_spec_DrvNext_0 : Tmpl := ⟨[(1, .c (.s .I)), (3, .c (.bx 3 0)), (5, .c (.bx 5 0)), (6, .c (.bx 6 0)), (8, .c (.ref 41)), (9, .c .i)], [(3, .boxT (.s .net)), (5, .boxT (.s .kase)), (6, .box [.i, .nl, .nl, .nl, .nl]), (41, .arr .I true)]⟩
def x0_spec_DrvNext_0 : Tmpl := ⟨[(5, .c (.bx 5 0)), (6, .c (.bx 6 0))], [(5, .boxT (.s .kase)), (6, .box [.i, .nl, .nl, .nl, .nl])]⟩
def L_spec_DrvNext_0 (av : AV) (x : HP k_spec_DrvNext.ps) (n : Nat) (v : t_spec_DrvNext_0.den) (K : Ks (CR k_spec_DrvNext)) : Option (CR k_spec_DrvNext) := m_spec_DrvNext_l0 v.2.1 v.1.1 v.2.2.1 v.2.2.2.2.1 (x0_spec_DrvNext_0.at none (((), (), ()), (v.2.2.1, (v.2.2.2.1.1, (), (), (), (), ()), ())) (K (.exit 0))) n v.1.2.2.2.2.2.1
def h_spec_DrvNext_0 (av : AV) (x : HP k_spec_DrvNext.ps) : Hdl (CR k_spec_DrvNext) := hnd [] t_spec_DrvNext_0 (L_spec_DrvNext_0 av x)
theorem l_spec_DrvNext_0 : LP k_spec_DrvNext Tryz.f53 [0] h_spec_DrvNext_0 := lp_ok (W := []) (H := []) (xs := [x0_spec_DrvNext_0]) g_spec_DrvNext trivial rfl (fun av x v K => by kernel_rfl) (fun av x n v K => by kernel_rfl)
theorem o_spec_DrvNext : k_spec_DrvNext.Ok Tryz.prog := fn_ok (k := k_spec_DrvNext) (fn := Tryz.f53) (W := []) (H := [h_spec_DrvNext_0]) Tryz.func53 g_spec_DrvNext ⟨l_spec_DrvNext_0, trivial⟩ rfl rfl (fun av x => by kernel_rfl)

def m_IndexFunc_I_k1  : Option Int := some (-1)
def m_IndexFunc_I_l0 (s : List Int) (p : Int → Option Bool) (p0_0 : Int) (kx0_0 : Option Int) : Nat → Int → Option Int
  | 0, _ => none
  | n0 + 1, s0_0 => if decide (s0_0 < p0_0) = true then ((getI s s0_0).bind fun x2 => ((p x2).bind fun x3 => (if x3 = true then (some s0_0) else (gd (ok64 (s0_0 + 1)) ((m_IndexFunc_I_l0 s p p0_0 kx0_0 n0) (s0_0 + 1)))))) else (kx0_0)
def m_IndexFunc_I (s : List Int) (p : Int → Option Bool) : Option Int := m_IndexFunc_I_l0 s p (s.length : Int) m_IndexFunc_I_k1 FUEL 0
def k_IndexFunc_I : Con := ⟨211, [.v (.sl .I) false, .fn .I], [(.I, true)], [], fun x => m_IndexFunc_I x.1 x.2.1⟩
def f_IndexFunc_I : Fs := ⟨[], []⟩
theorem g_IndexFunc_I : f_IndexFunc_I.Ok Tryz.prog := fs0
def t_IndexFunc_I_0 : Tmpl := ⟨[(0, .c (.s .I)), (1, .c .fp), (7, .c .i), (8, .c .i)], []⟩
def x0_IndexFunc_I_0 : Tmpl := ⟨[], []⟩
def L_IndexFunc_I_0 (av : AV) (x : HP k_IndexFunc_I.ps) (n : Nat) (v : t_IndexFunc_I_0.den) (K : Ks (CR k_IndexFunc_I)) : Option (CR k_IndexFunc_I) := m_IndexFunc_I_l0 v.1.1 x.2.1 v.1.2.2.1 (x0_IndexFunc_I_0.at (fpOf k_IndexFunc_I.ps x av) ((), ()) (K (.exit 0))) n v.1.2.2.2.1
def h_IndexFunc_I_0 (av : AV) (x : HP k_IndexFunc_I.ps) : Hdl (CR k_IndexFunc_I) := hnd [] t_IndexFunc_I_0 (L_IndexFunc_I_0 av x)
theorem l_IndexFunc_I_0 : LP k_IndexFunc_I Tryz.f211 [0] h_IndexFunc_I_0 := lp_ok (W := []) (H := []) (xs := [x0_IndexFunc_I_0]) g_IndexFunc_I trivial rfl (fun av x v K => by kernel_rfl) (fun av x n v K => by kernel_rfl)
theorem o_IndexFunc_I : k_IndexFunc_I.Ok Tryz.prog := fn_ok (k := k_IndexFunc_I) (fn := Tryz.f211) (W := []) (H := [h_IndexFunc_I_0]) Tryz.func211 g_IndexFunc_I ⟨l_IndexFunc_I_0, trivial⟩ rfl rfl (fun av x => by kernel_rfl)

def m_ContainsFunc_I (s : List Int) (p : Int → Option Bool) : Option Bool := (m_IndexFunc_I s p).bind fun x1 => (some (decide (0 ≤ x1)))
def k_ContainsFunc_I : Con := ⟨164, [.v (.sl .I) false, .fn .I], [(.B, true)], [], fun x => m_ContainsFunc_I x.1 x.2.1⟩
def f_ContainsFunc_I : Fs := ⟨[k_IndexFunc_I], []⟩
theorem g_ContainsFunc_I : f_ContainsFunc_I.Ok Tryz.prog := (fsK o_IndexFunc_I fs0)
theorem o_ContainsFunc_I : k_ContainsFunc_I.Ok Tryz.prog := fn_ok (k := k_ContainsFunc_I) (fn := Tryz.f164) (W := []) (H := []) Tryz.func164 g_ContainsFunc_I trivial rfl rfl (fun av x => by kernel_rfl)

def m_IndexFunc_GTask_k1  : Option Int := some (-1)
def m_IndexFunc_GTask_l0 (s : List GTask) (p : GTask → Option Bool) (p0_0 : Int) (kx0_0 : Option Int) : Nat → Int → Option Int
  | 0, _ => none
  | n0 + 1, s0_0 => if decide (s0_0 < p0_0) = true then ((getI s s0_0).bind fun x2 => ((p x2).bind fun x3 => (if x3 = true then (some s0_0) else (gd (ok64 (s0_0 + 1)) ((m_IndexFunc_GTask_l0 s p p0_0 kx0_0 n0) (s0_0 + 1)))))) else (kx0_0)
def m_IndexFunc_GTask (s : List GTask) (p : GTask → Option Bool) : Option Int := m_IndexFunc_GTask_l0 s p (s.length : Int) m_IndexFunc_GTask_k1 FUEL 0
def k_IndexFunc_GTask : Con := ⟨206, [.v (.sl (.s .task)) false, .fn (.s .task)], [(.I, true)], [], fun x => m_IndexFunc_GTask x.1 x.2.1⟩
def f_IndexFunc_GTask : Fs := ⟨[], []⟩
theorem g_IndexFunc_GTask : f_IndexFunc_GTask.Ok Tryz.prog := fs0
def t_IndexFunc_GTask_0 : Tmpl := ⟨[(0, .c (.s (.s .task))), (1, .c .fp), (7, .c .i), (8, .c .i)], []⟩
def x0_IndexFunc_GTask_0 : Tmpl := ⟨[], []⟩
def L_IndexFunc_GTask_0 (av : AV) (x : HP k_IndexFunc_GTask.ps) (n : Nat) (v : t_IndexFunc_GTask_0.den) (K : Ks (CR k_IndexFunc_GTask)) : Option (CR k_IndexFunc_GTask) := m_IndexFunc_GTask_l0 v.1.1 x.2.1 v.1.2.2.1 (x0_IndexFunc_GTask_0.at (fpOf k_IndexFunc_GTask.ps x av) ((), ()) (K (.exit 0))) n v.1.2.2.2.1
def h_IndexFunc_GTask_0 (av : AV) (x : HP k_IndexFunc_GTask.ps) : Hdl (CR k_IndexFunc_GTask) := hnd [] t_IndexFunc_GTask_0 (L_IndexFunc_GTask_0 av x)
theorem l_IndexFunc_GTask_0 : LP k_IndexFunc_GTask Tryz.f206 [0] h_IndexFunc_GTask_0 := lp_ok (W := []) (H := []) (xs := [x0_IndexFunc_GTask_0]) g_IndexFunc_GTask trivial rfl (fun av x v K => by kernel_rfl) (fun av x n v K => by kernel_rfl)
theorem o_IndexFunc_GTask : k_IndexFunc_GTask.Ok Tryz.prog := fn_ok (k := k_IndexFunc_GTask) (fn := Tryz.f206) (W := []) (H := [h_IndexFunc_GTask_0]) Tryz.func206 g_IndexFunc_GTask ⟨l_IndexFunc_GTask_0, trivial⟩ rfl rfl (fun av x => by kernel_rfl)

def m_ContainsFunc_GTask (s : List GTask) (p : GTask → Option Bool) : Option Bool := (m_IndexFunc_GTask s p).bind fun x1 => (some (decide (0 ≤ x1)))
def k_ContainsFunc_GTask : Con := ⟨161, [.v (.sl (.s .task)) false, .fn (.s .task)], [(.B, true)], [], fun x => m_ContainsFunc_GTask x.1 x.2.1⟩
def f_ContainsFunc_GTask : Fs := ⟨[k_IndexFunc_GTask], []⟩
theorem g_ContainsFunc_GTask : f_ContainsFunc_GTask.Ok Tryz.prog := (fsK o_IndexFunc_GTask fs0)
theorem o_ContainsFunc_GTask : k_ContainsFunc_GTask.Ok Tryz.prog := fn_ok (k := k_ContainsFunc_GTask) (fn := Tryz.f161) (W := []) (H := []) Tryz.func161 g_ContainsFunc_GTask trivial rfl rfl (fun av x => by kernel_rfl)

def m_IndexFunc_GItem_k1  : Option Int := some (-1)
def m_IndexFunc_GItem_l0 (s : List GItem) (p : GItem → Option Bool) (p0_0 : Int) (kx0_0 : Option Int) : Nat → Int → Option Int
  | 0, _ => none
  | n0 + 1, s0_0 => if decide (s0_0 < p0_0) = true then ((getI s s0_0).bind fun x2 => ((p x2).bind fun x3 => (if x3 = true then (some s0_0) else (gd (ok64 (s0_0 + 1)) ((m_IndexFunc_GItem_l0 s p p0_0 kx0_0 n0) (s0_0 + 1)))))) else (kx0_0)
def m_IndexFunc_GItem (s : List GItem) (p : GItem → Option Bool) : Option Int := m_IndexFunc_GItem_l0 s p (s.length : Int) m_IndexFunc_GItem_k1 FUEL 0
def k_IndexFunc_GItem : Con := ⟨218, [.v (.sl (.s .item)) false, .fn (.s .item)], [(.I, true)], [], fun x => m_IndexFunc_GItem x.1 x.2.1⟩
def f_IndexFunc_GItem : Fs := ⟨[], []⟩
theorem g_IndexFunc_GItem : f_IndexFunc_GItem.Ok Tryz.prog := fs0
def t_IndexFunc_GItem_0 : Tmpl := ⟨[(0, .c (.s (.s .item))), (1, .c .fp), (7, .c .i), (8, .c .i)], []⟩
def x0_IndexFunc_GItem_0 : Tmpl := ⟨[], []⟩
def L_IndexFunc_GItem_0 (av : AV) (x : HP k_IndexFunc_GItem.ps) (n : Nat) (v : t_IndexFunc_GItem_0.den) (K : Ks (CR k_IndexFunc_GItem)) : Option (CR k_IndexFunc_GItem) := m_IndexFunc_GItem_l0 v.1.1 x.2.1 v.1.2.2.1 (x0_IndexFunc_GItem_0.at (fpOf k_IndexFunc_GItem.ps x av) ((), ()) (K (.exit 0))) n v.1.2.2.2.1
def h_IndexFunc_GItem_0 (av : AV) (x : HP k_IndexFunc_GItem.ps) : Hdl (CR k_IndexFunc_GItem) := hnd [] t_IndexFunc_GItem_0 (L_IndexFunc_GItem_0 av x)
theorem l_IndexFunc_GItem_0 : LP k_IndexFunc_GItem Tryz.f218 [0] h_IndexFunc_GItem_0 := lp_ok (W := []) (H := []) (xs := [x0_IndexFunc_GItem_0]) g_IndexFunc_GItem trivial rfl (fun av x v K => by kernel_rfl) (fun av x n v K => by kernel_rfl)
theorem o_IndexFunc_GItem : k_IndexFunc_GItem.Ok Tryz.prog := fn_ok (k := k_IndexFunc_GItem) (fn := Tryz.f218) (W := []) (H := [h_IndexFunc_GItem_0]) Tryz.func218 g_IndexFunc_GItem ⟨l_IndexFunc_GItem_0, trivial⟩ rfl rfl (fun av x => by kernel_rfl)

def m_ContainsFunc_GItem (s : List GItem) (p : GItem → Option Bool) : Option Bool := (m_IndexFunc_GItem s p).bind fun x1 => (some (decide (0 ≤ x1)))
def k_ContainsFunc_GItem : Con := ⟨182, [.v (.sl (.s .item)) false, .fn (.s .item)], [(.B, true)], [], fun x => m_ContainsFunc_GItem x.1 x.2.1⟩
def f_ContainsFunc_GItem : Fs := ⟨[k_IndexFunc_GItem], []⟩
theorem g_ContainsFunc_GItem : f_ContainsFunc_GItem.Ok Tryz.prog := (fsK o_IndexFunc_GItem fs0)
theorem o_ContainsFunc_GItem : k_ContainsFunc_GItem.Ok Tryz.prog := fn_ok (k := k_ContainsFunc_GItem) (fn := Tryz.f182) (W := []) (H := []) Tryz.func182 g_ContainsFunc_GItem trivial rfl rfl (fun av x => by kernel_rfl)

def m_Index_I_k1  : Option Int := some (-1)
def m_Index_I_l0 (s : List Int) (v : Int) (p0_0 : Int) (kx0_0 : Option Int) : Nat → Int → Option Int
  | 0, _ => none
  | n0 + 1, s0_0 => if decide (s0_0 < p0_0) = true then ((getI s s0_0).bind fun x2 => (if decide (v = x2) = true then (some s0_0) else (gd (ok64 (s0_0 + 1)) ((m_Index_I_l0 s v p0_0 kx0_0 n0) (s0_0 + 1))))) else (kx0_0)
def m_Index_I (s : List Int) (v : Int) : Option Int := m_Index_I_l0 s v (s.length : Int) m_Index_I_k1 FUEL 0
def k_Index_I : Con := ⟨179, [.v (.sl .I) false, .v .I false], [(.I, true)], [], fun x => m_Index_I x.1 x.2.1⟩
def f_Index_I : Fs := ⟨[], []⟩
theorem g_Index_I : f_Index_I.Ok Tryz.prog := fs0
def t_Index_I_0 : Tmpl := ⟨[(0, .c (.s .I)), (1, .c .i), (7, .c .i), (8, .c .i)], []⟩
def x0_Index_I_0 : Tmpl := ⟨[], []⟩
def L_Index_I_0 (av : AV) (x : HP k_Index_I.ps) (n : Nat) (v : t_Index_I_0.den) (K : Ks (CR k_Index_I)) : Option (CR k_Index_I) := m_Index_I_l0 v.1.1 v.1.2.1 v.1.2.2.1 (x0_Index_I_0.at none ((), ()) (K (.exit 0))) n v.1.2.2.2.1
def h_Index_I_0 (av : AV) (x : HP k_Index_I.ps) : Hdl (CR k_Index_I) := hnd [] t_Index_I_0 (L_Index_I_0 av x)
theorem l_Index_I_0 : LP k_Index_I Tryz.f179 [0] h_Index_I_0 := lp_ok (W := []) (H := []) (xs := [x0_Index_I_0]) g_Index_I trivial rfl (fun av x v K => by kernel_rfl) (fun av x n v K => by kernel_rfl)
theorem o_Index_I : k_Index_I.Ok Tryz.prog := fn_ok (k := k_Index_I) (fn := Tryz.f179) (W := []) (H := [h_Index_I_0]) Tryz.func179 g_Index_I ⟨l_Index_I_0, trivial⟩ rfl rfl (fun av x => by kernel_rfl)

def m_Contains_I (s : List Int) (v : Int) : Option Bool := (m_Index_I s v).bind fun x1 => (some (decide (0 ≤ x1)))
def k_Contains_I : Con := ⟨108, [.v (.sl .I) false, .v .I false], [(.B, true)], [], fun x => m_Contains_I x.1 x.2.1⟩
def f_Contains_I : Fs := ⟨[k_Index_I], []⟩
theorem g_Contains_I : f_Contains_I.Ok Tryz.prog := (fsK o_Index_I fs0)
theorem o_Contains_I : k_Contains_I.Ok Tryz.prog := fn_ok (k := k_Contains_I) (fn := Tryz.f108) (W := []) (H := []) Tryz.func108 g_Contains_I trivial rfl rfl (fun av x => by kernel_rfl)

def m_Index_GDid_k1  : Option Int := some (-1)
def m_Index_GDid_l0 (s : List GDid) (v : GDid) (p0_0 : Int) (kx0_0 : Option Int) : Nat → Int → Option Int
  | 0, _ => none
  | n0 + 1, s0_0 => if decide (s0_0 < p0_0) = true then ((getI s s0_0).bind fun x2 => (if decide ([v.task, v.who] = [x2.task, x2.who]) = true then (some s0_0) else (gd (ok64 (s0_0 + 1)) ((m_Index_GDid_l0 s v p0_0 kx0_0 n0) (s0_0 + 1))))) else (kx0_0)
def m_Index_GDid (s : List GDid) (v : GDid) : Option Int := m_Index_GDid_l0 s v (s.length : Int) m_Index_GDid_k1 FUEL 0
def k_Index_GDid : Con := ⟨232, [.v (.sl (.s .did)) false, .v (.s .did) false], [(.I, true)], [], fun x => m_Index_GDid x.1 x.2.1⟩
def f_Index_GDid : Fs := ⟨[], []⟩
theorem g_Index_GDid : f_Index_GDid.Ok Tryz.prog := fs0
def t_Index_GDid_0 : Tmpl := ⟨[(0, .c (.s (.s .did))), (3, .c (.bx 3 0)), (7, .c .i), (8, .c .i)], [(3, .boxT (.s .did))]⟩
def x0_Index_GDid_0 : Tmpl := ⟨[], []⟩
def L_Index_GDid_0 (av : AV) (x : HP k_Index_GDid.ps) (n : Nat) (v : t_Index_GDid_0.den) (K : Ks (CR k_Index_GDid)) : Option (CR k_Index_GDid) := m_Index_GDid_l0 v.1.1 v.2.1 v.1.2.2.1 (x0_Index_GDid_0.at none ((), ()) (K (.exit 0))) n v.1.2.2.2.1
def h_Index_GDid_0 (av : AV) (x : HP k_Index_GDid.ps) : Hdl (CR k_Index_GDid) := hnd [] t_Index_GDid_0 (L_Index_GDid_0 av x)
theorem l_Index_GDid_0 : LP k_Index_GDid Tryz.f232 [0] h_Index_GDid_0 := lp_ok (W := []) (H := []) (xs := [x0_Index_GDid_0]) g_Index_GDid trivial rfl (fun av x v K => by kernel_rfl) (fun av x n v K => by kernel_rfl)
theorem o_Index_GDid : k_Index_GDid.Ok Tryz.prog := fn_ok (k := k_Index_GDid) (fn := Tryz.f232) (W := []) (H := [h_Index_GDid_0]) Tryz.func232 g_Index_GDid ⟨l_Index_GDid_0, trivial⟩ rfl rfl (fun av x => by kernel_rfl)

def m_Contains_GDid (s : List GDid) (v : GDid) : Option Bool := (m_Index_GDid s v).bind fun x1 => (some (decide (0 ≤ x1)))
def k_Contains_GDid : Con := ⟨219, [.v (.sl (.s .did)) false, .v (.s .did) false], [(.B, true)], [], fun x => m_Contains_GDid x.1 x.2.1⟩
def f_Contains_GDid : Fs := ⟨[k_Index_GDid], []⟩
theorem g_Contains_GDid : f_Contains_GDid.Ok Tryz.prog := (fsK o_Index_GDid fs0)
theorem o_Contains_GDid : k_Contains_GDid.Ok Tryz.prog := fn_ok (k := k_Contains_GDid) (fn := Tryz.f219) (W := []) (H := []) Tryz.func219 g_Contains_GDid trivial rfl rfl (fun av x => by kernel_rfl)

def m_impl_DatOk_1 (n : Int) : Option Bool := (m_impl_isDatum n).bind fun x1 => (some (!x1))
def q_impl_DatOk_1 : FCon := ⟨198, .I, [], fun z c => m_impl_DatOk_1 z ⟩
def f_impl_DatOk_1 : Fs := ⟨[k_impl_isDatum], []⟩
theorem g_impl_DatOk_1 : f_impl_DatOk_1.Ok Tryz.prog := (fsK o_impl_isDatum fs0)
theorem o_impl_DatOk_1 : q_impl_DatOk_1.Ok Tryz.prog := FCon.ok (fn_ok (k := q_impl_DatOk_1.con) (fn := Tryz.f198) (W := []) (H := []) Tryz.func198 g_impl_DatOk_1 trivial rfl rfl (fun av x => by kernel_rfl))

def m_impl_DatOk (data : List Int) : Option Bool := if decide ((data.length : Int) = 3) = true then ((m_ContainsFunc_I data (fun z => m_impl_DatOk_1 z )).bind fun x2 => (some (!x2))) else (some false)
def k_impl_DatOk : Con := ⟨140, [.v (.sl .I) false], [(.B, true)], [], fun x => m_impl_DatOk x.1⟩
def f_impl_DatOk : Fs := ⟨[k_ContainsFunc_I], [q_impl_DatOk_1]⟩
theorem g_impl_DatOk : f_impl_DatOk.Ok Tryz.prog := (fsK o_ContainsFunc_I (fsF o_impl_DatOk_1 fs0))
theorem o_impl_DatOk : k_impl_DatOk.Ok Tryz.prog := fn_ok (k := k_impl_DatOk) (fn := Tryz.f140) (W := []) (H := []) Tryz.func140 g_impl_DatOk trivial rfl rfl (fun av x => by kernel_rfl)

def m_impl_ExpHolds (e : GAsk) (data : List Int) : Option Bool := (m_impl_ExpOk e).bind fun x1 => (if x1 = true then ((m_impl_DatOk data).bind fun x3 => (if x3 = true then (if decide (e.op = 1) = true then ((getI data e.var).bind fun x6 => (some (decide (x6 < e.k)))) else (if decide (e.op = 2) = true then ((getI data e.var).bind fun x8 => (some (decide (x8 = e.k)))) else (if decide (e.op = 3) = true then ((getI data e.var).bind fun x10 => (some (decide (e.k < x10)))) else (some true)))) else (some false))) else (some false))
def k_impl_ExpHolds : Con := ⟨166, [.v (.s .ask) false, .v (.sl .I) false], [(.B, true)], [], fun x => m_impl_ExpHolds x.1 x.2.1⟩
def f_impl_ExpHolds : Fs := ⟨[k_impl_ExpOk, k_impl_DatOk], []⟩
theorem g_impl_ExpHolds : f_impl_ExpHolds.Ok Tryz.prog := (fsK o_impl_ExpOk (fsK o_impl_DatOk fs0))
theorem o_impl_ExpHolds : k_impl_ExpHolds.Ok Tryz.prog := fn_ok (k := k_impl_ExpHolds) (fn := Tryz.f166) (W := []) (H := []) Tryz.func166 g_impl_ExpHolds trivial rfl rfl (fun av x => by kernel_rfl)

def m_impl_ascends_k1  : Option Bool := some true
def m_impl_ascends_l0 (list : List Int) (places : Int) (without : List Int) (p0_0 : Int) (kx0_0 : Option Bool) : Nat → Int → Int → Option Bool
  | 0, _, _ => none
  | n0 + 1, s0_0, s0_1 => if decide (s0_0 < p0_0) = true then ((getI list s0_0).bind fun x2 => (gd (ok64 (s0_1 + 1)) (gd (ok64 (places - 1)) ((m_impl_in x2 (s0_1 + 1) (places - 1)).bind fun x5 => (if x5 = true then ((m_Contains_I without x2).bind fun x7 => (if x7 = true then (some false) else (gd (ok64 (s0_0 + 1)) ((m_impl_ascends_l0 list places without p0_0 kx0_0 n0) (s0_0 + 1) x2)))) else (some false)))))) else (kx0_0)
def m_impl_ascends (list : List Int) (places : Int) (without : List Int) : Option Bool := m_impl_ascends_l0 list places without (list.length : Int) m_impl_ascends_k1 FUEL 0 (-1)
def k_impl_ascends : Con := ⟨208, [.v (.sl .I) false, .v .I false, .v (.sl .I) false], [(.B, true)], [], fun x => m_impl_ascends x.1 x.2.1 x.2.2.1⟩
def f_impl_ascends : Fs := ⟨[k_impl_in, k_Contains_I], []⟩
theorem g_impl_ascends : f_impl_ascends.Ok Tryz.prog := (fsK o_impl_in (fsK o_Contains_I fs0))
def t_impl_ascends_0 : Tmpl := ⟨[(1, .c .i), (2, .c (.s .I)), (7, .c .i), (10, .c (.s .I)), (11, .c .i), (12, .c .i)], []⟩
def x0_impl_ascends_0 : Tmpl := ⟨[], []⟩
def L_impl_ascends_0 (av : AV) (x : HP k_impl_ascends.ps) (n : Nat) (v : t_impl_ascends_0.den) (K : Ks (CR k_impl_ascends)) : Option (CR k_impl_ascends) := m_impl_ascends_l0 v.1.2.2.2.1 v.1.1 v.1.2.1 v.1.2.2.2.2.1 (x0_impl_ascends_0.at none ((), ()) (K (.exit 0))) n v.1.2.2.2.2.2.1 v.1.2.2.1
def h_impl_ascends_0 (av : AV) (x : HP k_impl_ascends.ps) : Hdl (CR k_impl_ascends) := hnd [] t_impl_ascends_0 (L_impl_ascends_0 av x)
theorem l_impl_ascends_0 : LP k_impl_ascends Tryz.f208 [0] h_impl_ascends_0 := lp_ok (W := []) (H := []) (xs := [x0_impl_ascends_0]) g_impl_ascends trivial rfl (fun av x v K => by kernel_rfl) (fun av x n v K => by kernel_rfl)
theorem o_impl_ascends : k_impl_ascends.Ok Tryz.prog := fn_ok (k := k_impl_ascends) (fn := Tryz.f208) (W := []) (H := [h_impl_ascends_0]) Tryz.func208 g_impl_ascends ⟨l_impl_ascends_0, trivial⟩ rfl rfl (fun av x => by kernel_rfl)

def m_impl_NetTask_outOk_k1 (t : GTask) : Option Bool := (m_impl_in (t.out.length : Int) 1 3).bind fun x21 => (some x21)
def m_impl_NetTask_outOk_l0 (t : GTask) (places : Int) (p0_0 : List GFlow) (p0_1 : Int) (kx0_0 : Option Bool) : Nat → Int → List Int → Option Bool
  | 0, _, _ => none
  | n0 + 1, s0_0, m0_1 => if decide (s0_0 < p0_1) = true then ((getI p0_0 s0_0).bind fun x2 => (if decide (t.split = 1) = true then (gd (ok64 (places - 1)) ((m_impl_in x2.to 0 (places - 1)).bind fun x5 => (if x5 = true then (if decide (x2.to ∈ m0_1) = true then (some false) else ((m_impl_ExpOk x2.if_).bind fun x8 => (if x8 = true then (if ((decide (x2.if_.op = 0)) == true) = true then (gd (ok64 (s0_0 + 1)) ((m_impl_NetTask_outOk_l0 t places p0_0 p0_1 kx0_0 n0) (s0_0 + 1) (insKey m0_1 x2.to))) else (some false)) else (some false)))) else (some false)))) else (gd (ok64 ((t.out.length : Int) - 1)) (gd (ok64 (places - 1)) ((m_impl_in x2.to 0 (places - 1)).bind fun x14 => (if x14 = true then (if decide (x2.to ∈ m0_1) = true then (some false) else ((m_impl_ExpOk x2.if_).bind fun x17 => (if x17 = true then (if ((decide (x2.if_.op = 0)) == (decide (s0_0 = ((t.out.length : Int) - 1)))) = true then (gd (ok64 (s0_0 + 1)) ((m_impl_NetTask_outOk_l0 t places p0_0 p0_1 kx0_0 n0) (s0_0 + 1) (insKey m0_1 x2.to))) else (some false)) else (some false)))) else (some false))))))) else (kx0_0)
def m_impl_NetTask_outOk (t : GTask) (places : Int) : Option Bool := m_impl_NetTask_outOk_l0 t places t.out (t.out.length : Int) (m_impl_NetTask_outOk_k1 t) FUEL 0 (insKey ([] : List Int) 0)
def k_impl_NetTask_outOk : Con := ⟨209, [.v (.s .task) false, .v .I false], [(.B, true)], [], fun x => m_impl_NetTask_outOk x.1 x.2.1⟩
def f_impl_NetTask_outOk : Fs := ⟨[k_impl_in, k_impl_ExpOk], []⟩
theorem g_impl_NetTask_outOk : f_impl_NetTask_outOk.Ok Tryz.prog := (fsK o_impl_in (fsK o_impl_ExpOk fs0))
def t_impl_NetTask_outOk_0 : Tmpl := ⟨[(1, .c .i), (2, .c (.bx 2 0)), (5, .c (.bx 9 0)), (12, .c (.s (.s .flow))), (13, .c .i), (14, .c .i)], [(2, .boxT (.s .task)), (9, .mp)]⟩
def x0_impl_NetTask_outOk_0 : Tmpl := ⟨[(2, .c (.bx 2 0))], [(2, .boxT (.s .task))]⟩
def L_impl_NetTask_outOk_0 (av : AV) (x : HP k_impl_NetTask_outOk.ps) (n : Nat) (v : t_impl_NetTask_outOk_0.den) (K : Ks (CR k_impl_NetTask_outOk)) : Option (CR k_impl_NetTask_outOk) := m_impl_NetTask_outOk_l0 v.2.1 v.1.1 v.1.2.2.2.1 v.1.2.2.2.2.1 (x0_impl_NetTask_outOk_0.at none (((), ()), (v.2.1, ())) (K (.exit 0))) n v.1.2.2.2.2.2.1 v.2.2.1
def h_impl_NetTask_outOk_0 (av : AV) (x : HP k_impl_NetTask_outOk.ps) : Hdl (CR k_impl_NetTask_outOk) := hnd [] t_impl_NetTask_outOk_0 (L_impl_NetTask_outOk_0 av x)
theorem l_impl_NetTask_outOk_0 : LP k_impl_NetTask_outOk Tryz.f209 [0] h_impl_NetTask_outOk_0 := lp_ok (W := []) (H := []) (xs := [x0_impl_NetTask_outOk_0]) g_impl_NetTask_outOk trivial rfl (fun av x v K => by kernel_rfl) (fun av x n v K => by kernel_rfl)
theorem o_impl_NetTask_outOk : k_impl_NetTask_outOk.Ok Tryz.prog := fn_ok (k := k_impl_NetTask_outOk) (fn := Tryz.f209) (W := []) (H := [h_impl_NetTask_outOk_0]) Tryz.func209 g_impl_NetTask_outOk ⟨l_impl_NetTask_outOk_0, trivial⟩ rfl rfl (fun av x => by kernel_rfl)

def m_impl_NetTask_ok (t : GTask) (places : Int) (tasks : Int) : Option Bool := (m_impl_isKind t.join).bind fun x1 => (if x1 = true then ((m_impl_isKind t.split).bind fun x3 => (if x3 = true then ((m_impl_in (t.in_.length : Int) 1 3).bind fun x5 => (if x5 = true then ((m_impl_ascends t.in_ places [1]).bind fun x7 => (if x7 = true then ((m_impl_NetTask_outOk t places).bind fun x9 => (if x9 = true then ((m_impl_ascends t.clear places [0, 1]).bind fun x11 => (if x11 = true then ((m_impl_isRole t.role).bind fun x13 => (if x13 = true then (gd (ok64 (tasks - 1)) ((m_impl_in t.apart (-1) (tasks - 1)).bind fun x16 => (if x16 = true then ((m_impl_in t.all 1 3).bind fun x18 => (if x18 = true then ((m_impl_in t.need 1 t.all).bind fun x20 => (some x20)) else (some false))) else (some false)))) else (some false))) else (some false))) else (some false))) else (some false))) else (some false))) else (some false))) else (some false))
def k_impl_NetTask_ok : Con := ⟨163, [.v (.s .task) false, .v .I false, .v .I false], [(.B, true)], [], fun x => m_impl_NetTask_ok x.1 x.2.1 x.2.2.1⟩
def f_impl_NetTask_ok : Fs := ⟨[k_impl_isKind, k_impl_in, k_impl_ascends, k_impl_NetTask_outOk, k_impl_isRole], []⟩
theorem g_impl_NetTask_ok : f_impl_NetTask_ok.Ok Tryz.prog := (fsK o_impl_isKind (fsK o_impl_in (fsK o_impl_ascends (fsK o_impl_NetTask_outOk (fsK o_impl_isRole fs0)))))
theorem o_impl_NetTask_ok : k_impl_NetTask_ok.Ok Tryz.prog := fn_ok (k := k_impl_NetTask_ok) (fn := Tryz.f163) (W := []) (H := []) Tryz.func163 g_impl_NetTask_ok trivial rfl rfl (fun av x => by kernel_rfl)

def m_impl_NetOk_1 (t : GTask) (n : GNet) : Option Bool := (m_impl_NetTask_ok t n.places (n.tasks.length : Int)).bind fun x1 => (some (!x1))
def q_impl_NetOk_1 : FCon := ⟨162, (.s .task), [(.s .net)], fun z c => m_impl_NetOk_1 z c.1⟩
def f_impl_NetOk_1 : Fs := ⟨[k_impl_NetTask_ok], []⟩
theorem g_impl_NetOk_1 : f_impl_NetOk_1.Ok Tryz.prog := (fsK o_impl_NetTask_ok fs0)
theorem o_impl_NetOk_1 : q_impl_NetOk_1.Ok Tryz.prog := FCon.ok (fn_ok (k := q_impl_NetOk_1.con) (fn := Tryz.f162) (W := []) (H := []) Tryz.func162 g_impl_NetOk_1 trivial rfl rfl (fun av x => by kernel_rfl))

def m_impl_NetOk (n : GNet) : Option Bool := (m_impl_sizesOk n.places (n.tasks.length : Int)).bind fun x1 => (if x1 = true then ((m_ContainsFunc_GTask n.tasks (fun z => m_impl_NetOk_1 z n)).bind fun x3 => (some (!x3))) else (some false))
def k_impl_NetOk : Con := ⟨90, [.v (.s .net) false], [(.B, true)], [], fun x => m_impl_NetOk x.1⟩
def f_impl_NetOk : Fs := ⟨[k_impl_sizesOk, k_ContainsFunc_GTask], [q_impl_NetOk_1]⟩
theorem g_impl_NetOk : f_impl_NetOk.Ok Tryz.prog := (fsK o_impl_sizesOk (fsK o_ContainsFunc_GTask (fsF o_impl_NetOk_1 fs0)))
theorem o_impl_NetOk : k_impl_NetOk.Ok Tryz.prog := fn_ok (k := k_impl_NetOk) (fn := Tryz.f90) (W := []) (H := []) Tryz.func90 g_impl_NetOk trivial rfl rfl (fun av x => by kernel_rfl)

def m_impl_NetNet_reach_1 (p : Int) (out : List Bool) : Option Bool := (getI out p).bind fun x1 => (some x1)
def q_impl_NetNet_reach_1 : FCon := ⟨234, .I, [(.sl .B)], fun z c => m_impl_NetNet_reach_1 z c.1⟩
def f_impl_NetNet_reach_1 : Fs := ⟨[], []⟩
theorem g_impl_NetNet_reach_1 : f_impl_NetNet_reach_1.Ok Tryz.prog := fs0
theorem o_impl_NetNet_reach_1 : q_impl_NetNet_reach_1.Ok Tryz.prog := FCon.ok (fn_ok (k := q_impl_NetNet_reach_1.con) (fn := Tryz.f234) (W := []) (H := []) Tryz.func234 g_impl_NetNet_reach_1 trivial rfl rfl (fun av x => by kernel_rfl))

def m_impl_NetNet_reach_k1 (s1_0 : List GTask) (s1_1 : Int) (s1_2 : Int) (bk1 : List GTask → Int → Int → Bool → List Bool → Option (List Bool)) (s2_1 : Bool) (l2_2 : List Bool) : Option (List Bool) := gd (ok64 (s1_2 + 1)) (bk1 s1_0 s1_1 (s1_2 + 1) s2_1 l2_2)
def m_impl_NetNet_reach_l2 (p2_0 : List GFlow) (p2_1 : Int) (kx2_0 : Bool → List Bool → Option (List Bool)) : Nat → Int → Bool → List Bool → Option (List Bool)
  | 0, _, _, _ => none
  | n2 + 1, s2_0, s2_1, l2_2 => if decide (s2_0 < p2_1) = true then ((getI p2_0 s2_0).bind fun x11 => (if s2_1 = true then ((getI l2_2 x11.to).bind fun x13 => (gd (ok64 (s2_0 + 1)) ((m_impl_NetNet_reach_l2 p2_0 p2_1 kx2_0 n2) (s2_0 + 1) true (l2_2.set x11.to.toNat true)))) else ((getI l2_2 x11.to).bind fun x15 => ((getI l2_2 x11.to).bind fun x16 => (gd (ok64 (s2_0 + 1)) ((m_impl_NetNet_reach_l2 p2_0 p2_1 kx2_0 n2) (s2_0 + 1) (!x15) (l2_2.set x11.to.toNat true))))))) else (kx2_0 s2_1 l2_2)
def m_impl_NetNet_reach_k2 (bk0 : Bool → List Bool → Option (List Bool)) (s1_3 : Bool) (l1_4 : List Bool) : Option (List Bool) := bk0 s1_3 l1_4
def m_impl_NetNet_reach_l1 (but : Int) (kx1_0 : Bool → List Bool → Option (List Bool)) : Nat → List GTask → Int → Int → Bool → List Bool → Option (List Bool)
  | 0, _, _, _, _, _ => none
  | n1 + 1, s1_0, s1_1, s1_2, s1_3, l1_4 => if decide (s1_2 < s1_1) = true then ((getI s1_0 s1_2).bind fun x5 => (if decide (s1_2 = but) = true then (gd (ok64 (s1_2 + 1)) ((m_impl_NetNet_reach_l1 but kx1_0 n1) s1_0 s1_1 (s1_2 + 1) s1_3 l1_4)) else ((m_ContainsFunc_I x5.in_ (fun z => m_impl_NetNet_reach_1 z l1_4)).bind fun x8 => (if x8 = true then (m_impl_NetNet_reach_l2 x5.out (x5.out.length : Int) (m_impl_NetNet_reach_k1 s1_0 s1_1 s1_2 (m_impl_NetNet_reach_l1 but kx1_0 n1)) FUEL 0 s1_3 l1_4) else (gd (ok64 (s1_2 + 1)) ((m_impl_NetNet_reach_l1 but kx1_0 n1) s1_0 s1_1 (s1_2 + 1) s1_3 l1_4)))))) else (kx1_0 s1_3 l1_4)
def m_impl_NetNet_reach_k3 (l0_1 : List Bool) : Option (List Bool) := some l0_1
def m_impl_NetNet_reach_l0 (n : GNet) (but : Int) (kx0_0 : List Bool → Option (List Bool)) : Nat → Bool → List Bool → Option (List Bool)
  | 0, _, _ => none
  | n0 + 1, s0_0, l0_1 => if s0_0 = true then (m_impl_NetNet_reach_l1 but (m_impl_NetNet_reach_k2 (m_impl_NetNet_reach_l0 n but kx0_0 n0)) FUEL n.tasks (n.tasks.length : Int) 0 false l0_1) else (kx0_0 l0_1)
def m_impl_NetNet_reach (n : GNet) (place : Int) (but : Int) : Option (List Bool) := gd ((0 : Int) ≤ n.places ∧ n.places ≤ (1000000000 : Int)) ((getI (List.replicate n.places.toNat false) place).bind fun x2 => (m_impl_NetNet_reach_l0 n but m_impl_NetNet_reach_k3 FUEL true ((List.replicate n.places.toNat false).set place.toNat true)))
def k_impl_NetNet_reach : Con := ⟨230, [.v (.s .net) false, .v .I false, .v .I false], [((.sl .B), true)], [], fun x => m_impl_NetNet_reach x.1 x.2.1 x.2.2.1⟩
def f_impl_NetNet_reach : Fs := ⟨[k_ContainsFunc_I], [q_impl_NetNet_reach_1]⟩
theorem g_impl_NetNet_reach : f_impl_NetNet_reach.Ok Tryz.prog := (fsK o_ContainsFunc_I (fsF o_impl_NetNet_reach_1 fs0))
def t_impl_NetNet_reach_0_0_0 : Tmpl := ⟨[(2, .c .i), (3, .c (.bx 3 0)), (7, .c (.bx 7 0)), (8, .c .b), (21, .c (.s (.s .task))), (22, .c .i), (23, .c .i), (39, .c (.s (.s .flow))), (40, .c .i), (41, .c .i)], [(3, .boxT (.s .net)), (7, .box [.ref 15]), (15, .arr .B true)]⟩
def x0_impl_NetNet_reach_0_0_0 : Tmpl := ⟨[(2, .c .i), (3, .c (.bx 3 0)), (7, .c (.bx 7 0)), (8, .c .b), (21, .c (.s (.s .task))), (22, .c .i), (23, .c .i)], [(3, .boxT (.s .net)), (7, .box [.ref 15]), (15, .arr .B true)]⟩
def L_impl_NetNet_reach_0_0_0 (av : AV) (x : HP k_impl_NetNet_reach.ps) (n : Nat) (v : t_impl_NetNet_reach_0_0_0.den) (K : Ks (CR k_impl_NetNet_reach)) : Option (CR k_impl_NetNet_reach) := m_impl_NetNet_reach_l2 v.1.2.2.2.2.2.2.2.1 v.1.2.2.2.2.2.2.2.2.1 (fun s2_1 l2_2 => x0_impl_NetNet_reach_0_0_0.at none ((v.1.1, (), (), s2_1, v.1.2.2.2.2.1, v.1.2.2.2.2.2.1, v.1.2.2.2.2.2.2.1, ()), (v.2.1, ((), ()), l2_2, ())) (K (.exit 4))) n v.1.2.2.2.2.2.2.2.2.2.1 v.1.2.2.2.1 v.2.2.2.1
def h_impl_NetNet_reach_0_0_0 (av : AV) (x : HP k_impl_NetNet_reach.ps) : Hdl (CR k_impl_NetNet_reach) := hnd [] t_impl_NetNet_reach_0_0_0 (L_impl_NetNet_reach_0_0_0 av x)
theorem l_impl_NetNet_reach_0_0_0 : LP k_impl_NetNet_reach Tryz.f230 [0, 0, 0] h_impl_NetNet_reach_0_0_0 := lp_ok (W := []) (H := []) (xs := [x0_impl_NetNet_reach_0_0_0]) g_impl_NetNet_reach trivial rfl (fun av x v K => by kernel_rfl) (fun av x n v K => by kernel_rfl)
def t_impl_NetNet_reach_0_0 : Tmpl := ⟨[(2, .c .i), (3, .c (.bx 3 0)), (7, .c (.bx 7 0)), (8, .c .b), (21, .c (.s (.s .task))), (22, .c .i), (23, .c .i)], [(3, .boxT (.s .net)), (7, .box [.ref 15]), (15, .arr .B true)]⟩
def x0_impl_NetNet_reach_0_0 : Tmpl := ⟨[(2, .c .i), (3, .c (.bx 3 0)), (7, .c (.bx 7 0)), (8, .c .b)], [(3, .boxT (.s .net)), (7, .box [.ref 15]), (15, .arr .B true)]⟩
def L_impl_NetNet_reach_0_0 (av : AV) (x : HP k_impl_NetNet_reach.ps) (n : Nat) (v : t_impl_NetNet_reach_0_0.den) (K : Ks (CR k_impl_NetNet_reach)) : Option (CR k_impl_NetNet_reach) := m_impl_NetNet_reach_l1 v.1.1 (fun s1_3 l1_4 => x0_impl_NetNet_reach_0_0.at none ((v.1.1, (), (), s1_3, ()), (v.2.1, ((), ()), l1_4, ())) (K (.exit 2))) n v.1.2.2.2.2.1 v.1.2.2.2.2.2.1 v.1.2.2.2.2.2.2.1 v.1.2.2.2.1 v.2.2.2.1
def h_impl_NetNet_reach_0_0 (av : AV) (x : HP k_impl_NetNet_reach.ps) : Hdl (CR k_impl_NetNet_reach) := hnd [] t_impl_NetNet_reach_0_0 (L_impl_NetNet_reach_0_0 av x)
theorem l_impl_NetNet_reach_0_0 : LP k_impl_NetNet_reach Tryz.f230 [0, 0] h_impl_NetNet_reach_0_0 := lp_ok (W := []) (H := [h_impl_NetNet_reach_0_0_0]) (xs := [x0_impl_NetNet_reach_0_0]) g_impl_NetNet_reach ⟨l_impl_NetNet_reach_0_0_0, trivial⟩ rfl (fun av x v K => by kernel_rfl) (fun av x n v K => by kernel_rfl)
def t_impl_NetNet_reach_0 : Tmpl := ⟨[(2, .c .i), (3, .c (.bx 3 0)), (7, .c (.bx 7 0)), (8, .c .b)], [(3, .boxT (.s .net)), (7, .box [.ref 15]), (15, .arr .B true)]⟩
def x0_impl_NetNet_reach_0 : Tmpl := ⟨[(7, .c (.bx 7 0))], [(7, .box [.ref 15]), (15, .arr .B true)]⟩
def L_impl_NetNet_reach_0 (av : AV) (x : HP k_impl_NetNet_reach.ps) (n : Nat) (v : t_impl_NetNet_reach_0.den) (K : Ks (CR k_impl_NetNet_reach)) : Option (CR k_impl_NetNet_reach) := m_impl_NetNet_reach_l0 v.2.1 v.1.1 (fun l0_1 => x0_impl_NetNet_reach_0.at none (((), ()), (((), ()), l0_1, ())) (K (.exit 0))) n v.1.2.2.2.1 v.2.2.2.1
def h_impl_NetNet_reach_0 (av : AV) (x : HP k_impl_NetNet_reach.ps) : Hdl (CR k_impl_NetNet_reach) := hnd [] t_impl_NetNet_reach_0 (L_impl_NetNet_reach_0 av x)
theorem l_impl_NetNet_reach_0 : LP k_impl_NetNet_reach Tryz.f230 [0] h_impl_NetNet_reach_0 := lp_ok (W := []) (H := [h_impl_NetNet_reach_0_0]) (xs := [x0_impl_NetNet_reach_0]) g_impl_NetNet_reach ⟨l_impl_NetNet_reach_0_0, trivial⟩ rfl (fun av x v K => by kernel_rfl) (fun av x n v K => by kernel_rfl)
theorem o_impl_NetNet_reach : k_impl_NetNet_reach.Ok Tryz.prog := fn_ok (k := k_impl_NetNet_reach) (fn := Tryz.f230) (W := []) (H := [h_impl_NetNet_reach_0]) Tryz.func230 g_impl_NetNet_reach ⟨l_impl_NetNet_reach_0, trivial⟩ rfl rfl (fun av x => by kernel_rfl)

def m_impl_NetNet_marksOk_1 (m : Int) : Option Bool := (m_impl_in m 0 4).bind fun x1 => (some (!x1))
def q_impl_NetNet_marksOk_1 : FCon := ⟨227, .I, [], fun z c => m_impl_NetNet_marksOk_1 z ⟩
def f_impl_NetNet_marksOk_1 : Fs := ⟨[k_impl_in], []⟩
theorem g_impl_NetNet_marksOk_1 : f_impl_NetNet_marksOk_1.Ok Tryz.prog := (fsK o_impl_in fs0)
theorem o_impl_NetNet_marksOk_1 : q_impl_NetNet_marksOk_1.Ok Tryz.prog := FCon.ok (fn_ok (k := q_impl_NetNet_marksOk_1.con) (fn := Tryz.f227) (W := []) (H := []) Tryz.func227 g_impl_NetNet_marksOk_1 trivial rfl rfl (fun av x => by kernel_rfl))

def m_impl_NetNet_marksOk (n : GNet) (marks : List Int) : Option Bool := if decide ((marks.length : Int) = n.places) = true then ((m_ContainsFunc_I marks (fun z => m_impl_NetNet_marksOk_1 z )).bind fun x2 => (some (!x2))) else (some false)
def k_impl_NetNet_marksOk : Con := ⟨212, [.v (.s .net) false, .v (.sl .I) false], [(.B, true)], [], fun x => m_impl_NetNet_marksOk x.1 x.2.1⟩
def f_impl_NetNet_marksOk : Fs := ⟨[k_ContainsFunc_I], [q_impl_NetNet_marksOk_1]⟩
theorem g_impl_NetNet_marksOk : f_impl_NetNet_marksOk.Ok Tryz.prog := (fsK o_ContainsFunc_I (fsF o_impl_NetNet_marksOk_1 fs0))
theorem o_impl_NetNet_marksOk : k_impl_NetNet_marksOk.Ok Tryz.prog := fn_ok (k := k_impl_NetNet_marksOk) (fn := Tryz.f212) (W := []) (H := []) Tryz.func212 g_impl_NetNet_marksOk trivial rfl rfl (fun av x => by kernel_rfl)

def m_impl_MrkOk (n : GNet) (marks : List Int) : Option Bool := (m_impl_NetOk n).bind fun x1 => (if x1 = true then ((m_impl_NetNet_marksOk n marks).bind fun x3 => (some x3)) else (some false))
def k_impl_MrkOk : Con := ⟨167, [.v (.s .net) false, .v (.sl .I) false], [(.B, true)], [], fun x => m_impl_MrkOk x.1 x.2.1⟩
def f_impl_MrkOk : Fs := ⟨[k_impl_NetOk, k_impl_NetNet_marksOk], []⟩
theorem g_impl_MrkOk : f_impl_MrkOk.Ok Tryz.prog := (fsK o_impl_NetOk (fsK o_impl_NetNet_marksOk fs0))
theorem o_impl_MrkOk : k_impl_MrkOk.Ok Tryz.prog := fn_ok (k := k_impl_MrkOk) (fn := Tryz.f167) (W := []) (H := []) Tryz.func167 g_impl_MrkOk trivial rfl rfl (fun av x => by kernel_rfl)

def m_impl_NetNet_busyOk_k1 (busy : List GItem) : Option Bool := some (decide ((busy.length : Int) ≤ 6))
def m_impl_NetNet_busyOk_l0 (n : GNet) (p0_0 : List GItem) (p0_1 : Int) (kx0_0 : Option Bool) : Nat → Int → Option Bool
  | 0, _ => none
  | n0 + 1, s0_0 => if decide (s0_0 < p0_1) = true then ((getI p0_0 s0_0).bind fun x2 => ((m_impl_NetNet_hasTask n x2.task).bind fun x3 => (if x3 = true then ((m_impl_isPerson x2.who).bind fun x5 => (if x5 = true then ((getI n.tasks x2.task).bind fun x7 => (gd (ok64 (x7.need - 1)) ((m_impl_in x2.did 0 (x7.need - 1)).bind fun x9 => (if x9 = true then (gd (ok64 (s0_0 + 1)) ((m_impl_NetNet_busyOk_l0 n p0_0 p0_1 kx0_0 n0) (s0_0 + 1))) else (some false))))) else (some false))) else (some false)))) else (kx0_0)
def m_impl_NetNet_busyOk (n : GNet) (busy : List GItem) : Option Bool := m_impl_NetNet_busyOk_l0 n busy (busy.length : Int) (m_impl_NetNet_busyOk_k1 busy) FUEL 0
def k_impl_NetNet_busyOk : Con := ⟨168, [.v (.s .net) false, .v (.sl (.s .item)) false], [(.B, true)], [], fun x => m_impl_NetNet_busyOk x.1 x.2.1⟩
def f_impl_NetNet_busyOk : Fs := ⟨[k_impl_NetNet_hasTask, k_impl_isPerson, k_impl_in], []⟩
theorem g_impl_NetNet_busyOk : f_impl_NetNet_busyOk.Ok Tryz.prog := (fsK o_impl_NetNet_hasTask (fsK o_impl_isPerson (fsK o_impl_in fs0)))
def t_impl_NetNet_busyOk_0 : Tmpl := ⟨[(1, .c (.s (.s .item))), (2, .c (.bx 2 0)), (7, .c (.s (.s .item))), (8, .c .i), (9, .c .i)], [(2, .boxT (.s .net))]⟩
def x0_impl_NetNet_busyOk_0 : Tmpl := ⟨[(1, .c (.s (.s .item)))], []⟩
def L_impl_NetNet_busyOk_0 (av : AV) (x : HP k_impl_NetNet_busyOk.ps) (n : Nat) (v : t_impl_NetNet_busyOk_0.den) (K : Ks (CR k_impl_NetNet_busyOk)) : Option (CR k_impl_NetNet_busyOk) := m_impl_NetNet_busyOk_l0 v.2.1 v.1.2.2.1 v.1.2.2.2.1 (x0_impl_NetNet_busyOk_0.at none ((v.1.1, ()), ()) (K (.exit 0))) n v.1.2.2.2.2.1
def h_impl_NetNet_busyOk_0 (av : AV) (x : HP k_impl_NetNet_busyOk.ps) : Hdl (CR k_impl_NetNet_busyOk) := hnd [] t_impl_NetNet_busyOk_0 (L_impl_NetNet_busyOk_0 av x)
theorem l_impl_NetNet_busyOk_0 : LP k_impl_NetNet_busyOk Tryz.f168 [0] h_impl_NetNet_busyOk_0 := lp_ok (W := []) (H := []) (xs := [x0_impl_NetNet_busyOk_0]) g_impl_NetNet_busyOk trivial rfl (fun av x v K => by kernel_rfl) (fun av x n v K => by kernel_rfl)
theorem o_impl_NetNet_busyOk : k_impl_NetNet_busyOk.Ok Tryz.prog := fn_ok (k := k_impl_NetNet_busyOk) (fn := Tryz.f168) (W := []) (H := [h_impl_NetNet_busyOk_0]) Tryz.func168 g_impl_NetNet_busyOk ⟨l_impl_NetNet_busyOk_0, trivial⟩ rfl rfl (fun av x => by kernel_rfl)

def m_impl_NetNet_arrives_1 (q : Int) (marks : List Int) (reach : List Bool) : Option Bool := (getI marks q).bind fun x1 => (if decide (x1 = 0) = true then ((getI reach q).bind fun x3 => (some x3)) else (some false))
def q_impl_NetNet_arrives_1 : FCon := ⟨231, .I, [(.sl .I), (.sl .B)], fun z c => m_impl_NetNet_arrives_1 z c.1 c.2.1⟩
def f_impl_NetNet_arrives_1 : Fs := ⟨[], []⟩
theorem g_impl_NetNet_arrives_1 : f_impl_NetNet_arrives_1.Ok Tryz.prog := fs0
theorem o_impl_NetNet_arrives_1 : q_impl_NetNet_arrives_1.Ok Tryz.prog := FCon.ok (fn_ok (k := q_impl_NetNet_arrives_1.con) (fn := Tryz.f231) (W := []) (H := []) Tryz.func231 g_impl_NetNet_arrives_1 trivial rfl rfl (fun av x => by kernel_rfl))

def m_impl_NetNet_arrives_k2 (s1_0 : Int) (s1_1 : Int) (bk1 : Int → Int → List Int → Option Bool) (l2_1 : List Int) : Option Bool := gd (ok64 (s1_1 + 1)) (bk1 s1_0 (s1_1 + 1) l2_1)
def m_impl_NetNet_arrives_l2 (p2_0 : List GFlow) (p2_1 : Int) (kx2_0 : List Int → Option Bool) : Nat → Int → List Int → Option Bool
  | 0, _, _ => none
  | n2 + 1, s2_0, l2_1 => if decide (s2_0 < p2_1) = true then ((getI p2_0 s2_0).bind fun x15 => (gd (l2_1.length + [x15.to].length ≤ SMALL) (gd (ok64 (s2_0 + 1)) ((m_impl_NetNet_arrives_l2 p2_0 p2_1 kx2_0 n2) (s2_0 + 1) (l2_1 ++ [x15.to]))))) else (kx2_0 l2_1)
def m_impl_NetNet_arrives_k4  : Option Bool := some false
def m_impl_NetNet_arrives_l3 (n : GNet) (t : Int) (p0_0 : List Int) (p0_2 : List Int) (l1_2 : List Int) (p3_0 : Int) (kx3_0 : Option Bool) : Nat → Int → Option Bool
  | 0, _ => none
  | n3 + 1, s3_0 => if decide (s3_0 < p3_0) = true then ((getI l1_2 s3_0).bind fun x20 => ((m_impl_NetNet_reach n x20 t).bind fun x21 => ((m_ContainsFunc_I p0_0 (fun z => m_impl_NetNet_arrives_1 z p0_2 x21)).bind fun x22 => (if x22 = true then (some true) else (gd (ok64 (s3_0 + 1)) ((m_impl_NetNet_arrives_l3 n t p0_0 p0_2 l1_2 p3_0 kx3_0 n3) (s3_0 + 1))))))) else (kx3_0)
def m_impl_NetNet_arrives_k3 (n : GNet) (t : Int) (p0_0 : List Int) (p0_2 : List Int) (l1_2 : List Int) : Option Bool := m_impl_NetNet_arrives_l3 n t p0_0 p0_2 l1_2 (l1_2.length : Int) m_impl_NetNet_arrives_k4 FUEL 0
def m_impl_NetNet_arrives_l1 (n : GNet) (busy : List GItem) (kx1_0 : List Int → Option Bool) : Nat → Int → Int → List Int → Option Bool
  | 0, _, _, _ => none
  | n1 + 1, s1_0, s1_1, l1_2 => if decide (s1_1 < s1_0) = true then ((getI busy s1_1).bind fun x12 => ((getI n.tasks x12.task).bind fun x13 => (m_impl_NetNet_arrives_l2 x13.out (x13.out.length : Int) (m_impl_NetNet_arrives_k2 s1_0 s1_1 (m_impl_NetNet_arrives_l1 n busy kx1_0 n1)) FUEL 0 l1_2))) else (kx1_0 l1_2)
def m_impl_NetNet_arrives_k1 (n : GNet) (busy : List GItem) (t : Int) (p0_0 : List Int) (p0_2 : List Int) (l0_1 : List Int) : Option Bool := m_impl_NetNet_arrives_l1 n busy (m_impl_NetNet_arrives_k3 n t p0_0 p0_2) FUEL (busy.length : Int) 0 l0_1
def m_impl_NetNet_arrives_l0 (marks : List Int) (p0_0 : List Int) (p0_1 : Int) (kx0_0 : List Int → Option Bool) : Nat → Int → List Int → Option Bool
  | 0, _, _ => none
  | n0 + 1, s0_0, l0_1 => if decide (s0_0 < p0_1) = true then ((getI marks s0_0).bind fun x3 => (if decide (0 < x3) = true then ((m_Contains_I p0_0 s0_0).bind fun x5 => (if x5 = true then (gd (ok64 (s0_0 + 1)) ((m_impl_NetNet_arrives_l0 marks p0_0 p0_1 kx0_0 n0) (s0_0 + 1) l0_1)) else (gd (l0_1.length + [s0_0].length ≤ SMALL) (gd (ok64 (s0_0 + 1)) ((m_impl_NetNet_arrives_l0 marks p0_0 p0_1 kx0_0 n0) (s0_0 + 1) (l0_1 ++ [s0_0])))))) else (gd (ok64 (s0_0 + 1)) ((m_impl_NetNet_arrives_l0 marks p0_0 p0_1 kx0_0 n0) (s0_0 + 1) l0_1)))) else (kx0_0 l0_1)
def m_impl_NetNet_arrives (n : GNet) (marks : List Int) (busy : List GItem) (t : Int) : Option Bool := (getI n.tasks t).bind fun x1 => (m_impl_NetNet_arrives_l0 marks x1.in_ (marks.length : Int) (m_impl_NetNet_arrives_k1 n busy t x1.in_ marks) FUEL 0 ([] : List Int))
def k_impl_NetNet_arrives : Con := ⟨217, [.v (.s .net) false, .v (.sl .I) false, .v (.sl (.s .item)) false, .v .I false], [(.B, true)], [], fun x => m_impl_NetNet_arrives x.1 x.2.1 x.2.2.1 x.2.2.2.1⟩
def f_impl_NetNet_arrives : Fs := ⟨[k_Contains_I, k_impl_NetNet_reach, k_ContainsFunc_I], [q_impl_NetNet_arrives_1]⟩
theorem g_impl_NetNet_arrives : f_impl_NetNet_arrives.Ok Tryz.prog := (fsK o_Contains_I (fsK o_impl_NetNet_reach (fsK o_ContainsFunc_I (fsF o_impl_NetNet_arrives_1 fs0))))
def t_impl_NetNet_arrives_1_0 : Tmpl := ⟨[(3, .c .i), (4, .c (.bx 4 0)), (5, .c (.bx 5 0)), (9, .c (.s .I)), (10, .c (.ref 500010)), (46, .c (.s (.s .item))), (47, .c .i), (48, .c .i), (58, .c (.s (.s .flow))), (59, .c .i), (60, .c .i)], [(4, .boxT (.s .net)), (5, .box [.s .I]), (500010, .arr .I true)]⟩
def x0_impl_NetNet_arrives_1_0 : Tmpl := ⟨[(3, .c .i), (4, .c (.bx 4 0)), (5, .c (.bx 5 0)), (9, .c (.s .I)), (10, .c (.ref 500010)), (46, .c (.s (.s .item))), (47, .c .i), (48, .c .i)], [(4, .boxT (.s .net)), (5, .box [.s .I]), (500010, .arr .I true)]⟩
def L_impl_NetNet_arrives_1_0 (av : AV) (x : HP k_impl_NetNet_arrives.ps) (n : Nat) (v : t_impl_NetNet_arrives_1_0.den) (K : Ks (CR k_impl_NetNet_arrives)) : Option (CR k_impl_NetNet_arrives) := m_impl_NetNet_arrives_l2 v.1.2.2.2.2.2.2.2.2.1 v.1.2.2.2.2.2.2.2.2.2.1 (fun l2_1 => x0_impl_NetNet_arrives_1_0.at none ((v.1.1, (), (), v.1.2.2.2.1, (), v.1.2.2.2.2.2.1, v.1.2.2.2.2.2.2.1, v.1.2.2.2.2.2.2.2.1, ()), (v.2.1, (v.2.2.1.1, ()), l2_1, ())) (K (.exit 4))) n v.1.2.2.2.2.2.2.2.2.2.2.1 v.2.2.2.1
def h_impl_NetNet_arrives_1_0 (av : AV) (x : HP k_impl_NetNet_arrives.ps) : Hdl (CR k_impl_NetNet_arrives) := hnd [] t_impl_NetNet_arrives_1_0 (L_impl_NetNet_arrives_1_0 av x)
theorem l_impl_NetNet_arrives_1_0 : LP k_impl_NetNet_arrives Tryz.f217 [1, 0] h_impl_NetNet_arrives_1_0 := lp_ok (W := []) (H := []) (xs := [x0_impl_NetNet_arrives_1_0]) g_impl_NetNet_arrives trivial rfl (fun av x v K => by kernel_rfl) (fun av x n v K => by kernel_rfl)
def t_impl_NetNet_arrives_0 : Tmpl := ⟨[(2, .c (.s (.s .item))), (3, .c .i), (4, .c (.bx 4 0)), (5, .c (.bx 5 0)), (9, .c (.s .I)), (10, .c (.ref 500010)), (26, .c (.s .I)), (27, .c .i), (28, .c .i)], [(4, .boxT (.s .net)), (5, .box [.s .I]), (500010, .arr .I true)]⟩
def x0_impl_NetNet_arrives_0 : Tmpl := ⟨[(2, .c (.s (.s .item))), (3, .c .i), (4, .c (.bx 4 0)), (5, .c (.bx 5 0)), (9, .c (.s .I)), (10, .c (.ref 500010))], [(4, .boxT (.s .net)), (5, .box [.s .I]), (500010, .arr .I true)]⟩
def L_impl_NetNet_arrives_0 (av : AV) (x : HP k_impl_NetNet_arrives.ps) (n : Nat) (v : t_impl_NetNet_arrives_0.den) (K : Ks (CR k_impl_NetNet_arrives)) : Option (CR k_impl_NetNet_arrives) := m_impl_NetNet_arrives_l0 v.1.2.2.2.2.2.2.1 v.1.2.2.2.2.1 v.1.2.2.2.2.2.2.2.1 (fun l0_1 => x0_impl_NetNet_arrives_0.at none ((v.1.1, v.1.2.1, (), (), v.1.2.2.2.2.1, (), ()), (v.2.1, (v.2.2.1.1, ()), l0_1, ())) (K (.exit 0))) n v.1.2.2.2.2.2.2.2.2.1 v.2.2.2.1
def h_impl_NetNet_arrives_0 (av : AV) (x : HP k_impl_NetNet_arrives.ps) : Hdl (CR k_impl_NetNet_arrives) := hnd [.e 10 500010 .I] t_impl_NetNet_arrives_0 (L_impl_NetNet_arrives_0 av x)
theorem l_impl_NetNet_arrives_0 : LP k_impl_NetNet_arrives Tryz.f217 [0] h_impl_NetNet_arrives_0 := lp_ok (W := []) (H := []) (xs := [x0_impl_NetNet_arrives_0]) g_impl_NetNet_arrives trivial rfl (fun av x v K => by kernel_rfl) (fun av x n v K => by kernel_rfl)
def t_impl_NetNet_arrives_1 : Tmpl := ⟨[(3, .c .i), (4, .c (.bx 4 0)), (5, .c (.bx 5 0)), (9, .c (.s .I)), (10, .c (.ref 500010)), (46, .c (.s (.s .item))), (47, .c .i), (48, .c .i)], [(4, .boxT (.s .net)), (5, .box [.s .I]), (500010, .arr .I true)]⟩
def x0_impl_NetNet_arrives_1 : Tmpl := ⟨[(3, .c .i), (4, .c (.bx 4 0)), (5, .c (.bx 5 0)), (9, .c (.s .I)), (10, .c (.ref 500010))], [(4, .boxT (.s .net)), (5, .box [.s .I]), (500010, .arr .I true)]⟩
def L_impl_NetNet_arrives_1 (av : AV) (x : HP k_impl_NetNet_arrives.ps) (n : Nat) (v : t_impl_NetNet_arrives_1.den) (K : Ks (CR k_impl_NetNet_arrives)) : Option (CR k_impl_NetNet_arrives) := m_impl_NetNet_arrives_l1 v.2.1 v.1.2.2.2.2.2.1 (fun l1_2 => x0_impl_NetNet_arrives_1.at none ((v.1.1, (), (), v.1.2.2.2.1, (), ()), (v.2.1, (v.2.2.1.1, ()), l1_2, ())) (K (.exit 2))) n v.1.2.2.2.2.2.2.1 v.1.2.2.2.2.2.2.2.1 v.2.2.2.1
def h_impl_NetNet_arrives_1 (av : AV) (x : HP k_impl_NetNet_arrives.ps) : Hdl (CR k_impl_NetNet_arrives) := hnd [] t_impl_NetNet_arrives_1 (L_impl_NetNet_arrives_1 av x)
theorem l_impl_NetNet_arrives_1 : LP k_impl_NetNet_arrives Tryz.f217 [1] h_impl_NetNet_arrives_1 := lp_ok (W := []) (H := [h_impl_NetNet_arrives_1_0]) (xs := [x0_impl_NetNet_arrives_1]) g_impl_NetNet_arrives ⟨l_impl_NetNet_arrives_1_0, trivial⟩ rfl (fun av x v K => by kernel_rfl) (fun av x n v K => by kernel_rfl)
def t_impl_NetNet_arrives_2 : Tmpl := ⟨[(3, .c .i), (4, .c (.bx 4 0)), (5, .c (.bx 5 0)), (9, .c (.s .I)), (71, .c (.ref 500010)), (72, .c .i), (73, .c .i)], [(4, .boxT (.s .net)), (5, .box [.s .I]), (500010, .arr .I true)]⟩
def x0_impl_NetNet_arrives_2 : Tmpl := ⟨[], []⟩
def L_impl_NetNet_arrives_2 (av : AV) (x : HP k_impl_NetNet_arrives.ps) (n : Nat) (v : t_impl_NetNet_arrives_2.den) (K : Ks (CR k_impl_NetNet_arrives)) : Option (CR k_impl_NetNet_arrives) := m_impl_NetNet_arrives_l3 v.2.1 v.1.1 v.1.2.2.2.1 v.2.2.1.1 v.2.2.2.1 v.1.2.2.2.2.2.1 (x0_impl_NetNet_arrives_2.at none ((), ()) (K (.exit 6))) n v.1.2.2.2.2.2.2.1
def h_impl_NetNet_arrives_2 (av : AV) (x : HP k_impl_NetNet_arrives.ps) : Hdl (CR k_impl_NetNet_arrives) := hnd [] t_impl_NetNet_arrives_2 (L_impl_NetNet_arrives_2 av x)
theorem l_impl_NetNet_arrives_2 : LP k_impl_NetNet_arrives Tryz.f217 [2] h_impl_NetNet_arrives_2 := lp_ok (W := []) (H := []) (xs := [x0_impl_NetNet_arrives_2]) g_impl_NetNet_arrives trivial rfl (fun av x v K => by kernel_rfl) (fun av x n v K => by kernel_rfl)
theorem o_impl_NetNet_arrives : k_impl_NetNet_arrives.Ok Tryz.prog := fn_ok (k := k_impl_NetNet_arrives) (fn := Tryz.f217) (W := []) (H := [h_impl_NetNet_arrives_0, h_impl_NetNet_arrives_1, h_impl_NetNet_arrives_2]) Tryz.func217 g_impl_NetNet_arrives ⟨l_impl_NetNet_arrives_0, l_impl_NetNet_arrives_1, l_impl_NetNet_arrives_2, trivial⟩ rfl rfl (fun av x => by kernel_rfl)

def m_impl_NetNet_can_k1 (n : GNet) (marks : List Int) (busy : List GItem) (t : Int) (s0_0 : Bool) (s0_2 : Bool) : Option Bool := (getI n.tasks t).bind fun x14 => (if decide (x14.join = 1) = true then (some s0_0) else (if decide (x14.join = 2) = true then (some s0_2) else (if s0_2 = true then (if s0_0 = true then (some true) else ((m_impl_NetNet_arrives n marks busy t).bind fun x19 => (some (!x19)))) else (some false))))
def m_impl_NetNet_can_l0 (marks : List Int) (p0_0 : List Int) (p0_1 : Int) (kx0_0 : Bool → Bool → Option Bool) : Nat → Bool → Int → Bool → Option Bool
  | 0, _, _, _ => none
  | n0 + 1, s0_0, s0_1, s0_2 => if decide (s0_1 < p0_1) = true then ((getI p0_0 s0_1).bind fun x3 => (if s0_2 = true then (if s0_0 = true then ((getI marks x3).bind fun x6 => (gd (ok64 (s0_1 + 1)) ((m_impl_NetNet_can_l0 marks p0_0 p0_1 kx0_0 n0) (decide (0 < x6)) (s0_1 + 1) true))) else (gd (ok64 (s0_1 + 1)) ((m_impl_NetNet_can_l0 marks p0_0 p0_1 kx0_0 n0) false (s0_1 + 1) true))) else ((getI marks x3).bind fun x9 => (if s0_0 = true then ((getI marks x3).bind fun x11 => (gd (ok64 (s0_1 + 1)) ((m_impl_NetNet_can_l0 marks p0_0 p0_1 kx0_0 n0) (decide (0 < x11)) (s0_1 + 1) (decide (0 < x9))))) else (gd (ok64 (s0_1 + 1)) ((m_impl_NetNet_can_l0 marks p0_0 p0_1 kx0_0 n0) false (s0_1 + 1) (decide (0 < x9)))))))) else (kx0_0 s0_0 s0_2)
def m_impl_NetNet_can (n : GNet) (marks : List Int) (busy : List GItem) (t : Int) : Option Bool := (getI n.tasks t).bind fun x1 => (m_impl_NetNet_can_l0 marks x1.in_ (x1.in_.length : Int) (m_impl_NetNet_can_k1 n marks busy t) FUEL true 0 false)
def k_impl_NetNet_can : Con := ⟨178, [.v (.s .net) false, .v (.sl .I) false, .v (.sl (.s .item)) false, .v .I false], [(.B, true)], [], fun x => m_impl_NetNet_can x.1 x.2.1 x.2.2.1 x.2.2.2.1⟩
def f_impl_NetNet_can : Fs := ⟨[k_impl_NetNet_arrives], []⟩
theorem g_impl_NetNet_can : f_impl_NetNet_can.Ok Tryz.prog := (fsK o_impl_NetNet_arrives fs0)
def t_impl_NetNet_can_0 : Tmpl := ⟨[(1, .c (.s .I)), (2, .c (.s (.s .item))), (3, .c .i), (4, .c (.bx 4 0)), (9, .c .b), (10, .c .b), (18, .c (.s .I)), (19, .c .i), (20, .c .i)], [(4, .boxT (.s .net))]⟩
def x0_impl_NetNet_can_0 : Tmpl := ⟨[(1, .c (.s .I)), (2, .c (.s (.s .item))), (3, .c .i), (4, .c (.bx 4 0)), (9, .c .b), (10, .c .b)], [(4, .boxT (.s .net))]⟩
def L_impl_NetNet_can_0 (av : AV) (x : HP k_impl_NetNet_can.ps) (n : Nat) (v : t_impl_NetNet_can_0.den) (K : Ks (CR k_impl_NetNet_can)) : Option (CR k_impl_NetNet_can) := m_impl_NetNet_can_l0 v.1.1 v.1.2.2.2.2.2.2.1 v.1.2.2.2.2.2.2.2.1 (fun s0_0 s0_2 => x0_impl_NetNet_can_0.at none ((v.1.1, v.1.2.1, v.1.2.2.1, (), s0_2, s0_0, ()), (v.2.1, ())) (K (.exit 0))) n v.1.2.2.2.2.2.1 v.1.2.2.2.2.2.2.2.2.1 v.1.2.2.2.2.1
def h_impl_NetNet_can_0 (av : AV) (x : HP k_impl_NetNet_can.ps) : Hdl (CR k_impl_NetNet_can) := hnd [] t_impl_NetNet_can_0 (L_impl_NetNet_can_0 av x)
theorem l_impl_NetNet_can_0 : LP k_impl_NetNet_can Tryz.f178 [0] h_impl_NetNet_can_0 := lp_ok (W := []) (H := []) (xs := [x0_impl_NetNet_can_0]) g_impl_NetNet_can trivial rfl (fun av x v K => by kernel_rfl) (fun av x n v K => by kernel_rfl)
theorem o_impl_NetNet_can : k_impl_NetNet_can.Ok Tryz.prog := fn_ok (k := k_impl_NetNet_can) (fn := Tryz.f178) (W := []) (H := [h_impl_NetNet_can_0]) Tryz.func178 g_impl_NetNet_can ⟨l_impl_NetNet_can_0, trivial⟩ rfl rfl (fun av x => by kernel_rfl)

def m_impl_EnaCan (n : GNet) (marks : List Int) (busy : List GItem) (t : Int) : Option Bool := (m_impl_MrkOk n marks).bind fun x1 => (if x1 = true then ((m_impl_NetNet_busyOk n busy).bind fun x3 => (if x3 = true then ((m_impl_NetNet_hasTask n t).bind fun x5 => (if x5 = true then ((m_impl_NetNet_can n marks busy t).bind fun x7 => (some x7)) else (some false))) else (some false))) else (some false))
def k_impl_EnaCan : Con := ⟨107, [.v (.s .net) false, .v (.sl .I) false, .v (.sl (.s .item)) false, .v .I false], [(.B, true)], [], fun x => m_impl_EnaCan x.1 x.2.1 x.2.2.1 x.2.2.2.1⟩
def f_impl_EnaCan : Fs := ⟨[k_impl_MrkOk, k_impl_NetNet_busyOk, k_impl_NetNet_hasTask, k_impl_NetNet_can], []⟩
theorem g_impl_EnaCan : f_impl_EnaCan.Ok Tryz.prog := (fsK o_impl_MrkOk (fsK o_impl_NetNet_busyOk (fsK o_impl_NetNet_hasTask (fsK o_impl_NetNet_can fs0))))
theorem o_impl_EnaCan : k_impl_EnaCan.Ok Tryz.prog := fn_ok (k := k_impl_EnaCan) (fn := Tryz.f107) (W := []) (H := []) Tryz.func107 g_impl_EnaCan trivial rfl rfl (fun av x => by kernel_rfl)

def m_impl_EnaTasks_k1 (l0_1 : List Int) : Option (List Int) := some l0_1
def m_impl_EnaTasks_l0 (n : GNet) (marks : List Int) (busy : List GItem) (p0_0 : Int) (kx0_0 : List Int → Option (List Int)) : Nat → Int → List Int → Option (List Int)
  | 0, _, _ => none
  | n0 + 1, s0_0, l0_1 => if decide (s0_0 < p0_0) = true then ((m_impl_NetNet_can n marks busy s0_0).bind fun x6 => (if x6 = true then (gd (l0_1.length + [s0_0].length ≤ SMALL) (gd (ok64 (s0_0 + 1)) ((m_impl_EnaTasks_l0 n marks busy p0_0 kx0_0 n0) (s0_0 + 1) (l0_1 ++ [s0_0])))) else (gd (ok64 (s0_0 + 1)) ((m_impl_EnaTasks_l0 n marks busy p0_0 kx0_0 n0) (s0_0 + 1) l0_1)))) else (kx0_0 l0_1)
def m_impl_EnaTasks (n : GNet) (marks : List Int) (busy : List GItem) : Option (List Int) := (m_impl_MrkOk n marks).bind fun x1 => (if x1 = true then ((m_impl_NetNet_busyOk n busy).bind fun x3 => (if x3 = true then (m_impl_EnaTasks_l0 n marks busy (n.tasks.length : Int) m_impl_EnaTasks_k1 FUEL 0 ([] : List Int)) else (some []))) else (some []))
def k_impl_EnaTasks : Con := ⟨194, [.v (.s .net) false, .v (.sl .I) false, .v (.sl (.s .item)) false], [((.sl .I), true)], [], fun x => m_impl_EnaTasks x.1 x.2.1 x.2.2.1⟩
def f_impl_EnaTasks : Fs := ⟨[k_impl_MrkOk, k_impl_NetNet_busyOk, k_impl_NetNet_can], []⟩
theorem g_impl_EnaTasks : f_impl_EnaTasks.Ok Tryz.prog := (fsK o_impl_MrkOk (fsK o_impl_NetNet_busyOk (fsK o_impl_NetNet_can fs0)))
def t_impl_EnaTasks_0 : Tmpl := ⟨[(1, .c (.s .I)), (2, .c (.s (.s .item))), (3, .c (.bx 3 0)), (7, .c (.ref 500007)), (21, .c .i), (22, .c .i)], [(3, .boxT (.s .net)), (500007, .arr .I true)]⟩
def x0_impl_EnaTasks_0 : Tmpl := ⟨[(7, .c (.ref 500007))], [(500007, .arr .I true)]⟩
def L_impl_EnaTasks_0 (av : AV) (x : HP k_impl_EnaTasks.ps) (n : Nat) (v : t_impl_EnaTasks_0.den) (K : Ks (CR k_impl_EnaTasks)) : Option (CR k_impl_EnaTasks) := m_impl_EnaTasks_l0 v.2.1 v.1.1 v.1.2.1 v.1.2.2.2.2.1 (fun l0_1 => x0_impl_EnaTasks_0.at none (((), ()), (l0_1, ())) (K (.exit 0))) n v.1.2.2.2.2.2.1 v.2.2.1
def h_impl_EnaTasks_0 (av : AV) (x : HP k_impl_EnaTasks.ps) : Hdl (CR k_impl_EnaTasks) := hnd [.e 7 500007 .I] t_impl_EnaTasks_0 (L_impl_EnaTasks_0 av x)
theorem l_impl_EnaTasks_0 : LP k_impl_EnaTasks Tryz.f194 [0] h_impl_EnaTasks_0 := lp_ok (W := []) (H := []) (xs := [x0_impl_EnaTasks_0]) g_impl_EnaTasks trivial rfl (fun av x v K => by kernel_rfl) (fun av x n v K => by kernel_rfl)
theorem o_impl_EnaTasks : k_impl_EnaTasks.Ok Tryz.prog := fn_ok (k := k_impl_EnaTasks) (fn := Tryz.f194) (W := []) (H := [h_impl_EnaTasks_0]) Tryz.func194 g_impl_EnaTasks ⟨l_impl_EnaTasks_0, trivial⟩ rfl rfl (fun av x => by kernel_rfl)

def m_impl_NetNet_take_k1 (l0_1 : List Int) (x4 : Int) (x7 : Int) : Option (List Int) := some (l0_1.set x4.toNat (x7 - 1))
def m_impl_NetNet_take_k2 (l0_1 : List Int) : Option (List Int) := some l0_1
def m_impl_NetNet_take_l0 (n : GNet) (t : Int) (p0_0 : List Int) (p0_1 : Int) (kx0_0 : List Int → Int → Int → Option (List Int)) (kx0_1 : List Int → Option (List Int)) : Nat → Int → List Int → Option (List Int)
  | 0, _, _ => none
  | n0 + 1, s0_0, l0_1 => if decide (s0_0 < p0_1) = true then ((getI p0_0 s0_0).bind fun x4 => ((getI l0_1 x4).bind fun x5 => (if decide (0 < x5) = true then ((getI l0_1 x4).bind fun x7 => (gd (ok64 (x7 - 1)) ((getI l0_1 x4).bind fun x9 => ((getI n.tasks t).bind fun x10 => (if decide (x10.join = 2) = true then (kx0_0 l0_1 x4 x7) else (gd (ok64 (s0_0 + 1)) ((m_impl_NetNet_take_l0 n t p0_0 p0_1 kx0_0 kx0_1 n0) (s0_0 + 1) (l0_1.set x4.toNat (x7 - 1))))))))) else (gd (ok64 (s0_0 + 1)) ((m_impl_NetNet_take_l0 n t p0_0 p0_1 kx0_0 kx0_1 n0) (s0_0 + 1) l0_1))))) else (kx0_1 l0_1)
def m_impl_NetNet_take (n : GNet) (marks : List Int) (t : Int) : Option (List Int) := (m_impl_cloneInts marks).bind fun x1 => ((getI n.tasks t).bind fun x2 => (m_impl_NetNet_take_l0 n t x2.in_ (x2.in_.length : Int) m_impl_NetNet_take_k1 m_impl_NetNet_take_k2 FUEL 0 x1))
def k_impl_NetNet_take : Con := ⟨110, [.v (.s .net) false, .v (.sl .I) false, .v .I false], [((.sl .I), true)], [], fun x => m_impl_NetNet_take x.1 x.2.1 x.2.2.1⟩
def f_impl_NetNet_take : Fs := ⟨[k_impl_cloneInts], []⟩
theorem g_impl_NetNet_take : f_impl_NetNet_take.Ok Tryz.prog := (fsK o_impl_cloneInts fs0)
def t_impl_NetNet_take_0 : Tmpl := ⟨[(2, .c .i), (3, .c (.bx 3 0)), (7, .c (.ref 11)), (17, .c (.s .I)), (18, .c .i), (19, .c .i)], [(3, .boxT (.s .net)), (11, .arr .I true)]⟩
def x0_impl_NetNet_take_0 : Tmpl := ⟨[(7, .c (.ref 11))], [(11, .arr .I true)]⟩
def L_impl_NetNet_take_0 (av : AV) (x : HP k_impl_NetNet_take.ps) (n : Nat) (v : t_impl_NetNet_take_0.den) (K : Ks (CR k_impl_NetNet_take)) : Option (CR k_impl_NetNet_take) := m_impl_NetNet_take_l0 v.2.1 v.1.1 v.1.2.2.2.1 v.1.2.2.2.2.1 (fun l0_1 x4 x7 => x0_impl_NetNet_take_0.at none (((), ()), ((l0_1.set x4.toNat (x7 - 1)), ())) (K (.exit 0))) (fun l0_1 => x0_impl_NetNet_take_0.at none (((), ()), (l0_1, ())) (K (.exit 0))) n v.1.2.2.2.2.2.1 v.2.2.1
def h_impl_NetNet_take_0 (av : AV) (x : HP k_impl_NetNet_take.ps) : Hdl (CR k_impl_NetNet_take) := hnd [] t_impl_NetNet_take_0 (L_impl_NetNet_take_0 av x)
theorem l_impl_NetNet_take_0 : LP k_impl_NetNet_take Tryz.f110 [0] h_impl_NetNet_take_0 := lp_ok (W := []) (H := []) (xs := [x0_impl_NetNet_take_0]) g_impl_NetNet_take trivial rfl (fun av x v K => by kernel_rfl) (fun av x n v K => by kernel_rfl)
theorem o_impl_NetNet_take : k_impl_NetNet_take.Ok Tryz.prog := fn_ok (k := k_impl_NetNet_take) (fn := Tryz.f110) (W := []) (H := [h_impl_NetNet_take_0]) Tryz.func110 g_impl_NetNet_take ⟨l_impl_NetNet_take_0, trivial⟩ rfl rfl (fun av x => by kernel_rfl)

def m_impl_SplTo_k1 (l0_1 : List Int) : Option (List Int) := some l0_1
def m_impl_SplTo_l0 (t : GTask) (data : List Int) (p0_0 : List GFlow) (p0_1 : Int) (kx0_0 : List Int → Option (List Int)) : Nat → Int → List Int → Option (List Int)
  | 0, _, _ => none
  | n0 + 1, s0_0, l0_1 => if decide (s0_0 < p0_1) = true then ((getI p0_0 s0_0).bind fun x2 => ((m_impl_ExpHolds x2.if_ data).bind fun x3 => (if x3 = true then (if decide (t.split = 2) = true then (if decide (0 < (l0_1.length : Int)) = true then (gd (ok64 (s0_0 + 1)) ((m_impl_SplTo_l0 t data p0_0 p0_1 kx0_0 n0) (s0_0 + 1) l0_1)) else (if decide (t.split = 3) = true then (gd (ok64 ((t.out.length : Int) - 1)) (if decide (s0_0 = ((t.out.length : Int) - 1)) = true then (if decide (0 < (l0_1.length : Int)) = true then (gd (ok64 (s0_0 + 1)) ((m_impl_SplTo_l0 t data p0_0 p0_1 kx0_0 n0) (s0_0 + 1) l0_1)) else (gd (l0_1.length + [x2.to].length ≤ SMALL) (gd (ok64 (s0_0 + 1)) ((m_impl_SplTo_l0 t data p0_0 p0_1 kx0_0 n0) (s0_0 + 1) (l0_1 ++ [x2.to]))))) else (gd (l0_1.length + [x2.to].length ≤ SMALL) (gd (ok64 (s0_0 + 1)) ((m_impl_SplTo_l0 t data p0_0 p0_1 kx0_0 n0) (s0_0 + 1) (l0_1 ++ [x2.to])))))) else (gd (l0_1.length + [x2.to].length ≤ SMALL) (gd (ok64 (s0_0 + 1)) ((m_impl_SplTo_l0 t data p0_0 p0_1 kx0_0 n0) (s0_0 + 1) (l0_1 ++ [x2.to])))))) else (if decide (t.split = 3) = true then (gd (ok64 ((t.out.length : Int) - 1)) (if decide (s0_0 = ((t.out.length : Int) - 1)) = true then (if decide (0 < (l0_1.length : Int)) = true then (gd (ok64 (s0_0 + 1)) ((m_impl_SplTo_l0 t data p0_0 p0_1 kx0_0 n0) (s0_0 + 1) l0_1)) else (gd (l0_1.length + [x2.to].length ≤ SMALL) (gd (ok64 (s0_0 + 1)) ((m_impl_SplTo_l0 t data p0_0 p0_1 kx0_0 n0) (s0_0 + 1) (l0_1 ++ [x2.to]))))) else (gd (l0_1.length + [x2.to].length ≤ SMALL) (gd (ok64 (s0_0 + 1)) ((m_impl_SplTo_l0 t data p0_0 p0_1 kx0_0 n0) (s0_0 + 1) (l0_1 ++ [x2.to])))))) else (gd (l0_1.length + [x2.to].length ≤ SMALL) (gd (ok64 (s0_0 + 1)) ((m_impl_SplTo_l0 t data p0_0 p0_1 kx0_0 n0) (s0_0 + 1) (l0_1 ++ [x2.to])))))) else (gd (ok64 (s0_0 + 1)) ((m_impl_SplTo_l0 t data p0_0 p0_1 kx0_0 n0) (s0_0 + 1) l0_1))))) else (kx0_0 l0_1)
def m_impl_SplTo (t : GTask) (data : List Int) : Option (List Int) := m_impl_SplTo_l0 t data t.out (t.out.length : Int) m_impl_SplTo_k1 FUEL 0 ([] : List Int)
def k_impl_SplTo : Con := ⟨222, [.v (.s .task) false, .v (.sl .I) false], [((.sl .I), true)], [], fun x => m_impl_SplTo x.1 x.2.1⟩
def f_impl_SplTo : Fs := ⟨[k_impl_ExpHolds], []⟩
theorem g_impl_SplTo : f_impl_SplTo.Ok Tryz.prog := (fsK o_impl_ExpHolds fs0)
def t_impl_SplTo_0 : Tmpl := ⟨[(1, .c (.s .I)), (2, .c (.bx 2 0)), (5, .c (.ref 500005)), (9, .c (.s (.s .flow))), (10, .c .i), (11, .c .i)], [(2, .boxT (.s .task)), (500005, .arr .I true)]⟩
def x0_impl_SplTo_0 : Tmpl := ⟨[(5, .c (.ref 500005))], [(500005, .arr .I true)]⟩
def L_impl_SplTo_0 (av : AV) (x : HP k_impl_SplTo.ps) (n : Nat) (v : t_impl_SplTo_0.den) (K : Ks (CR k_impl_SplTo)) : Option (CR k_impl_SplTo) := m_impl_SplTo_l0 v.2.1 v.1.1 v.1.2.2.2.1 v.1.2.2.2.2.1 (fun l0_1 => x0_impl_SplTo_0.at none (((), ()), (l0_1, ())) (K (.exit 0))) n v.1.2.2.2.2.2.1 v.2.2.1
def h_impl_SplTo_0 (av : AV) (x : HP k_impl_SplTo.ps) : Hdl (CR k_impl_SplTo) := hnd [.e 5 500005 .I] t_impl_SplTo_0 (L_impl_SplTo_0 av x)
theorem l_impl_SplTo_0 : LP k_impl_SplTo Tryz.f222 [0] h_impl_SplTo_0 := lp_ok (W := []) (H := []) (xs := [x0_impl_SplTo_0]) g_impl_SplTo trivial rfl (fun av x v K => by kernel_rfl) (fun av x n v K => by kernel_rfl)
theorem o_impl_SplTo : k_impl_SplTo.Ok Tryz.prog := fn_ok (k := k_impl_SplTo) (fn := Tryz.f222) (W := []) (H := [h_impl_SplTo_0]) Tryz.func222 g_impl_SplTo ⟨l_impl_SplTo_0, trivial⟩ rfl rfl (fun av x => by kernel_rfl)

def m_impl_FirGive_k2 (n : GNet) (l1_1 : List Int) : Option ((List Int) × Bool) := (m_impl_NetNet_marksOk n l1_1).bind fun x21 => (if x21 = true then (some (l1_1, true)) else (some ([], false)))
def m_impl_FirGive_l1 (x14 : (List Int)) (p1_0 : Int) (kx1_0 : List Int → Option ((List Int) × Bool)) : Nat → Int → List Int → Option ((List Int) × Bool)
  | 0, _, _ => none
  | n1 + 1, s1_0, l1_1 => if decide (s1_0 < p1_0) = true then ((getI x14 s1_0).bind fun x16 => ((getI l1_1 x16).bind fun x17 => (gd (ok64 (x17 + 1)) ((getI l1_1 x16).bind fun x19 => (gd (ok64 (s1_0 + 1)) ((m_impl_FirGive_l1 x14 p1_0 kx1_0 n1) (s1_0 + 1) (l1_1.set x16.toNat (x17 + 1)))))))) else (kx1_0 l1_1)
def m_impl_FirGive_k1 (n : GNet) (t : Int) (data : List Int) (l0_1 : List Int) : Option ((List Int) × Bool) := (getI n.tasks t).bind fun x13 => ((m_impl_SplTo x13 data).bind fun x14 => (m_impl_FirGive_l1 x14 (x14.length : Int) (m_impl_FirGive_k2 n) FUEL 0 l0_1))
def m_impl_FirGive_l0 (p0_0 : List Int) (p0_1 : Int) (kx0_0 : List Int → Option ((List Int) × Bool)) : Nat → Int → List Int → Option ((List Int) × Bool)
  | 0, _, _ => none
  | n0 + 1, s0_0, l0_1 => if decide (s0_0 < p0_1) = true then ((getI p0_0 s0_0).bind fun x10 => ((getI l0_1 x10).bind fun x11 => (gd (ok64 (s0_0 + 1)) ((m_impl_FirGive_l0 p0_0 p0_1 kx0_0 n0) (s0_0 + 1) (l0_1.set x10.toNat 0))))) else (kx0_0 l0_1)
def m_impl_FirGive (n : GNet) (marks : List Int) (t : Int) (data : List Int) : Option ((List Int) × Bool) := (m_impl_MrkOk n marks).bind fun x1 => (if x1 = true then ((m_impl_NetNet_hasTask n t).bind fun x3 => (if x3 = true then ((m_impl_DatOk data).bind fun x5 => (if x5 = true then ((m_impl_cloneInts marks).bind fun x7 => ((getI n.tasks t).bind fun x8 => (m_impl_FirGive_l0 x8.clear (x8.clear.length : Int) (m_impl_FirGive_k1 n t data) FUEL 0 x7))) else (some ([], false)))) else (some ([], false)))) else (some ([], false)))
def k_impl_FirGive : Con := ⟨192, [.v (.s .net) false, .v (.sl .I) false, .v .I false, .v (.sl .I) false], [((.sl .I), true), (.B, true)], [], fun x => m_impl_FirGive x.1 x.2.1 x.2.2.1 x.2.2.2.1⟩
def f_impl_FirGive : Fs := ⟨[k_impl_MrkOk, k_impl_NetNet_hasTask, k_impl_DatOk, k_impl_cloneInts, k_impl_SplTo, k_impl_NetNet_marksOk], []⟩
theorem g_impl_FirGive : f_impl_FirGive.Ok Tryz.prog := (fsK o_impl_MrkOk (fsK o_impl_NetNet_hasTask (fsK o_impl_DatOk (fsK o_impl_cloneInts (fsK o_impl_SplTo (fsK o_impl_NetNet_marksOk fs0))))))
def t_impl_FirGive_0 : Tmpl := ⟨[(2, .c .i), (3, .c (.s .I)), (4, .c (.bx 4 0)), (10, .c (.ref 31)), (37, .c (.s .I)), (38, .c .i), (39, .c .i)], [(4, .boxT (.s .net)), (31, .arr .I true)]⟩
def x0_impl_FirGive_0 : Tmpl := ⟨[(2, .c .i), (3, .c (.s .I)), (4, .c (.bx 4 0)), (10, .c (.ref 31))], [(4, .boxT (.s .net)), (31, .arr .I true)]⟩
def L_impl_FirGive_0 (av : AV) (x : HP k_impl_FirGive.ps) (n : Nat) (v : t_impl_FirGive_0.den) (K : Ks (CR k_impl_FirGive)) : Option (CR k_impl_FirGive) := m_impl_FirGive_l0 v.1.2.2.2.2.1 v.1.2.2.2.2.2.1 (fun l0_1 => x0_impl_FirGive_0.at none ((v.1.1, v.1.2.1, (), (), ()), (v.2.1, l0_1, ())) (K (.exit 0))) n v.1.2.2.2.2.2.2.1 v.2.2.1
def h_impl_FirGive_0 (av : AV) (x : HP k_impl_FirGive.ps) : Hdl (CR k_impl_FirGive) := hnd [] t_impl_FirGive_0 (L_impl_FirGive_0 av x)
theorem l_impl_FirGive_0 : LP k_impl_FirGive Tryz.f192 [0] h_impl_FirGive_0 := lp_ok (W := []) (H := []) (xs := [x0_impl_FirGive_0]) g_impl_FirGive trivial rfl (fun av x v K => by kernel_rfl) (fun av x n v K => by kernel_rfl)
def t_impl_FirGive_1 : Tmpl := ⟨[(4, .c (.bx 4 0)), (10, .c (.ref 31)), (53, .c (.ref 53)), (54, .c .i), (55, .c .i)], [(4, .boxT (.s .net)), (31, .arr .I true), (53, .arr .I true)]⟩
def x0_impl_FirGive_1 : Tmpl := ⟨[(4, .c (.bx 4 0)), (10, .c (.ref 31))], [(4, .boxT (.s .net)), (31, .arr .I true)]⟩
def L_impl_FirGive_1 (av : AV) (x : HP k_impl_FirGive.ps) (n : Nat) (v : t_impl_FirGive_1.den) (K : Ks (CR k_impl_FirGive)) : Option (CR k_impl_FirGive) := m_impl_FirGive_l1 v.2.2.2.1 v.1.2.2.2.1 (fun l1_1 => x0_impl_FirGive_1.at none (((), (), ()), (v.2.1, l1_1, ())) (K (.exit 2))) n v.1.2.2.2.2.1 v.2.2.1
def h_impl_FirGive_1 (av : AV) (x : HP k_impl_FirGive.ps) : Hdl (CR k_impl_FirGive) := hnd [] t_impl_FirGive_1 (L_impl_FirGive_1 av x)
theorem l_impl_FirGive_1 : LP k_impl_FirGive Tryz.f192 [1] h_impl_FirGive_1 := lp_ok (W := []) (H := []) (xs := [x0_impl_FirGive_1]) g_impl_FirGive trivial rfl (fun av x v K => by kernel_rfl) (fun av x n v K => by kernel_rfl)
theorem o_impl_FirGive : k_impl_FirGive.Ok Tryz.prog := fn_ok (k := k_impl_FirGive) (fn := Tryz.f192) (W := []) (H := [h_impl_FirGive_0, h_impl_FirGive_1]) Tryz.func192 g_impl_FirGive ⟨l_impl_FirGive_0, l_impl_FirGive_1, trivial⟩ rfl rfl (fun av x => by kernel_rfl)

def m_impl_PplOk_1 (n : Int) : Option Bool := (m_impl_in n 0 7).bind fun x1 => (some (!x1))
def q_impl_PplOk_1 : FCon := ⟨165, .I, [], fun z c => m_impl_PplOk_1 z ⟩
def f_impl_PplOk_1 : Fs := ⟨[k_impl_in], []⟩
theorem g_impl_PplOk_1 : f_impl_PplOk_1.Ok Tryz.prog := (fsK o_impl_in fs0)
theorem o_impl_PplOk_1 : q_impl_PplOk_1.Ok Tryz.prog := FCon.ok (fn_ok (k := q_impl_PplOk_1.con) (fn := Tryz.f165) (W := []) (H := []) Tryz.func165 g_impl_PplOk_1 trivial rfl rfl (fun av x => by kernel_rfl))

def m_impl_PplOk (people : List Int) : Option Bool := (m_impl_in (people.length : Int) 1 4).bind fun x1 => (if x1 = true then ((m_ContainsFunc_I people (fun z => m_impl_PplOk_1 z )).bind fun x3 => (some (!x3))) else (some false))
def k_impl_PplOk : Con := ⟨91, [.v (.sl .I) false], [(.B, true)], [], fun x => m_impl_PplOk x.1⟩
def f_impl_PplOk : Fs := ⟨[k_impl_in, k_ContainsFunc_I], [q_impl_PplOk_1]⟩
theorem g_impl_PplOk : f_impl_PplOk.Ok Tryz.prog := (fsK o_impl_in (fsK o_ContainsFunc_I (fsF o_impl_PplOk_1 fs0)))
theorem o_impl_PplOk : k_impl_PplOk.Ok Tryz.prog := fn_ok (k := k_impl_PplOk) (fn := Tryz.f91) (W := []) (H := []) Tryz.func91 g_impl_PplOk trivial rfl rfl (fun av x => by kernel_rfl)

end
end Go.Am
