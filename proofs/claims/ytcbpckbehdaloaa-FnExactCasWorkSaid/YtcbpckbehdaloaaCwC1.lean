/- Mirrors and contracts, printed. Own work. -/
import Derived.Test.YtcbpckbehdaloaaXd1
set_option linter.unusedSimpArgs false
set_option maxRecDepth 100000
set_option maxHeartbeats 4000000
set_option linter.unusedVariables false
namespace Go.Am
noncomputable section
open Go Go.Proofs
def m_e_szIntS (l : List Int) (left : Int) : Option Int := gd (ok64 (left - (l.length : Int))) (if decide ((left - (l.length : Int)) < 0) = true then (some (-1)) else (some (left - (l.length : Int))))
def k_e_szIntS : Con := ⟨59, [.v (.sl .I) false, .v .I false], [(.I, true)], [], fun x => m_e_szIntS x.1 x.2.1⟩
def f_e_szIntS : Fs := ⟨[], []⟩
theorem g_e_szIntS : f_e_szIntS.Ok Try.prog := fs0
theorem o_e_szIntS : k_e_szIntS.Ok Try.prog := fn_ok (k := k_e_szIntS) (fn := Try.f59) (W := []) (H := []) Try.func59 g_e_szIntS trivial rfl rfl (fun av x => by kernel_rfl)
noncomputable def m_szIntS (l : List Int) (left : Int) : Option Int := @gd ((0 ≤ left) ∧ (left ≤ 1048576) ∧ (l.length ≤ 9223372036854775807)) (Classical.propDecidable _) _ (some (szR left l.length))
theorem c_szIntS (l : List Int) (left : Int) (h : (0 ≤ left) ∧ (left ≤ 1048576) ∧ (l.length ≤ 9223372036854775807)) : m_szIntS l left = some (szR left l.length) := gdC h
theorem s_szIntS (l : List Int) (left : Int) (h : (0 ≤ left) ∧ (left ≤ 1048576) ∧ (l.length ≤ 9223372036854775807)) : m_e_szIntS l left = some (szR left l.length) := by
  exact sz_flat h.1 h.2.1 h.2.2
noncomputable def k_szIntS : Con := ⟨59, [.v (.sl .I) false, .v .I false], [(.I, true)], [], fun x => m_szIntS x.1 x.2.1⟩
theorem o_szIntS : k_szIntS.Ok Try.prog := con_sub o_e_szIntS fun x z hz => by
  obtain ⟨h, e⟩ := gdC_some hz
  subst e
  exact s_szIntS _ _ h

def m_e_szNetFlowS (l : List GFlow) (left : Int) : Option Int := gd (ok64 (left - (l.length : Int))) (if decide ((left - (l.length : Int)) < 0) = true then (some (-1)) else (some (left - (l.length : Int))))
def k_e_szNetFlowS : Con := ⟨137, [.v (.sl (.s .flow)) false, .v .I false], [(.I, true)], [], fun x => m_e_szNetFlowS x.1 x.2.1⟩
def f_e_szNetFlowS : Fs := ⟨[], []⟩
theorem g_e_szNetFlowS : f_e_szNetFlowS.Ok Try.prog := fs0
theorem o_e_szNetFlowS : k_e_szNetFlowS.Ok Try.prog := fn_ok (k := k_e_szNetFlowS) (fn := Try.f137) (W := []) (H := []) Try.func137 g_e_szNetFlowS trivial rfl rfl (fun av x => by kernel_rfl)
noncomputable def m_szNetFlowS (l : List GFlow) (left : Int) : Option Int := @gd ((0 ≤ left) ∧ (left ≤ 1048576) ∧ (l.length ≤ 9223372036854775807)) (Classical.propDecidable _) _ (some (szR left l.length))
theorem c_szNetFlowS (l : List GFlow) (left : Int) (h : (0 ≤ left) ∧ (left ≤ 1048576) ∧ (l.length ≤ 9223372036854775807)) : m_szNetFlowS l left = some (szR left l.length) := gdC h
theorem s_szNetFlowS (l : List GFlow) (left : Int) (h : (0 ≤ left) ∧ (left ≤ 1048576) ∧ (l.length ≤ 9223372036854775807)) : m_e_szNetFlowS l left = some (szR left l.length) := by
  exact sz_flat h.1 h.2.1 h.2.2
noncomputable def k_szNetFlowS : Con := ⟨137, [.v (.sl (.s .flow)) false, .v .I false], [(.I, true)], [], fun x => m_szNetFlowS x.1 x.2.1⟩
theorem o_szNetFlowS : k_szNetFlowS.Ok Try.prog := con_sub o_e_szNetFlowS fun x z hz => by
  obtain ⟨h, e⟩ := gdC_some hz
  subst e
  exact s_szNetFlowS _ _ h

def m_e_szNetTask (x : GTask) (left : Int) : Option Int := (m_szIntS x.in_ left).bind fun x1 => (if decide (x1 < 0) = true then (some (-1)) else ((m_szNetFlowS x.out x1).bind fun x3 => (if decide (x3 < 0) = true then (some (-1)) else ((m_szIntS x.clear x3).bind fun x5 => (if decide (x5 < 0) = true then (some (-1)) else (some x5))))))
def k_e_szNetTask : Con := ⟨117, [.v (.s .task) false, .v .I false], [(.I, true)], [], fun x => m_e_szNetTask x.1 x.2.1⟩
def f_e_szNetTask : Fs := ⟨[k_szIntS, k_szNetFlowS], []⟩
theorem g_e_szNetTask : f_e_szNetTask.Ok Try.prog := (fsK o_szIntS (fsK o_szNetFlowS fs0))
theorem o_e_szNetTask : k_e_szNetTask.Ok Try.prog := fn_ok (k := k_e_szNetTask) (fn := Try.f117) (W := []) (H := []) Try.func117 g_e_szNetTask trivial rfl rfl (fun av x => by kernel_rfl)
noncomputable def m_szNetTask (x : GTask) (left : Int) : Option Int := @gd ((0 ≤ left) ∧ (left ≤ 1048576) ∧ (GTask.lens (· ≤ 9223372036854775807) x)) (Classical.propDecidable _) _ (some (szR left (GTask.W x)))
theorem c_szNetTask (x : GTask) (left : Int) (h : (0 ≤ left) ∧ (left ≤ 1048576) ∧ (GTask.lens (· ≤ 9223372036854775807) x)) : m_szNetTask x left = some (szR left (GTask.W x)) := gdC h
theorem s_szNetTask (x : GTask) (left : Int) (h : (0 ≤ left) ∧ (left ≤ 1048576) ∧ (GTask.lens (· ≤ 9223372036854775807) x)) : m_e_szNetTask x left = some (szR left (GTask.W x)) := by
  have e : GTask.W x = (x.in_.length + (x.out.length + (x.clear.length + 0))) := by simp only [GTask.W]; omega
  rw [e]
  have g1 := h.1
  have g2 := h.2.1
  unfold m_e_szNetTask
  rw [c_szIntS _ _ ⟨g1, g2, h.2.2.1⟩]; refine sz_step g1 g2 fun left g1 g2 => ?_
  rw [c_szNetFlowS _ _ ⟨g1, g2, h.2.2.2.1⟩]; refine sz_step g1 g2 fun left g1 g2 => ?_
  rw [c_szIntS _ _ ⟨g1, g2, h.2.2.2.2⟩]; refine sz_step g1 g2 fun left g1 g2 => ?_
  exact szR_zero g1
noncomputable def k_szNetTask : Con := ⟨117, [.v (.s .task) false, .v .I false], [(.I, true)], [], fun x => m_szNetTask x.1 x.2.1⟩
theorem o_szNetTask : k_szNetTask.Ok Try.prog := con_sub o_e_szNetTask fun x z hz => by
  obtain ⟨h, e⟩ := gdC_some hz
  subst e
  exact s_szNetTask _ _ h

def m_e_szNetTaskS_k1 (s0_0 : Int) : Option Int := some s0_0
def m_e_szNetTaskS_l0 (l : List GTask) (kx0_0 : Int → Option Int) : Nat → Int → Int → Option Int
  | 0, _, _ => none
  | n0 + 1, s0_0, s0_1 => if decide (s0_1 < (l.length : Int)) = true then ((getI l s0_1).bind fun x4 => ((m_szNetTask x4 s0_0).bind fun x5 => (if decide (x5 < 0) = true then (some (-1)) else (gd (ok64 (s0_1 + 1)) ((m_e_szNetTaskS_l0 l kx0_0 n0) x5 (s0_1 + 1)))))) else (kx0_0 s0_0)
def m_e_szNetTaskS (l : List GTask) (left : Int) : Option Int := gd (ok64 (left - (l.length : Int))) (if decide ((left - (l.length : Int)) < 0) = true then (some (-1)) else (m_e_szNetTaskS_l0 l m_e_szNetTaskS_k1 FUEL (left - (l.length : Int)) 0))
def k_e_szNetTaskS : Con := ⟨72, [.v (.sl (.s .task)) false, .v .I false], [(.I, true)], [], fun x => m_e_szNetTaskS x.1 x.2.1⟩
def f_e_szNetTaskS : Fs := ⟨[k_szNetTask], []⟩
theorem g_e_szNetTaskS : f_e_szNetTaskS.Ok Try.prog := (fsK o_szNetTask fs0)
def t_e_szNetTaskS_0 : Tmpl := ⟨[(0, .c (.s (.s .task))), (1, .c .i), (5, .c .i)], []⟩
def x0_e_szNetTaskS_0 : Tmpl := ⟨[(1, .c .i)], []⟩
def L_e_szNetTaskS_0 (av : AV) (x : HP k_e_szNetTaskS.ps) (n : Nat) (v : t_e_szNetTaskS_0.den) (K : Ks (CR k_e_szNetTaskS)) : Option (CR k_e_szNetTaskS) := m_e_szNetTaskS_l0 v.1.1 (fun s0_0 => x0_e_szNetTaskS_0.at none ((s0_0, ()), ()) (K (.exit 0))) n v.1.2.1 v.1.2.2.1
def h_e_szNetTaskS_0 (av : AV) (x : HP k_e_szNetTaskS.ps) : Hdl (CR k_e_szNetTaskS) := hnd [] t_e_szNetTaskS_0 (L_e_szNetTaskS_0 av x)
theorem l_e_szNetTaskS_0 : LP k_e_szNetTaskS Try.f72 [0] h_e_szNetTaskS_0 := lp_ok (W := []) (H := []) (xs := [x0_e_szNetTaskS_0]) g_e_szNetTaskS trivial rfl (fun av x v K => by kernel_rfl) (fun av x n v K => by kernel_rfl)
theorem o_e_szNetTaskS : k_e_szNetTaskS.Ok Try.prog := fn_ok (k := k_e_szNetTaskS) (fn := Try.f72) (W := []) (H := [h_e_szNetTaskS_0]) Try.func72 g_e_szNetTaskS ⟨l_e_szNetTaskS_0, trivial⟩ rfl rfl (fun av x => by kernel_rfl)
noncomputable def m_szNetTaskS (l : List GTask) (left : Int) : Option Int := @gd ((0 ≤ left) ∧ (left ≤ 1048576) ∧ (l.length ≤ 9223372036854775807) ∧ (∀ y ∈ l, GTask.lens (· ≤ 9223372036854775807) y)) (Classical.propDecidable _) _ (some (szR left (l.length + sumW GTask.W l)))
theorem c_szNetTaskS (l : List GTask) (left : Int) (h : (0 ≤ left) ∧ (left ≤ 1048576) ∧ (l.length ≤ 9223372036854775807) ∧ (∀ y ∈ l, GTask.lens (· ≤ 9223372036854775807) y)) : m_szNetTaskS l left = some (szR left (l.length + sumW GTask.W l)) := gdC h
theorem s_szNetTaskS (l : List GTask) (left : Int) (h : (0 ≤ left) ∧ (left ≤ 1048576) ∧ (l.length ≤ 9223372036854775807) ∧ (∀ y ∈ l, GTask.lens (· ≤ 9223372036854775807) y)) : m_e_szNetTaskS l left = some (szR left (l.length + sumW GTask.W l)) := by
  refine sz_nest (f := m_e_szNetTaskS_l0 l m_e_szNetTaskS_k1) h.1 h.2.1 h.2.2.1 (fun n i m hi hn g1 g2 => ?_) (fun n m => ?_)
  · rw [m_e_szNetTaskS_l0, if_pos (decide_eq_true (Int.ofNat_lt.2 hi)), getI_lt hi, Option.bind_some, c_szNetTask _ _ ⟨g1, g2, h.2.2.2 _ (List.getElem_mem _)⟩, Option.bind_some, gd_pos (ok64i hi hn)]; rfl
  · rw [m_e_szNetTaskS_l0, if_neg (by simp)]; rfl
noncomputable def k_szNetTaskS : Con := ⟨72, [.v (.sl (.s .task)) false, .v .I false], [(.I, true)], [], fun x => m_szNetTaskS x.1 x.2.1⟩
theorem o_szNetTaskS : k_szNetTaskS.Ok Try.prog := con_sub o_e_szNetTaskS fun x z hz => by
  obtain ⟨h, e⟩ := gdC_some hz
  subst e
  exact s_szNetTaskS _ _ h

def m_e_szNetNet (x : GNet) (left : Int) : Option Int := (m_szNetTaskS x.tasks left).bind fun x1 => (if decide (x1 < 0) = true then (some (-1)) else (some x1))
def k_e_szNetNet : Con := ⟨31, [.v (.s .net) false, .v .I false], [(.I, true)], [], fun x => m_e_szNetNet x.1 x.2.1⟩
def f_e_szNetNet : Fs := ⟨[k_szNetTaskS], []⟩
theorem g_e_szNetNet : f_e_szNetNet.Ok Try.prog := (fsK o_szNetTaskS fs0)
theorem o_e_szNetNet : k_e_szNetNet.Ok Try.prog := fn_ok (k := k_e_szNetNet) (fn := Try.f31) (W := []) (H := []) Try.func31 g_e_szNetNet trivial rfl rfl (fun av x => by kernel_rfl)
noncomputable def m_szNetNet (x : GNet) (left : Int) : Option Int := @gd ((0 ≤ left) ∧ (left ≤ 1048576) ∧ (GNet.lens (· ≤ 9223372036854775807) x)) (Classical.propDecidable _) _ (some (szR left (GNet.W x)))
theorem c_szNetNet (x : GNet) (left : Int) (h : (0 ≤ left) ∧ (left ≤ 1048576) ∧ (GNet.lens (· ≤ 9223372036854775807) x)) : m_szNetNet x left = some (szR left (GNet.W x)) := gdC h
theorem s_szNetNet (x : GNet) (left : Int) (h : (0 ≤ left) ∧ (left ≤ 1048576) ∧ (GNet.lens (· ≤ 9223372036854775807) x)) : m_e_szNetNet x left = some (szR left (GNet.W x)) := by
  have e : GNet.W x = ((x.tasks.length + sumW GTask.W x.tasks) + 0) := by simp only [GNet.W]; omega
  rw [e]
  have g1 := h.1
  have g2 := h.2.1
  unfold m_e_szNetNet
  rw [c_szNetTaskS _ _ ⟨g1, g2, h.2.2.1, h.2.2.2⟩]; refine sz_step g1 g2 fun left g1 g2 => ?_
  exact szR_zero g1
noncomputable def k_szNetNet : Con := ⟨31, [.v (.s .net) false, .v .I false], [(.I, true)], [], fun x => m_szNetNet x.1 x.2.1⟩
theorem o_szNetNet : k_szNetNet.Ok Try.prog := con_sub o_e_szNetNet fun x z hz => by
  obtain ⟨h, e⟩ := gdC_some hz
  subst e
  exact s_szNetNet _ _ h

def m_e_szCasItemS (l : List GItem) (left : Int) : Option Int := gd (ok64 (left - (l.length : Int))) (if decide ((left - (l.length : Int)) < 0) = true then (some (-1)) else (some (left - (l.length : Int))))
def k_e_szCasItemS : Con := ⟨73, [.v (.sl (.s .item)) false, .v .I false], [(.I, true)], [], fun x => m_e_szCasItemS x.1 x.2.1⟩
def f_e_szCasItemS : Fs := ⟨[], []⟩
theorem g_e_szCasItemS : f_e_szCasItemS.Ok Try.prog := fs0
theorem o_e_szCasItemS : k_e_szCasItemS.Ok Try.prog := fn_ok (k := k_e_szCasItemS) (fn := Try.f73) (W := []) (H := []) Try.func73 g_e_szCasItemS trivial rfl rfl (fun av x => by kernel_rfl)
noncomputable def m_szCasItemS (l : List GItem) (left : Int) : Option Int := @gd ((0 ≤ left) ∧ (left ≤ 1048576) ∧ (l.length ≤ 9223372036854775807)) (Classical.propDecidable _) _ (some (szR left l.length))
theorem c_szCasItemS (l : List GItem) (left : Int) (h : (0 ≤ left) ∧ (left ≤ 1048576) ∧ (l.length ≤ 9223372036854775807)) : m_szCasItemS l left = some (szR left l.length) := gdC h
theorem s_szCasItemS (l : List GItem) (left : Int) (h : (0 ≤ left) ∧ (left ≤ 1048576) ∧ (l.length ≤ 9223372036854775807)) : m_e_szCasItemS l left = some (szR left l.length) := by
  exact sz_flat h.1 h.2.1 h.2.2
noncomputable def k_szCasItemS : Con := ⟨73, [.v (.sl (.s .item)) false, .v .I false], [(.I, true)], [], fun x => m_szCasItemS x.1 x.2.1⟩
theorem o_szCasItemS : k_szCasItemS.Ok Try.prog := con_sub o_e_szCasItemS fun x z hz => by
  obtain ⟨h, e⟩ := gdC_some hz
  subst e
  exact s_szCasItemS _ _ h

def m_e_szCasDidS (l : List GDid) (left : Int) : Option Int := gd (ok64 (left - (l.length : Int))) (if decide ((left - (l.length : Int)) < 0) = true then (some (-1)) else (some (left - (l.length : Int))))
def k_e_szCasDidS : Con := ⟨74, [.v (.sl (.s .did)) false, .v .I false], [(.I, true)], [], fun x => m_e_szCasDidS x.1 x.2.1⟩
def f_e_szCasDidS : Fs := ⟨[], []⟩
theorem g_e_szCasDidS : f_e_szCasDidS.Ok Try.prog := fs0
theorem o_e_szCasDidS : k_e_szCasDidS.Ok Try.prog := fn_ok (k := k_e_szCasDidS) (fn := Try.f74) (W := []) (H := []) Try.func74 g_e_szCasDidS trivial rfl rfl (fun av x => by kernel_rfl)
noncomputable def m_szCasDidS (l : List GDid) (left : Int) : Option Int := @gd ((0 ≤ left) ∧ (left ≤ 1048576) ∧ (l.length ≤ 9223372036854775807)) (Classical.propDecidable _) _ (some (szR left l.length))
theorem c_szCasDidS (l : List GDid) (left : Int) (h : (0 ≤ left) ∧ (left ≤ 1048576) ∧ (l.length ≤ 9223372036854775807)) : m_szCasDidS l left = some (szR left l.length) := gdC h
theorem s_szCasDidS (l : List GDid) (left : Int) (h : (0 ≤ left) ∧ (left ≤ 1048576) ∧ (l.length ≤ 9223372036854775807)) : m_e_szCasDidS l left = some (szR left l.length) := by
  exact sz_flat h.1 h.2.1 h.2.2
noncomputable def k_szCasDidS : Con := ⟨74, [.v (.sl (.s .did)) false, .v .I false], [(.I, true)], [], fun x => m_szCasDidS x.1 x.2.1⟩
theorem o_szCasDidS : k_szCasDidS.Ok Try.prog := con_sub o_e_szCasDidS fun x z hz => by
  obtain ⟨h, e⟩ := gdC_some hz
  subst e
  exact s_szCasDidS _ _ h

def m_e_szCasCase (x : GCase) (left : Int) : Option Int := (m_szIntS x.marks left).bind fun x1 => (if decide (x1 < 0) = true then (some (-1)) else ((m_szCasItemS x.busy x1).bind fun x3 => (if decide (x3 < 0) = true then (some (-1)) else ((m_szIntS x.data x3).bind fun x5 => (if decide (x5 < 0) = true then (some (-1)) else ((m_szCasDidS x.did x5).bind fun x7 => (if decide (x7 < 0) = true then (some (-1)) else (some x7))))))))
def k_e_szCasCase : Con := ⟨32, [.v (.s .kase) false, .v .I false], [(.I, true)], [], fun x => m_e_szCasCase x.1 x.2.1⟩
def f_e_szCasCase : Fs := ⟨[k_szIntS, k_szCasItemS, k_szCasDidS], []⟩
theorem g_e_szCasCase : f_e_szCasCase.Ok Try.prog := (fsK o_szIntS (fsK o_szCasItemS (fsK o_szCasDidS fs0)))
theorem o_e_szCasCase : k_e_szCasCase.Ok Try.prog := fn_ok (k := k_e_szCasCase) (fn := Try.f32) (W := []) (H := []) Try.func32 g_e_szCasCase trivial rfl rfl (fun av x => by kernel_rfl)
noncomputable def m_szCasCase (x : GCase) (left : Int) : Option Int := @gd ((0 ≤ left) ∧ (left ≤ 1048576) ∧ (GCase.lens (· ≤ 9223372036854775807) x)) (Classical.propDecidable _) _ (some (szR left (GCase.W x)))
theorem c_szCasCase (x : GCase) (left : Int) (h : (0 ≤ left) ∧ (left ≤ 1048576) ∧ (GCase.lens (· ≤ 9223372036854775807) x)) : m_szCasCase x left = some (szR left (GCase.W x)) := gdC h
theorem s_szCasCase (x : GCase) (left : Int) (h : (0 ≤ left) ∧ (left ≤ 1048576) ∧ (GCase.lens (· ≤ 9223372036854775807) x)) : m_e_szCasCase x left = some (szR left (GCase.W x)) := by
  have e : GCase.W x = (x.marks.length + (x.busy.length + (x.data.length + (x.did.length + 0)))) := by simp only [GCase.W]; omega
  rw [e]
  have g1 := h.1
  have g2 := h.2.1
  unfold m_e_szCasCase
  rw [c_szIntS _ _ ⟨g1, g2, h.2.2.1⟩]; refine sz_step g1 g2 fun left g1 g2 => ?_
  rw [c_szCasItemS _ _ ⟨g1, g2, h.2.2.2.1⟩]; refine sz_step g1 g2 fun left g1 g2 => ?_
  rw [c_szIntS _ _ ⟨g1, g2, h.2.2.2.2.1⟩]; refine sz_step g1 g2 fun left g1 g2 => ?_
  rw [c_szCasDidS _ _ ⟨g1, g2, h.2.2.2.2.2⟩]; refine sz_step g1 g2 fun left g1 g2 => ?_
  exact szR_zero g1
noncomputable def k_szCasCase : Con := ⟨32, [.v (.s .kase) false, .v .I false], [(.I, true)], [], fun x => m_szCasCase x.1 x.2.1⟩
theorem o_szCasCase : k_szCasCase.Ok Try.prog := con_sub o_e_szCasCase fun x z hz => by
  obtain ⟨h, e⟩ := gdC_some hz
  subst e
  exact s_szCasCase _ _ h

def m_e_toIntS_k1 (l0_1 : List Int) : Option (List Int) := some l0_1
def m_e_toIntS_l0 (l : List Int) (kx0_0 : List Int → Option (List Int)) : Nat → Int → List Int → Option (List Int)
  | 0, _, _ => none
  | n0 + 1, s0_0, l0_1 => if decide (s0_0 < (l.length : Int)) = true then ((getI l s0_0).bind fun x3 => ((getI l0_1 s0_0).bind fun x4 => (gd (ok64 (s0_0 + 1)) ((m_e_toIntS_l0 l kx0_0 n0) (s0_0 + 1) (l0_1.set s0_0.toNat x3))))) else (kx0_0 l0_1)
def m_e_toIntS (l : List Int) : Option (List Int) := gd ((0 : Int) ≤ (l.length : Int) ∧ (l.length : Int) ≤ (1000000000 : Int)) (m_e_toIntS_l0 l m_e_toIntS_k1 FUEL 0 (List.replicate (l.length : Int).toNat (0 : Int)))
def k_e_toIntS : Con := ⟨63, [.v (.sl .I) false], [((.sl .I), true)], [], fun x => m_e_toIntS x.1⟩
def f_e_toIntS : Fs := ⟨[], []⟩
theorem g_e_toIntS : f_e_toIntS.Ok Try.prog := fs0
def t_e_toIntS_0 : Tmpl := ⟨[(0, .c (.s .I)), (3, .c (.ref 7)), (4, .c .i)], [(7, .arr .I true)]⟩
def x0_e_toIntS_0 : Tmpl := ⟨[(3, .c (.ref 7))], [(7, .arr .I true)]⟩
def L_e_toIntS_0 (av : AV) (x : HP k_e_toIntS.ps) (n : Nat) (v : t_e_toIntS_0.den) (K : Ks (CR k_e_toIntS)) : Option (CR k_e_toIntS) := m_e_toIntS_l0 v.1.1 (fun l0_1 => x0_e_toIntS_0.at none (((), ()), (l0_1, ())) (K (.exit 0))) n v.1.2.2.1 v.2.1
def h_e_toIntS_0 (av : AV) (x : HP k_e_toIntS.ps) : Hdl (CR k_e_toIntS) := hnd [] t_e_toIntS_0 (L_e_toIntS_0 av x)
theorem l_e_toIntS_0 : LP k_e_toIntS Try.f63 [0] h_e_toIntS_0 := lp_ok (W := []) (H := []) (xs := [x0_e_toIntS_0]) g_e_toIntS trivial rfl (fun av x v K => by kernel_rfl) (fun av x n v K => by kernel_rfl)
theorem o_e_toIntS : k_e_toIntS.Ok Try.prog := fn_ok (k := k_e_toIntS) (fn := Try.f63) (W := []) (H := [h_e_toIntS_0]) Try.func63 g_e_toIntS ⟨l_e_toIntS_0, trivial⟩ rfl rfl (fun av x => by kernel_rfl)
noncomputable def m_toIntS (l : List Int) : Option (List Int) := @gd ((l.length ≤ 1048576)) (Classical.propDecidable _) _ (some l)
theorem c_toIntS (l : List Int) (h : (l.length ≤ 1048576)) : m_toIntS l = some l := gdC h
theorem s_toIntS (l : List Int) (h : (l.length ≤ 1048576)) : m_e_toIntS l = some l := by
  refine (gd_pos (toOk h)).trans ?_
  have hl := h
  refine to_gen (f := m_e_toIntS_l0 l m_e_toIntS_k1) (by omega) (fun n i acc hi ha => ?_) (fun n acc => ?_)
  · rw [m_e_toIntS_l0, if_pos (decide_eq_true (Int.ofNat_lt.2 hi)), getI_lt hi, Option.bind_some, getI_lt (by omega), Option.bind_some, gd_pos (ok64i hi h)]; rfl
  · rw [m_e_toIntS_l0, if_neg (by simp)]; rfl
noncomputable def k_toIntS : Con := ⟨63, [.v (.sl .I) false], [((.sl .I), true)], [], fun x => m_toIntS x.1⟩
theorem o_toIntS : k_toIntS.Ok Try.prog := con_sub o_e_toIntS fun x z hz => by
  obtain ⟨h, e⟩ := gdC_some hz
  subst e
  exact s_toIntS _ h

def m_e_toExpAsk (x : GAsk) : Option GAsk := some x
def k_e_toExpAsk : Con := ⟨99, [.v (.s .ask) false], [((.s .ask), true)], [], fun x => m_e_toExpAsk x.1⟩
def f_e_toExpAsk : Fs := ⟨[], []⟩
theorem g_e_toExpAsk : f_e_toExpAsk.Ok Try.prog := fs0
theorem o_e_toExpAsk : k_e_toExpAsk.Ok Try.prog := fn_ok (k := k_e_toExpAsk) (fn := Try.f99) (W := []) (H := []) Try.func99 g_e_toExpAsk trivial rfl rfl (fun av x => by kernel_rfl)
noncomputable def m_toExpAsk (x : GAsk) : Option GAsk := @gd (True) (Classical.propDecidable _) _ (some x)
theorem c_toExpAsk (x : GAsk) (h : True) : m_toExpAsk x = some x := gdC h
theorem s_toExpAsk (x : GAsk) (h : True) : m_e_toExpAsk x = some x := by
  rfl
noncomputable def k_toExpAsk : Con := ⟨99, [.v (.s .ask) false], [((.s .ask), true)], [], fun x => m_toExpAsk x.1⟩
theorem o_toExpAsk : k_toExpAsk.Ok Try.prog := con_sub o_e_toExpAsk fun x z hz => by
  obtain ⟨h, e⟩ := gdC_some hz
  subst e
  exact s_toExpAsk _ h

def m_e_toNetFlow (x : GFlow) : Option GFlow := (m_toExpAsk x.if_).bind fun x1 => (some (GFlow.mk x.to x1))
def k_e_toNetFlow : Con := ⟨146, [.v (.s .flow) false], [((.s .flow), true)], [], fun x => m_e_toNetFlow x.1⟩
def f_e_toNetFlow : Fs := ⟨[k_toExpAsk], []⟩
theorem g_e_toNetFlow : f_e_toNetFlow.Ok Try.prog := (fsK o_toExpAsk fs0)
theorem o_e_toNetFlow : k_e_toNetFlow.Ok Try.prog := fn_ok (k := k_e_toNetFlow) (fn := Try.f146) (W := []) (H := []) Try.func146 g_e_toNetFlow trivial rfl rfl (fun av x => by kernel_rfl)
noncomputable def m_toNetFlow (x : GFlow) : Option GFlow := @gd (True) (Classical.propDecidable _) _ (some x)
theorem c_toNetFlow (x : GFlow) (h : True) : m_toNetFlow x = some x := gdC h
theorem s_toNetFlow (x : GFlow) (h : True) : m_e_toNetFlow x = some x := by
  rw [m_e_toNetFlow, c_toExpAsk _ trivial, Option.bind_some]
noncomputable def k_toNetFlow : Con := ⟨146, [.v (.s .flow) false], [((.s .flow), true)], [], fun x => m_toNetFlow x.1⟩
theorem o_toNetFlow : k_toNetFlow.Ok Try.prog := con_sub o_e_toNetFlow fun x z hz => by
  obtain ⟨h, e⟩ := gdC_some hz
  subst e
  exact s_toNetFlow _ h

def m_e_toNetFlowS_k1 (l0_1 : List GFlow) : Option (List GFlow) := some l0_1
def m_e_toNetFlowS_l0 (l : List GFlow) (kx0_0 : List GFlow → Option (List GFlow)) : Nat → Int → List GFlow → Option (List GFlow)
  | 0, _, _ => none
  | n0 + 1, s0_0, l0_1 => if decide (s0_0 < (l.length : Int)) = true then ((getI l s0_0).bind fun x3 => ((m_toNetFlow x3).bind fun x4 => ((getI l0_1 s0_0).bind fun x5 => (gd (ok64 (s0_0 + 1)) ((m_e_toNetFlowS_l0 l kx0_0 n0) (s0_0 + 1) (l0_1.set s0_0.toNat x4)))))) else (kx0_0 l0_1)
def m_e_toNetFlowS (l : List GFlow) : Option (List GFlow) := gd ((0 : Int) ≤ (l.length : Int) ∧ (l.length : Int) ≤ (1000000000 : Int)) (m_e_toNetFlowS_l0 l m_e_toNetFlowS_k1 FUEL 0 (List.replicate (l.length : Int).toNat GFlow.zero))
def k_e_toNetFlowS : Con := ⟨139, [.v (.sl (.s .flow)) false], [((.sl (.s .flow)), true)], [], fun x => m_e_toNetFlowS x.1⟩
def f_e_toNetFlowS : Fs := ⟨[k_toNetFlow], []⟩
theorem g_e_toNetFlowS : f_e_toNetFlowS.Ok Try.prog := (fsK o_toNetFlow fs0)
def t_e_toNetFlowS_0 : Tmpl := ⟨[(0, .c (.s (.s .flow))), (3, .c (.ref 7)), (4, .c .i)], [(7, .arr (.s .flow) true)]⟩
def x0_e_toNetFlowS_0 : Tmpl := ⟨[(3, .c (.ref 7))], [(7, .arr (.s .flow) true)]⟩
def L_e_toNetFlowS_0 (av : AV) (x : HP k_e_toNetFlowS.ps) (n : Nat) (v : t_e_toNetFlowS_0.den) (K : Ks (CR k_e_toNetFlowS)) : Option (CR k_e_toNetFlowS) := m_e_toNetFlowS_l0 v.1.1 (fun l0_1 => x0_e_toNetFlowS_0.at none (((), ()), (l0_1, ())) (K (.exit 0))) n v.1.2.2.1 v.2.1
def h_e_toNetFlowS_0 (av : AV) (x : HP k_e_toNetFlowS.ps) : Hdl (CR k_e_toNetFlowS) := hnd [] t_e_toNetFlowS_0 (L_e_toNetFlowS_0 av x)
theorem l_e_toNetFlowS_0 : LP k_e_toNetFlowS Try.f139 [0] h_e_toNetFlowS_0 := lp_ok (W := []) (H := []) (xs := [x0_e_toNetFlowS_0]) g_e_toNetFlowS trivial rfl (fun av x v K => by kernel_rfl) (fun av x n v K => by kernel_rfl)
theorem o_e_toNetFlowS : k_e_toNetFlowS.Ok Try.prog := fn_ok (k := k_e_toNetFlowS) (fn := Try.f139) (W := []) (H := [h_e_toNetFlowS_0]) Try.func139 g_e_toNetFlowS ⟨l_e_toNetFlowS_0, trivial⟩ rfl rfl (fun av x => by kernel_rfl)
noncomputable def m_toNetFlowS (l : List GFlow) : Option (List GFlow) := @gd ((l.length ≤ 1048576)) (Classical.propDecidable _) _ (some l)
theorem c_toNetFlowS (l : List GFlow) (h : (l.length ≤ 1048576)) : m_toNetFlowS l = some l := gdC h
theorem s_toNetFlowS (l : List GFlow) (h : (l.length ≤ 1048576)) : m_e_toNetFlowS l = some l := by
  refine (gd_pos (toOk h)).trans ?_
  have hl := h
  refine to_gen (f := m_e_toNetFlowS_l0 l m_e_toNetFlowS_k1) (by omega) (fun n i acc hi ha => ?_) (fun n acc => ?_)
  · rw [m_e_toNetFlowS_l0, if_pos (decide_eq_true (Int.ofNat_lt.2 hi)), getI_lt hi, Option.bind_some, c_toNetFlow _ trivial, Option.bind_some, getI_lt (by omega), Option.bind_some, gd_pos (ok64i hi h)]; rfl
  · rw [m_e_toNetFlowS_l0, if_neg (by simp)]; rfl
noncomputable def k_toNetFlowS : Con := ⟨139, [.v (.sl (.s .flow)) false], [((.sl (.s .flow)), true)], [], fun x => m_toNetFlowS x.1⟩
theorem o_toNetFlowS : k_toNetFlowS.Ok Try.prog := con_sub o_e_toNetFlowS fun x z hz => by
  obtain ⟨h, e⟩ := gdC_some hz
  subst e
  exact s_toNetFlowS _ h

def m_e_toNetTask (x : GTask) : Option GTask := (m_toIntS x.in_).bind fun x1 => ((m_toNetFlowS x.out).bind fun x2 => ((m_toIntS x.clear).bind fun x3 => (some (GTask.mk x.join x.split x1 x2 x3 x.role x.apart x.all x.need))))
def k_e_toNetTask : Con := ⟨120, [.v (.s .task) false], [((.s .task), true)], [], fun x => m_e_toNetTask x.1⟩
def f_e_toNetTask : Fs := ⟨[k_toIntS, k_toNetFlowS], []⟩
theorem g_e_toNetTask : f_e_toNetTask.Ok Try.prog := (fsK o_toIntS (fsK o_toNetFlowS fs0))
theorem o_e_toNetTask : k_e_toNetTask.Ok Try.prog := fn_ok (k := k_e_toNetTask) (fn := Try.f120) (W := []) (H := []) Try.func120 g_e_toNetTask trivial rfl rfl (fun av x => by kernel_rfl)
noncomputable def m_toNetTask (x : GTask) : Option GTask := @gd ((GTask.lens (· ≤ 1048576) x)) (Classical.propDecidable _) _ (some x)
theorem c_toNetTask (x : GTask) (h : (GTask.lens (· ≤ 1048576) x)) : m_toNetTask x = some x := gdC h
theorem s_toNetTask (x : GTask) (h : (GTask.lens (· ≤ 1048576) x)) : m_e_toNetTask x = some x := by
  rw [m_e_toNetTask, c_toIntS _ h.1, Option.bind_some, c_toNetFlowS _ h.2.1, Option.bind_some, c_toIntS _ h.2.2, Option.bind_some]
noncomputable def k_toNetTask : Con := ⟨120, [.v (.s .task) false], [((.s .task), true)], [], fun x => m_toNetTask x.1⟩
theorem o_toNetTask : k_toNetTask.Ok Try.prog := con_sub o_e_toNetTask fun x z hz => by
  obtain ⟨h, e⟩ := gdC_some hz
  subst e
  exact s_toNetTask _ h

def m_e_toNetTaskS_k1 (l0_1 : List GTask) : Option (List GTask) := some l0_1
def m_e_toNetTaskS_l0 (l : List GTask) (kx0_0 : List GTask → Option (List GTask)) : Nat → Int → List GTask → Option (List GTask)
  | 0, _, _ => none
  | n0 + 1, s0_0, l0_1 => if decide (s0_0 < (l.length : Int)) = true then ((getI l s0_0).bind fun x3 => ((m_toNetTask x3).bind fun x4 => ((getI l0_1 s0_0).bind fun x5 => (gd (ok64 (s0_0 + 1)) ((m_e_toNetTaskS_l0 l kx0_0 n0) (s0_0 + 1) (l0_1.set s0_0.toNat x4)))))) else (kx0_0 l0_1)
def m_e_toNetTaskS (l : List GTask) : Option (List GTask) := gd ((0 : Int) ≤ (l.length : Int) ∧ (l.length : Int) ≤ (1000000000 : Int)) (m_e_toNetTaskS_l0 l m_e_toNetTaskS_k1 FUEL 0 (List.replicate (l.length : Int).toNat GTask.zero))
def k_e_toNetTaskS : Con := ⟨76, [.v (.sl (.s .task)) false], [((.sl (.s .task)), true)], [], fun x => m_e_toNetTaskS x.1⟩
def f_e_toNetTaskS : Fs := ⟨[k_toNetTask], []⟩
theorem g_e_toNetTaskS : f_e_toNetTaskS.Ok Try.prog := (fsK o_toNetTask fs0)
def t_e_toNetTaskS_0 : Tmpl := ⟨[(0, .c (.s (.s .task))), (3, .c (.ref 7)), (4, .c .i)], [(7, .arr (.s .task) true)]⟩
def x0_e_toNetTaskS_0 : Tmpl := ⟨[(3, .c (.ref 7))], [(7, .arr (.s .task) true)]⟩
def L_e_toNetTaskS_0 (av : AV) (x : HP k_e_toNetTaskS.ps) (n : Nat) (v : t_e_toNetTaskS_0.den) (K : Ks (CR k_e_toNetTaskS)) : Option (CR k_e_toNetTaskS) := m_e_toNetTaskS_l0 v.1.1 (fun l0_1 => x0_e_toNetTaskS_0.at none (((), ()), (l0_1, ())) (K (.exit 0))) n v.1.2.2.1 v.2.1
def h_e_toNetTaskS_0 (av : AV) (x : HP k_e_toNetTaskS.ps) : Hdl (CR k_e_toNetTaskS) := hnd [] t_e_toNetTaskS_0 (L_e_toNetTaskS_0 av x)
theorem l_e_toNetTaskS_0 : LP k_e_toNetTaskS Try.f76 [0] h_e_toNetTaskS_0 := lp_ok (W := []) (H := []) (xs := [x0_e_toNetTaskS_0]) g_e_toNetTaskS trivial rfl (fun av x v K => by kernel_rfl) (fun av x n v K => by kernel_rfl)
theorem o_e_toNetTaskS : k_e_toNetTaskS.Ok Try.prog := fn_ok (k := k_e_toNetTaskS) (fn := Try.f76) (W := []) (H := [h_e_toNetTaskS_0]) Try.func76 g_e_toNetTaskS ⟨l_e_toNetTaskS_0, trivial⟩ rfl rfl (fun av x => by kernel_rfl)
noncomputable def m_toNetTaskS (l : List GTask) : Option (List GTask) := @gd ((l.length ≤ 1048576) ∧ (∀ y ∈ l, GTask.lens (· ≤ 1048576) y)) (Classical.propDecidable _) _ (some l)
theorem c_toNetTaskS (l : List GTask) (h : (l.length ≤ 1048576) ∧ (∀ y ∈ l, GTask.lens (· ≤ 1048576) y)) : m_toNetTaskS l = some l := gdC h
theorem s_toNetTaskS (l : List GTask) (h : (l.length ≤ 1048576) ∧ (∀ y ∈ l, GTask.lens (· ≤ 1048576) y)) : m_e_toNetTaskS l = some l := by
  refine (gd_pos (toOk h.1)).trans ?_
  have hl := h.1
  refine to_gen (f := m_e_toNetTaskS_l0 l m_e_toNetTaskS_k1) (by omega) (fun n i acc hi ha => ?_) (fun n acc => ?_)
  · rw [m_e_toNetTaskS_l0, if_pos (decide_eq_true (Int.ofNat_lt.2 hi)), getI_lt hi, Option.bind_some, c_toNetTask _ (h.2 _ (List.getElem_mem _)), Option.bind_some, getI_lt (by omega), Option.bind_some, gd_pos (ok64i hi h.1)]; rfl
  · rw [m_e_toNetTaskS_l0, if_neg (by simp)]; rfl
noncomputable def k_toNetTaskS : Con := ⟨76, [.v (.sl (.s .task)) false], [((.sl (.s .task)), true)], [], fun x => m_toNetTaskS x.1⟩
theorem o_toNetTaskS : k_toNetTaskS.Ok Try.prog := con_sub o_e_toNetTaskS fun x z hz => by
  obtain ⟨h, e⟩ := gdC_some hz
  subst e
  exact s_toNetTaskS _ h

def m_e_toNetNet (x : GNet) : Option GNet := (m_toNetTaskS x.tasks).bind fun x1 => (some (GNet.mk x.places x1))
def k_e_toNetNet : Con := ⟨34, [.v (.s .net) false], [((.s .net), true)], [], fun x => m_e_toNetNet x.1⟩
def f_e_toNetNet : Fs := ⟨[k_toNetTaskS], []⟩
theorem g_e_toNetNet : f_e_toNetNet.Ok Try.prog := (fsK o_toNetTaskS fs0)
theorem o_e_toNetNet : k_e_toNetNet.Ok Try.prog := fn_ok (k := k_e_toNetNet) (fn := Try.f34) (W := []) (H := []) Try.func34 g_e_toNetNet trivial rfl rfl (fun av x => by kernel_rfl)
noncomputable def m_toNetNet (x : GNet) : Option GNet := @gd ((GNet.lens (· ≤ 1048576) x)) (Classical.propDecidable _) _ (some x)
theorem c_toNetNet (x : GNet) (h : (GNet.lens (· ≤ 1048576) x)) : m_toNetNet x = some x := gdC h
theorem s_toNetNet (x : GNet) (h : (GNet.lens (· ≤ 1048576) x)) : m_e_toNetNet x = some x := by
  rw [m_e_toNetNet, c_toNetTaskS _ ⟨h.1, h.2⟩, Option.bind_some]
noncomputable def k_toNetNet : Con := ⟨34, [.v (.s .net) false], [((.s .net), true)], [], fun x => m_toNetNet x.1⟩
theorem o_toNetNet : k_toNetNet.Ok Try.prog := con_sub o_e_toNetNet fun x z hz => by
  obtain ⟨h, e⟩ := gdC_some hz
  subst e
  exact s_toNetNet _ h

def m_e_toCasItem (x : GItem) : Option GItem := some x
def k_e_toCasItem : Con := ⟨121, [.v (.s .item) false], [((.s .item), true)], [], fun x => m_e_toCasItem x.1⟩
def f_e_toCasItem : Fs := ⟨[], []⟩
theorem g_e_toCasItem : f_e_toCasItem.Ok Try.prog := fs0
theorem o_e_toCasItem : k_e_toCasItem.Ok Try.prog := fn_ok (k := k_e_toCasItem) (fn := Try.f121) (W := []) (H := []) Try.func121 g_e_toCasItem trivial rfl rfl (fun av x => by kernel_rfl)
noncomputable def m_toCasItem (x : GItem) : Option GItem := @gd (True) (Classical.propDecidable _) _ (some x)
theorem c_toCasItem (x : GItem) (h : True) : m_toCasItem x = some x := gdC h
theorem s_toCasItem (x : GItem) (h : True) : m_e_toCasItem x = some x := by
  rfl
noncomputable def k_toCasItem : Con := ⟨121, [.v (.s .item) false], [((.s .item), true)], [], fun x => m_toCasItem x.1⟩
theorem o_toCasItem : k_toCasItem.Ok Try.prog := con_sub o_e_toCasItem fun x z hz => by
  obtain ⟨h, e⟩ := gdC_some hz
  subst e
  exact s_toCasItem _ h

def m_e_toCasItemS_k1 (l0_1 : List GItem) : Option (List GItem) := some l0_1
def m_e_toCasItemS_l0 (l : List GItem) (kx0_0 : List GItem → Option (List GItem)) : Nat → Int → List GItem → Option (List GItem)
  | 0, _, _ => none
  | n0 + 1, s0_0, l0_1 => if decide (s0_0 < (l.length : Int)) = true then ((getI l s0_0).bind fun x3 => ((m_toCasItem x3).bind fun x4 => ((getI l0_1 s0_0).bind fun x5 => (gd (ok64 (s0_0 + 1)) ((m_e_toCasItemS_l0 l kx0_0 n0) (s0_0 + 1) (l0_1.set s0_0.toNat x4)))))) else (kx0_0 l0_1)
def m_e_toCasItemS (l : List GItem) : Option (List GItem) := gd ((0 : Int) ≤ (l.length : Int) ∧ (l.length : Int) ≤ (1000000000 : Int)) (m_e_toCasItemS_l0 l m_e_toCasItemS_k1 FUEL 0 (List.replicate (l.length : Int).toNat GItem.zero))
def k_e_toCasItemS : Con := ⟨77, [.v (.sl (.s .item)) false], [((.sl (.s .item)), true)], [], fun x => m_e_toCasItemS x.1⟩
def f_e_toCasItemS : Fs := ⟨[k_toCasItem], []⟩
theorem g_e_toCasItemS : f_e_toCasItemS.Ok Try.prog := (fsK o_toCasItem fs0)
def t_e_toCasItemS_0 : Tmpl := ⟨[(0, .c (.s (.s .item))), (3, .c (.ref 7)), (4, .c .i)], [(7, .arr (.s .item) true)]⟩
def x0_e_toCasItemS_0 : Tmpl := ⟨[(3, .c (.ref 7))], [(7, .arr (.s .item) true)]⟩
def L_e_toCasItemS_0 (av : AV) (x : HP k_e_toCasItemS.ps) (n : Nat) (v : t_e_toCasItemS_0.den) (K : Ks (CR k_e_toCasItemS)) : Option (CR k_e_toCasItemS) := m_e_toCasItemS_l0 v.1.1 (fun l0_1 => x0_e_toCasItemS_0.at none (((), ()), (l0_1, ())) (K (.exit 0))) n v.1.2.2.1 v.2.1
def h_e_toCasItemS_0 (av : AV) (x : HP k_e_toCasItemS.ps) : Hdl (CR k_e_toCasItemS) := hnd [] t_e_toCasItemS_0 (L_e_toCasItemS_0 av x)
theorem l_e_toCasItemS_0 : LP k_e_toCasItemS Try.f77 [0] h_e_toCasItemS_0 := lp_ok (W := []) (H := []) (xs := [x0_e_toCasItemS_0]) g_e_toCasItemS trivial rfl (fun av x v K => by kernel_rfl) (fun av x n v K => by kernel_rfl)
theorem o_e_toCasItemS : k_e_toCasItemS.Ok Try.prog := fn_ok (k := k_e_toCasItemS) (fn := Try.f77) (W := []) (H := [h_e_toCasItemS_0]) Try.func77 g_e_toCasItemS ⟨l_e_toCasItemS_0, trivial⟩ rfl rfl (fun av x => by kernel_rfl)
noncomputable def m_toCasItemS (l : List GItem) : Option (List GItem) := @gd ((l.length ≤ 1048576)) (Classical.propDecidable _) _ (some l)
theorem c_toCasItemS (l : List GItem) (h : (l.length ≤ 1048576)) : m_toCasItemS l = some l := gdC h
theorem s_toCasItemS (l : List GItem) (h : (l.length ≤ 1048576)) : m_e_toCasItemS l = some l := by
  refine (gd_pos (toOk h)).trans ?_
  have hl := h
  refine to_gen (f := m_e_toCasItemS_l0 l m_e_toCasItemS_k1) (by omega) (fun n i acc hi ha => ?_) (fun n acc => ?_)
  · rw [m_e_toCasItemS_l0, if_pos (decide_eq_true (Int.ofNat_lt.2 hi)), getI_lt hi, Option.bind_some, c_toCasItem _ trivial, Option.bind_some, getI_lt (by omega), Option.bind_some, gd_pos (ok64i hi h)]; rfl
  · rw [m_e_toCasItemS_l0, if_neg (by simp)]; rfl
noncomputable def k_toCasItemS : Con := ⟨77, [.v (.sl (.s .item)) false], [((.sl (.s .item)), true)], [], fun x => m_toCasItemS x.1⟩
theorem o_toCasItemS : k_toCasItemS.Ok Try.prog := con_sub o_e_toCasItemS fun x z hz => by
  obtain ⟨h, e⟩ := gdC_some hz
  subst e
  exact s_toCasItemS _ h

def m_e_toCasDid (x : GDid) : Option GDid := some x
def k_e_toCasDid : Con := ⟨122, [.v (.s .did) false], [((.s .did), true)], [], fun x => m_e_toCasDid x.1⟩
def f_e_toCasDid : Fs := ⟨[], []⟩
theorem g_e_toCasDid : f_e_toCasDid.Ok Try.prog := fs0
theorem o_e_toCasDid : k_e_toCasDid.Ok Try.prog := fn_ok (k := k_e_toCasDid) (fn := Try.f122) (W := []) (H := []) Try.func122 g_e_toCasDid trivial rfl rfl (fun av x => by kernel_rfl)
noncomputable def m_toCasDid (x : GDid) : Option GDid := @gd (True) (Classical.propDecidable _) _ (some x)
theorem c_toCasDid (x : GDid) (h : True) : m_toCasDid x = some x := gdC h
theorem s_toCasDid (x : GDid) (h : True) : m_e_toCasDid x = some x := by
  rfl
noncomputable def k_toCasDid : Con := ⟨122, [.v (.s .did) false], [((.s .did), true)], [], fun x => m_toCasDid x.1⟩
theorem o_toCasDid : k_toCasDid.Ok Try.prog := con_sub o_e_toCasDid fun x z hz => by
  obtain ⟨h, e⟩ := gdC_some hz
  subst e
  exact s_toCasDid _ h

def m_e_toCasDidS_k1 (l0_1 : List GDid) : Option (List GDid) := some l0_1
def m_e_toCasDidS_l0 (l : List GDid) (kx0_0 : List GDid → Option (List GDid)) : Nat → Int → List GDid → Option (List GDid)
  | 0, _, _ => none
  | n0 + 1, s0_0, l0_1 => if decide (s0_0 < (l.length : Int)) = true then ((getI l s0_0).bind fun x3 => ((m_toCasDid x3).bind fun x4 => ((getI l0_1 s0_0).bind fun x5 => (gd (ok64 (s0_0 + 1)) ((m_e_toCasDidS_l0 l kx0_0 n0) (s0_0 + 1) (l0_1.set s0_0.toNat x4)))))) else (kx0_0 l0_1)
def m_e_toCasDidS (l : List GDid) : Option (List GDid) := gd ((0 : Int) ≤ (l.length : Int) ∧ (l.length : Int) ≤ (1000000000 : Int)) (m_e_toCasDidS_l0 l m_e_toCasDidS_k1 FUEL 0 (List.replicate (l.length : Int).toNat GDid.zero))
def k_e_toCasDidS : Con := ⟨78, [.v (.sl (.s .did)) false], [((.sl (.s .did)), true)], [], fun x => m_e_toCasDidS x.1⟩
def f_e_toCasDidS : Fs := ⟨[k_toCasDid], []⟩
theorem g_e_toCasDidS : f_e_toCasDidS.Ok Try.prog := (fsK o_toCasDid fs0)
def t_e_toCasDidS_0 : Tmpl := ⟨[(0, .c (.s (.s .did))), (3, .c (.ref 7)), (4, .c .i)], [(7, .arr (.s .did) true)]⟩
def x0_e_toCasDidS_0 : Tmpl := ⟨[(3, .c (.ref 7))], [(7, .arr (.s .did) true)]⟩
def L_e_toCasDidS_0 (av : AV) (x : HP k_e_toCasDidS.ps) (n : Nat) (v : t_e_toCasDidS_0.den) (K : Ks (CR k_e_toCasDidS)) : Option (CR k_e_toCasDidS) := m_e_toCasDidS_l0 v.1.1 (fun l0_1 => x0_e_toCasDidS_0.at none (((), ()), (l0_1, ())) (K (.exit 0))) n v.1.2.2.1 v.2.1
def h_e_toCasDidS_0 (av : AV) (x : HP k_e_toCasDidS.ps) : Hdl (CR k_e_toCasDidS) := hnd [] t_e_toCasDidS_0 (L_e_toCasDidS_0 av x)
theorem l_e_toCasDidS_0 : LP k_e_toCasDidS Try.f78 [0] h_e_toCasDidS_0 := lp_ok (W := []) (H := []) (xs := [x0_e_toCasDidS_0]) g_e_toCasDidS trivial rfl (fun av x v K => by kernel_rfl) (fun av x n v K => by kernel_rfl)
theorem o_e_toCasDidS : k_e_toCasDidS.Ok Try.prog := fn_ok (k := k_e_toCasDidS) (fn := Try.f78) (W := []) (H := [h_e_toCasDidS_0]) Try.func78 g_e_toCasDidS ⟨l_e_toCasDidS_0, trivial⟩ rfl rfl (fun av x => by kernel_rfl)
noncomputable def m_toCasDidS (l : List GDid) : Option (List GDid) := @gd ((l.length ≤ 1048576)) (Classical.propDecidable _) _ (some l)
theorem c_toCasDidS (l : List GDid) (h : (l.length ≤ 1048576)) : m_toCasDidS l = some l := gdC h
theorem s_toCasDidS (l : List GDid) (h : (l.length ≤ 1048576)) : m_e_toCasDidS l = some l := by
  refine (gd_pos (toOk h)).trans ?_
  have hl := h
  refine to_gen (f := m_e_toCasDidS_l0 l m_e_toCasDidS_k1) (by omega) (fun n i acc hi ha => ?_) (fun n acc => ?_)
  · rw [m_e_toCasDidS_l0, if_pos (decide_eq_true (Int.ofNat_lt.2 hi)), getI_lt hi, Option.bind_some, c_toCasDid _ trivial, Option.bind_some, getI_lt (by omega), Option.bind_some, gd_pos (ok64i hi h)]; rfl
  · rw [m_e_toCasDidS_l0, if_neg (by simp)]; rfl
noncomputable def k_toCasDidS : Con := ⟨78, [.v (.sl (.s .did)) false], [((.sl (.s .did)), true)], [], fun x => m_toCasDidS x.1⟩
theorem o_toCasDidS : k_toCasDidS.Ok Try.prog := con_sub o_e_toCasDidS fun x z hz => by
  obtain ⟨h, e⟩ := gdC_some hz
  subst e
  exact s_toCasDidS _ h

def m_e_toCasCase (x : GCase) : Option GCase := (m_toIntS x.marks).bind fun x1 => ((m_toCasItemS x.busy).bind fun x2 => ((m_toIntS x.data).bind fun x3 => ((m_toCasDidS x.did).bind fun x4 => (some (GCase.mk x.state x1 x2 x3 x4)))))
def k_e_toCasCase : Con := ⟨35, [.v (.s .kase) false], [((.s .kase), true)], [], fun x => m_e_toCasCase x.1⟩
def f_e_toCasCase : Fs := ⟨[k_toIntS, k_toCasItemS, k_toCasDidS], []⟩
theorem g_e_toCasCase : f_e_toCasCase.Ok Try.prog := (fsK o_toIntS (fsK o_toCasItemS (fsK o_toCasDidS fs0)))
theorem o_e_toCasCase : k_e_toCasCase.Ok Try.prog := fn_ok (k := k_e_toCasCase) (fn := Try.f35) (W := []) (H := []) Try.func35 g_e_toCasCase trivial rfl rfl (fun av x => by kernel_rfl)
noncomputable def m_toCasCase (x : GCase) : Option GCase := @gd ((GCase.lens (· ≤ 1048576) x)) (Classical.propDecidable _) _ (some x)
theorem c_toCasCase (x : GCase) (h : (GCase.lens (· ≤ 1048576) x)) : m_toCasCase x = some x := gdC h
theorem s_toCasCase (x : GCase) (h : (GCase.lens (· ≤ 1048576) x)) : m_e_toCasCase x = some x := by
  rw [m_e_toCasCase, c_toIntS _ h.1, Option.bind_some, c_toCasItemS _ h.2.1, Option.bind_some, c_toIntS _ h.2.2.1, Option.bind_some, c_toCasDidS _ h.2.2.2, Option.bind_some]
noncomputable def k_toCasCase : Con := ⟨35, [.v (.s .kase) false], [((.s .kase), true)], [], fun x => m_toCasCase x.1⟩
theorem o_toCasCase : k_toCasCase.Ok Try.prog := con_sub o_e_toCasCase fun x z hz => by
  obtain ⟨h, e⟩ := gdC_some hz
  subst e
  exact s_toCasCase _ h

def m_e_eqIntS_k1  : Option Bool := some true
def m_e_eqIntS_l0 (a : List Int) (b : List Int) (kx0_0 : Option Bool) : Nat → Int → Option Bool
  | 0, _ => none
  | n0 + 1, s0_0 => if decide (s0_0 < (a.length : Int)) = true then ((getI a s0_0).bind fun x3 => ((getI b s0_0).bind fun x4 => (if decide (x3 = x4) = true then (gd (ok64 (s0_0 + 1)) ((m_e_eqIntS_l0 a b kx0_0 n0) (s0_0 + 1))) else (some false)))) else (kx0_0)
def m_e_eqIntS (a : List Int) (b : List Int) : Option Bool := if decide ((a.length : Int) = (b.length : Int)) = true then (m_e_eqIntS_l0 a b m_e_eqIntS_k1 FUEL 0) else (some false)
def k_e_eqIntS : Con := ⟨26, [.v (.sl .I) false, .v (.sl .I) false], [(.B, true)], [], fun x => m_e_eqIntS x.1 x.2.1⟩
def f_e_eqIntS : Fs := ⟨[], []⟩
theorem g_e_eqIntS : f_e_eqIntS.Ok Try.prog := fs0
def t_e_eqIntS_0 : Tmpl := ⟨[(0, .c (.s .I)), (1, .c (.s .I)), (5, .c .i)], []⟩
def x0_e_eqIntS_0 : Tmpl := ⟨[], []⟩
def L_e_eqIntS_0 (av : AV) (x : HP k_e_eqIntS.ps) (n : Nat) (v : t_e_eqIntS_0.den) (K : Ks (CR k_e_eqIntS)) : Option (CR k_e_eqIntS) := m_e_eqIntS_l0 v.1.1 v.1.2.1 (x0_e_eqIntS_0.at none ((), ()) (K (.exit 0))) n v.1.2.2.1
def h_e_eqIntS_0 (av : AV) (x : HP k_e_eqIntS.ps) : Hdl (CR k_e_eqIntS) := hnd [] t_e_eqIntS_0 (L_e_eqIntS_0 av x)
theorem l_e_eqIntS_0 : LP k_e_eqIntS Try.f26 [0] h_e_eqIntS_0 := lp_ok (W := []) (H := []) (xs := [x0_e_eqIntS_0]) g_e_eqIntS trivial rfl (fun av x v K => by kernel_rfl) (fun av x n v K => by kernel_rfl)
theorem o_e_eqIntS : k_e_eqIntS.Ok Try.prog := fn_ok (k := k_e_eqIntS) (fn := Try.f26) (W := []) (H := [h_e_eqIntS_0]) Try.func26 g_e_eqIntS ⟨l_e_eqIntS_0, trivial⟩ rfl rfl (fun av x => by kernel_rfl)
noncomputable def m_eqIntS (a : List Int) (b : List Int) : Option Bool := @gd ((a.length ≤ 1048576)) (Classical.propDecidable _) _ (some (decide (a = b)))
theorem c_eqIntS (a : List Int) (b : List Int) (h : (a.length ≤ 1048576)) : m_eqIntS a b = some (decide (a = b)) := gdC h
theorem s_eqIntS (a : List Int) (b : List Int) (h : (a.length ≤ 1048576)) : m_e_eqIntS a b = some (decide (a = b)) := by
  have hl := h
  refine eq_len fun hab => eq_gen (f := m_e_eqIntS_l0 a b m_e_eqIntS_k1) (by omega) hab (fun n i hi hj => ?_) (fun n => ?_)
  · rw [m_e_eqIntS_l0, if_pos (decide_eq_true (Int.ofNat_lt.2 hi)), getI_lt hi, Option.bind_some, getI_lt hj, Option.bind_some, gd_pos (ok64i hi h)]; rfl
  · rw [m_e_eqIntS_l0, if_neg (by simp)]; rfl
noncomputable def k_eqIntS : Con := ⟨26, [.v (.sl .I) false, .v (.sl .I) false], [(.B, true)], [], fun x => m_eqIntS x.1 x.2.1⟩
theorem o_eqIntS : k_eqIntS.Ok Try.prog := con_sub o_e_eqIntS fun x z hz => by
  obtain ⟨h, e⟩ := gdC_some hz
  subst e
  exact s_eqIntS _ _ h

def m_e_eqExpAsk (x : GAsk) (y : GAsk) : Option Bool := if decide (x.op = y.op) = true then (if decide (x.var = y.var) = true then (if decide (x.k = y.k) = true then (some true) else (some false)) else (some false)) else (some false)
def k_e_eqExpAsk : Con := ⟨100, [.v (.s .ask) false, .v (.s .ask) false], [(.B, true)], [], fun x => m_e_eqExpAsk x.1 x.2.1⟩
def f_e_eqExpAsk : Fs := ⟨[], []⟩
theorem g_e_eqExpAsk : f_e_eqExpAsk.Ok Try.prog := fs0
theorem o_e_eqExpAsk : k_e_eqExpAsk.Ok Try.prog := fn_ok (k := k_e_eqExpAsk) (fn := Try.f100) (W := []) (H := []) Try.func100 g_e_eqExpAsk trivial rfl rfl (fun av x => by kernel_rfl)
noncomputable def m_eqExpAsk (x : GAsk) (y : GAsk) : Option Bool := @gd (True) (Classical.propDecidable _) _ (some (decide (x = y)))
theorem c_eqExpAsk (x : GAsk) (y : GAsk) (h : True) : m_eqExpAsk x y = some (decide (x = y)) := gdC h
theorem s_eqExpAsk (x : GAsk) (y : GAsk) (h : True) : m_e_eqExpAsk x y = some (decide (x = y)) := by
  unfold m_e_eqExpAsk
  refine (eq_step (eq_step (eq_step eq_end))).trans (congrArg some (decide_eq_decide.2 ⟨fun ⟨h0, h1, h2, _⟩ => ?_, fun h => by subst h; simp⟩))
  cases x; cases y; simp_all
noncomputable def k_eqExpAsk : Con := ⟨100, [.v (.s .ask) false, .v (.s .ask) false], [(.B, true)], [], fun x => m_eqExpAsk x.1 x.2.1⟩
theorem o_eqExpAsk : k_eqExpAsk.Ok Try.prog := con_sub o_e_eqExpAsk fun x z hz => by
  obtain ⟨h, e⟩ := gdC_some hz
  subst e
  exact s_eqExpAsk _ _ h

def m_e_eqNetFlow (x : GFlow) (y : GFlow) : Option Bool := if decide (x.to = y.to) = true then ((m_eqExpAsk x.if_ y.if_).bind fun x2 => (if x2 = true then (some true) else (some false))) else (some false)
def k_e_eqNetFlow : Con := ⟨151, [.v (.s .flow) false, .v (.s .flow) false], [(.B, true)], [], fun x => m_e_eqNetFlow x.1 x.2.1⟩
def f_e_eqNetFlow : Fs := ⟨[k_eqExpAsk], []⟩
theorem g_e_eqNetFlow : f_e_eqNetFlow.Ok Try.prog := (fsK o_eqExpAsk fs0)
theorem o_e_eqNetFlow : k_e_eqNetFlow.Ok Try.prog := fn_ok (k := k_e_eqNetFlow) (fn := Try.f151) (W := []) (H := []) Try.func151 g_e_eqNetFlow trivial rfl rfl (fun av x => by kernel_rfl)
noncomputable def m_eqNetFlow (x : GFlow) (y : GFlow) : Option Bool := @gd (True) (Classical.propDecidable _) _ (some (decide (x = y)))
theorem c_eqNetFlow (x : GFlow) (y : GFlow) (h : True) : m_eqNetFlow x y = some (decide (x = y)) := gdC h
theorem s_eqNetFlow (x : GFlow) (y : GFlow) (h : True) : m_e_eqNetFlow x y = some (decide (x = y)) := by
  rw [m_e_eqNetFlow, c_eqExpAsk _ _ trivial, Option.bind_some]
  refine (eq_step (eq_step eq_end)).trans (congrArg some (decide_eq_decide.2 ⟨fun ⟨h0, h1, _⟩ => ?_, fun h => by subst h; simp⟩))
  cases x; cases y; simp_all
noncomputable def k_eqNetFlow : Con := ⟨151, [.v (.s .flow) false, .v (.s .flow) false], [(.B, true)], [], fun x => m_eqNetFlow x.1 x.2.1⟩
theorem o_eqNetFlow : k_eqNetFlow.Ok Try.prog := con_sub o_e_eqNetFlow fun x z hz => by
  obtain ⟨h, e⟩ := gdC_some hz
  subst e
  exact s_eqNetFlow _ _ h

def m_e_eqNetFlowS_k1  : Option Bool := some true
def m_e_eqNetFlowS_l0 (a : List GFlow) (b : List GFlow) (kx0_0 : Option Bool) : Nat → Int → Option Bool
  | 0, _ => none
  | n0 + 1, s0_0 => if decide (s0_0 < (a.length : Int)) = true then ((getI a s0_0).bind fun x3 => ((getI b s0_0).bind fun x4 => ((m_eqNetFlow x3 x4).bind fun x5 => (if x5 = true then (gd (ok64 (s0_0 + 1)) ((m_e_eqNetFlowS_l0 a b kx0_0 n0) (s0_0 + 1))) else (some false))))) else (kx0_0)
def m_e_eqNetFlowS (a : List GFlow) (b : List GFlow) : Option Bool := if decide ((a.length : Int) = (b.length : Int)) = true then (m_e_eqNetFlowS_l0 a b m_e_eqNetFlowS_k1 FUEL 0) else (some false)
def k_e_eqNetFlowS : Con := ⟨142, [.v (.sl (.s .flow)) false, .v (.sl (.s .flow)) false], [(.B, true)], [], fun x => m_e_eqNetFlowS x.1 x.2.1⟩
def f_e_eqNetFlowS : Fs := ⟨[k_eqNetFlow], []⟩
theorem g_e_eqNetFlowS : f_e_eqNetFlowS.Ok Try.prog := (fsK o_eqNetFlow fs0)
def t_e_eqNetFlowS_0 : Tmpl := ⟨[(0, .c (.s (.s .flow))), (1, .c (.s (.s .flow))), (5, .c .i)], []⟩
def x0_e_eqNetFlowS_0 : Tmpl := ⟨[], []⟩
def L_e_eqNetFlowS_0 (av : AV) (x : HP k_e_eqNetFlowS.ps) (n : Nat) (v : t_e_eqNetFlowS_0.den) (K : Ks (CR k_e_eqNetFlowS)) : Option (CR k_e_eqNetFlowS) := m_e_eqNetFlowS_l0 v.1.1 v.1.2.1 (x0_e_eqNetFlowS_0.at none ((), ()) (K (.exit 0))) n v.1.2.2.1
def h_e_eqNetFlowS_0 (av : AV) (x : HP k_e_eqNetFlowS.ps) : Hdl (CR k_e_eqNetFlowS) := hnd [] t_e_eqNetFlowS_0 (L_e_eqNetFlowS_0 av x)
theorem l_e_eqNetFlowS_0 : LP k_e_eqNetFlowS Try.f142 [0] h_e_eqNetFlowS_0 := lp_ok (W := []) (H := []) (xs := [x0_e_eqNetFlowS_0]) g_e_eqNetFlowS trivial rfl (fun av x v K => by kernel_rfl) (fun av x n v K => by kernel_rfl)
theorem o_e_eqNetFlowS : k_e_eqNetFlowS.Ok Try.prog := fn_ok (k := k_e_eqNetFlowS) (fn := Try.f142) (W := []) (H := [h_e_eqNetFlowS_0]) Try.func142 g_e_eqNetFlowS ⟨l_e_eqNetFlowS_0, trivial⟩ rfl rfl (fun av x => by kernel_rfl)
noncomputable def m_eqNetFlowS (a : List GFlow) (b : List GFlow) : Option Bool := @gd ((a.length ≤ 1048576)) (Classical.propDecidable _) _ (some (decide (a = b)))
theorem c_eqNetFlowS (a : List GFlow) (b : List GFlow) (h : (a.length ≤ 1048576)) : m_eqNetFlowS a b = some (decide (a = b)) := gdC h
theorem s_eqNetFlowS (a : List GFlow) (b : List GFlow) (h : (a.length ≤ 1048576)) : m_e_eqNetFlowS a b = some (decide (a = b)) := by
  have hl := h
  refine eq_len fun hab => eq_gen (f := m_e_eqNetFlowS_l0 a b m_e_eqNetFlowS_k1) (by omega) hab (fun n i hi hj => ?_) (fun n => ?_)
  · rw [m_e_eqNetFlowS_l0, if_pos (decide_eq_true (Int.ofNat_lt.2 hi)), getI_lt hi, Option.bind_some, getI_lt hj, Option.bind_some, c_eqNetFlow _ _ trivial, Option.bind_some, gd_pos (ok64i hi h)]; rfl
  · rw [m_e_eqNetFlowS_l0, if_neg (by simp)]; rfl
noncomputable def k_eqNetFlowS : Con := ⟨142, [.v (.sl (.s .flow)) false, .v (.sl (.s .flow)) false], [(.B, true)], [], fun x => m_eqNetFlowS x.1 x.2.1⟩
theorem o_eqNetFlowS : k_eqNetFlowS.Ok Try.prog := con_sub o_e_eqNetFlowS fun x z hz => by
  obtain ⟨h, e⟩ := gdC_some hz
  subst e
  exact s_eqNetFlowS _ _ h

def m_e_eqNetTask (x : GTask) (y : GTask) : Option Bool := if decide (x.join = y.join) = true then (if decide (x.split = y.split) = true then ((m_eqIntS x.in_ y.in_).bind fun x3 => (if x3 = true then ((m_eqNetFlowS x.out y.out).bind fun x5 => (if x5 = true then ((m_eqIntS x.clear y.clear).bind fun x7 => (if x7 = true then (if decide (x.role = y.role) = true then (if decide (x.apart = y.apart) = true then (if decide (x.all = y.all) = true then (if decide (x.need = y.need) = true then (some true) else (some false)) else (some false)) else (some false)) else (some false)) else (some false))) else (some false))) else (some false))) else (some false)) else (some false)
def k_e_eqNetTask : Con := ⟨129, [.v (.s .task) false, .v (.s .task) false], [(.B, true)], [], fun x => m_e_eqNetTask x.1 x.2.1⟩
def f_e_eqNetTask : Fs := ⟨[k_eqIntS, k_eqNetFlowS], []⟩
theorem g_e_eqNetTask : f_e_eqNetTask.Ok Try.prog := (fsK o_eqIntS (fsK o_eqNetFlowS fs0))
theorem o_e_eqNetTask : k_e_eqNetTask.Ok Try.prog := fn_ok (k := k_e_eqNetTask) (fn := Try.f129) (W := []) (H := []) Try.func129 g_e_eqNetTask trivial rfl rfl (fun av x => by kernel_rfl)
noncomputable def m_eqNetTask (x : GTask) (y : GTask) : Option Bool := @gd ((GTask.lens (· ≤ 1048576) x) ∧ (GTask.lens (· ≤ 1048576) y)) (Classical.propDecidable _) _ (some (decide (x = y)))
theorem c_eqNetTask (x : GTask) (y : GTask) (h : (GTask.lens (· ≤ 1048576) x) ∧ (GTask.lens (· ≤ 1048576) y)) : m_eqNetTask x y = some (decide (x = y)) := gdC h
theorem s_eqNetTask (x : GTask) (y : GTask) (h : (GTask.lens (· ≤ 1048576) x) ∧ (GTask.lens (· ≤ 1048576) y)) : m_e_eqNetTask x y = some (decide (x = y)) := by
  rw [m_e_eqNetTask, c_eqIntS _ _ h.1.1, Option.bind_some, c_eqNetFlowS _ _ h.1.2.1, Option.bind_some, c_eqIntS _ _ h.1.2.2, Option.bind_some]
  refine (eq_step (eq_step (eq_step (eq_step (eq_step (eq_step (eq_step (eq_step (eq_step eq_end))))))))).trans (congrArg some (decide_eq_decide.2 ⟨fun ⟨h0, h1, h2, h3, h4, h5, h6, h7, h8, _⟩ => ?_, fun h => by subst h; simp⟩))
  cases x; cases y; simp_all
noncomputable def k_eqNetTask : Con := ⟨129, [.v (.s .task) false, .v (.s .task) false], [(.B, true)], [], fun x => m_eqNetTask x.1 x.2.1⟩
theorem o_eqNetTask : k_eqNetTask.Ok Try.prog := con_sub o_e_eqNetTask fun x z hz => by
  obtain ⟨h, e⟩ := gdC_some hz
  subst e
  exact s_eqNetTask _ _ h

def m_e_eqNetTaskS_k1  : Option Bool := some true
def m_e_eqNetTaskS_l0 (a : List GTask) (b : List GTask) (kx0_0 : Option Bool) : Nat → Int → Option Bool
  | 0, _ => none
  | n0 + 1, s0_0 => if decide (s0_0 < (a.length : Int)) = true then ((getI a s0_0).bind fun x3 => ((getI b s0_0).bind fun x4 => ((m_eqNetTask x3 x4).bind fun x5 => (if x5 = true then (gd (ok64 (s0_0 + 1)) ((m_e_eqNetTaskS_l0 a b kx0_0 n0) (s0_0 + 1))) else (some false))))) else (kx0_0)
def m_e_eqNetTaskS (a : List GTask) (b : List GTask) : Option Bool := if decide ((a.length : Int) = (b.length : Int)) = true then (m_e_eqNetTaskS_l0 a b m_e_eqNetTaskS_k1 FUEL 0) else (some false)
def k_e_eqNetTaskS : Con := ⟨82, [.v (.sl (.s .task)) false, .v (.sl (.s .task)) false], [(.B, true)], [], fun x => m_e_eqNetTaskS x.1 x.2.1⟩
def f_e_eqNetTaskS : Fs := ⟨[k_eqNetTask], []⟩
theorem g_e_eqNetTaskS : f_e_eqNetTaskS.Ok Try.prog := (fsK o_eqNetTask fs0)
def t_e_eqNetTaskS_0 : Tmpl := ⟨[(0, .c (.s (.s .task))), (1, .c (.s (.s .task))), (5, .c .i)], []⟩
def x0_e_eqNetTaskS_0 : Tmpl := ⟨[], []⟩
def L_e_eqNetTaskS_0 (av : AV) (x : HP k_e_eqNetTaskS.ps) (n : Nat) (v : t_e_eqNetTaskS_0.den) (K : Ks (CR k_e_eqNetTaskS)) : Option (CR k_e_eqNetTaskS) := m_e_eqNetTaskS_l0 v.1.1 v.1.2.1 (x0_e_eqNetTaskS_0.at none ((), ()) (K (.exit 0))) n v.1.2.2.1
def h_e_eqNetTaskS_0 (av : AV) (x : HP k_e_eqNetTaskS.ps) : Hdl (CR k_e_eqNetTaskS) := hnd [] t_e_eqNetTaskS_0 (L_e_eqNetTaskS_0 av x)
theorem l_e_eqNetTaskS_0 : LP k_e_eqNetTaskS Try.f82 [0] h_e_eqNetTaskS_0 := lp_ok (W := []) (H := []) (xs := [x0_e_eqNetTaskS_0]) g_e_eqNetTaskS trivial rfl (fun av x v K => by kernel_rfl) (fun av x n v K => by kernel_rfl)
theorem o_e_eqNetTaskS : k_e_eqNetTaskS.Ok Try.prog := fn_ok (k := k_e_eqNetTaskS) (fn := Try.f82) (W := []) (H := [h_e_eqNetTaskS_0]) Try.func82 g_e_eqNetTaskS ⟨l_e_eqNetTaskS_0, trivial⟩ rfl rfl (fun av x => by kernel_rfl)
noncomputable def m_eqNetTaskS (a : List GTask) (b : List GTask) : Option Bool := @gd ((a.length ≤ 1048576) ∧ (∀ y ∈ a, GTask.lens (· ≤ 1048576) y) ∧ (∀ y ∈ b, GTask.lens (· ≤ 1048576) y)) (Classical.propDecidable _) _ (some (decide (a = b)))
theorem c_eqNetTaskS (a : List GTask) (b : List GTask) (h : (a.length ≤ 1048576) ∧ (∀ y ∈ a, GTask.lens (· ≤ 1048576) y) ∧ (∀ y ∈ b, GTask.lens (· ≤ 1048576) y)) : m_eqNetTaskS a b = some (decide (a = b)) := gdC h
theorem s_eqNetTaskS (a : List GTask) (b : List GTask) (h : (a.length ≤ 1048576) ∧ (∀ y ∈ a, GTask.lens (· ≤ 1048576) y) ∧ (∀ y ∈ b, GTask.lens (· ≤ 1048576) y)) : m_e_eqNetTaskS a b = some (decide (a = b)) := by
  have hl := h.1
  refine eq_len fun hab => eq_gen (f := m_e_eqNetTaskS_l0 a b m_e_eqNetTaskS_k1) (by omega) hab (fun n i hi hj => ?_) (fun n => ?_)
  · rw [m_e_eqNetTaskS_l0, if_pos (decide_eq_true (Int.ofNat_lt.2 hi)), getI_lt hi, Option.bind_some, getI_lt hj, Option.bind_some, c_eqNetTask _ _ ⟨h.2.1 _ (List.getElem_mem _), h.2.2 _ (List.getElem_mem _)⟩, Option.bind_some, gd_pos (ok64i hi h.1)]; rfl
  · rw [m_e_eqNetTaskS_l0, if_neg (by simp)]; rfl
noncomputable def k_eqNetTaskS : Con := ⟨82, [.v (.sl (.s .task)) false, .v (.sl (.s .task)) false], [(.B, true)], [], fun x => m_eqNetTaskS x.1 x.2.1⟩
theorem o_eqNetTaskS : k_eqNetTaskS.Ok Try.prog := con_sub o_e_eqNetTaskS fun x z hz => by
  obtain ⟨h, e⟩ := gdC_some hz
  subst e
  exact s_eqNetTaskS _ _ h

def m_e_eqNetNet (x : GNet) (y : GNet) : Option Bool := if decide (x.places = y.places) = true then ((m_eqNetTaskS x.tasks y.tasks).bind fun x2 => (if x2 = true then (some true) else (some false))) else (some false)
def k_e_eqNetNet : Con := ⟨37, [.v (.s .net) false, .v (.s .net) false], [(.B, true)], [], fun x => m_e_eqNetNet x.1 x.2.1⟩
def f_e_eqNetNet : Fs := ⟨[k_eqNetTaskS], []⟩
theorem g_e_eqNetNet : f_e_eqNetNet.Ok Try.prog := (fsK o_eqNetTaskS fs0)
theorem o_e_eqNetNet : k_e_eqNetNet.Ok Try.prog := fn_ok (k := k_e_eqNetNet) (fn := Try.f37) (W := []) (H := []) Try.func37 g_e_eqNetNet trivial rfl rfl (fun av x => by kernel_rfl)
noncomputable def m_eqNetNet (x : GNet) (y : GNet) : Option Bool := @gd ((GNet.lens (· ≤ 1048576) x) ∧ (GNet.lens (· ≤ 1048576) y)) (Classical.propDecidable _) _ (some (decide (x = y)))
theorem c_eqNetNet (x : GNet) (y : GNet) (h : (GNet.lens (· ≤ 1048576) x) ∧ (GNet.lens (· ≤ 1048576) y)) : m_eqNetNet x y = some (decide (x = y)) := gdC h
theorem s_eqNetNet (x : GNet) (y : GNet) (h : (GNet.lens (· ≤ 1048576) x) ∧ (GNet.lens (· ≤ 1048576) y)) : m_e_eqNetNet x y = some (decide (x = y)) := by
  rw [m_e_eqNetNet, c_eqNetTaskS _ _ ⟨h.1.1, h.1.2, h.2.2⟩, Option.bind_some]
  refine (eq_step (eq_step eq_end)).trans (congrArg some (decide_eq_decide.2 ⟨fun ⟨h0, h1, _⟩ => ?_, fun h => by subst h; simp⟩))
  cases x; cases y; simp_all
noncomputable def k_eqNetNet : Con := ⟨37, [.v (.s .net) false, .v (.s .net) false], [(.B, true)], [], fun x => m_eqNetNet x.1 x.2.1⟩
theorem o_eqNetNet : k_eqNetNet.Ok Try.prog := con_sub o_e_eqNetNet fun x z hz => by
  obtain ⟨h, e⟩ := gdC_some hz
  subst e
  exact s_eqNetNet _ _ h

def m_e_eqCasItem (x : GItem) (y : GItem) : Option Bool := if decide (x.task = y.task) = true then (if decide (x.who = y.who) = true then (if decide (x.did = y.did) = true then (some true) else (some false)) else (some false)) else (some false)
def k_e_eqCasItem : Con := ⟨130, [.v (.s .item) false, .v (.s .item) false], [(.B, true)], [], fun x => m_e_eqCasItem x.1 x.2.1⟩
def f_e_eqCasItem : Fs := ⟨[], []⟩
theorem g_e_eqCasItem : f_e_eqCasItem.Ok Try.prog := fs0
theorem o_e_eqCasItem : k_e_eqCasItem.Ok Try.prog := fn_ok (k := k_e_eqCasItem) (fn := Try.f130) (W := []) (H := []) Try.func130 g_e_eqCasItem trivial rfl rfl (fun av x => by kernel_rfl)
noncomputable def m_eqCasItem (x : GItem) (y : GItem) : Option Bool := @gd (True) (Classical.propDecidable _) _ (some (decide (x = y)))
theorem c_eqCasItem (x : GItem) (y : GItem) (h : True) : m_eqCasItem x y = some (decide (x = y)) := gdC h
theorem s_eqCasItem (x : GItem) (y : GItem) (h : True) : m_e_eqCasItem x y = some (decide (x = y)) := by
  unfold m_e_eqCasItem
  refine (eq_step (eq_step (eq_step eq_end))).trans (congrArg some (decide_eq_decide.2 ⟨fun ⟨h0, h1, h2, _⟩ => ?_, fun h => by subst h; simp⟩))
  cases x; cases y; simp_all
noncomputable def k_eqCasItem : Con := ⟨130, [.v (.s .item) false, .v (.s .item) false], [(.B, true)], [], fun x => m_eqCasItem x.1 x.2.1⟩
theorem o_eqCasItem : k_eqCasItem.Ok Try.prog := con_sub o_e_eqCasItem fun x z hz => by
  obtain ⟨h, e⟩ := gdC_some hz
  subst e
  exact s_eqCasItem _ _ h

def m_e_eqCasItemS_k1  : Option Bool := some true
def m_e_eqCasItemS_l0 (a : List GItem) (b : List GItem) (kx0_0 : Option Bool) : Nat → Int → Option Bool
  | 0, _ => none
  | n0 + 1, s0_0 => if decide (s0_0 < (a.length : Int)) = true then ((getI a s0_0).bind fun x3 => ((getI b s0_0).bind fun x4 => ((m_eqCasItem x3 x4).bind fun x5 => (if x5 = true then (gd (ok64 (s0_0 + 1)) ((m_e_eqCasItemS_l0 a b kx0_0 n0) (s0_0 + 1))) else (some false))))) else (kx0_0)
def m_e_eqCasItemS (a : List GItem) (b : List GItem) : Option Bool := if decide ((a.length : Int) = (b.length : Int)) = true then (m_e_eqCasItemS_l0 a b m_e_eqCasItemS_k1 FUEL 0) else (some false)
def k_e_eqCasItemS : Con := ⟨83, [.v (.sl (.s .item)) false, .v (.sl (.s .item)) false], [(.B, true)], [], fun x => m_e_eqCasItemS x.1 x.2.1⟩
def f_e_eqCasItemS : Fs := ⟨[k_eqCasItem], []⟩
theorem g_e_eqCasItemS : f_e_eqCasItemS.Ok Try.prog := (fsK o_eqCasItem fs0)
def t_e_eqCasItemS_0 : Tmpl := ⟨[(0, .c (.s (.s .item))), (1, .c (.s (.s .item))), (5, .c .i)], []⟩
def x0_e_eqCasItemS_0 : Tmpl := ⟨[], []⟩
def L_e_eqCasItemS_0 (av : AV) (x : HP k_e_eqCasItemS.ps) (n : Nat) (v : t_e_eqCasItemS_0.den) (K : Ks (CR k_e_eqCasItemS)) : Option (CR k_e_eqCasItemS) := m_e_eqCasItemS_l0 v.1.1 v.1.2.1 (x0_e_eqCasItemS_0.at none ((), ()) (K (.exit 0))) n v.1.2.2.1
def h_e_eqCasItemS_0 (av : AV) (x : HP k_e_eqCasItemS.ps) : Hdl (CR k_e_eqCasItemS) := hnd [] t_e_eqCasItemS_0 (L_e_eqCasItemS_0 av x)
theorem l_e_eqCasItemS_0 : LP k_e_eqCasItemS Try.f83 [0] h_e_eqCasItemS_0 := lp_ok (W := []) (H := []) (xs := [x0_e_eqCasItemS_0]) g_e_eqCasItemS trivial rfl (fun av x v K => by kernel_rfl) (fun av x n v K => by kernel_rfl)
theorem o_e_eqCasItemS : k_e_eqCasItemS.Ok Try.prog := fn_ok (k := k_e_eqCasItemS) (fn := Try.f83) (W := []) (H := [h_e_eqCasItemS_0]) Try.func83 g_e_eqCasItemS ⟨l_e_eqCasItemS_0, trivial⟩ rfl rfl (fun av x => by kernel_rfl)
noncomputable def m_eqCasItemS (a : List GItem) (b : List GItem) : Option Bool := @gd ((a.length ≤ 1048576)) (Classical.propDecidable _) _ (some (decide (a = b)))
theorem c_eqCasItemS (a : List GItem) (b : List GItem) (h : (a.length ≤ 1048576)) : m_eqCasItemS a b = some (decide (a = b)) := gdC h
theorem s_eqCasItemS (a : List GItem) (b : List GItem) (h : (a.length ≤ 1048576)) : m_e_eqCasItemS a b = some (decide (a = b)) := by
  have hl := h
  refine eq_len fun hab => eq_gen (f := m_e_eqCasItemS_l0 a b m_e_eqCasItemS_k1) (by omega) hab (fun n i hi hj => ?_) (fun n => ?_)
  · rw [m_e_eqCasItemS_l0, if_pos (decide_eq_true (Int.ofNat_lt.2 hi)), getI_lt hi, Option.bind_some, getI_lt hj, Option.bind_some, c_eqCasItem _ _ trivial, Option.bind_some, gd_pos (ok64i hi h)]; rfl
  · rw [m_e_eqCasItemS_l0, if_neg (by simp)]; rfl
noncomputable def k_eqCasItemS : Con := ⟨83, [.v (.sl (.s .item)) false, .v (.sl (.s .item)) false], [(.B, true)], [], fun x => m_eqCasItemS x.1 x.2.1⟩
theorem o_eqCasItemS : k_eqCasItemS.Ok Try.prog := con_sub o_e_eqCasItemS fun x z hz => by
  obtain ⟨h, e⟩ := gdC_some hz
  subst e
  exact s_eqCasItemS _ _ h

def m_e_eqCasDid (x : GDid) (y : GDid) : Option Bool := if decide (x.task = y.task) = true then (if decide (x.who = y.who) = true then (some true) else (some false)) else (some false)
def k_e_eqCasDid : Con := ⟨131, [.v (.s .did) false, .v (.s .did) false], [(.B, true)], [], fun x => m_e_eqCasDid x.1 x.2.1⟩
def f_e_eqCasDid : Fs := ⟨[], []⟩
theorem g_e_eqCasDid : f_e_eqCasDid.Ok Try.prog := fs0
theorem o_e_eqCasDid : k_e_eqCasDid.Ok Try.prog := fn_ok (k := k_e_eqCasDid) (fn := Try.f131) (W := []) (H := []) Try.func131 g_e_eqCasDid trivial rfl rfl (fun av x => by kernel_rfl)
noncomputable def m_eqCasDid (x : GDid) (y : GDid) : Option Bool := @gd (True) (Classical.propDecidable _) _ (some (decide (x = y)))
theorem c_eqCasDid (x : GDid) (y : GDid) (h : True) : m_eqCasDid x y = some (decide (x = y)) := gdC h
theorem s_eqCasDid (x : GDid) (y : GDid) (h : True) : m_e_eqCasDid x y = some (decide (x = y)) := by
  unfold m_e_eqCasDid
  refine (eq_step (eq_step eq_end)).trans (congrArg some (decide_eq_decide.2 ⟨fun ⟨h0, h1, _⟩ => ?_, fun h => by subst h; simp⟩))
  cases x; cases y; simp_all
noncomputable def k_eqCasDid : Con := ⟨131, [.v (.s .did) false, .v (.s .did) false], [(.B, true)], [], fun x => m_eqCasDid x.1 x.2.1⟩
theorem o_eqCasDid : k_eqCasDid.Ok Try.prog := con_sub o_e_eqCasDid fun x z hz => by
  obtain ⟨h, e⟩ := gdC_some hz
  subst e
  exact s_eqCasDid _ _ h

def m_e_eqCasDidS_k1  : Option Bool := some true
def m_e_eqCasDidS_l0 (a : List GDid) (b : List GDid) (kx0_0 : Option Bool) : Nat → Int → Option Bool
  | 0, _ => none
  | n0 + 1, s0_0 => if decide (s0_0 < (a.length : Int)) = true then ((getI a s0_0).bind fun x3 => ((getI b s0_0).bind fun x4 => ((m_eqCasDid x3 x4).bind fun x5 => (if x5 = true then (gd (ok64 (s0_0 + 1)) ((m_e_eqCasDidS_l0 a b kx0_0 n0) (s0_0 + 1))) else (some false))))) else (kx0_0)
def m_e_eqCasDidS (a : List GDid) (b : List GDid) : Option Bool := if decide ((a.length : Int) = (b.length : Int)) = true then (m_e_eqCasDidS_l0 a b m_e_eqCasDidS_k1 FUEL 0) else (some false)
def k_e_eqCasDidS : Con := ⟨84, [.v (.sl (.s .did)) false, .v (.sl (.s .did)) false], [(.B, true)], [], fun x => m_e_eqCasDidS x.1 x.2.1⟩
def f_e_eqCasDidS : Fs := ⟨[k_eqCasDid], []⟩
theorem g_e_eqCasDidS : f_e_eqCasDidS.Ok Try.prog := (fsK o_eqCasDid fs0)
def t_e_eqCasDidS_0 : Tmpl := ⟨[(0, .c (.s (.s .did))), (1, .c (.s (.s .did))), (5, .c .i)], []⟩
def x0_e_eqCasDidS_0 : Tmpl := ⟨[], []⟩
def L_e_eqCasDidS_0 (av : AV) (x : HP k_e_eqCasDidS.ps) (n : Nat) (v : t_e_eqCasDidS_0.den) (K : Ks (CR k_e_eqCasDidS)) : Option (CR k_e_eqCasDidS) := m_e_eqCasDidS_l0 v.1.1 v.1.2.1 (x0_e_eqCasDidS_0.at none ((), ()) (K (.exit 0))) n v.1.2.2.1
def h_e_eqCasDidS_0 (av : AV) (x : HP k_e_eqCasDidS.ps) : Hdl (CR k_e_eqCasDidS) := hnd [] t_e_eqCasDidS_0 (L_e_eqCasDidS_0 av x)
theorem l_e_eqCasDidS_0 : LP k_e_eqCasDidS Try.f84 [0] h_e_eqCasDidS_0 := lp_ok (W := []) (H := []) (xs := [x0_e_eqCasDidS_0]) g_e_eqCasDidS trivial rfl (fun av x v K => by kernel_rfl) (fun av x n v K => by kernel_rfl)
theorem o_e_eqCasDidS : k_e_eqCasDidS.Ok Try.prog := fn_ok (k := k_e_eqCasDidS) (fn := Try.f84) (W := []) (H := [h_e_eqCasDidS_0]) Try.func84 g_e_eqCasDidS ⟨l_e_eqCasDidS_0, trivial⟩ rfl rfl (fun av x => by kernel_rfl)
noncomputable def m_eqCasDidS (a : List GDid) (b : List GDid) : Option Bool := @gd ((a.length ≤ 1048576)) (Classical.propDecidable _) _ (some (decide (a = b)))
theorem c_eqCasDidS (a : List GDid) (b : List GDid) (h : (a.length ≤ 1048576)) : m_eqCasDidS a b = some (decide (a = b)) := gdC h
theorem s_eqCasDidS (a : List GDid) (b : List GDid) (h : (a.length ≤ 1048576)) : m_e_eqCasDidS a b = some (decide (a = b)) := by
  have hl := h
  refine eq_len fun hab => eq_gen (f := m_e_eqCasDidS_l0 a b m_e_eqCasDidS_k1) (by omega) hab (fun n i hi hj => ?_) (fun n => ?_)
  · rw [m_e_eqCasDidS_l0, if_pos (decide_eq_true (Int.ofNat_lt.2 hi)), getI_lt hi, Option.bind_some, getI_lt hj, Option.bind_some, c_eqCasDid _ _ trivial, Option.bind_some, gd_pos (ok64i hi h)]; rfl
  · rw [m_e_eqCasDidS_l0, if_neg (by simp)]; rfl
noncomputable def k_eqCasDidS : Con := ⟨84, [.v (.sl (.s .did)) false, .v (.sl (.s .did)) false], [(.B, true)], [], fun x => m_eqCasDidS x.1 x.2.1⟩
theorem o_eqCasDidS : k_eqCasDidS.Ok Try.prog := con_sub o_e_eqCasDidS fun x z hz => by
  obtain ⟨h, e⟩ := gdC_some hz
  subst e
  exact s_eqCasDidS _ _ h

def m_e_eqCasCase (x : GCase) (y : GCase) : Option Bool := if decide (x.state = y.state) = true then ((m_eqIntS x.marks y.marks).bind fun x2 => (if x2 = true then ((m_eqCasItemS x.busy y.busy).bind fun x4 => (if x4 = true then ((m_eqIntS x.data y.data).bind fun x6 => (if x6 = true then ((m_eqCasDidS x.did y.did).bind fun x8 => (if x8 = true then (some true) else (some false))) else (some false))) else (some false))) else (some false))) else (some false)
def k_e_eqCasCase : Con := ⟨38, [.v (.s .kase) false, .v (.s .kase) false], [(.B, true)], [], fun x => m_e_eqCasCase x.1 x.2.1⟩
def f_e_eqCasCase : Fs := ⟨[k_eqIntS, k_eqCasItemS, k_eqCasDidS], []⟩
theorem g_e_eqCasCase : f_e_eqCasCase.Ok Try.prog := (fsK o_eqIntS (fsK o_eqCasItemS (fsK o_eqCasDidS fs0)))
theorem o_e_eqCasCase : k_e_eqCasCase.Ok Try.prog := fn_ok (k := k_e_eqCasCase) (fn := Try.f38) (W := []) (H := []) Try.func38 g_e_eqCasCase trivial rfl rfl (fun av x => by kernel_rfl)
noncomputable def m_eqCasCase (x : GCase) (y : GCase) : Option Bool := @gd ((GCase.lens (· ≤ 1048576) x) ∧ (GCase.lens (· ≤ 1048576) y)) (Classical.propDecidable _) _ (some (decide (x = y)))
theorem c_eqCasCase (x : GCase) (y : GCase) (h : (GCase.lens (· ≤ 1048576) x) ∧ (GCase.lens (· ≤ 1048576) y)) : m_eqCasCase x y = some (decide (x = y)) := gdC h
theorem s_eqCasCase (x : GCase) (y : GCase) (h : (GCase.lens (· ≤ 1048576) x) ∧ (GCase.lens (· ≤ 1048576) y)) : m_e_eqCasCase x y = some (decide (x = y)) := by
  rw [m_e_eqCasCase, c_eqIntS _ _ h.1.1, Option.bind_some, c_eqCasItemS _ _ h.1.2.1, Option.bind_some, c_eqIntS _ _ h.1.2.2.1, Option.bind_some, c_eqCasDidS _ _ h.1.2.2.2, Option.bind_some]
  refine (eq_step (eq_step (eq_step (eq_step (eq_step eq_end))))).trans (congrArg some (decide_eq_decide.2 ⟨fun ⟨h0, h1, h2, h3, h4, _⟩ => ?_, fun h => by subst h; simp⟩))
  cases x; cases y; simp_all
noncomputable def k_eqCasCase : Con := ⟨38, [.v (.s .kase) false, .v (.s .kase) false], [(.B, true)], [], fun x => m_eqCasCase x.1 x.2.1⟩
theorem o_eqCasCase : k_eqCasCase.Ok Try.prog := con_sub o_e_eqCasCase fun x z hz => by
  obtain ⟨h, e⟩ := gdC_some hz
  subst e
  exact s_eqCasCase _ _ h

def m_spec_l1In (n : Int) (low : Int) (high : Int) : Option Bool := if decide (low ≤ n) = true then (some (decide (n ≤ high))) else (some false)
def k_spec_l1In : Con := ⟨93, [.v .I false, .v .I false, .v .I false], [(.B, true)], [], fun x => m_spec_l1In x.1 x.2.1 x.2.2.1⟩
def f_spec_l1In : Fs := ⟨[], []⟩
theorem g_spec_l1In : f_spec_l1In.Ok Try.prog := fs0
theorem o_spec_l1In : k_spec_l1In.Ok Try.prog := fn_ok (k := k_spec_l1In) (fn := Try.f93) (W := []) (H := []) Try.func93 g_spec_l1In trivial rfl rfl (fun av x => by kernel_rfl)

def m_spec_DatOk_k1  : Option Bool := some true
def m_spec_DatOk_l0 (data : List Int) (kx0_0 : Option Bool) : Nat → Int → Option Bool
  | 0, _ => none
  | n0 + 1, s0_0 => if decide (s0_0 < (data.length : Int)) = true then ((getI data s0_0).bind fun x3 => ((m_spec_l1In x3 (-99) 99).bind fun x4 => (if x4 = true then (gd (ok64 (s0_0 + 1)) ((m_spec_DatOk_l0 data kx0_0 n0) (s0_0 + 1))) else (some false)))) else (kx0_0)
def m_spec_DatOk (data : List Int) : Option Bool := if decide ((data.length : Int) = 3) = true then (m_spec_DatOk_l0 data m_spec_DatOk_k1 FUEL 0) else (some false)
def k_spec_DatOk : Con := ⟨104, [.v (.sl .I) false], [(.B, true)], [], fun x => m_spec_DatOk x.1⟩
def f_spec_DatOk : Fs := ⟨[k_spec_l1In], []⟩
theorem g_spec_DatOk : f_spec_DatOk.Ok Try.prog := (fsK o_spec_l1In fs0)
def t_spec_DatOk_0 : Tmpl := ⟨[(0, .c (.s .I)), (3, .c .i)], []⟩
def x0_spec_DatOk_0 : Tmpl := ⟨[], []⟩
def L_spec_DatOk_0 (av : AV) (x : HP k_spec_DatOk.ps) (n : Nat) (v : t_spec_DatOk_0.den) (K : Ks (CR k_spec_DatOk)) : Option (CR k_spec_DatOk) := m_spec_DatOk_l0 v.1.1 (x0_spec_DatOk_0.at none ((), ()) (K (.exit 0))) n v.1.2.1
def h_spec_DatOk_0 (av : AV) (x : HP k_spec_DatOk.ps) : Hdl (CR k_spec_DatOk) := hnd [] t_spec_DatOk_0 (L_spec_DatOk_0 av x)
theorem l_spec_DatOk_0 : LP k_spec_DatOk Try.f104 [0] h_spec_DatOk_0 := lp_ok (W := []) (H := []) (xs := [x0_spec_DatOk_0]) g_spec_DatOk trivial rfl (fun av x v K => by kernel_rfl) (fun av x n v K => by kernel_rfl)
theorem o_spec_DatOk : k_spec_DatOk.Ok Try.prog := fn_ok (k := k_spec_DatOk) (fn := Try.f104) (W := []) (H := [h_spec_DatOk_0]) Try.func104 g_spec_DatOk ⟨l_spec_DatOk_0, trivial⟩ rfl rfl (fun av x => by kernel_rfl)

def m_spec_DatSet (data : List Int) (k : Int) (n : Int) : Option (List Int) := (m_spec_DatOk data).bind fun x1 => (if x1 = true then ((m_spec_l1In k 0 2).bind fun x3 => (if x3 = true then ((m_spec_l1In n (-99) 99).bind fun x5 => (if x5 = true then (gd (([] : List Int).length + data.length ≤ SMALL) ((getI (([] : List Int) ++ data) k).bind fun x8 => (some ((([] : List Int) ++ data).set k.toNat n)))) else (gd (([] : List Int).length + data.length ≤ SMALL) (some (([] : List Int) ++ data))))) else (gd (([] : List Int).length + data.length ≤ SMALL) (some (([] : List Int) ++ data))))) else (gd (([] : List Int).length + data.length ≤ SMALL) (some (([] : List Int) ++ data))))
def k_spec_DatSet : Con := ⟨94, [.v (.sl .I) false, .v .I false, .v .I false], [((.sl .I), true)], [], fun x => m_spec_DatSet x.1 x.2.1 x.2.2.1⟩
def f_spec_DatSet : Fs := ⟨[k_spec_DatOk, k_spec_l1In], []⟩
theorem g_spec_DatSet : f_spec_DatSet.Ok Try.prog := (fsK o_spec_DatOk (fsK o_spec_l1In fs0))
theorem o_spec_DatSet : k_spec_DatSet.Ok Try.prog := fn_ok (k := k_spec_DatSet) (fn := Try.f94) (W := []) (H := []) Try.func94 g_spec_DatSet trivial rfl rfl (fun av x => by kernel_rfl)

def m_spec_ExpOk (e : GAsk) : Option Bool := if decide (e.op = 0) = true then (some (decide ([e.op, e.var, e.k] = [0, 0, 0]))) else ((m_spec_l1In e.op 1 3).bind fun x2 => (if x2 = true then ((m_spec_l1In e.var 0 2).bind fun x4 => (if x4 = true then ((m_spec_l1In e.k (-99) 99).bind fun x6 => (some x6)) else (some false))) else (some false)))
def k_spec_ExpOk : Con := ⟨103, [.v (.s .ask) false], [(.B, true)], [], fun x => m_spec_ExpOk x.1⟩
def f_spec_ExpOk : Fs := ⟨[k_spec_l1In], []⟩
theorem g_spec_ExpOk : f_spec_ExpOk.Ok Try.prog := (fsK o_spec_l1In fs0)
theorem o_spec_ExpOk : k_spec_ExpOk.Ok Try.prog := fn_ok (k := k_spec_ExpOk) (fn := Try.f103) (W := []) (H := []) Try.func103 g_spec_ExpOk trivial rfl rfl (fun av x => by kernel_rfl)

def m_spec_ExpHolds (e : GAsk) (data : List Int) : Option Bool := (m_spec_ExpOk e).bind fun x1 => (if x1 = true then ((m_spec_DatOk data).bind fun x3 => (if x3 = true then (if decide (e.op = 1) = true then ((getI data e.var).bind fun x6 => (some (decide (x6 < e.k)))) else (if decide (e.op = 2) = true then ((getI data e.var).bind fun x8 => (some (decide (x8 = e.k)))) else (if decide (e.op = 3) = true then ((getI data e.var).bind fun x10 => (some (decide (e.k < x10)))) else (some true)))) else (some false))) else (some false))
def k_spec_ExpHolds : Con := ⟨143, [.v (.s .ask) false, .v (.sl .I) false], [(.B, true)], [], fun x => m_spec_ExpHolds x.1 x.2.1⟩
def f_spec_ExpHolds : Fs := ⟨[k_spec_ExpOk, k_spec_DatOk], []⟩
theorem g_spec_ExpHolds : f_spec_ExpHolds.Ok Try.prog := (fsK o_spec_ExpOk (fsK o_spec_DatOk fs0))
theorem o_spec_ExpHolds : k_spec_ExpHolds.Ok Try.prog := fn_ok (k := k_spec_ExpHolds) (fn := Try.f143) (W := []) (H := []) Try.func143 g_spec_ExpHolds trivial rfl rfl (fun av x => by kernel_rfl)

def m_impl_in (n : Int) (low : Int) (high : Int) : Option Bool := if decide (low ≤ n) = true then (some (decide (n ≤ high))) else (some false)
def k_impl_in : Con := ⟨52, [.v .I false, .v .I false, .v .I false], [(.B, true)], [], fun x => m_impl_in x.1 x.2.1 x.2.2.1⟩
def f_impl_in : Fs := ⟨[], []⟩
theorem g_impl_in : f_impl_in.Ok Try.prog := fs0
theorem o_impl_in : k_impl_in.Ok Try.prog := fn_ok (k := k_impl_in) (fn := Try.f52) (W := []) (H := []) Try.func52 g_impl_in trivial rfl rfl (fun av x => by kernel_rfl)

def m_impl_isDatum (n : Int) : Option Bool := (m_impl_in n (-99) 99).bind fun x1 => (some x1)
def k_impl_isDatum : Con := ⟨96, [.v .I false], [(.B, true)], [], fun x => m_impl_isDatum x.1⟩
def f_impl_isDatum : Fs := ⟨[k_impl_in], []⟩
theorem g_impl_isDatum : f_impl_isDatum.Ok Try.prog := (fsK o_impl_in fs0)
theorem o_impl_isDatum : k_impl_isDatum.Ok Try.prog := fn_ok (k := k_impl_isDatum) (fn := Try.f96) (W := []) (H := []) Try.func96 g_impl_isDatum trivial rfl rfl (fun av x => by kernel_rfl)

def m_impl_cloneInts (list : List Int) : Option (List Int) := gd (([] : List Int).length + list.length ≤ SMALL) (some (([] : List Int) ++ list))
def k_impl_cloneInts : Con := ⟨80, [.v (.sl .I) false], [((.sl .I), true)], [], fun x => m_impl_cloneInts x.1⟩
def f_impl_cloneInts : Fs := ⟨[], []⟩
theorem g_impl_cloneInts : f_impl_cloneInts.Ok Try.prog := fs0
theorem o_impl_cloneInts : k_impl_cloneInts.Ok Try.prog := fn_ok (k := k_impl_cloneInts) (fn := Try.f80) (W := []) (H := []) Try.func80 g_impl_cloneInts trivial rfl rfl (fun av x => by kernel_rfl)

def m_impl_ExpOk (e : GAsk) : Option Bool := if decide (e.op = 0) = true then (if decide (e.var = 0) = true then (some (decide (e.k = 0))) else (some false)) else ((m_impl_in e.op 1 3).bind fun x3 => (if x3 = true then ((m_impl_in e.var 0 2).bind fun x5 => (if x5 = true then ((m_impl_isDatum e.k).bind fun x7 => (some x7)) else (some false))) else (some false)))
def k_impl_ExpOk : Con := ⟨106, [.v (.s .ask) false], [(.B, true)], [], fun x => m_impl_ExpOk x.1⟩
def f_impl_ExpOk : Fs := ⟨[k_impl_in, k_impl_isDatum], []⟩
theorem g_impl_ExpOk : f_impl_ExpOk.Ok Try.prog := (fsK o_impl_in (fsK o_impl_isDatum fs0))
theorem o_impl_ExpOk : k_impl_ExpOk.Ok Try.prog := fn_ok (k := k_impl_ExpOk) (fn := Try.f106) (W := []) (H := []) Try.func106 g_impl_ExpOk trivial rfl rfl (fun av x => by kernel_rfl)

def m_spec_l2Rises_k1  : Option Bool := some true
def m_spec_l2Rises_l0 (list : List Int) (low : Int) (high : Int) (kx0_0 : Option Bool) : Nat → Int → Option Bool
  | 0, _ => none
  | n0 + 1, s0_0 => if decide (s0_0 < (list.length : Int)) = true then ((getI list s0_0).bind fun x4 => ((m_spec_l1In x4 low high).bind fun x5 => (if x5 = true then (if decide (0 < s0_0) = true then (gd (ok64 (s0_0 - 1)) ((getI list (s0_0 - 1)).bind fun x9 => ((getI list s0_0).bind fun x10 => (if decide (x10 ≤ x9) = true then (some false) else (gd (ok64 (s0_0 + 1)) ((m_spec_l2Rises_l0 list low high kx0_0 n0) (s0_0 + 1))))))) else (gd (ok64 (s0_0 + 1)) ((m_spec_l2Rises_l0 list low high kx0_0 n0) (s0_0 + 1)))) else (some false)))) else (kx0_0)
def m_spec_l2Rises (list : List Int) (least : Int) (most : Int) (low : Int) (high : Int) : Option Bool := (m_spec_l1In (list.length : Int) least most).bind fun x1 => (if x1 = true then (m_spec_l2Rises_l0 list low high m_spec_l2Rises_k1 FUEL 0) else (some false))
def k_spec_l2Rises : Con := ⟨152, [.v (.sl .I) false, .v .I false, .v .I false, .v .I false, .v .I false], [(.B, true)], [], fun x => m_spec_l2Rises x.1 x.2.1 x.2.2.1 x.2.2.2.1 x.2.2.2.2.1⟩
def f_spec_l2Rises : Fs := ⟨[k_spec_l1In], []⟩
theorem g_spec_l2Rises : f_spec_l2Rises.Ok Try.prog := (fsK o_spec_l1In fs0)
def t_spec_l2Rises_0 : Tmpl := ⟨[(0, .c (.s .I)), (3, .c .i), (4, .c .i), (11, .c .i)], []⟩
def x0_spec_l2Rises_0 : Tmpl := ⟨[], []⟩
def L_spec_l2Rises_0 (av : AV) (x : HP k_spec_l2Rises.ps) (n : Nat) (v : t_spec_l2Rises_0.den) (K : Ks (CR k_spec_l2Rises)) : Option (CR k_spec_l2Rises) := m_spec_l2Rises_l0 v.1.1 v.1.2.1 v.1.2.2.1 (x0_spec_l2Rises_0.at none ((), ()) (K (.exit 0))) n v.1.2.2.2.1
def h_spec_l2Rises_0 (av : AV) (x : HP k_spec_l2Rises.ps) : Hdl (CR k_spec_l2Rises) := hnd [] t_spec_l2Rises_0 (L_spec_l2Rises_0 av x)
theorem l_spec_l2Rises_0 : LP k_spec_l2Rises Try.f152 [0] h_spec_l2Rises_0 := lp_ok (W := []) (H := []) (xs := [x0_spec_l2Rises_0]) g_spec_l2Rises trivial rfl (fun av x v K => by kernel_rfl) (fun av x n v K => by kernel_rfl)
theorem o_spec_l2Rises : k_spec_l2Rises.Ok Try.prog := fn_ok (k := k_spec_l2Rises) (fn := Try.f152) (W := []) (H := [h_spec_l2Rises_0]) Try.func152 g_spec_l2Rises ⟨l_spec_l2Rises_0, trivial⟩ rfl rfl (fun av x => by kernel_rfl)

def m_spec_l2Has_k1  : Option Bool := some false
def m_spec_l2Has_l0 (list : List Int) (n : Int) (kx0_0 : Option Bool) : Nat → Int → Option Bool
  | 0, _ => none
  | n0 + 1, s0_0 => if decide (s0_0 < (list.length : Int)) = true then ((getI list s0_0).bind fun x2 => (if decide (x2 = n) = true then (some true) else (gd (ok64 (s0_0 + 1)) ((m_spec_l2Has_l0 list n kx0_0 n0) (s0_0 + 1))))) else (kx0_0)
def m_spec_l2Has (list : List Int) (n : Int) : Option Bool := m_spec_l2Has_l0 list n m_spec_l2Has_k1 FUEL 0
def k_spec_l2Has : Con := ⟨153, [.v (.sl .I) false, .v .I false], [(.B, true)], [], fun x => m_spec_l2Has x.1 x.2.1⟩
def f_spec_l2Has : Fs := ⟨[], []⟩
theorem g_spec_l2Has : f_spec_l2Has.Ok Try.prog := fs0
def t_spec_l2Has_0 : Tmpl := ⟨[(0, .c (.s .I)), (1, .c .i), (5, .c .i)], []⟩
def x0_spec_l2Has_0 : Tmpl := ⟨[], []⟩
def L_spec_l2Has_0 (av : AV) (x : HP k_spec_l2Has.ps) (n : Nat) (v : t_spec_l2Has_0.den) (K : Ks (CR k_spec_l2Has)) : Option (CR k_spec_l2Has) := m_spec_l2Has_l0 v.1.1 v.1.2.1 (x0_spec_l2Has_0.at none ((), ()) (K (.exit 0))) n v.1.2.2.1
def h_spec_l2Has_0 (av : AV) (x : HP k_spec_l2Has.ps) : Hdl (CR k_spec_l2Has) := hnd [] t_spec_l2Has_0 (L_spec_l2Has_0 av x)
theorem l_spec_l2Has_0 : LP k_spec_l2Has Try.f153 [0] h_spec_l2Has_0 := lp_ok (W := []) (H := []) (xs := [x0_spec_l2Has_0]) g_spec_l2Has trivial rfl (fun av x v K => by kernel_rfl) (fun av x n v K => by kernel_rfl)
theorem o_spec_l2Has : k_spec_l2Has.Ok Try.prog := fn_ok (k := k_spec_l2Has) (fn := Try.f153) (W := []) (H := [h_spec_l2Has_0]) Try.func153 g_spec_l2Has ⟨l_spec_l2Has_0, trivial⟩ rfl rfl (fun av x => by kernel_rfl)

def m_spec_l2Flows_k1 (s0_0 : Int) (bk0 : Int → Option Bool) : Option Bool := gd (ok64 (s0_0 + 1)) (bk0 (s0_0 + 1))
def m_spec_l2Flows_l1 (t : GTask) (s0_0 : Int) (x4 : GFlow) (kx1_0 : Option Bool) : Nat → Int → Option Bool
  | 0, _ => none
  | n1 + 1, s1_0 => if decide (s1_0 < s0_0) = true then ((getI t.out s1_0).bind fun x14 => (if decide (x14.to = x4.to) = true then (some false) else (gd (ok64 (s1_0 + 1)) ((m_spec_l2Flows_l1 t s0_0 x4 kx1_0 n1) (s1_0 + 1))))) else (kx1_0)
def m_spec_l2Flows_k2 (s0_0 : Int) (bk0 : Int → Option Bool) : Option Bool := gd (ok64 (s0_0 + 1)) (bk0 (s0_0 + 1))
def m_spec_l2Flows_k3  : Option Bool := some true
def m_spec_l2Flows_l0 (t : GTask) (places : Int) (kx0_0 : Option Bool) : Nat → Int → Option Bool
  | 0, _ => none
  | n0 + 1, s0_0 => if decide (s0_0 < (t.out.length : Int)) = true then ((getI t.out s0_0).bind fun x4 => (gd (ok64 ((t.out.length : Int) - 1)) (if decide (s0_0 = ((t.out.length : Int) - 1)) = true then (gd (ok64 (places - 1)) ((m_spec_l1In x4.to 1 (places - 1)).bind fun x8 => (if x8 = true then ((m_spec_ExpOk x4.if_).bind fun x10 => (if x10 = true then (if (true == (decide (x4.if_.op = 0))) = true then (m_spec_l2Flows_l1 t s0_0 x4 (m_spec_l2Flows_k1 s0_0 (m_spec_l2Flows_l0 t places kx0_0 n0)) FUEL 0) else (some false)) else (some false))) else (some false)))) else (gd (ok64 (places - 1)) ((m_spec_l1In x4.to 1 (places - 1)).bind fun x19 => (if x19 = true then ((m_spec_ExpOk x4.if_).bind fun x21 => (if x21 = true then (if ((decide (t.split = 1)) == (decide (x4.if_.op = 0))) = true then (m_spec_l2Flows_l1 t s0_0 x4 (m_spec_l2Flows_k2 s0_0 (m_spec_l2Flows_l0 t places kx0_0 n0)) FUEL 0) else (some false)) else (some false))) else (some false))))))) else (kx0_0)
def m_spec_l2Flows (t : GTask) (places : Int) : Option Bool := (m_spec_l1In (t.out.length : Int) 1 3).bind fun x1 => (if x1 = true then (m_spec_l2Flows_l0 t places m_spec_l2Flows_k3 FUEL 0) else (some false))
def k_spec_l2Flows : Con := ⟨154, [.v (.s .task) false, .v .I false], [(.B, true)], [], fun x => m_spec_l2Flows x.1 x.2.1⟩
def f_spec_l2Flows : Fs := ⟨[k_spec_l1In, k_spec_ExpOk], []⟩
theorem g_spec_l2Flows : f_spec_l2Flows.Ok Try.prog := (fsK o_spec_l1In (fsK o_spec_ExpOk fs0))
def t_spec_l2Flows_0_0 : Tmpl := ⟨[(1, .c .i), (2, .c (.bx 2 0)), (5, .c .i), (6, .c (.bx 6 0)), (8, .c .i)], [(2, .boxT (.s .task)), (6, .boxT (.s .flow))]⟩
def x0_spec_l2Flows_0_0 : Tmpl := ⟨[(1, .c .i), (2, .c (.bx 2 0)), (5, .c .i)], [(2, .boxT (.s .task))]⟩
def L_spec_l2Flows_0_0 (av : AV) (x : HP k_spec_l2Flows.ps) (n : Nat) (v : t_spec_l2Flows_0_0.den) (K : Ks (CR k_spec_l2Flows)) : Option (CR k_spec_l2Flows) := m_spec_l2Flows_l1 v.2.1 v.1.2.2.1 v.2.2.1 (x0_spec_l2Flows_0_0.at none ((v.1.1, (), v.1.2.2.1, ()), (v.2.1, ())) (K (.exit 2))) n v.1.2.2.2.2.1
def h_spec_l2Flows_0_0 (av : AV) (x : HP k_spec_l2Flows.ps) : Hdl (CR k_spec_l2Flows) := hnd [] t_spec_l2Flows_0_0 (L_spec_l2Flows_0_0 av x)
theorem l_spec_l2Flows_0_0 : LP k_spec_l2Flows Try.f154 [0, 0] h_spec_l2Flows_0_0 := lp_ok (W := []) (H := []) (xs := [x0_spec_l2Flows_0_0]) g_spec_l2Flows trivial rfl (fun av x v K => by kernel_rfl) (fun av x n v K => by kernel_rfl)
def t_spec_l2Flows_0 : Tmpl := ⟨[(1, .c .i), (2, .c (.bx 2 0)), (5, .c .i)], [(2, .boxT (.s .task))]⟩
def x0_spec_l2Flows_0 : Tmpl := ⟨[], []⟩
def L_spec_l2Flows_0 (av : AV) (x : HP k_spec_l2Flows.ps) (n : Nat) (v : t_spec_l2Flows_0.den) (K : Ks (CR k_spec_l2Flows)) : Option (CR k_spec_l2Flows) := m_spec_l2Flows_l0 v.2.1 v.1.1 (x0_spec_l2Flows_0.at none ((), ()) (K (.exit 0))) n v.1.2.2.1
def h_spec_l2Flows_0 (av : AV) (x : HP k_spec_l2Flows.ps) : Hdl (CR k_spec_l2Flows) := hnd [] t_spec_l2Flows_0 (L_spec_l2Flows_0 av x)
theorem l_spec_l2Flows_0 : LP k_spec_l2Flows Try.f154 [0] h_spec_l2Flows_0 := lp_ok (W := []) (H := [h_spec_l2Flows_0_0]) (xs := [x0_spec_l2Flows_0]) g_spec_l2Flows ⟨l_spec_l2Flows_0_0, trivial⟩ rfl (fun av x v K => by kernel_rfl) (fun av x n v K => by kernel_rfl)
theorem o_spec_l2Flows : k_spec_l2Flows.Ok Try.prog := fn_ok (k := k_spec_l2Flows) (fn := Try.f154) (W := []) (H := [h_spec_l2Flows_0]) Try.func154 g_spec_l2Flows ⟨l_spec_l2Flows_0, trivial⟩ rfl rfl (fun av x => by kernel_rfl)

def m_spec_l2Task (t : GTask) (places : Int) (tasks : Int) : Option Bool := (m_spec_l1In t.join 1 3).bind fun x1 => (if x1 = true then ((m_spec_l1In t.split 1 3).bind fun x3 => (if x3 = true then (gd (ok64 (places - 1)) ((m_spec_l2Rises t.in_ 1 3 0 (places - 1)).bind fun x6 => (if x6 = true then ((m_spec_l2Has t.in_ 1).bind fun x8 => (if x8 = true then (some false) else ((m_spec_l2Flows t places).bind fun x10 => (if x10 = true then (gd (ok64 (places - 1)) ((m_spec_l2Rises t.clear 0 places 2 (places - 1)).bind fun x13 => (if x13 = true then ((m_spec_l1In t.role 1 3).bind fun x15 => (if x15 = true then (gd (ok64 (tasks - 1)) ((m_spec_l1In t.apart (-1) (tasks - 1)).bind fun x18 => (if x18 = true then ((m_spec_l1In t.all 1 3).bind fun x20 => (if x20 = true then ((m_spec_l1In t.need 1 t.all).bind fun x22 => (some x22)) else (some false))) else (some false)))) else (some false))) else (some false)))) else (some false))))) else (some false)))) else (some false))) else (some false))
def k_spec_l2Task : Con := ⟨145, [.v (.s .task) false, .v .I false, .v .I false], [(.B, true)], [], fun x => m_spec_l2Task x.1 x.2.1 x.2.2.1⟩
def f_spec_l2Task : Fs := ⟨[k_spec_l1In, k_spec_l2Rises, k_spec_l2Has, k_spec_l2Flows], []⟩
theorem g_spec_l2Task : f_spec_l2Task.Ok Try.prog := (fsK o_spec_l1In (fsK o_spec_l2Rises (fsK o_spec_l2Has (fsK o_spec_l2Flows fs0))))
theorem o_spec_l2Task : k_spec_l2Task.Ok Try.prog := fn_ok (k := k_spec_l2Task) (fn := Try.f145) (W := []) (H := []) Try.func145 g_spec_l2Task trivial rfl rfl (fun av x => by kernel_rfl)

def m_spec_NetOk_k1  : Option Bool := some true
def m_spec_NetOk_l0 (n : GNet) (kx0_0 : Option Bool) : Nat → Int → Option Bool
  | 0, _ => none
  | n0 + 1, s0_0 => if decide (s0_0 < (n.tasks.length : Int)) = true then ((getI n.tasks s0_0).bind fun x6 => ((m_spec_l2Task x6 n.places (n.tasks.length : Int)).bind fun x7 => (if x7 = true then (gd (ok64 (s0_0 + 1)) ((m_spec_NetOk_l0 n kx0_0 n0) (s0_0 + 1))) else (some false)))) else (kx0_0)
def m_spec_NetOk (n : GNet) : Option Bool := (m_spec_l1In n.places 2 8).bind fun x1 => (if x1 = true then ((m_spec_l1In (n.tasks.length : Int) 1 6).bind fun x3 => (if x3 = true then (m_spec_NetOk_l0 n m_spec_NetOk_k1 FUEL 0) else (some false))) else (some false))
def k_spec_NetOk : Con := ⟨138, [.v (.s .net) false], [(.B, true)], [], fun x => m_spec_NetOk x.1⟩
def f_spec_NetOk : Fs := ⟨[k_spec_l1In, k_spec_l2Task], []⟩
theorem g_spec_NetOk : f_spec_NetOk.Ok Try.prog := (fsK o_spec_l1In (fsK o_spec_l2Task fs0))
def t_spec_NetOk_0 : Tmpl := ⟨[(1, .c (.bx 1 0)), (3, .c .i)], [(1, .boxT (.s .net))]⟩
def x0_spec_NetOk_0 : Tmpl := ⟨[], []⟩
def L_spec_NetOk_0 (av : AV) (x : HP k_spec_NetOk.ps) (n : Nat) (v : t_spec_NetOk_0.den) (K : Ks (CR k_spec_NetOk)) : Option (CR k_spec_NetOk) := m_spec_NetOk_l0 v.2.1 (x0_spec_NetOk_0.at none ((), ()) (K (.exit 0))) n v.1.2.1
def h_spec_NetOk_0 (av : AV) (x : HP k_spec_NetOk.ps) : Hdl (CR k_spec_NetOk) := hnd [] t_spec_NetOk_0 (L_spec_NetOk_0 av x)
theorem l_spec_NetOk_0 : LP k_spec_NetOk Try.f138 [0] h_spec_NetOk_0 := lp_ok (W := []) (H := []) (xs := [x0_spec_NetOk_0]) g_spec_NetOk trivial rfl (fun av x v K => by kernel_rfl) (fun av x n v K => by kernel_rfl)
theorem o_spec_NetOk : k_spec_NetOk.Ok Try.prog := fn_ok (k := k_spec_NetOk) (fn := Try.f138) (W := []) (H := [h_spec_NetOk_0]) Try.func138 g_spec_NetOk ⟨l_spec_NetOk_0, trivial⟩ rfl rfl (fun av x => by kernel_rfl)

def m_impl_isKind (kind : Int) : Option Bool := (m_impl_in kind 1 3).bind fun x1 => (some x1)
def k_impl_isKind : Con := ⟨156, [.v .I false], [(.B, true)], [], fun x => m_impl_isKind x.1⟩
def f_impl_isKind : Fs := ⟨[k_impl_in], []⟩
theorem g_impl_isKind : f_impl_isKind.Ok Try.prog := (fsK o_impl_in fs0)
theorem o_impl_isKind : k_impl_isKind.Ok Try.prog := fn_ok (k := k_impl_isKind) (fn := Try.f156) (W := []) (H := []) Try.func156 g_impl_isKind trivial rfl rfl (fun av x => by kernel_rfl)

def m_impl_isRole (role : Int) : Option Bool := (m_impl_in role 1 3).bind fun x1 => (some x1)
def k_impl_isRole : Con := ⟨159, [.v .I false], [(.B, true)], [], fun x => m_impl_isRole x.1⟩
def f_impl_isRole : Fs := ⟨[k_impl_in], []⟩
theorem g_impl_isRole : f_impl_isRole.Ok Try.prog := (fsK o_impl_in fs0)
theorem o_impl_isRole : k_impl_isRole.Ok Try.prog := fn_ok (k := k_impl_isRole) (fn := Try.f159) (W := []) (H := []) Try.func159 g_impl_isRole trivial rfl rfl (fun av x => by kernel_rfl)

def m_impl_sizesOk (places : Int) (tasks : Int) : Option Bool := (m_impl_in places 2 8).bind fun x1 => (if x1 = true then ((m_impl_in tasks 1 6).bind fun x3 => (some x3)) else (some false))
def k_impl_sizesOk : Con := ⟨147, [.v .I false, .v .I false], [(.B, true)], [], fun x => m_impl_sizesOk x.1 x.2.1⟩
def f_impl_sizesOk : Fs := ⟨[k_impl_in], []⟩
theorem g_impl_sizesOk : f_impl_sizesOk.Ok Try.prog := (fsK o_impl_in fs0)
theorem o_impl_sizesOk : k_impl_sizesOk.Ok Try.prog := fn_ok (k := k_impl_sizesOk) (fn := Try.f147) (W := []) (H := []) Try.func147 g_impl_sizesOk trivial rfl rfl (fun av x => by kernel_rfl)

def m_impl_NetNet_hasTask (n : GNet) (t : Int) : Option Bool := gd (ok64 ((n.tasks.length : Int) - 1)) ((m_impl_in t 0 ((n.tasks.length : Int) - 1)).bind fun x2 => (some x2))
def k_impl_NetNet_hasTask : Con := ⟨125, [.v (.s .net) false, .v .I false], [(.B, true)], [], fun x => m_impl_NetNet_hasTask x.1 x.2.1⟩
def f_impl_NetNet_hasTask : Fs := ⟨[k_impl_in], []⟩
theorem g_impl_NetNet_hasTask : f_impl_NetNet_hasTask.Ok Try.prog := (fsK o_impl_in fs0)
theorem o_impl_NetNet_hasTask : k_impl_NetNet_hasTask.Ok Try.prog := fn_ok (k := k_impl_NetNet_hasTask) (fn := Try.f125) (W := []) (H := []) Try.func125 g_impl_NetNet_hasTask trivial rfl rfl (fun av x => by kernel_rfl)

def m_spec_MrkOk_k1  : Option Bool := some true
def m_spec_MrkOk_l0 (marks : List Int) (kx0_0 : Option Bool) : Nat → Int → Option Bool
  | 0, _ => none
  | n0 + 1, s0_0 => if decide (s0_0 < (marks.length : Int)) = true then ((getI marks s0_0).bind fun x5 => ((m_spec_l1In x5 0 4).bind fun x6 => (if x6 = true then (gd (ok64 (s0_0 + 1)) ((m_spec_MrkOk_l0 marks kx0_0 n0) (s0_0 + 1))) else (some false)))) else (kx0_0)
def m_spec_MrkOk (n : GNet) (marks : List Int) : Option Bool := (m_spec_NetOk n).bind fun x1 => (if x1 = true then (if decide ((marks.length : Int) = n.places) = true then (m_spec_MrkOk_l0 marks m_spec_MrkOk_k1 FUEL 0) else (some false)) else (some false))
def k_spec_MrkOk : Con := ⟨118, [.v (.s .net) false, .v (.sl .I) false], [(.B, true)], [], fun x => m_spec_MrkOk x.1 x.2.1⟩
def f_spec_MrkOk : Fs := ⟨[k_spec_NetOk, k_spec_l1In], []⟩
theorem g_spec_MrkOk : f_spec_MrkOk.Ok Try.prog := (fsK o_spec_NetOk (fsK o_spec_l1In fs0))
def t_spec_MrkOk_0 : Tmpl := ⟨[(1, .c (.s .I)), (5, .c .i)], []⟩
def x0_spec_MrkOk_0 : Tmpl := ⟨[], []⟩
def L_spec_MrkOk_0 (av : AV) (x : HP k_spec_MrkOk.ps) (n : Nat) (v : t_spec_MrkOk_0.den) (K : Ks (CR k_spec_MrkOk)) : Option (CR k_spec_MrkOk) := m_spec_MrkOk_l0 v.1.1 (x0_spec_MrkOk_0.at none ((), ()) (K (.exit 0))) n v.1.2.1
def h_spec_MrkOk_0 (av : AV) (x : HP k_spec_MrkOk.ps) : Hdl (CR k_spec_MrkOk) := hnd [] t_spec_MrkOk_0 (L_spec_MrkOk_0 av x)
theorem l_spec_MrkOk_0 : LP k_spec_MrkOk Try.f118 [0] h_spec_MrkOk_0 := lp_ok (W := []) (H := []) (xs := [x0_spec_MrkOk_0]) g_spec_MrkOk trivial rfl (fun av x v K => by kernel_rfl) (fun av x n v K => by kernel_rfl)
theorem o_spec_MrkOk : k_spec_MrkOk.Ok Try.prog := fn_ok (k := k_spec_MrkOk) (fn := Try.f118) (W := []) (H := [h_spec_MrkOk_0]) Try.func118 g_spec_MrkOk ⟨l_spec_MrkOk_0, trivial⟩ rfl rfl (fun av x => by kernel_rfl)

def m_spec_l3Busy_k1  : Option Bool := some true
def m_spec_l3Busy_l0 (n : GNet) (busy : List GItem) (kx0_0 : Option Bool) : Nat → Int → Option Bool
  | 0, _ => none
  | n0 + 1, s0_0 => if decide (s0_0 < (busy.length : Int)) = true then ((getI busy s0_0).bind fun x3 => (gd (ok64 ((n.tasks.length : Int) - 1)) ((m_spec_l1In x3.task 0 ((n.tasks.length : Int) - 1)).bind fun x5 => (if x5 = true then ((getI busy s0_0).bind fun x7 => ((m_spec_l1In x7.who 1 4).bind fun x8 => (if x8 = true then ((getI busy s0_0).bind fun x10 => ((getI busy s0_0).bind fun x11 => ((getI n.tasks x11.task).bind fun x12 => (gd (ok64 (x12.need - 1)) ((m_spec_l1In x10.did 0 (x12.need - 1)).bind fun x14 => (if x14 = true then (gd (ok64 (s0_0 + 1)) ((m_spec_l3Busy_l0 n busy kx0_0 n0) (s0_0 + 1))) else (some false))))))) else (some false)))) else (some false))))) else (kx0_0)
def m_spec_l3Busy (n : GNet) (busy : List GItem) : Option Bool := if decide (6 < (busy.length : Int)) = true then (some false) else (m_spec_l3Busy_l0 n busy m_spec_l3Busy_k1 FUEL 0)
def k_spec_l3Busy : Con := ⟨119, [.v (.s .net) false, .v (.sl (.s .item)) false], [(.B, true)], [], fun x => m_spec_l3Busy x.1 x.2.1⟩
def f_spec_l3Busy : Fs := ⟨[k_spec_l1In], []⟩
theorem g_spec_l3Busy : f_spec_l3Busy.Ok Try.prog := (fsK o_spec_l1In fs0)
def t_spec_l3Busy_0 : Tmpl := ⟨[(1, .c (.s (.s .item))), (2, .c (.bx 2 0)), (5, .c .i)], [(2, .boxT (.s .net))]⟩
def x0_spec_l3Busy_0 : Tmpl := ⟨[], []⟩
def L_spec_l3Busy_0 (av : AV) (x : HP k_spec_l3Busy.ps) (n : Nat) (v : t_spec_l3Busy_0.den) (K : Ks (CR k_spec_l3Busy)) : Option (CR k_spec_l3Busy) := m_spec_l3Busy_l0 v.2.1 v.1.1 (x0_spec_l3Busy_0.at none ((), ()) (K (.exit 0))) n v.1.2.2.1
def h_spec_l3Busy_0 (av : AV) (x : HP k_spec_l3Busy.ps) : Hdl (CR k_spec_l3Busy) := hnd [] t_spec_l3Busy_0 (L_spec_l3Busy_0 av x)
theorem l_spec_l3Busy_0 : LP k_spec_l3Busy Try.f119 [0] h_spec_l3Busy_0 := lp_ok (W := []) (H := []) (xs := [x0_spec_l3Busy_0]) g_spec_l3Busy trivial rfl (fun av x v K => by kernel_rfl) (fun av x n v K => by kernel_rfl)
theorem o_spec_l3Busy : k_spec_l3Busy.Ok Try.prog := fn_ok (k := k_spec_l3Busy) (fn := Try.f119) (W := []) (H := [h_spec_l3Busy_0]) Try.func119 g_spec_l3Busy ⟨l_spec_l3Busy_0, trivial⟩ rfl rfl (fun av x => by kernel_rfl)

def m_impl_isPerson (who : Int) : Option Bool := (m_impl_in who 1 4).bind fun x1 => (some x1)
def k_impl_isPerson : Con := ⟨126, [.v .I false], [(.B, true)], [], fun x => m_impl_isPerson x.1⟩
def f_impl_isPerson : Fs := ⟨[k_impl_in], []⟩
theorem g_impl_isPerson : f_impl_isPerson.Ok Try.prog := (fsK o_impl_in fs0)
theorem o_impl_isPerson : k_impl_isPerson.Ok Try.prog := fn_ok (k := k_impl_isPerson) (fn := Try.f126) (W := []) (H := []) Try.func126 g_impl_isPerson trivial rfl rfl (fun av x => by kernel_rfl)

def m_spec_SplTo_k1 (l0_1 : List Int) (x8 : GFlow) : Option (List Int) := some (l0_1 ++ [x8.to])
def m_spec_SplTo_k2 (l0_1 : List Int) (x13 : GFlow) : Option (List Int) := some (l0_1 ++ [x13.to])
def m_spec_SplTo_k3 (l0_1 : List Int) (x18 : GFlow) : Option (List Int) := some (l0_1 ++ [x18.to])
def m_spec_SplTo_k4 (l0_1 : List Int) : Option (List Int) := some l0_1
def m_spec_SplTo_l0 (t : GTask) (data : List Int) (kx0_0 : List Int → GFlow → Option (List Int)) (kx0_1 : List Int → GFlow → Option (List Int)) (kx0_2 : List Int → GFlow → Option (List Int)) (kx0_3 : List Int → Option (List Int)) : Nat → Int → List Int → Option (List Int)
  | 0, _, _ => none
  | n0 + 1, s0_0, l0_1 => if decide (s0_0 < (t.out.length : Int)) = true then ((getI t.out s0_0).bind fun x2 => ((m_spec_ExpHolds x2.if_ data).bind fun x3 => (if x3 = true then (if decide (t.split = 3) = true then (gd (ok64 ((t.out.length : Int) - 1)) (if decide (s0_0 < ((t.out.length : Int) - 1)) = true then ((getI t.out s0_0).bind fun x8 => (gd (l0_1.length + [x8.to].length ≤ SMALL) (if decide (t.split = 2) = true then (kx0_0 l0_1 x8) else (gd (ok64 (s0_0 + 1)) ((m_spec_SplTo_l0 t data kx0_0 kx0_1 kx0_2 kx0_3 n0) (s0_0 + 1) (l0_1 ++ [x8.to])))))) else (if decide ((l0_1.length : Int) = 0) = true then ((getI t.out s0_0).bind fun x13 => (gd (l0_1.length + [x13.to].length ≤ SMALL) (if decide (t.split = 2) = true then (kx0_1 l0_1 x13) else (gd (ok64 (s0_0 + 1)) ((m_spec_SplTo_l0 t data kx0_0 kx0_1 kx0_2 kx0_3 n0) (s0_0 + 1) (l0_1 ++ [x13.to])))))) else (gd (ok64 (s0_0 + 1)) ((m_spec_SplTo_l0 t data kx0_0 kx0_1 kx0_2 kx0_3 n0) (s0_0 + 1) l0_1))))) else ((getI t.out s0_0).bind fun x18 => (gd (l0_1.length + [x18.to].length ≤ SMALL) (if decide (t.split = 2) = true then (kx0_2 l0_1 x18) else (gd (ok64 (s0_0 + 1)) ((m_spec_SplTo_l0 t data kx0_0 kx0_1 kx0_2 kx0_3 n0) (s0_0 + 1) (l0_1 ++ [x18.to]))))))) else (gd (ok64 (s0_0 + 1)) ((m_spec_SplTo_l0 t data kx0_0 kx0_1 kx0_2 kx0_3 n0) (s0_0 + 1) l0_1))))) else (kx0_3 l0_1)
def m_spec_SplTo (t : GTask) (data : List Int) : Option (List Int) := m_spec_SplTo_l0 t data m_spec_SplTo_k1 m_spec_SplTo_k2 m_spec_SplTo_k3 m_spec_SplTo_k4 FUEL 0 ([] : List Int)
def k_spec_SplTo : Con := ⟨133, [.v (.s .task) false, .v (.sl .I) false], [((.sl .I), true)], [], fun x => m_spec_SplTo x.1 x.2.1⟩
def f_spec_SplTo : Fs := ⟨[k_spec_ExpHolds], []⟩
theorem g_spec_SplTo : f_spec_SplTo.Ok Try.prog := (fsK o_spec_ExpHolds fs0)
def t_spec_SplTo_0 : Tmpl := ⟨[(1, .c (.s .I)), (2, .c (.bx 2 0)), (5, .c (.ref 7)), (6, .c .i)], [(2, .boxT (.s .task)), (7, .arr .I true)]⟩
def x0_spec_SplTo_0 : Tmpl := ⟨[(5, .c (.ref 49))], [(49, .arr .I true)]⟩
def L_spec_SplTo_0 (av : AV) (x : HP k_spec_SplTo.ps) (n : Nat) (v : t_spec_SplTo_0.den) (K : Ks (CR k_spec_SplTo)) : Option (CR k_spec_SplTo) := m_spec_SplTo_l0 v.2.1 v.1.1 (fun l0_1 x8 => x0_spec_SplTo_0.at none (((), ()), ((l0_1 ++ [x8.to]), ())) (K (.exit 0))) (fun l0_1 x13 => x0_spec_SplTo_0.at none (((), ()), ((l0_1 ++ [x13.to]), ())) (K (.exit 0))) (fun l0_1 x18 => x0_spec_SplTo_0.at none (((), ()), ((l0_1 ++ [x18.to]), ())) (K (.exit 0))) (fun l0_1 => x0_spec_SplTo_0.at none (((), ()), (l0_1, ())) (K (.exit 0))) n v.1.2.2.2.1 v.2.2.1
def h_spec_SplTo_0 (av : AV) (x : HP k_spec_SplTo.ps) : Hdl (CR k_spec_SplTo) := hnd [] t_spec_SplTo_0 (L_spec_SplTo_0 av x)
theorem l_spec_SplTo_0 : LP k_spec_SplTo Try.f133 [0] h_spec_SplTo_0 := lp_ok (W := []) (H := []) (xs := [x0_spec_SplTo_0]) g_spec_SplTo trivial rfl (fun av x v K => by kernel_rfl) (fun av x n v K => by kernel_rfl)
theorem o_spec_SplTo : k_spec_SplTo.Ok Try.prog := fn_ok (k := k_spec_SplTo) (fn := Try.f133) (W := []) (H := [h_spec_SplTo_0]) Try.func133 g_spec_SplTo ⟨l_spec_SplTo_0, trivial⟩ rfl rfl (fun av x => by kernel_rfl)

def m_spec_FirGive_k2 (l1_1 : List Int) : Option ((List Int) × Bool) := some (l1_1, true)
def m_spec_FirGive_l1 (x16 : (List Int)) (kx1_0 : List Int → Option ((List Int) × Bool)) : Nat → Int → List Int → Option ((List Int) × Bool)
  | 0, _, _ => none
  | n1 + 1, s1_0, l1_1 => if decide (s1_0 < (x16.length : Int)) = true then ((getI x16 s1_0).bind fun x18 => ((getI l1_1 x18).bind fun x19 => (if decide (x19 = 4) = true then (some (([] : List Int), false)) else ((getI x16 s1_0).bind fun x21 => ((getI x16 s1_0).bind fun x22 => ((getI l1_1 x22).bind fun x23 => (gd (ok64 (x23 + 1)) ((getI l1_1 x21).bind fun x25 => (gd (ok64 (s1_0 + 1)) ((m_spec_FirGive_l1 x16 kx1_0 n1) (s1_0 + 1) (l1_1.set x21.toNat (x23 + 1)))))))))))) else (kx1_0 l1_1)
def m_spec_FirGive_k1 (n : GNet) (t : Int) (data : List Int) (l0_1 : List Int) : Option ((List Int) × Bool) := (getI n.tasks t).bind fun x15 => ((m_spec_SplTo x15 data).bind fun x16 => (m_spec_FirGive_l1 x16 m_spec_FirGive_k2 FUEL 0 l0_1))
def m_spec_FirGive_l0 (n : GNet) (t : Int) (kx0_0 : List Int → Option ((List Int) × Bool)) : Nat → Int → List Int → Option ((List Int) × Bool)
  | 0, _, _ => none
  | n0 + 1, s0_0, l0_1 => (getI n.tasks t).bind fun x9 => (if decide (s0_0 < (x9.clear.length : Int)) = true then ((getI n.tasks t).bind fun x11 => ((getI x11.clear s0_0).bind fun x12 => ((getI l0_1 x12).bind fun x13 => (gd (ok64 (s0_0 + 1)) ((m_spec_FirGive_l0 n t kx0_0 n0) (s0_0 + 1) (l0_1.set x12.toNat 0)))))) else (kx0_0 l0_1))
def m_spec_FirGive (n : GNet) (marks : List Int) (t : Int) (data : List Int) : Option ((List Int) × Bool) := (m_spec_MrkOk n marks).bind fun x1 => (if x1 = true then (gd (ok64 ((n.tasks.length : Int) - 1)) ((m_spec_l1In t 0 ((n.tasks.length : Int) - 1)).bind fun x4 => (if x4 = true then ((m_spec_DatOk data).bind fun x6 => (if x6 = true then (gd (([] : List Int).length + marks.length ≤ SMALL) (m_spec_FirGive_l0 n t (m_spec_FirGive_k1 n t data) FUEL 0 (([] : List Int) ++ marks))) else (some (([] : List Int), false)))) else (some (([] : List Int), false))))) else (some (([] : List Int), false)))
def k_spec_FirGive : Con := ⟨95, [.v (.s .net) false, .v (.sl .I) false, .v .I false, .v (.sl .I) false], [((.sl .I), true), (.B, true)], [], fun x => m_spec_FirGive x.1 x.2.1 x.2.2.1 x.2.2.2.1⟩
def f_spec_FirGive : Fs := ⟨[k_spec_MrkOk, k_spec_l1In, k_spec_DatOk, k_spec_SplTo], []⟩
theorem g_spec_FirGive : f_spec_FirGive.Ok Try.prog := (fsK o_spec_MrkOk (fsK o_spec_l1In (fsK o_spec_DatOk (fsK o_spec_SplTo fs0))))
def t_spec_FirGive_0 : Tmpl := ⟨[(2, .c .i), (3, .c (.s .I)), (4, .c (.bx 4 0)), (10, .c (.ref 35)), (11, .c .i)], [(4, .boxT (.s .net)), (35, .arr .I true)]⟩
def x0_spec_FirGive_0 : Tmpl := ⟨[(2, .c .i), (3, .c (.s .I)), (4, .c (.bx 4 0)), (10, .c (.ref 35))], [(4, .boxT (.s .net)), (35, .arr .I true)]⟩
def L_spec_FirGive_0 (av : AV) (x : HP k_spec_FirGive.ps) (n : Nat) (v : t_spec_FirGive_0.den) (K : Ks (CR k_spec_FirGive)) : Option (CR k_spec_FirGive) := m_spec_FirGive_l0 v.2.1 v.1.1 (fun l0_1 => x0_spec_FirGive_0.at none ((v.1.1, v.1.2.1, (), (), ()), (v.2.1, l0_1, ())) (K (.exit 0))) n v.1.2.2.2.2.1 v.2.2.1
def h_spec_FirGive_0 (av : AV) (x : HP k_spec_FirGive.ps) : Hdl (CR k_spec_FirGive) := hnd [] t_spec_FirGive_0 (L_spec_FirGive_0 av x)
theorem l_spec_FirGive_0 : LP k_spec_FirGive Try.f95 [0] h_spec_FirGive_0 := lp_ok (W := []) (H := []) (xs := [x0_spec_FirGive_0]) g_spec_FirGive trivial rfl (fun av x v K => by kernel_rfl) (fun av x n v K => by kernel_rfl)
def t_spec_FirGive_1 : Tmpl := ⟨[(10, .c (.ref 35)), (12, .c (.ref 64)), (13, .c .i)], [(35, .arr .I true), (64, .arr .I true)]⟩
def x0_spec_FirGive_1 : Tmpl := ⟨[(10, .c (.ref 35))], [(35, .arr .I true)]⟩
def L_spec_FirGive_1 (av : AV) (x : HP k_spec_FirGive.ps) (n : Nat) (v : t_spec_FirGive_1.den) (K : Ks (CR k_spec_FirGive)) : Option (CR k_spec_FirGive) := m_spec_FirGive_l1 v.2.2.1 (fun l1_1 => x0_spec_FirGive_1.at none (((), ()), (l1_1, ())) (K (.exit 2))) n v.1.2.2.1 v.2.1
def h_spec_FirGive_1 (av : AV) (x : HP k_spec_FirGive.ps) : Hdl (CR k_spec_FirGive) := hnd [] t_spec_FirGive_1 (L_spec_FirGive_1 av x)
theorem l_spec_FirGive_1 : LP k_spec_FirGive Try.f95 [1] h_spec_FirGive_1 := lp_ok (W := []) (H := []) (xs := [x0_spec_FirGive_1]) g_spec_FirGive trivial rfl (fun av x v K => by kernel_rfl) (fun av x n v K => by kernel_rfl)
theorem o_spec_FirGive : k_spec_FirGive.Ok Try.prog := fn_ok (k := k_spec_FirGive) (fn := Try.f95) (W := []) (H := [h_spec_FirGive_0, h_spec_FirGive_1]) Try.func95 g_spec_FirGive ⟨l_spec_FirGive_0, l_spec_FirGive_1, trivial⟩ rfl rfl (fun av x => by kernel_rfl)

def m_spec_PplOk_k1  : Option Bool := some true
def m_spec_PplOk_l0 (people : List Int) (kx0_0 : Option Bool) : Nat → Int → Option Bool
  | 0, _ => none
  | n0 + 1, s0_0 => if decide (s0_0 < (people.length : Int)) = true then ((getI people s0_0).bind fun x4 => ((m_spec_l1In x4 0 7).bind fun x5 => (if x5 = true then (gd (ok64 (s0_0 + 1)) ((m_spec_PplOk_l0 people kx0_0 n0) (s0_0 + 1))) else (some false)))) else (kx0_0)
def m_spec_PplOk (people : List Int) : Option Bool := (m_spec_l1In (people.length : Int) 1 4).bind fun x1 => (if x1 = true then (m_spec_PplOk_l0 people m_spec_PplOk_k1 FUEL 0) else (some false))

def m_spec_CasOk_k1 (c : GCase) : Option Bool := if decide (c.state = 1) = true then ((getI c.marks 1).bind fun x20 => (some (decide (x20 = 0)))) else (if decide ((c.busy.length : Int) = 0) = true then ((getI c.marks 1).bind fun x22 => (some ((decide (c.state = 2)) == (decide (0 < x22))))) else (some false))
def m_spec_CasOk_l0 (n : GNet) (c : GCase) (kx0_0 : Option Bool) : Nat → Int → Option Bool
  | 0, _ => none
  | n0 + 1, s0_0 => if decide (s0_0 < (c.did.length : Int)) = true then ((getI c.did s0_0).bind fun x11 => (gd (ok64 ((n.tasks.length : Int) - 1)) ((m_spec_l1In x11.task 0 ((n.tasks.length : Int) - 1)).bind fun x13 => (if x13 = true then ((getI c.did s0_0).bind fun x15 => ((m_spec_l1In x15.who 1 4).bind fun x16 => (if x16 = true then (gd (ok64 (s0_0 + 1)) ((m_spec_CasOk_l0 n c kx0_0 n0) (s0_0 + 1))) else (some false)))) else (some false))))) else (kx0_0)
def m_spec_CasOk (n : GNet) (c : GCase) : Option Bool := (m_spec_MrkOk n c.marks).bind fun x1 => (if x1 = true then ((m_spec_l3Busy n c.busy).bind fun x3 => (if x3 = true then ((m_spec_DatOk c.data).bind fun x5 => (if x5 = true then (if decide (60 < (c.did.length : Int)) = true then (some false) else ((m_spec_l1In c.state 1 3).bind fun x8 => (if x8 = true then (m_spec_CasOk_l0 n c (m_spec_CasOk_k1 c) FUEL 0) else (some false)))) else (some false))) else (some false))) else (some false))
def k_spec_CasOk : Con := ⟨75, [.v (.s .net) false, .v (.s .kase) false], [(.B, true)], [], fun x => m_spec_CasOk x.1 x.2.1⟩
def f_spec_CasOk : Fs := ⟨[k_spec_MrkOk, k_spec_l3Busy, k_spec_DatOk, k_spec_l1In], []⟩
theorem g_spec_CasOk : f_spec_CasOk.Ok Try.prog := (fsK o_spec_MrkOk (fsK o_spec_l3Busy (fsK o_spec_DatOk (fsK o_spec_l1In fs0))))
def t_spec_CasOk_0 : Tmpl := ⟨[(2, .c (.bx 2 0)), (3, .c (.bx 3 0)), (5, .c .i)], [(2, .boxT (.s .net)), (3, .boxT (.s .kase))]⟩
def x0_spec_CasOk_0 : Tmpl := ⟨[(3, .c (.bx 3 0))], [(3, .boxT (.s .kase))]⟩
def L_spec_CasOk_0 (av : AV) (x : HP k_spec_CasOk.ps) (n : Nat) (v : t_spec_CasOk_0.den) (K : Ks (CR k_spec_CasOk)) : Option (CR k_spec_CasOk) := m_spec_CasOk_l0 v.2.1 v.2.2.1 (x0_spec_CasOk_0.at none (((), ()), (v.2.2.1, ())) (K (.exit 0))) n v.1.2.2.1
def h_spec_CasOk_0 (av : AV) (x : HP k_spec_CasOk.ps) : Hdl (CR k_spec_CasOk) := hnd [] t_spec_CasOk_0 (L_spec_CasOk_0 av x)
theorem l_spec_CasOk_0 : LP k_spec_CasOk Try.f75 [0] h_spec_CasOk_0 := lp_ok (W := []) (H := []) (xs := [x0_spec_CasOk_0]) g_spec_CasOk trivial rfl (fun av x v K => by kernel_rfl) (fun av x n v K => by kernel_rfl)
theorem o_spec_CasOk : k_spec_CasOk.Ok Try.prog := fn_ok (k := k_spec_CasOk) (fn := Try.f75) (W := []) (H := [h_spec_CasOk_0]) Try.func75 g_spec_CasOk ⟨l_spec_CasOk_0, trivial⟩ rfl rfl (fun av x => by kernel_rfl)

def m_spec_l6Copy (c : GCase) : Option GCase := gd (([] : List Int).length + c.marks.length ≤ SMALL) (gd (([] : List GItem).length + c.busy.length ≤ SMALL) (gd (([] : List Int).length + c.data.length ≤ SMALL) (gd (([] : List GDid).length + c.did.length ≤ SMALL) (some (GCase.mk c.state (([] : List Int) ++ c.marks) (([] : List GItem) ++ c.busy) (([] : List Int) ++ c.data) (([] : List GDid) ++ c.did))))))
def k_spec_l6Copy : Con := ⟨88, [.v (.s .kase) false], [((.s .kase), true)], [], fun x => m_spec_l6Copy x.1⟩
def f_spec_l6Copy : Fs := ⟨[], []⟩
theorem g_spec_l6Copy : f_spec_l6Copy.Ok Try.prog := fs0
theorem o_spec_l6Copy : k_spec_l6Copy.Ok Try.prog := fn_ok (k := k_spec_l6Copy) (fn := Try.f88) (W := []) (H := []) Try.func88 g_spec_l6Copy trivial rfl rfl (fun av x => by kernel_rfl)

def m_spec_CasWork (n : GNet) (c : GCase) (k : Int) (v : Int) (num : Int) : Option (GCase × Bool) := (m_spec_l6Copy c).bind fun x1 => ((m_spec_CasOk n c).bind fun x2 => (if x2 = true then (if decide (c.state = 1) = true then (gd (ok64 ((c.busy.length : Int) - 1)) ((m_spec_l1In k 0 ((c.busy.length : Int) - 1)).bind fun x6 => (if x6 = true then ((m_spec_l1In v (-1) 2).bind fun x8 => (if x8 = true then ((m_spec_l1In num (-99) 99).bind fun x10 => (if x10 = true then (if decide ((c.did.length : Int) = 60) = true then (some (x1, false)) else ((getI c.busy k).bind fun x13 => ((m_spec_DatSet c.data v num).bind fun x14 => (gd (ok64 (x13.did + 1)) ((getI x1.busy k).bind fun x16 => (gd (ok64 (x13.did + 1)) ((getI n.tasks x13.task).bind fun x18 => (if decide ((x13.did + 1) < x18.need) = true then (some ((GCase.mk x1.state x1.marks (x1.busy.set k.toNat (GItem.mk x16.task x16.who (x13.did + 1))) x14 x1.did), true)) else ((m_spec_FirGive n c.marks x13.task x14).bind fun x20 => (if x20.2 = true then (gd (0 ≤ k ∧ k ≤ (c.busy.length : Int)) (gd (([] : List GItem).length + (c.busy.take k.toNat).length ≤ SMALL) (gd (ok64 (k + 1)) (gd (0 ≤ (k + 1) ∧ (k + 1) ≤ (c.busy.length : Int)) (gd ((([] : List GItem) ++ (c.busy.take k.toNat)).length + (c.busy.drop (k + 1).toNat).length ≤ SMALL) (gd (x1.did.length + [(GDid.mk x13.task x13.who)].length ≤ SMALL) ((getI x20.1 1).bind fun x28 => (if decide (0 < x28) = true then (some ((GCase.mk 2 x20.1 ([] : List GItem) x14 (x1.did ++ [(GDid.mk x13.task x13.who)])), true)) else (some ((GCase.mk x1.state x20.1 ((([] : List GItem) ++ (c.busy.take k.toNat)) ++ (c.busy.drop (k + 1).toNat)) x14 (x1.did ++ [(GDid.mk x13.task x13.who)])), true)))))))))) else ((m_spec_l6Copy c).bind fun x30 => (some (x30, false))))))))))))) else (some (x1, false)))) else (some (x1, false)))) else (some (x1, false))))) else (some (x1, false))) else (some (x1, false))))
def k_spec_CasWork : Con := ⟨46, [.v (.s .net) false, .v (.s .kase) false, .v .I false, .v .I false, .v .I false], [((.s .kase), true), (.B, true)], [], fun x => m_spec_CasWork x.1 x.2.1 x.2.2.1 x.2.2.2.1 x.2.2.2.2.1⟩
def f_spec_CasWork : Fs := ⟨[k_spec_l6Copy, k_spec_CasOk, k_spec_l1In, k_spec_DatSet, k_spec_FirGive], []⟩
theorem g_spec_CasWork : f_spec_CasWork.Ok Try.prog := (fsK o_spec_l6Copy (fsK o_spec_CasOk (fsK o_spec_l1In (fsK o_spec_DatSet (fsK o_spec_FirGive fs0)))))
theorem o_spec_CasWork : k_spec_CasWork.Ok Try.prog := fn_ok (k := k_spec_CasWork) (fn := Try.f46) (W := []) (H := []) Try.func46 g_spec_CasWork trivial rfl rfl (fun av x => by kernel_rfl)

def m_spec_CasStop (n : GNet) (c : GCase) : Option (GCase × Bool) := (m_spec_l6Copy c).bind fun x1 => ((m_spec_CasOk n c).bind fun x2 => (if x2 = true then (if decide (c.state = 1) = true then (some ((GCase.mk 3 x1.marks ([] : List GItem) x1.data x1.did), true)) else (some (x1, false))) else (some (x1, false))))

def m_impl_CasCase_clone (c : GCase) : Option GCase := (m_impl_cloneInts c.marks).bind fun x1 => (gd (([] : List GItem).length + c.busy.length ≤ SMALL) ((m_impl_cloneInts c.data).bind fun x3 => (gd (([] : List GDid).length + c.did.length ≤ SMALL) (some (GCase.mk c.state x1 (([] : List GItem) ++ c.busy) x3 (([] : List GDid) ++ c.did))))))
def k_impl_CasCase_clone : Con := ⟨89, [.v (.s .kase) false], [((.s .kase), true)], [], fun x => m_impl_CasCase_clone x.1⟩
def f_impl_CasCase_clone : Fs := ⟨[k_impl_cloneInts], []⟩
theorem g_impl_CasCase_clone : f_impl_CasCase_clone.Ok Try.prog := (fsK o_impl_cloneInts fs0)
theorem o_impl_CasCase_clone : k_impl_CasCase_clone.Ok Try.prog := fn_ok (k := k_impl_CasCase_clone) (fn := Try.f89) (W := []) (H := []) Try.func89 g_impl_CasCase_clone trivial rfl rfl (fun av x => by kernel_rfl)

def m_spec_RdrOk_k1 (s0_0 : Int) (bk0 : Int → Option Bool) (s1_0 : Int) : Option Bool := if ((decide (s0_0 = 0)) == (decide (s1_0 = 0))) = true then (if decide (1 < s1_0) = true then (some false) else (gd (ok64 (s0_0 + 1)) (bk0 (s0_0 + 1)))) else (some false)
def m_spec_RdrOk_l1 (tree : List GNode) (s0_0 : Int) (kx1_0 : Int → Option Bool) : Nat → Int → Int → Option Bool
  | 0, _, _ => none
  | n1 + 1, s1_0, s1_1 => if decide (s1_1 < (tree.length : Int)) = true then ((getI tree s1_1).bind fun x15 => (if decide (x15.yes = s0_0) = true then (gd (ok64 (s1_0 + 1)) ((getI tree s1_1).bind fun x18 => (if decide (x18.no = s0_0) = true then (gd (ok64 ((s1_0 + 1) + 1)) (gd (ok64 (s1_1 + 1)) ((m_spec_RdrOk_l1 tree s0_0 kx1_0 n1) ((s1_0 + 1) + 1) (s1_1 + 1)))) else (gd (ok64 (s1_1 + 1)) ((m_spec_RdrOk_l1 tree s0_0 kx1_0 n1) (s1_0 + 1) (s1_1 + 1)))))) else ((getI tree s1_1).bind fun x23 => (if decide (x23.no = s0_0) = true then (gd (ok64 (s1_0 + 1)) (gd (ok64 (s1_1 + 1)) ((m_spec_RdrOk_l1 tree s0_0 kx1_0 n1) (s1_0 + 1) (s1_1 + 1)))) else (gd (ok64 (s1_1 + 1)) ((m_spec_RdrOk_l1 tree s0_0 kx1_0 n1) s1_0 (s1_1 + 1))))))) else (kx1_0 s1_0)
def m_spec_RdrOk_k2 (s0_0 : Int) (bk0 : Int → Option Bool) (s2_0 : Int) : Option Bool := if ((decide (s0_0 = 0)) == (decide (s2_0 = 0))) = true then (if decide (1 < s2_0) = true then (some false) else (gd (ok64 (s0_0 + 1)) (bk0 (s0_0 + 1)))) else (some false)
def m_spec_RdrOk_k3 (s0_0 : Int) (bk0 : Int → Option Bool) (s3_0 : Int) : Option Bool := if ((decide (s0_0 = 0)) == (decide (s3_0 = 0))) = true then (if decide (1 < s3_0) = true then (some false) else (gd (ok64 (s0_0 + 1)) (bk0 (s0_0 + 1)))) else (some false)
def m_spec_RdrOk_k4 (s0_0 : Int) (bk0 : Int → Option Bool) (s4_0 : Int) : Option Bool := if ((decide (s0_0 = 0)) == (decide (s4_0 = 0))) = true then (if decide (1 < s4_0) = true then (some false) else (gd (ok64 (s0_0 + 1)) (bk0 (s0_0 + 1)))) else (some false)
def m_spec_RdrOk_k5  : Option Bool := some true
def m_spec_RdrOk_l0 (tree : List GNode) (kx0_0 : Option Bool) : Nat → Int → Option Bool
  | 0, _ => none
  | n0 + 1, s0_0 => if decide (s0_0 < (tree.length : Int)) = true then ((getI tree s0_0).bind fun x3 => ((m_spec_ExpOk x3.if_).bind fun x4 => (if x4 = true then ((m_spec_l1In x3.ans 0 2).bind fun x6 => (if x6 = true then ((m_spec_DatOk x3.stone).bind fun x8 => (if x8 = true then ((m_spec_ExpHolds x3.if_ x3.stone).bind fun x10 => (if x10 = true then (if decide (x3.yes = (-1)) = true then (if decide (x3.no = (-1)) = true then (m_spec_RdrOk_l1 tree s0_0 (m_spec_RdrOk_k1 s0_0 (m_spec_RdrOk_l0 tree kx0_0 n0)) FUEL 0 0) else (gd (ok64 (s0_0 + 1)) (gd (ok64 ((tree.length : Int) - 1)) ((m_spec_l1In x3.no (s0_0 + 1) ((tree.length : Int) - 1)).bind fun x33 => (if x33 = true then (m_spec_RdrOk_l1 tree s0_0 (m_spec_RdrOk_k2 s0_0 (m_spec_RdrOk_l0 tree kx0_0 n0)) FUEL 0 0) else (some false)))))) else (gd (ok64 (s0_0 + 1)) (gd (ok64 ((tree.length : Int) - 1)) ((m_spec_l1In x3.yes (s0_0 + 1) ((tree.length : Int) - 1)).bind fun x54 => (if x54 = true then (if decide (x3.no = (-1)) = true then (m_spec_RdrOk_l1 tree s0_0 (m_spec_RdrOk_k3 s0_0 (m_spec_RdrOk_l0 tree kx0_0 n0)) FUEL 0 0) else (gd (ok64 (s0_0 + 1)) (gd (ok64 ((tree.length : Int) - 1)) ((m_spec_l1In x3.no (s0_0 + 1) ((tree.length : Int) - 1)).bind fun x76 => (if x76 = true then (m_spec_RdrOk_l1 tree s0_0 (m_spec_RdrOk_k4 s0_0 (m_spec_RdrOk_l0 tree kx0_0 n0)) FUEL 0 0) else (some false)))))) else (some false)))))) else (some false))) else (some false))) else (some false))) else (some false)))) else (kx0_0)
def m_spec_RdrOk (tree : List GNode) : Option Bool := if decide (12 < (tree.length : Int)) = true then (some false) else (m_spec_RdrOk_l0 tree m_spec_RdrOk_k5 FUEL 0)

def m_impl_isAnswer (ans : Int) : Option Bool := (m_impl_in ans 0 2).bind fun x1 => (some x1)

def m_IndexFunc_I_k1  : Option Int := some (-1)
def m_IndexFunc_I_l0 (s : List Int) (p : Int → Option Bool) (p0_0 : Int) (kx0_0 : Option Int) : Nat → Int → Option Int
  | 0, _ => none
  | n0 + 1, s0_0 => if decide (s0_0 < p0_0) = true then ((getI s s0_0).bind fun x2 => ((p x2).bind fun x3 => (if x3 = true then (some s0_0) else (gd (ok64 (s0_0 + 1)) ((m_IndexFunc_I_l0 s p p0_0 kx0_0 n0) (s0_0 + 1)))))) else (kx0_0)
def m_IndexFunc_I (s : List Int) (p : Int → Option Bool) : Option Int := m_IndexFunc_I_l0 s p (s.length : Int) m_IndexFunc_I_k1 FUEL 0
def k_IndexFunc_I : Con := ⟨141, [.v (.sl .I) false, .fn .I], [(.I, true)], [], fun x => m_IndexFunc_I x.1 x.2.1⟩
def f_IndexFunc_I : Fs := ⟨[], []⟩
theorem g_IndexFunc_I : f_IndexFunc_I.Ok Try.prog := fs0
def t_IndexFunc_I_0 : Tmpl := ⟨[(0, .c (.s .I)), (1, .c .fp), (7, .c .i), (8, .c .i)], []⟩
def x0_IndexFunc_I_0 : Tmpl := ⟨[], []⟩
def L_IndexFunc_I_0 (av : AV) (x : HP k_IndexFunc_I.ps) (n : Nat) (v : t_IndexFunc_I_0.den) (K : Ks (CR k_IndexFunc_I)) : Option (CR k_IndexFunc_I) := m_IndexFunc_I_l0 v.1.1 x.2.1 v.1.2.2.1 (x0_IndexFunc_I_0.at (fpOf k_IndexFunc_I.ps x av) ((), ()) (K (.exit 0))) n v.1.2.2.2.1
def h_IndexFunc_I_0 (av : AV) (x : HP k_IndexFunc_I.ps) : Hdl (CR k_IndexFunc_I) := hnd [] t_IndexFunc_I_0 (L_IndexFunc_I_0 av x)
theorem l_IndexFunc_I_0 : LP k_IndexFunc_I Try.f141 [0] h_IndexFunc_I_0 := lp_ok (W := []) (H := []) (xs := [x0_IndexFunc_I_0]) g_IndexFunc_I trivial rfl (fun av x v K => by kernel_rfl) (fun av x n v K => by kernel_rfl)
theorem o_IndexFunc_I : k_IndexFunc_I.Ok Try.prog := fn_ok (k := k_IndexFunc_I) (fn := Try.f141) (W := []) (H := [h_IndexFunc_I_0]) Try.func141 g_IndexFunc_I ⟨l_IndexFunc_I_0, trivial⟩ rfl rfl (fun av x => by kernel_rfl)

def m_ContainsFunc_I (s : List Int) (p : Int → Option Bool) : Option Bool := (m_IndexFunc_I s p).bind fun x1 => (some (decide (0 ≤ x1)))
def k_ContainsFunc_I : Con := ⟨127, [.v (.sl .I) false, .fn .I], [(.B, true)], [], fun x => m_ContainsFunc_I x.1 x.2.1⟩
def f_ContainsFunc_I : Fs := ⟨[k_IndexFunc_I], []⟩
theorem g_ContainsFunc_I : f_ContainsFunc_I.Ok Try.prog := (fsK o_IndexFunc_I fs0)
theorem o_ContainsFunc_I : k_ContainsFunc_I.Ok Try.prog := fn_ok (k := k_ContainsFunc_I) (fn := Try.f127) (W := []) (H := []) Try.func127 g_ContainsFunc_I trivial rfl rfl (fun av x => by kernel_rfl)

def m_IndexFunc_GReq_k1  : Option Int := some (-1)
def m_IndexFunc_GReq_l0 (s : List GReq) (p : GReq → Option Bool) (p0_0 : Int) (kx0_0 : Option Int) : Nat → Int → Option Int
  | 0, _ => none
  | n0 + 1, s0_0 => if decide (s0_0 < p0_0) = true then ((getI s s0_0).bind fun x2 => ((p x2).bind fun x3 => (if x3 = true then (some s0_0) else (gd (ok64 (s0_0 + 1)) ((m_IndexFunc_GReq_l0 s p p0_0 kx0_0 n0) (s0_0 + 1)))))) else (kx0_0)
def m_IndexFunc_GReq (s : List GReq) (p : GReq → Option Bool) : Option Int := m_IndexFunc_GReq_l0 s p (s.length : Int) m_IndexFunc_GReq_k1 FUEL 0

def m_ContainsFunc_GReq (s : List GReq) (p : GReq → Option Bool) : Option Bool := (m_IndexFunc_GReq s p).bind fun x1 => (some (decide (0 ≤ x1)))

def m_IndexFunc_GTask_k1  : Option Int := some (-1)
def m_IndexFunc_GTask_l0 (s : List GTask) (p : GTask → Option Bool) (p0_0 : Int) (kx0_0 : Option Int) : Nat → Int → Option Int
  | 0, _ => none
  | n0 + 1, s0_0 => if decide (s0_0 < p0_0) = true then ((getI s s0_0).bind fun x2 => ((p x2).bind fun x3 => (if x3 = true then (some s0_0) else (gd (ok64 (s0_0 + 1)) ((m_IndexFunc_GTask_l0 s p p0_0 kx0_0 n0) (s0_0 + 1)))))) else (kx0_0)
def m_IndexFunc_GTask (s : List GTask) (p : GTask → Option Bool) : Option Int := m_IndexFunc_GTask_l0 s p (s.length : Int) m_IndexFunc_GTask_k1 FUEL 0
def k_IndexFunc_GTask : Con := ⟨155, [.v (.sl (.s .task)) false, .fn (.s .task)], [(.I, true)], [], fun x => m_IndexFunc_GTask x.1 x.2.1⟩
def f_IndexFunc_GTask : Fs := ⟨[], []⟩
theorem g_IndexFunc_GTask : f_IndexFunc_GTask.Ok Try.prog := fs0
def t_IndexFunc_GTask_0 : Tmpl := ⟨[(0, .c (.s (.s .task))), (1, .c .fp), (7, .c .i), (8, .c .i)], []⟩
def x0_IndexFunc_GTask_0 : Tmpl := ⟨[], []⟩
def L_IndexFunc_GTask_0 (av : AV) (x : HP k_IndexFunc_GTask.ps) (n : Nat) (v : t_IndexFunc_GTask_0.den) (K : Ks (CR k_IndexFunc_GTask)) : Option (CR k_IndexFunc_GTask) := m_IndexFunc_GTask_l0 v.1.1 x.2.1 v.1.2.2.1 (x0_IndexFunc_GTask_0.at (fpOf k_IndexFunc_GTask.ps x av) ((), ()) (K (.exit 0))) n v.1.2.2.2.1
def h_IndexFunc_GTask_0 (av : AV) (x : HP k_IndexFunc_GTask.ps) : Hdl (CR k_IndexFunc_GTask) := hnd [] t_IndexFunc_GTask_0 (L_IndexFunc_GTask_0 av x)
theorem l_IndexFunc_GTask_0 : LP k_IndexFunc_GTask Try.f155 [0] h_IndexFunc_GTask_0 := lp_ok (W := []) (H := []) (xs := [x0_IndexFunc_GTask_0]) g_IndexFunc_GTask trivial rfl (fun av x v K => by kernel_rfl) (fun av x n v K => by kernel_rfl)
theorem o_IndexFunc_GTask : k_IndexFunc_GTask.Ok Try.prog := fn_ok (k := k_IndexFunc_GTask) (fn := Try.f155) (W := []) (H := [h_IndexFunc_GTask_0]) Try.func155 g_IndexFunc_GTask ⟨l_IndexFunc_GTask_0, trivial⟩ rfl rfl (fun av x => by kernel_rfl)

def m_ContainsFunc_GTask (s : List GTask) (p : GTask → Option Bool) : Option Bool := (m_IndexFunc_GTask s p).bind fun x1 => (some (decide (0 ≤ x1)))
def k_ContainsFunc_GTask : Con := ⟨148, [.v (.sl (.s .task)) false, .fn (.s .task)], [(.B, true)], [], fun x => m_ContainsFunc_GTask x.1 x.2.1⟩
def f_ContainsFunc_GTask : Fs := ⟨[k_IndexFunc_GTask], []⟩
theorem g_ContainsFunc_GTask : f_ContainsFunc_GTask.Ok Try.prog := (fsK o_IndexFunc_GTask fs0)
theorem o_ContainsFunc_GTask : k_ContainsFunc_GTask.Ok Try.prog := fn_ok (k := k_ContainsFunc_GTask) (fn := Try.f148) (W := []) (H := []) Try.func148 g_ContainsFunc_GTask trivial rfl rfl (fun av x => by kernel_rfl)

def m_IndexFunc_GNet_k1  : Option Int := some (-1)
def m_IndexFunc_GNet_l0 (s : List GNet) (p : GNet → Option Bool) (p0_0 : Int) (kx0_0 : Option Int) : Nat → Int → Option Int
  | 0, _ => none
  | n0 + 1, s0_0 => if decide (s0_0 < p0_0) = true then ((getI s s0_0).bind fun x2 => ((p x2).bind fun x3 => (if x3 = true then (some s0_0) else (gd (ok64 (s0_0 + 1)) ((m_IndexFunc_GNet_l0 s p p0_0 kx0_0 n0) (s0_0 + 1)))))) else (kx0_0)
def m_IndexFunc_GNet (s : List GNet) (p : GNet → Option Bool) : Option Int := m_IndexFunc_GNet_l0 s p (s.length : Int) m_IndexFunc_GNet_k1 FUEL 0

def m_ContainsFunc_GNet (s : List GNet) (p : GNet → Option Bool) : Option Bool := (m_IndexFunc_GNet s p).bind fun x1 => (some (decide (0 ≤ x1)))

def m_IndexFunc_GItem_k1  : Option Int := some (-1)
def m_IndexFunc_GItem_l0 (s : List GItem) (p : GItem → Option Bool) (p0_0 : Int) (kx0_0 : Option Int) : Nat → Int → Option Int
  | 0, _ => none
  | n0 + 1, s0_0 => if decide (s0_0 < p0_0) = true then ((getI s s0_0).bind fun x2 => ((p x2).bind fun x3 => (if x3 = true then (some s0_0) else (gd (ok64 (s0_0 + 1)) ((m_IndexFunc_GItem_l0 s p p0_0 kx0_0 n0) (s0_0 + 1)))))) else (kx0_0)
def m_IndexFunc_GItem (s : List GItem) (p : GItem → Option Bool) : Option Int := m_IndexFunc_GItem_l0 s p (s.length : Int) m_IndexFunc_GItem_k1 FUEL 0

def m_ContainsFunc_GItem (s : List GItem) (p : GItem → Option Bool) : Option Bool := (m_IndexFunc_GItem s p).bind fun x1 => (some (decide (0 ≤ x1)))

def m_Index_I_k1  : Option Int := some (-1)
def m_Index_I_l0 (s : List Int) (v : Int) (p0_0 : Int) (kx0_0 : Option Int) : Nat → Int → Option Int
  | 0, _ => none
  | n0 + 1, s0_0 => if decide (s0_0 < p0_0) = true then ((getI s s0_0).bind fun x2 => (if decide (v = x2) = true then (some s0_0) else (gd (ok64 (s0_0 + 1)) ((m_Index_I_l0 s v p0_0 kx0_0 n0) (s0_0 + 1))))) else (kx0_0)
def m_Index_I (s : List Int) (v : Int) : Option Int := m_Index_I_l0 s v (s.length : Int) m_Index_I_k1 FUEL 0
def k_Index_I : Con := ⟨161, [.v (.sl .I) false, .v .I false], [(.I, true)], [], fun x => m_Index_I x.1 x.2.1⟩
def f_Index_I : Fs := ⟨[], []⟩
theorem g_Index_I : f_Index_I.Ok Try.prog := fs0
def t_Index_I_0 : Tmpl := ⟨[(0, .c (.s .I)), (1, .c .i), (7, .c .i), (8, .c .i)], []⟩
def x0_Index_I_0 : Tmpl := ⟨[], []⟩
def L_Index_I_0 (av : AV) (x : HP k_Index_I.ps) (n : Nat) (v : t_Index_I_0.den) (K : Ks (CR k_Index_I)) : Option (CR k_Index_I) := m_Index_I_l0 v.1.1 v.1.2.1 v.1.2.2.1 (x0_Index_I_0.at none ((), ()) (K (.exit 0))) n v.1.2.2.2.1
def h_Index_I_0 (av : AV) (x : HP k_Index_I.ps) : Hdl (CR k_Index_I) := hnd [] t_Index_I_0 (L_Index_I_0 av x)
theorem l_Index_I_0 : LP k_Index_I Try.f161 [0] h_Index_I_0 := lp_ok (W := []) (H := []) (xs := [x0_Index_I_0]) g_Index_I trivial rfl (fun av x v K => by kernel_rfl) (fun av x n v K => by kernel_rfl)
theorem o_Index_I : k_Index_I.Ok Try.prog := fn_ok (k := k_Index_I) (fn := Try.f161) (W := []) (H := [h_Index_I_0]) Try.func161 g_Index_I ⟨l_Index_I_0, trivial⟩ rfl rfl (fun av x => by kernel_rfl)

def m_Contains_I (s : List Int) (v : Int) : Option Bool := (m_Index_I s v).bind fun x1 => (some (decide (0 ≤ x1)))
def k_Contains_I : Con := ⟨160, [.v (.sl .I) false, .v .I false], [(.B, true)], [], fun x => m_Contains_I x.1 x.2.1⟩
def f_Contains_I : Fs := ⟨[k_Index_I], []⟩
theorem g_Contains_I : f_Contains_I.Ok Try.prog := (fsK o_Index_I fs0)
theorem o_Contains_I : k_Contains_I.Ok Try.prog := fn_ok (k := k_Contains_I) (fn := Try.f160) (W := []) (H := []) Try.func160 g_Contains_I trivial rfl rfl (fun av x => by kernel_rfl)

def m_impl_DatOk_1 (n : Int) : Option Bool := (m_impl_isDatum n).bind fun x1 => (some (!x1))
def q_impl_DatOk_1 : FCon := ⟨135, .I, [], fun z c => m_impl_DatOk_1 z ⟩
def f_impl_DatOk_1 : Fs := ⟨[k_impl_isDatum], []⟩
theorem g_impl_DatOk_1 : f_impl_DatOk_1.Ok Try.prog := (fsK o_impl_isDatum fs0)
theorem o_impl_DatOk_1 : q_impl_DatOk_1.Ok Try.prog := FCon.ok (fn_ok (k := q_impl_DatOk_1.con) (fn := Try.f135) (W := []) (H := []) Try.func135 g_impl_DatOk_1 trivial rfl rfl (fun av x => by kernel_rfl))

def m_impl_DatOk (data : List Int) : Option Bool := if decide ((data.length : Int) = 3) = true then ((m_ContainsFunc_I data (fun z => m_impl_DatOk_1 z )).bind fun x2 => (some (!x2))) else (some false)
def k_impl_DatOk : Con := ⟨108, [.v (.sl .I) false], [(.B, true)], [], fun x => m_impl_DatOk x.1⟩
def f_impl_DatOk : Fs := ⟨[k_ContainsFunc_I], [q_impl_DatOk_1]⟩
theorem g_impl_DatOk : f_impl_DatOk.Ok Try.prog := (fsK o_ContainsFunc_I (fsF o_impl_DatOk_1 fs0))
theorem o_impl_DatOk : k_impl_DatOk.Ok Try.prog := fn_ok (k := k_impl_DatOk) (fn := Try.f108) (W := []) (H := []) Try.func108 g_impl_DatOk trivial rfl rfl (fun av x => by kernel_rfl)

def m_impl_ExpHolds (e : GAsk) (data : List Int) : Option Bool := (m_impl_ExpOk e).bind fun x1 => (if x1 = true then ((m_impl_DatOk data).bind fun x3 => (if x3 = true then (if decide (e.op = 1) = true then ((getI data e.var).bind fun x6 => (some (decide (x6 < e.k)))) else (if decide (e.op = 2) = true then ((getI data e.var).bind fun x8 => (some (decide (x8 = e.k)))) else (if decide (e.op = 3) = true then ((getI data e.var).bind fun x10 => (some (decide (e.k < x10)))) else (some true)))) else (some false))) else (some false))
def k_impl_ExpHolds : Con := ⟨144, [.v (.s .ask) false, .v (.sl .I) false], [(.B, true)], [], fun x => m_impl_ExpHolds x.1 x.2.1⟩
def f_impl_ExpHolds : Fs := ⟨[k_impl_ExpOk, k_impl_DatOk], []⟩
theorem g_impl_ExpHolds : f_impl_ExpHolds.Ok Try.prog := (fsK o_impl_ExpOk (fsK o_impl_DatOk fs0))
theorem o_impl_ExpHolds : k_impl_ExpHolds.Ok Try.prog := fn_ok (k := k_impl_ExpHolds) (fn := Try.f144) (W := []) (H := []) Try.func144 g_impl_ExpHolds trivial rfl rfl (fun av x => by kernel_rfl)

def m_impl_ascends_k1  : Option Bool := some true
def m_impl_ascends_l0 (list : List Int) (places : Int) (without : List Int) (p0_0 : Int) (kx0_0 : Option Bool) : Nat → Int → Int → Option Bool
  | 0, _, _ => none
  | n0 + 1, s0_0, s0_1 => if decide (s0_0 < p0_0) = true then ((getI list s0_0).bind fun x2 => (gd (ok64 (s0_1 + 1)) (gd (ok64 (places - 1)) ((m_impl_in x2 (s0_1 + 1) (places - 1)).bind fun x5 => (if x5 = true then ((m_Contains_I without x2).bind fun x7 => (if x7 = true then (some false) else (gd (ok64 (s0_0 + 1)) ((m_impl_ascends_l0 list places without p0_0 kx0_0 n0) (s0_0 + 1) x2)))) else (some false)))))) else (kx0_0)
def m_impl_ascends (list : List Int) (places : Int) (without : List Int) : Option Bool := m_impl_ascends_l0 list places without (list.length : Int) m_impl_ascends_k1 FUEL 0 (-1)
def k_impl_ascends : Con := ⟨157, [.v (.sl .I) false, .v .I false, .v (.sl .I) false], [(.B, true)], [], fun x => m_impl_ascends x.1 x.2.1 x.2.2.1⟩
def f_impl_ascends : Fs := ⟨[k_impl_in, k_Contains_I], []⟩
theorem g_impl_ascends : f_impl_ascends.Ok Try.prog := (fsK o_impl_in (fsK o_Contains_I fs0))
def t_impl_ascends_0 : Tmpl := ⟨[(1, .c .i), (2, .c (.s .I)), (7, .c .i), (10, .c (.s .I)), (11, .c .i), (12, .c .i)], []⟩
def x0_impl_ascends_0 : Tmpl := ⟨[], []⟩
def L_impl_ascends_0 (av : AV) (x : HP k_impl_ascends.ps) (n : Nat) (v : t_impl_ascends_0.den) (K : Ks (CR k_impl_ascends)) : Option (CR k_impl_ascends) := m_impl_ascends_l0 v.1.2.2.2.1 v.1.1 v.1.2.1 v.1.2.2.2.2.1 (x0_impl_ascends_0.at none ((), ()) (K (.exit 0))) n v.1.2.2.2.2.2.1 v.1.2.2.1
def h_impl_ascends_0 (av : AV) (x : HP k_impl_ascends.ps) : Hdl (CR k_impl_ascends) := hnd [] t_impl_ascends_0 (L_impl_ascends_0 av x)
theorem l_impl_ascends_0 : LP k_impl_ascends Try.f157 [0] h_impl_ascends_0 := lp_ok (W := []) (H := []) (xs := [x0_impl_ascends_0]) g_impl_ascends trivial rfl (fun av x v K => by kernel_rfl) (fun av x n v K => by kernel_rfl)
theorem o_impl_ascends : k_impl_ascends.Ok Try.prog := fn_ok (k := k_impl_ascends) (fn := Try.f157) (W := []) (H := [h_impl_ascends_0]) Try.func157 g_impl_ascends ⟨l_impl_ascends_0, trivial⟩ rfl rfl (fun av x => by kernel_rfl)

def m_impl_NetTask_outOk_k1 (t : GTask) : Option Bool := (m_impl_in (t.out.length : Int) 1 3).bind fun x21 => (some x21)
def m_impl_NetTask_outOk_l0 (t : GTask) (places : Int) (p0_0 : List GFlow) (p0_1 : Int) (kx0_0 : Option Bool) : Nat → Int → List Int → Option Bool
  | 0, _, _ => none
  | n0 + 1, s0_0, m0_1 => if decide (s0_0 < p0_1) = true then ((getI p0_0 s0_0).bind fun x2 => (if decide (t.split = 1) = true then (gd (ok64 (places - 1)) ((m_impl_in x2.to 0 (places - 1)).bind fun x5 => (if x5 = true then (if decide (x2.to ∈ m0_1) = true then (some false) else ((m_impl_ExpOk x2.if_).bind fun x8 => (if x8 = true then (if ((decide (x2.if_.op = 0)) == true) = true then (gd (ok64 (s0_0 + 1)) ((m_impl_NetTask_outOk_l0 t places p0_0 p0_1 kx0_0 n0) (s0_0 + 1) (insKey m0_1 x2.to))) else (some false)) else (some false)))) else (some false)))) else (gd (ok64 ((t.out.length : Int) - 1)) (gd (ok64 (places - 1)) ((m_impl_in x2.to 0 (places - 1)).bind fun x14 => (if x14 = true then (if decide (x2.to ∈ m0_1) = true then (some false) else ((m_impl_ExpOk x2.if_).bind fun x17 => (if x17 = true then (if ((decide (x2.if_.op = 0)) == (decide (s0_0 = ((t.out.length : Int) - 1)))) = true then (gd (ok64 (s0_0 + 1)) ((m_impl_NetTask_outOk_l0 t places p0_0 p0_1 kx0_0 n0) (s0_0 + 1) (insKey m0_1 x2.to))) else (some false)) else (some false)))) else (some false))))))) else (kx0_0)
def m_impl_NetTask_outOk (t : GTask) (places : Int) : Option Bool := m_impl_NetTask_outOk_l0 t places t.out (t.out.length : Int) (m_impl_NetTask_outOk_k1 t) FUEL 0 (insKey ([] : List Int) 0)
def k_impl_NetTask_outOk : Con := ⟨158, [.v (.s .task) false, .v .I false], [(.B, true)], [], fun x => m_impl_NetTask_outOk x.1 x.2.1⟩
def f_impl_NetTask_outOk : Fs := ⟨[k_impl_in, k_impl_ExpOk], []⟩
theorem g_impl_NetTask_outOk : f_impl_NetTask_outOk.Ok Try.prog := (fsK o_impl_in (fsK o_impl_ExpOk fs0))
def t_impl_NetTask_outOk_0 : Tmpl := ⟨[(1, .c .i), (2, .c (.bx 2 0)), (5, .c (.bx 9 0)), (12, .c (.s (.s .flow))), (13, .c .i), (14, .c .i)], [(2, .boxT (.s .task)), (9, .mp)]⟩
def x0_impl_NetTask_outOk_0 : Tmpl := ⟨[(2, .c (.bx 2 0))], [(2, .boxT (.s .task))]⟩
def L_impl_NetTask_outOk_0 (av : AV) (x : HP k_impl_NetTask_outOk.ps) (n : Nat) (v : t_impl_NetTask_outOk_0.den) (K : Ks (CR k_impl_NetTask_outOk)) : Option (CR k_impl_NetTask_outOk) := m_impl_NetTask_outOk_l0 v.2.1 v.1.1 v.1.2.2.2.1 v.1.2.2.2.2.1 (x0_impl_NetTask_outOk_0.at none (((), ()), (v.2.1, ())) (K (.exit 0))) n v.1.2.2.2.2.2.1 v.2.2.1
def h_impl_NetTask_outOk_0 (av : AV) (x : HP k_impl_NetTask_outOk.ps) : Hdl (CR k_impl_NetTask_outOk) := hnd [] t_impl_NetTask_outOk_0 (L_impl_NetTask_outOk_0 av x)
theorem l_impl_NetTask_outOk_0 : LP k_impl_NetTask_outOk Try.f158 [0] h_impl_NetTask_outOk_0 := lp_ok (W := []) (H := []) (xs := [x0_impl_NetTask_outOk_0]) g_impl_NetTask_outOk trivial rfl (fun av x v K => by kernel_rfl) (fun av x n v K => by kernel_rfl)
theorem o_impl_NetTask_outOk : k_impl_NetTask_outOk.Ok Try.prog := fn_ok (k := k_impl_NetTask_outOk) (fn := Try.f158) (W := []) (H := [h_impl_NetTask_outOk_0]) Try.func158 g_impl_NetTask_outOk ⟨l_impl_NetTask_outOk_0, trivial⟩ rfl rfl (fun av x => by kernel_rfl)

def m_impl_NetTask_ok (t : GTask) (places : Int) (tasks : Int) : Option Bool := (m_impl_isKind t.join).bind fun x1 => (if x1 = true then ((m_impl_isKind t.split).bind fun x3 => (if x3 = true then ((m_impl_in (t.in_.length : Int) 1 3).bind fun x5 => (if x5 = true then ((m_impl_ascends t.in_ places [1]).bind fun x7 => (if x7 = true then ((m_impl_NetTask_outOk t places).bind fun x9 => (if x9 = true then ((m_impl_ascends t.clear places [0, 1]).bind fun x11 => (if x11 = true then ((m_impl_isRole t.role).bind fun x13 => (if x13 = true then (gd (ok64 (tasks - 1)) ((m_impl_in t.apart (-1) (tasks - 1)).bind fun x16 => (if x16 = true then ((m_impl_in t.all 1 3).bind fun x18 => (if x18 = true then ((m_impl_in t.need 1 t.all).bind fun x20 => (some x20)) else (some false))) else (some false)))) else (some false))) else (some false))) else (some false))) else (some false))) else (some false))) else (some false))) else (some false))
def k_impl_NetTask_ok : Con := ⟨150, [.v (.s .task) false, .v .I false, .v .I false], [(.B, true)], [], fun x => m_impl_NetTask_ok x.1 x.2.1 x.2.2.1⟩
def f_impl_NetTask_ok : Fs := ⟨[k_impl_isKind, k_impl_in, k_impl_ascends, k_impl_NetTask_outOk, k_impl_isRole], []⟩
theorem g_impl_NetTask_ok : f_impl_NetTask_ok.Ok Try.prog := (fsK o_impl_isKind (fsK o_impl_in (fsK o_impl_ascends (fsK o_impl_NetTask_outOk (fsK o_impl_isRole fs0)))))
theorem o_impl_NetTask_ok : k_impl_NetTask_ok.Ok Try.prog := fn_ok (k := k_impl_NetTask_ok) (fn := Try.f150) (W := []) (H := []) Try.func150 g_impl_NetTask_ok trivial rfl rfl (fun av x => by kernel_rfl)

def m_impl_NetOk_1 (t : GTask) (n : GNet) : Option Bool := (m_impl_NetTask_ok t n.places (n.tasks.length : Int)).bind fun x1 => (some (!x1))
def q_impl_NetOk_1 : FCon := ⟨149, (.s .task), [(.s .net)], fun z c => m_impl_NetOk_1 z c.1⟩
def f_impl_NetOk_1 : Fs := ⟨[k_impl_NetTask_ok], []⟩
theorem g_impl_NetOk_1 : f_impl_NetOk_1.Ok Try.prog := (fsK o_impl_NetTask_ok fs0)
theorem o_impl_NetOk_1 : q_impl_NetOk_1.Ok Try.prog := FCon.ok (fn_ok (k := q_impl_NetOk_1.con) (fn := Try.f149) (W := []) (H := []) Try.func149 g_impl_NetOk_1 trivial rfl rfl (fun av x => by kernel_rfl))

def m_impl_NetOk (n : GNet) : Option Bool := (m_impl_sizesOk n.places (n.tasks.length : Int)).bind fun x1 => (if x1 = true then ((m_ContainsFunc_GTask n.tasks (fun z => m_impl_NetOk_1 z n)).bind fun x3 => (some (!x3))) else (some false))
def k_impl_NetOk : Con := ⟨140, [.v (.s .net) false], [(.B, true)], [], fun x => m_impl_NetOk x.1⟩
def f_impl_NetOk : Fs := ⟨[k_impl_sizesOk, k_ContainsFunc_GTask], [q_impl_NetOk_1]⟩
theorem g_impl_NetOk : f_impl_NetOk.Ok Try.prog := (fsK o_impl_sizesOk (fsK o_ContainsFunc_GTask (fsF o_impl_NetOk_1 fs0)))
theorem o_impl_NetOk : k_impl_NetOk.Ok Try.prog := fn_ok (k := k_impl_NetOk) (fn := Try.f140) (W := []) (H := []) Try.func140 g_impl_NetOk trivial rfl rfl (fun av x => by kernel_rfl)

def m_impl_NetNet_marksOk_1 (m : Int) : Option Bool := (m_impl_in m 0 4).bind fun x1 => (some (!x1))
def q_impl_NetNet_marksOk_1 : FCon := ⟨128, .I, [], fun z c => m_impl_NetNet_marksOk_1 z ⟩
def f_impl_NetNet_marksOk_1 : Fs := ⟨[k_impl_in], []⟩
theorem g_impl_NetNet_marksOk_1 : f_impl_NetNet_marksOk_1.Ok Try.prog := (fsK o_impl_in fs0)
theorem o_impl_NetNet_marksOk_1 : q_impl_NetNet_marksOk_1.Ok Try.prog := FCon.ok (fn_ok (k := q_impl_NetNet_marksOk_1.con) (fn := Try.f128) (W := []) (H := []) Try.func128 g_impl_NetNet_marksOk_1 trivial rfl rfl (fun av x => by kernel_rfl))

def m_impl_NetNet_marksOk (n : GNet) (marks : List Int) : Option Bool := if decide ((marks.length : Int) = n.places) = true then ((m_ContainsFunc_I marks (fun z => m_impl_NetNet_marksOk_1 z )).bind fun x2 => (some (!x2))) else (some false)
def k_impl_NetNet_marksOk : Con := ⟨81, [.v (.s .net) false, .v (.sl .I) false], [(.B, true)], [], fun x => m_impl_NetNet_marksOk x.1 x.2.1⟩
def f_impl_NetNet_marksOk : Fs := ⟨[k_ContainsFunc_I], [q_impl_NetNet_marksOk_1]⟩
theorem g_impl_NetNet_marksOk : f_impl_NetNet_marksOk.Ok Try.prog := (fsK o_ContainsFunc_I (fsF o_impl_NetNet_marksOk_1 fs0))
theorem o_impl_NetNet_marksOk : k_impl_NetNet_marksOk.Ok Try.prog := fn_ok (k := k_impl_NetNet_marksOk) (fn := Try.f81) (W := []) (H := []) Try.func81 g_impl_NetNet_marksOk trivial rfl rfl (fun av x => by kernel_rfl)

def m_impl_MrkOk (n : GNet) (marks : List Int) : Option Bool := (m_impl_NetOk n).bind fun x1 => (if x1 = true then ((m_impl_NetNet_marksOk n marks).bind fun x3 => (some x3)) else (some false))
def k_impl_MrkOk : Con := ⟨123, [.v (.s .net) false, .v (.sl .I) false], [(.B, true)], [], fun x => m_impl_MrkOk x.1 x.2.1⟩
def f_impl_MrkOk : Fs := ⟨[k_impl_NetOk, k_impl_NetNet_marksOk], []⟩
theorem g_impl_MrkOk : f_impl_MrkOk.Ok Try.prog := (fsK o_impl_NetOk (fsK o_impl_NetNet_marksOk fs0))
theorem o_impl_MrkOk : k_impl_MrkOk.Ok Try.prog := fn_ok (k := k_impl_MrkOk) (fn := Try.f123) (W := []) (H := []) Try.func123 g_impl_MrkOk trivial rfl rfl (fun av x => by kernel_rfl)

def m_impl_NetNet_busyOk_k1 (busy : List GItem) : Option Bool := some (decide ((busy.length : Int) ≤ 6))
def m_impl_NetNet_busyOk_l0 (n : GNet) (p0_0 : List GItem) (p0_1 : Int) (kx0_0 : Option Bool) : Nat → Int → Option Bool
  | 0, _ => none
  | n0 + 1, s0_0 => if decide (s0_0 < p0_1) = true then ((getI p0_0 s0_0).bind fun x2 => ((m_impl_NetNet_hasTask n x2.task).bind fun x3 => (if x3 = true then ((m_impl_isPerson x2.who).bind fun x5 => (if x5 = true then ((getI n.tasks x2.task).bind fun x7 => (gd (ok64 (x7.need - 1)) ((m_impl_in x2.did 0 (x7.need - 1)).bind fun x9 => (if x9 = true then (gd (ok64 (s0_0 + 1)) ((m_impl_NetNet_busyOk_l0 n p0_0 p0_1 kx0_0 n0) (s0_0 + 1))) else (some false))))) else (some false))) else (some false)))) else (kx0_0)
def m_impl_NetNet_busyOk (n : GNet) (busy : List GItem) : Option Bool := m_impl_NetNet_busyOk_l0 n busy (busy.length : Int) (m_impl_NetNet_busyOk_k1 busy) FUEL 0
def k_impl_NetNet_busyOk : Con := ⟨124, [.v (.s .net) false, .v (.sl (.s .item)) false], [(.B, true)], [], fun x => m_impl_NetNet_busyOk x.1 x.2.1⟩
def f_impl_NetNet_busyOk : Fs := ⟨[k_impl_NetNet_hasTask, k_impl_isPerson, k_impl_in], []⟩
theorem g_impl_NetNet_busyOk : f_impl_NetNet_busyOk.Ok Try.prog := (fsK o_impl_NetNet_hasTask (fsK o_impl_isPerson (fsK o_impl_in fs0)))
def t_impl_NetNet_busyOk_0 : Tmpl := ⟨[(1, .c (.s (.s .item))), (2, .c (.bx 2 0)), (7, .c (.s (.s .item))), (8, .c .i), (9, .c .i)], [(2, .boxT (.s .net))]⟩
def x0_impl_NetNet_busyOk_0 : Tmpl := ⟨[(1, .c (.s (.s .item)))], []⟩
def L_impl_NetNet_busyOk_0 (av : AV) (x : HP k_impl_NetNet_busyOk.ps) (n : Nat) (v : t_impl_NetNet_busyOk_0.den) (K : Ks (CR k_impl_NetNet_busyOk)) : Option (CR k_impl_NetNet_busyOk) := m_impl_NetNet_busyOk_l0 v.2.1 v.1.2.2.1 v.1.2.2.2.1 (x0_impl_NetNet_busyOk_0.at none ((v.1.1, ()), ()) (K (.exit 0))) n v.1.2.2.2.2.1
def h_impl_NetNet_busyOk_0 (av : AV) (x : HP k_impl_NetNet_busyOk.ps) : Hdl (CR k_impl_NetNet_busyOk) := hnd [] t_impl_NetNet_busyOk_0 (L_impl_NetNet_busyOk_0 av x)
theorem l_impl_NetNet_busyOk_0 : LP k_impl_NetNet_busyOk Try.f124 [0] h_impl_NetNet_busyOk_0 := lp_ok (W := []) (H := []) (xs := [x0_impl_NetNet_busyOk_0]) g_impl_NetNet_busyOk trivial rfl (fun av x v K => by kernel_rfl) (fun av x n v K => by kernel_rfl)
theorem o_impl_NetNet_busyOk : k_impl_NetNet_busyOk.Ok Try.prog := fn_ok (k := k_impl_NetNet_busyOk) (fn := Try.f124) (W := []) (H := [h_impl_NetNet_busyOk_0]) Try.func124 g_impl_NetNet_busyOk ⟨l_impl_NetNet_busyOk_0, trivial⟩ rfl rfl (fun av x => by kernel_rfl)

def m_impl_SplTo_k1 (l0_1 : List Int) : Option (List Int) := some l0_1
def m_impl_SplTo_l0 (t : GTask) (data : List Int) (p0_0 : List GFlow) (p0_1 : Int) (kx0_0 : List Int → Option (List Int)) : Nat → Int → List Int → Option (List Int)
  | 0, _, _ => none
  | n0 + 1, s0_0, l0_1 => if decide (s0_0 < p0_1) = true then ((getI p0_0 s0_0).bind fun x2 => ((m_impl_ExpHolds x2.if_ data).bind fun x3 => (if x3 = true then (if decide (t.split = 2) = true then (if decide (0 < (l0_1.length : Int)) = true then (gd (ok64 (s0_0 + 1)) ((m_impl_SplTo_l0 t data p0_0 p0_1 kx0_0 n0) (s0_0 + 1) l0_1)) else (if decide (t.split = 3) = true then (gd (ok64 ((t.out.length : Int) - 1)) (if decide (s0_0 = ((t.out.length : Int) - 1)) = true then (if decide (0 < (l0_1.length : Int)) = true then (gd (ok64 (s0_0 + 1)) ((m_impl_SplTo_l0 t data p0_0 p0_1 kx0_0 n0) (s0_0 + 1) l0_1)) else (gd (l0_1.length + [x2.to].length ≤ SMALL) (gd (ok64 (s0_0 + 1)) ((m_impl_SplTo_l0 t data p0_0 p0_1 kx0_0 n0) (s0_0 + 1) (l0_1 ++ [x2.to]))))) else (gd (l0_1.length + [x2.to].length ≤ SMALL) (gd (ok64 (s0_0 + 1)) ((m_impl_SplTo_l0 t data p0_0 p0_1 kx0_0 n0) (s0_0 + 1) (l0_1 ++ [x2.to])))))) else (gd (l0_1.length + [x2.to].length ≤ SMALL) (gd (ok64 (s0_0 + 1)) ((m_impl_SplTo_l0 t data p0_0 p0_1 kx0_0 n0) (s0_0 + 1) (l0_1 ++ [x2.to])))))) else (if decide (t.split = 3) = true then (gd (ok64 ((t.out.length : Int) - 1)) (if decide (s0_0 = ((t.out.length : Int) - 1)) = true then (if decide (0 < (l0_1.length : Int)) = true then (gd (ok64 (s0_0 + 1)) ((m_impl_SplTo_l0 t data p0_0 p0_1 kx0_0 n0) (s0_0 + 1) l0_1)) else (gd (l0_1.length + [x2.to].length ≤ SMALL) (gd (ok64 (s0_0 + 1)) ((m_impl_SplTo_l0 t data p0_0 p0_1 kx0_0 n0) (s0_0 + 1) (l0_1 ++ [x2.to]))))) else (gd (l0_1.length + [x2.to].length ≤ SMALL) (gd (ok64 (s0_0 + 1)) ((m_impl_SplTo_l0 t data p0_0 p0_1 kx0_0 n0) (s0_0 + 1) (l0_1 ++ [x2.to])))))) else (gd (l0_1.length + [x2.to].length ≤ SMALL) (gd (ok64 (s0_0 + 1)) ((m_impl_SplTo_l0 t data p0_0 p0_1 kx0_0 n0) (s0_0 + 1) (l0_1 ++ [x2.to])))))) else (gd (ok64 (s0_0 + 1)) ((m_impl_SplTo_l0 t data p0_0 p0_1 kx0_0 n0) (s0_0 + 1) l0_1))))) else (kx0_0 l0_1)
def m_impl_SplTo (t : GTask) (data : List Int) : Option (List Int) := m_impl_SplTo_l0 t data t.out (t.out.length : Int) m_impl_SplTo_k1 FUEL 0 ([] : List Int)
def k_impl_SplTo : Con := ⟨134, [.v (.s .task) false, .v (.sl .I) false], [((.sl .I), true)], [], fun x => m_impl_SplTo x.1 x.2.1⟩
def f_impl_SplTo : Fs := ⟨[k_impl_ExpHolds], []⟩
theorem g_impl_SplTo : f_impl_SplTo.Ok Try.prog := (fsK o_impl_ExpHolds fs0)
def t_impl_SplTo_0 : Tmpl := ⟨[(1, .c (.s .I)), (2, .c (.bx 2 0)), (5, .c (.ref 500005)), (9, .c (.s (.s .flow))), (10, .c .i), (11, .c .i)], [(2, .boxT (.s .task)), (500005, .arr .I true)]⟩
def x0_impl_SplTo_0 : Tmpl := ⟨[(5, .c (.ref 500005))], [(500005, .arr .I true)]⟩
def L_impl_SplTo_0 (av : AV) (x : HP k_impl_SplTo.ps) (n : Nat) (v : t_impl_SplTo_0.den) (K : Ks (CR k_impl_SplTo)) : Option (CR k_impl_SplTo) := m_impl_SplTo_l0 v.2.1 v.1.1 v.1.2.2.2.1 v.1.2.2.2.2.1 (fun l0_1 => x0_impl_SplTo_0.at none (((), ()), (l0_1, ())) (K (.exit 0))) n v.1.2.2.2.2.2.1 v.2.2.1
def h_impl_SplTo_0 (av : AV) (x : HP k_impl_SplTo.ps) : Hdl (CR k_impl_SplTo) := hnd [.e 5 500005 .I] t_impl_SplTo_0 (L_impl_SplTo_0 av x)
theorem l_impl_SplTo_0 : LP k_impl_SplTo Try.f134 [0] h_impl_SplTo_0 := lp_ok (W := []) (H := []) (xs := [x0_impl_SplTo_0]) g_impl_SplTo trivial rfl (fun av x v K => by kernel_rfl) (fun av x n v K => by kernel_rfl)
theorem o_impl_SplTo : k_impl_SplTo.Ok Try.prog := fn_ok (k := k_impl_SplTo) (fn := Try.f134) (W := []) (H := [h_impl_SplTo_0]) Try.func134 g_impl_SplTo ⟨l_impl_SplTo_0, trivial⟩ rfl rfl (fun av x => by kernel_rfl)

def m_impl_FirGive_k2 (n : GNet) (l1_1 : List Int) : Option ((List Int) × Bool) := (m_impl_NetNet_marksOk n l1_1).bind fun x21 => (if x21 = true then (some (l1_1, true)) else (some ([], false)))
def m_impl_FirGive_l1 (x14 : (List Int)) (p1_0 : Int) (kx1_0 : List Int → Option ((List Int) × Bool)) : Nat → Int → List Int → Option ((List Int) × Bool)
  | 0, _, _ => none
  | n1 + 1, s1_0, l1_1 => if decide (s1_0 < p1_0) = true then ((getI x14 s1_0).bind fun x16 => ((getI l1_1 x16).bind fun x17 => (gd (ok64 (x17 + 1)) ((getI l1_1 x16).bind fun x19 => (gd (ok64 (s1_0 + 1)) ((m_impl_FirGive_l1 x14 p1_0 kx1_0 n1) (s1_0 + 1) (l1_1.set x16.toNat (x17 + 1)))))))) else (kx1_0 l1_1)
def m_impl_FirGive_k1 (n : GNet) (t : Int) (data : List Int) (l0_1 : List Int) : Option ((List Int) × Bool) := (getI n.tasks t).bind fun x13 => ((m_impl_SplTo x13 data).bind fun x14 => (m_impl_FirGive_l1 x14 (x14.length : Int) (m_impl_FirGive_k2 n) FUEL 0 l0_1))
def m_impl_FirGive_l0 (p0_0 : List Int) (p0_1 : Int) (kx0_0 : List Int → Option ((List Int) × Bool)) : Nat → Int → List Int → Option ((List Int) × Bool)
  | 0, _, _ => none
  | n0 + 1, s0_0, l0_1 => if decide (s0_0 < p0_1) = true then ((getI p0_0 s0_0).bind fun x10 => ((getI l0_1 x10).bind fun x11 => (gd (ok64 (s0_0 + 1)) ((m_impl_FirGive_l0 p0_0 p0_1 kx0_0 n0) (s0_0 + 1) (l0_1.set x10.toNat 0))))) else (kx0_0 l0_1)
def m_impl_FirGive (n : GNet) (marks : List Int) (t : Int) (data : List Int) : Option ((List Int) × Bool) := (m_impl_MrkOk n marks).bind fun x1 => (if x1 = true then ((m_impl_NetNet_hasTask n t).bind fun x3 => (if x3 = true then ((m_impl_DatOk data).bind fun x5 => (if x5 = true then ((m_impl_cloneInts marks).bind fun x7 => ((getI n.tasks t).bind fun x8 => (m_impl_FirGive_l0 x8.clear (x8.clear.length : Int) (m_impl_FirGive_k1 n t data) FUEL 0 x7))) else (some ([], false)))) else (some ([], false)))) else (some ([], false)))
def k_impl_FirGive : Con := ⟨97, [.v (.s .net) false, .v (.sl .I) false, .v .I false, .v (.sl .I) false], [((.sl .I), true), (.B, true)], [], fun x => m_impl_FirGive x.1 x.2.1 x.2.2.1 x.2.2.2.1⟩
def f_impl_FirGive : Fs := ⟨[k_impl_MrkOk, k_impl_NetNet_hasTask, k_impl_DatOk, k_impl_cloneInts, k_impl_SplTo, k_impl_NetNet_marksOk], []⟩
theorem g_impl_FirGive : f_impl_FirGive.Ok Try.prog := (fsK o_impl_MrkOk (fsK o_impl_NetNet_hasTask (fsK o_impl_DatOk (fsK o_impl_cloneInts (fsK o_impl_SplTo (fsK o_impl_NetNet_marksOk fs0))))))
def t_impl_FirGive_0 : Tmpl := ⟨[(2, .c .i), (3, .c (.s .I)), (4, .c (.bx 4 0)), (10, .c (.ref 31)), (37, .c (.s .I)), (38, .c .i), (39, .c .i)], [(4, .boxT (.s .net)), (31, .arr .I true)]⟩
def x0_impl_FirGive_0 : Tmpl := ⟨[(2, .c .i), (3, .c (.s .I)), (4, .c (.bx 4 0)), (10, .c (.ref 31))], [(4, .boxT (.s .net)), (31, .arr .I true)]⟩
def L_impl_FirGive_0 (av : AV) (x : HP k_impl_FirGive.ps) (n : Nat) (v : t_impl_FirGive_0.den) (K : Ks (CR k_impl_FirGive)) : Option (CR k_impl_FirGive) := m_impl_FirGive_l0 v.1.2.2.2.2.1 v.1.2.2.2.2.2.1 (fun l0_1 => x0_impl_FirGive_0.at none ((v.1.1, v.1.2.1, (), (), ()), (v.2.1, l0_1, ())) (K (.exit 0))) n v.1.2.2.2.2.2.2.1 v.2.2.1
def h_impl_FirGive_0 (av : AV) (x : HP k_impl_FirGive.ps) : Hdl (CR k_impl_FirGive) := hnd [] t_impl_FirGive_0 (L_impl_FirGive_0 av x)
theorem l_impl_FirGive_0 : LP k_impl_FirGive Try.f97 [0] h_impl_FirGive_0 := lp_ok (W := []) (H := []) (xs := [x0_impl_FirGive_0]) g_impl_FirGive trivial rfl (fun av x v K => by kernel_rfl) (fun av x n v K => by kernel_rfl)
def t_impl_FirGive_1 : Tmpl := ⟨[(4, .c (.bx 4 0)), (10, .c (.ref 31)), (53, .c (.ref 53)), (54, .c .i), (55, .c .i)], [(4, .boxT (.s .net)), (31, .arr .I true), (53, .arr .I true)]⟩
def x0_impl_FirGive_1 : Tmpl := ⟨[(4, .c (.bx 4 0)), (10, .c (.ref 31))], [(4, .boxT (.s .net)), (31, .arr .I true)]⟩
def L_impl_FirGive_1 (av : AV) (x : HP k_impl_FirGive.ps) (n : Nat) (v : t_impl_FirGive_1.den) (K : Ks (CR k_impl_FirGive)) : Option (CR k_impl_FirGive) := m_impl_FirGive_l1 v.2.2.2.1 v.1.2.2.2.1 (fun l1_1 => x0_impl_FirGive_1.at none (((), (), ()), (v.2.1, l1_1, ())) (K (.exit 2))) n v.1.2.2.2.2.1 v.2.2.1
def h_impl_FirGive_1 (av : AV) (x : HP k_impl_FirGive.ps) : Hdl (CR k_impl_FirGive) := hnd [] t_impl_FirGive_1 (L_impl_FirGive_1 av x)
theorem l_impl_FirGive_1 : LP k_impl_FirGive Try.f97 [1] h_impl_FirGive_1 := lp_ok (W := []) (H := []) (xs := [x0_impl_FirGive_1]) g_impl_FirGive trivial rfl (fun av x v K => by kernel_rfl) (fun av x n v K => by kernel_rfl)
theorem o_impl_FirGive : k_impl_FirGive.Ok Try.prog := fn_ok (k := k_impl_FirGive) (fn := Try.f97) (W := []) (H := [h_impl_FirGive_0, h_impl_FirGive_1]) Try.func97 g_impl_FirGive ⟨l_impl_FirGive_0, l_impl_FirGive_1, trivial⟩ rfl rfl (fun av x => by kernel_rfl)

def m_impl_PplOk_1 (n : Int) : Option Bool := (m_impl_in n 0 7).bind fun x1 => (some (!x1))

def m_impl_PplOk (people : List Int) : Option Bool := (m_impl_in (people.length : Int) 1 4).bind fun x1 => (if x1 = true then ((m_ContainsFunc_I people (fun z => m_impl_PplOk_1 z )).bind fun x3 => (some (!x3))) else (some false))

def m_impl_CasOk_k1 (c : GCase) : Option Bool := if decide (c.state = 1) = true then ((getI c.marks 1).bind fun x16 => (some (decide (x16 = 0)))) else (if decide (c.state = 2) = true then (if decide ((c.busy.length : Int) = 0) = true then ((getI c.marks 1).bind fun x19 => (some ((decide (c.state = 2)) == (decide (0 < x19))))) else (some false)) else (if decide (c.state = 3) = true then (if decide ((c.busy.length : Int) = 0) = true then ((getI c.marks 1).bind fun x22 => (some ((decide (c.state = 2)) == (decide (0 < x22))))) else (some false)) else (some false)))
def m_impl_CasOk_l0 (n : GNet) (p0_0 : List GDid) (p0_1 : Int) (kx0_0 : Option Bool) : Nat → Int → Option Bool
  | 0, _ => none
  | n0 + 1, s0_0 => if decide (s0_0 < p0_1) = true then ((getI p0_0 s0_0).bind fun x9 => ((m_impl_NetNet_hasTask n x9.task).bind fun x10 => (if x10 = true then ((m_impl_isPerson x9.who).bind fun x12 => (if x12 = true then (gd (ok64 (s0_0 + 1)) ((m_impl_CasOk_l0 n p0_0 p0_1 kx0_0 n0) (s0_0 + 1))) else (some false))) else (some false)))) else (kx0_0)
def m_impl_CasOk (n : GNet) (c : GCase) : Option Bool := (m_impl_MrkOk n c.marks).bind fun x1 => (if x1 = true then ((m_impl_NetNet_busyOk n c.busy).bind fun x3 => (if x3 = true then ((m_impl_DatOk c.data).bind fun x5 => (if x5 = true then (if decide (60 < (c.did.length : Int)) = true then (some false) else (m_impl_CasOk_l0 n c.did (c.did.length : Int) (m_impl_CasOk_k1 c) FUEL 0)) else (some false))) else (some false))) else (some false))
def k_impl_CasOk : Con := ⟨79, [.v (.s .net) false, .v (.s .kase) false], [(.B, true)], [], fun x => m_impl_CasOk x.1 x.2.1⟩
def f_impl_CasOk : Fs := ⟨[k_impl_MrkOk, k_impl_NetNet_busyOk, k_impl_DatOk, k_impl_NetNet_hasTask, k_impl_isPerson], []⟩
theorem g_impl_CasOk : f_impl_CasOk.Ok Try.prog := (fsK o_impl_MrkOk (fsK o_impl_NetNet_busyOk (fsK o_impl_DatOk (fsK o_impl_NetNet_hasTask (fsK o_impl_isPerson fs0)))))
def t_impl_CasOk_0 : Tmpl := ⟨[(2, .c (.bx 2 0)), (3, .c (.bx 3 0)), (32, .c (.s (.s .did))), (33, .c .i), (34, .c .i)], [(2, .boxT (.s .net)), (3, .boxT (.s .kase))]⟩
def x0_impl_CasOk_0 : Tmpl := ⟨[(3, .c (.bx 3 0))], [(3, .boxT (.s .kase))]⟩
def L_impl_CasOk_0 (av : AV) (x : HP k_impl_CasOk.ps) (n : Nat) (v : t_impl_CasOk_0.den) (K : Ks (CR k_impl_CasOk)) : Option (CR k_impl_CasOk) := m_impl_CasOk_l0 v.2.1 v.1.2.2.1 v.1.2.2.2.1 (x0_impl_CasOk_0.at none (((), ()), (v.2.2.1, ())) (K (.exit 0))) n v.1.2.2.2.2.1
def h_impl_CasOk_0 (av : AV) (x : HP k_impl_CasOk.ps) : Hdl (CR k_impl_CasOk) := hnd [] t_impl_CasOk_0 (L_impl_CasOk_0 av x)
theorem l_impl_CasOk_0 : LP k_impl_CasOk Try.f79 [0] h_impl_CasOk_0 := lp_ok (W := []) (H := []) (xs := [x0_impl_CasOk_0]) g_impl_CasOk trivial rfl (fun av x v K => by kernel_rfl) (fun av x n v K => by kernel_rfl)
theorem o_impl_CasOk : k_impl_CasOk.Ok Try.prog := fn_ok (k := k_impl_CasOk) (fn := Try.f79) (W := []) (H := [h_impl_CasOk_0]) Try.func79 g_impl_CasOk ⟨l_impl_CasOk_0, trivial⟩ rfl rfl (fun av x => by kernel_rfl)

def m_impl_running (n : GNet) (c : GCase) : Option Bool := (m_impl_CasOk n c).bind fun x1 => (if x1 = true then (some (decide (c.state = 1))) else (some false))
def k_impl_running : Con := ⟨90, [.v (.s .net) false, .v (.s .kase) false], [(.B, true)], [], fun x => m_impl_running x.1 x.2.1⟩
def f_impl_running : Fs := ⟨[k_impl_CasOk], []⟩
theorem g_impl_running : f_impl_running.Ok Try.prog := (fsK o_impl_CasOk fs0)
theorem o_impl_running : k_impl_running.Ok Try.prog := fn_ok (k := k_impl_running) (fn := Try.f90) (W := []) (H := []) Try.func90 g_impl_running trivial rfl rfl (fun av x => by kernel_rfl)

def m_impl_CasWork (n : GNet) (c : GCase) (k : Int) (v : Int) (num : Int) : Option (GCase × Bool) := (m_impl_CasCase_clone c).bind fun x1 => ((m_impl_running n c).bind fun x2 => (if x2 = true then (gd (ok64 ((c.busy.length : Int) - 1)) ((m_impl_in k 0 ((c.busy.length : Int) - 1)).bind fun x5 => (if x5 = true then ((m_impl_in v (-1) 2).bind fun x7 => (if x7 = true then ((m_impl_isDatum num).bind fun x9 => (if x9 = true then (if decide ((c.did.length : Int) = 60) = true then (some (x1, false)) else (if decide (0 ≤ v) = true then ((getI x1.data v).bind fun x13 => ((getI x1.busy k).bind fun x14 => (gd (ok64 (x14.did + 1)) ((getI n.tasks ((GItem.mk x14.task x14.who (x14.did + 1)).task)).bind fun x16 => (if decide ((GItem.mk x14.task x14.who (x14.did + 1)).did < x16.need) = true then (some ((GCase.mk x1.state x1.marks (x1.busy.set k.toNat (GItem.mk x14.task x14.who (x14.did + 1))) (x1.data.set v.toNat num) x1.did), true)) else ((m_impl_FirGive n c.marks ((GItem.mk x14.task x14.who (x14.did + 1)).task) (x1.data.set v.toNat num)).bind fun x18 => (if x18.2 = true then (gd (x1.did.length + [(GDid.mk ((GItem.mk x14.task x14.who (x14.did + 1)).task) ((GItem.mk x14.task x14.who (x14.did + 1)).who))].length ≤ SMALL) (gd (ok64 (k + 1)) ((m_Delete_GItem (x1.busy.set k.toNat (GItem.mk x14.task x14.who (x14.did + 1))) k (k + 1)).bind fun x22 => ((getI x18.1 1).bind fun x23 => (if decide (0 < x23) = true then ((m_impl_CasCase_clone (GCase.mk 2 x18.1 [] (x1.data.set v.toNat num) (x1.did ++ [(GDid.mk ((GItem.mk x14.task x14.who (x14.did + 1)).task) ((GItem.mk x14.task x14.who (x14.did + 1)).who))]))).bind fun x25 => (some (x25, true))) else ((m_impl_CasCase_clone (GCase.mk x1.state x18.1 x22 (x1.data.set v.toNat num) (x1.did ++ [(GDid.mk ((GItem.mk x14.task x14.who (x14.did + 1)).task) ((GItem.mk x14.task x14.who (x14.did + 1)).who))]))).bind fun x26 => (some (x26, true)))))))) else ((m_impl_CasCase_clone c).bind fun x27 => (some (x27, false)))))))))) else ((getI x1.busy k).bind fun x28 => (gd (ok64 (x28.did + 1)) ((getI n.tasks ((GItem.mk x28.task x28.who (x28.did + 1)).task)).bind fun x30 => (if decide ((GItem.mk x28.task x28.who (x28.did + 1)).did < x30.need) = true then (some ((GCase.mk x1.state x1.marks (x1.busy.set k.toNat (GItem.mk x28.task x28.who (x28.did + 1))) x1.data x1.did), true)) else ((m_impl_FirGive n c.marks ((GItem.mk x28.task x28.who (x28.did + 1)).task) x1.data).bind fun x32 => (if x32.2 = true then (gd (x1.did.length + [(GDid.mk ((GItem.mk x28.task x28.who (x28.did + 1)).task) ((GItem.mk x28.task x28.who (x28.did + 1)).who))].length ≤ SMALL) (gd (ok64 (k + 1)) ((m_Delete_GItem (x1.busy.set k.toNat (GItem.mk x28.task x28.who (x28.did + 1))) k (k + 1)).bind fun x36 => ((getI x32.1 1).bind fun x37 => (if decide (0 < x37) = true then ((m_impl_CasCase_clone (GCase.mk 2 x32.1 [] x1.data (x1.did ++ [(GDid.mk ((GItem.mk x28.task x28.who (x28.did + 1)).task) ((GItem.mk x28.task x28.who (x28.did + 1)).who))]))).bind fun x39 => (some (x39, true))) else ((m_impl_CasCase_clone (GCase.mk x1.state x32.1 x36 x1.data (x1.did ++ [(GDid.mk ((GItem.mk x28.task x28.who (x28.did + 1)).task) ((GItem.mk x28.task x28.who (x28.did + 1)).who))]))).bind fun x40 => (some (x40, true)))))))) else ((m_impl_CasCase_clone c).bind fun x41 => (some (x41, false))))))))))) else (some (x1, false)))) else (some (x1, false)))) else (some (x1, false))))) else (some (x1, false))))
def k_impl_CasWork : Con := ⟨47, [.v (.s .net) false, .v (.s .kase) false, .v .I false, .v .I false, .v .I false], [((.s .kase), true), (.B, true)], [], fun x => m_impl_CasWork x.1 x.2.1 x.2.2.1 x.2.2.2.1 x.2.2.2.2.1⟩
def f_impl_CasWork : Fs := ⟨[k_impl_CasCase_clone, k_impl_running, k_impl_in, k_impl_isDatum, k_impl_FirGive, k_Delete_GItem], []⟩
theorem g_impl_CasWork : f_impl_CasWork.Ok Try.prog := (fsK o_impl_CasCase_clone (fsK o_impl_running (fsK o_impl_in (fsK o_impl_isDatum (fsK o_impl_FirGive (fsK o_Delete_GItem fs0))))))
theorem o_impl_CasWork : k_impl_CasWork.Ok Try.prog := fn_ok (k := k_impl_CasWork) (fn := Try.f47) (W := []) (H := []) Try.func47 g_impl_CasWork trivial rfl rfl (fun av x => by kernel_rfl)

def m_impl_CasStop (n : GNet) (c : GCase) : Option (GCase × Bool) := (m_impl_CasCase_clone c).bind fun x1 => ((m_impl_running n c).bind fun x2 => (if x2 = true then (some ((GCase.mk 3 x1.marks [] x1.data x1.did), true)) else (some (x1, false))))

def m_impl_RdrOk_k1 (s0_0 : List GNode) (s0_1 : Int) (bk0 : List GNode → Int → Int → List Int → Option Bool) (p1_0 : Int) (l1_1 : List Int) : Option Bool := gd (ok64 (p1_0 + 1)) (bk0 s0_0 s0_1 (p1_0 + 1) l1_1)
def m_impl_RdrOk_l1 (tree : List GNode) (s0_2 : Int) (p1_1 : Int) (p1_2 : List Int) (kx1_0 : List Int → Option Bool) : Nat → Int → List Int → Option Bool
  | 0, _, _ => none
  | n1 + 1, s1_0, l1_1 => if decide (s1_0 < p1_1) = true then ((getI p1_2 s1_0).bind fun x9 => (if decide (x9 = (-1)) = true then (gd (ok64 (s1_0 + 1)) ((m_impl_RdrOk_l1 tree s0_2 p1_1 p1_2 kx1_0 n1) (s1_0 + 1) l1_1)) else (gd (ok64 (s0_2 + 1)) (gd (ok64 ((tree.length : Int) - 1)) ((m_impl_in x9 (s0_2 + 1) ((tree.length : Int) - 1)).bind fun x14 => (if x14 = true then ((getI l1_1 x9).bind fun x16 => (gd (ok64 (x16 + 1)) ((getI l1_1 x9).bind fun x18 => (gd (ok64 (s1_0 + 1)) ((m_impl_RdrOk_l1 tree s0_2 p1_1 p1_2 kx1_0 n1) (s1_0 + 1) (l1_1.set x9.toNat (x16 + 1))))))) else (some false))))))) else (kx1_0 l1_1)
def m_impl_RdrOk_k3 (tree : List GNode) : Option Bool := some (decide ((tree.length : Int) ≤ 12))
def m_impl_RdrOk_l2 (l0_3 : List Int) (p2_0 : Int) (kx2_0 : Option Bool) : Nat → Int → Option Bool
  | 0, _ => none
  | n2 + 1, s2_0 => if decide (s2_0 < p2_0) = true then ((getI l0_3 s2_0).bind fun x22 => (if decide (0 < s2_0) = true then (if decide (x22 = 1) = true then (gd (ok64 (s2_0 + 1)) ((m_impl_RdrOk_l2 l0_3 p2_0 kx2_0 n2) (s2_0 + 1))) else (some false)) else (gd (ok64 (s2_0 + 1)) ((m_impl_RdrOk_l2 l0_3 p2_0 kx2_0 n2) (s2_0 + 1))))) else (kx2_0)
def m_impl_RdrOk_k2 (tree : List GNode) (l0_3 : List Int) : Option Bool := m_impl_RdrOk_l2 l0_3 (l0_3.length : Int) (m_impl_RdrOk_k3 tree) FUEL 0
def m_impl_RdrOk_l0 (tree : List GNode) (kx0_0 : List Int → Option Bool) : Nat → List GNode → Int → Int → List Int → Option Bool
  | 0, _, _, _, _ => none
  | n0 + 1, s0_0, s0_1, s0_2, l0_3 => if decide (s0_2 < s0_1) = true then ((getI s0_0 s0_2).bind fun x3 => ((m_impl_ExpHolds x3.if_ x3.stone).bind fun x4 => (if x4 = true then ((m_impl_isAnswer x3.ans).bind fun x6 => (if x6 = true then (m_impl_RdrOk_l1 tree s0_2 ([x3.yes, x3.no].length : Int) [x3.yes, x3.no] (m_impl_RdrOk_k1 s0_0 s0_1 (m_impl_RdrOk_l0 tree kx0_0 n0) s0_2) FUEL 0 l0_3) else (some false))) else (some false)))) else (kx0_0 l0_3)
def m_impl_RdrOk (tree : List GNode) : Option Bool := gd ((0 : Int) ≤ (tree.length : Int) ∧ (tree.length : Int) ≤ (1000000000 : Int)) (m_impl_RdrOk_l0 tree (m_impl_RdrOk_k2 tree) FUEL tree (tree.length : Int) 0 (List.replicate (tree.length : Int).toNat (0 : Int)))

def m_markIntS_k1 (s0_0 : Int) (l0_2 : List Int) : Option (Int × (List Int)) := some (s0_0, l0_2)
def m_markIntS_l0 (kx0_0 : Int → List Int → Option (Int × (List Int))) : Nat → Int → Int → List Int → Option (Int × (List Int))
  | 0, _, _, _ => none
  | n0 + 1, s0_0, s0_1, l0_2 => if decide (s0_1 < (l0_2.length : Int)) = true then ((getI l0_2 s0_1).bind fun x2 => (gd (ok64 (s0_0 + 1)) (gd (ok64 (s0_1 + 1)) ((m_markIntS_l0 kx0_0 n0) (s0_0 + 1) (s0_1 + 1) (l0_2.set s0_1.toNat s0_0))))) else (kx0_0 s0_0 l0_2)
def m_markIntS (a : List Int) (k : Int) : Option (Int × (List Int)) := m_markIntS_l0 m_markIntS_k1 FUEL k 0 a
def k_markIntS : Con := ⟨29, [.v (.sl .I) true, .v .I false], [(.I, true)], [(0, .v (.sl .I) true)], fun x => m_markIntS x.1 x.2.1⟩
def f_markIntS : Fs := ⟨[], []⟩
theorem g_markIntS : f_markIntS.Ok Try.prog := fs0
def t_markIntS_0 : Tmpl := ⟨[(0, .c (.ref 1000000)), (1, .c .i), (5, .c .i)], [(1000000, .arr .I true)]⟩
def x0_markIntS_0 : Tmpl := ⟨[(1, .c .i)], [(1000000, .arr .I true)]⟩
def L_markIntS_0 (av : AV) (x : HP k_markIntS.ps) (n : Nat) (v : t_markIntS_0.den) (K : Ks (CR k_markIntS)) : Option (CR k_markIntS) := m_markIntS_l0 (fun s0_0 l0_2 => x0_markIntS_0.at none ((s0_0, ()), (l0_2, ())) (K (.exit 0))) n v.1.2.1 v.1.2.2.1 v.2.1
def h_markIntS_0 (av : AV) (x : HP k_markIntS.ps) : Hdl (CR k_markIntS) := hnd [] t_markIntS_0 (L_markIntS_0 av x)
theorem l_markIntS_0 : LP k_markIntS Try.f29 [0] h_markIntS_0 := lp_ok (W := []) (H := []) (xs := [x0_markIntS_0]) g_markIntS trivial rfl (fun av x v K => by kernel_rfl) (fun av x n v K => by kernel_rfl)
theorem o_markIntS : k_markIntS.Ok Try.prog := fn_ok (k := k_markIntS) (fn := Try.f29) (W := []) (H := [h_markIntS_0]) Try.func29 g_markIntS ⟨l_markIntS_0, trivial⟩ rfl rfl (fun av x => by kernel_rfl)

def m_heldIntS_k1 (s0_0 : Int) : Option Int := some s0_0
def m_heldIntS_l0 (a : List Int) (kx0_0 : Int → Option Int) : Nat → Int → Int → Option Int
  | 0, _, _ => none
  | n0 + 1, s0_0, s0_1 => if decide (s0_1 < (a.length : Int)) = true then ((getI a s0_1).bind fun x2 => (if decide (x2 = s0_0) = true then (gd (ok64 (s0_0 + 1)) (gd (ok64 (s0_1 + 1)) ((m_heldIntS_l0 a kx0_0 n0) (s0_0 + 1) (s0_1 + 1)))) else (some (-1)))) else (kx0_0 s0_0)
def m_heldIntS (a : List Int) (k : Int) : Option Int := m_heldIntS_l0 a m_heldIntS_k1 FUEL k 0
def k_heldIntS : Con := ⟨30, [.v (.sl .I) false, .v .I false], [(.I, true)], [], fun x => m_heldIntS x.1 x.2.1⟩
def f_heldIntS : Fs := ⟨[], []⟩
theorem g_heldIntS : f_heldIntS.Ok Try.prog := fs0
def t_heldIntS_0 : Tmpl := ⟨[(0, .c (.s .I)), (1, .c .i), (5, .c .i)], []⟩
def x0_heldIntS_0 : Tmpl := ⟨[(1, .c .i)], []⟩
def L_heldIntS_0 (av : AV) (x : HP k_heldIntS.ps) (n : Nat) (v : t_heldIntS_0.den) (K : Ks (CR k_heldIntS)) : Option (CR k_heldIntS) := m_heldIntS_l0 v.1.1 (fun s0_0 => x0_heldIntS_0.at none ((s0_0, ()), ()) (K (.exit 0))) n v.1.2.1 v.1.2.2.1
def h_heldIntS_0 (av : AV) (x : HP k_heldIntS.ps) : Hdl (CR k_heldIntS) := hnd [] t_heldIntS_0 (L_heldIntS_0 av x)
theorem l_heldIntS_0 : LP k_heldIntS Try.f30 [0] h_heldIntS_0 := lp_ok (W := []) (H := []) (xs := [x0_heldIntS_0]) g_heldIntS trivial rfl (fun av x v K => by kernel_rfl) (fun av x n v K => by kernel_rfl)
theorem o_heldIntS : k_heldIntS.Ok Try.prog := fn_ok (k := k_heldIntS) (fn := Try.f30) (W := []) (H := [h_heldIntS_0]) Try.func30 g_heldIntS ⟨l_heldIntS_0, trivial⟩ rfl rfl (fun av x => by kernel_rfl)

def m_markNetFlowS_k1 (s0_0 : Int) (l0_2 : List GFlow) : Option (Int × (List GFlow)) := some (s0_0, l0_2)
def m_markNetFlowS_l0 (kx0_0 : Int → List GFlow → Option (Int × (List GFlow))) : Nat → Int → Int → List GFlow → Option (Int × (List GFlow))
  | 0, _, _, _ => none
  | n0 + 1, s0_0, s0_1, l0_2 => if decide (s0_1 < (l0_2.length : Int)) = true then ((getI l0_2 s0_1).bind fun x2 => (gd (ok64 (s0_0 + 1)) ((getI (l0_2.set s0_1.toNat (GFlow.mk s0_0 x2.if_)) s0_1).bind fun x4 => (gd (ok64 ((s0_0 + 1) + 1)) ((getI ((l0_2.set s0_1.toNat (GFlow.mk s0_0 x2.if_)).set s0_1.toNat (GFlow.mk x4.to (GAsk.mk (s0_0 + 1) x4.if_.var x4.if_.k))) s0_1).bind fun x6 => (gd (ok64 (((s0_0 + 1) + 1) + 1)) ((getI (((l0_2.set s0_1.toNat (GFlow.mk s0_0 x2.if_)).set s0_1.toNat (GFlow.mk x4.to (GAsk.mk (s0_0 + 1) x4.if_.var x4.if_.k))).set s0_1.toNat (GFlow.mk x6.to (GAsk.mk x6.if_.op ((s0_0 + 1) + 1) x6.if_.k))) s0_1).bind fun x8 => (gd (ok64 ((((s0_0 + 1) + 1) + 1) + 1)) (gd (ok64 (s0_1 + 1)) ((m_markNetFlowS_l0 kx0_0 n0) ((((s0_0 + 1) + 1) + 1) + 1) (s0_1 + 1) ((((l0_2.set s0_1.toNat (GFlow.mk s0_0 x2.if_)).set s0_1.toNat (GFlow.mk x4.to (GAsk.mk (s0_0 + 1) x4.if_.var x4.if_.k))).set s0_1.toNat (GFlow.mk x6.to (GAsk.mk x6.if_.op ((s0_0 + 1) + 1) x6.if_.k))).set s0_1.toNat (GFlow.mk x8.to (GAsk.mk x8.if_.op x8.if_.var (((s0_0 + 1) + 1) + 1)))))))))))))) else (kx0_0 s0_0 l0_2)
def m_markNetFlowS (a : List GFlow) (k : Int) : Option (Int × (List GFlow)) := m_markNetFlowS_l0 m_markNetFlowS_k1 FUEL k 0 a
def k_markNetFlowS : Con := ⟨132, [.v (.sl (.s .flow)) true, .v .I false], [(.I, true)], [(0, .v (.sl (.s .flow)) true)], fun x => m_markNetFlowS x.1 x.2.1⟩
def f_markNetFlowS : Fs := ⟨[], []⟩
theorem g_markNetFlowS : f_markNetFlowS.Ok Try.prog := fs0
def t_markNetFlowS_0 : Tmpl := ⟨[(0, .c (.ref 1000000)), (1, .c .i), (5, .c .i)], [(1000000, .arr (.s .flow) true)]⟩
def x0_markNetFlowS_0 : Tmpl := ⟨[(1, .c .i)], [(1000000, .arr (.s .flow) true)]⟩
def L_markNetFlowS_0 (av : AV) (x : HP k_markNetFlowS.ps) (n : Nat) (v : t_markNetFlowS_0.den) (K : Ks (CR k_markNetFlowS)) : Option (CR k_markNetFlowS) := m_markNetFlowS_l0 (fun s0_0 l0_2 => x0_markNetFlowS_0.at none ((s0_0, ()), (l0_2, ())) (K (.exit 0))) n v.1.2.1 v.1.2.2.1 v.2.1
def h_markNetFlowS_0 (av : AV) (x : HP k_markNetFlowS.ps) : Hdl (CR k_markNetFlowS) := hnd [] t_markNetFlowS_0 (L_markNetFlowS_0 av x)
theorem l_markNetFlowS_0 : LP k_markNetFlowS Try.f132 [0] h_markNetFlowS_0 := lp_ok (W := []) (H := []) (xs := [x0_markNetFlowS_0]) g_markNetFlowS trivial rfl (fun av x v K => by kernel_rfl) (fun av x n v K => by kernel_rfl)
theorem o_markNetFlowS : k_markNetFlowS.Ok Try.prog := fn_ok (k := k_markNetFlowS) (fn := Try.f132) (W := []) (H := [h_markNetFlowS_0]) Try.func132 g_markNetFlowS ⟨l_markNetFlowS_0, trivial⟩ rfl rfl (fun av x => by kernel_rfl)

def m_heldNetFlowS_k1 (s0_0 : Int) : Option Int := some s0_0
def m_heldNetFlowS_l0 (a : List GFlow) (kx0_0 : Int → Option Int) : Nat → Int → Int → Option Int
  | 0, _, _ => none
  | n0 + 1, s0_0, s0_1 => if decide (s0_1 < (a.length : Int)) = true then ((getI a s0_1).bind fun x2 => (if decide (x2.to = s0_0) = true then (gd (ok64 (s0_0 + 1)) ((getI a s0_1).bind fun x5 => (if decide (x5.if_.op = (s0_0 + 1)) = true then (gd (ok64 ((s0_0 + 1) + 1)) ((getI a s0_1).bind fun x8 => (if decide (x8.if_.var = ((s0_0 + 1) + 1)) = true then (gd (ok64 (((s0_0 + 1) + 1) + 1)) ((getI a s0_1).bind fun x11 => (if decide (x11.if_.k = (((s0_0 + 1) + 1) + 1)) = true then (gd (ok64 ((((s0_0 + 1) + 1) + 1) + 1)) (gd (ok64 (s0_1 + 1)) ((m_heldNetFlowS_l0 a kx0_0 n0) ((((s0_0 + 1) + 1) + 1) + 1) (s0_1 + 1)))) else (some (-1))))) else (some (-1))))) else (some (-1))))) else (some (-1)))) else (kx0_0 s0_0)
def m_heldNetFlowS (a : List GFlow) (k : Int) : Option Int := m_heldNetFlowS_l0 a m_heldNetFlowS_k1 FUEL k 0

def m_markNetTaskS_k1 (s0_0 : Int) (l0_2 : List GTask) : Option (Int × (List GTask)) := some (s0_0, l0_2)
def m_markNetTaskS_l0 (kx0_0 : Int → List GTask → Option (Int × (List GTask))) : Nat → Int → Int → List GTask → Option (Int × (List GTask))
  | 0, _, _, _ => none
  | n0 + 1, s0_0, s0_1, l0_2 => if decide (s0_1 < (l0_2.length : Int)) = true then ((getI l0_2 s0_1).bind fun x2 => (gd (ok64 (s0_0 + 1)) ((getI (l0_2.set s0_1.toNat (GTask.mk s0_0 x2.split x2.in_ x2.out x2.clear x2.role x2.apart x2.all x2.need)) s0_1).bind fun x4 => (gd (ok64 ((s0_0 + 1) + 1)) ((getI ((l0_2.set s0_1.toNat (GTask.mk s0_0 x2.split x2.in_ x2.out x2.clear x2.role x2.apart x2.all x2.need)).set s0_1.toNat (GTask.mk x4.join (s0_0 + 1) x4.in_ x4.out x4.clear x4.role x4.apart x4.all x4.need)) s0_1).bind fun x6 => ((m_markIntS x6.in_ ((s0_0 + 1) + 1)).bind fun x7 => ((getI (((l0_2.set s0_1.toNat (GTask.mk s0_0 x2.split x2.in_ x2.out x2.clear x2.role x2.apart x2.all x2.need)).set s0_1.toNat (GTask.mk x4.join (s0_0 + 1) x4.in_ x4.out x4.clear x4.role x4.apart x4.all x4.need)).set s0_1.toNat (GTask.mk x6.join x6.split x7.2 x6.out x6.clear x6.role x6.apart x6.all x6.need)) s0_1).bind fun x8 => ((m_markNetFlowS x8.out x7.1).bind fun x9 => ((getI ((((l0_2.set s0_1.toNat (GTask.mk s0_0 x2.split x2.in_ x2.out x2.clear x2.role x2.apart x2.all x2.need)).set s0_1.toNat (GTask.mk x4.join (s0_0 + 1) x4.in_ x4.out x4.clear x4.role x4.apart x4.all x4.need)).set s0_1.toNat (GTask.mk x6.join x6.split x7.2 x6.out x6.clear x6.role x6.apart x6.all x6.need)).set s0_1.toNat (GTask.mk x8.join x8.split x8.in_ x9.2 x8.clear x8.role x8.apart x8.all x8.need)) s0_1).bind fun x10 => ((m_markIntS x10.clear x9.1).bind fun x11 => ((getI (((((l0_2.set s0_1.toNat (GTask.mk s0_0 x2.split x2.in_ x2.out x2.clear x2.role x2.apart x2.all x2.need)).set s0_1.toNat (GTask.mk x4.join (s0_0 + 1) x4.in_ x4.out x4.clear x4.role x4.apart x4.all x4.need)).set s0_1.toNat (GTask.mk x6.join x6.split x7.2 x6.out x6.clear x6.role x6.apart x6.all x6.need)).set s0_1.toNat (GTask.mk x8.join x8.split x8.in_ x9.2 x8.clear x8.role x8.apart x8.all x8.need)).set s0_1.toNat (GTask.mk x10.join x10.split x10.in_ x10.out x11.2 x10.role x10.apart x10.all x10.need)) s0_1).bind fun x12 => (gd (ok64 (x11.1 + 1)) ((getI ((((((l0_2.set s0_1.toNat (GTask.mk s0_0 x2.split x2.in_ x2.out x2.clear x2.role x2.apart x2.all x2.need)).set s0_1.toNat (GTask.mk x4.join (s0_0 + 1) x4.in_ x4.out x4.clear x4.role x4.apart x4.all x4.need)).set s0_1.toNat (GTask.mk x6.join x6.split x7.2 x6.out x6.clear x6.role x6.apart x6.all x6.need)).set s0_1.toNat (GTask.mk x8.join x8.split x8.in_ x9.2 x8.clear x8.role x8.apart x8.all x8.need)).set s0_1.toNat (GTask.mk x10.join x10.split x10.in_ x10.out x11.2 x10.role x10.apart x10.all x10.need)).set s0_1.toNat (GTask.mk x12.join x12.split x12.in_ x12.out x12.clear x11.1 x12.apart x12.all x12.need)) s0_1).bind fun x14 => (gd (ok64 ((x11.1 + 1) + 1)) ((getI (((((((l0_2.set s0_1.toNat (GTask.mk s0_0 x2.split x2.in_ x2.out x2.clear x2.role x2.apart x2.all x2.need)).set s0_1.toNat (GTask.mk x4.join (s0_0 + 1) x4.in_ x4.out x4.clear x4.role x4.apart x4.all x4.need)).set s0_1.toNat (GTask.mk x6.join x6.split x7.2 x6.out x6.clear x6.role x6.apart x6.all x6.need)).set s0_1.toNat (GTask.mk x8.join x8.split x8.in_ x9.2 x8.clear x8.role x8.apart x8.all x8.need)).set s0_1.toNat (GTask.mk x10.join x10.split x10.in_ x10.out x11.2 x10.role x10.apart x10.all x10.need)).set s0_1.toNat (GTask.mk x12.join x12.split x12.in_ x12.out x12.clear x11.1 x12.apart x12.all x12.need)).set s0_1.toNat (GTask.mk x14.join x14.split x14.in_ x14.out x14.clear x14.role (x11.1 + 1) x14.all x14.need)) s0_1).bind fun x16 => (gd (ok64 (((x11.1 + 1) + 1) + 1)) ((getI ((((((((l0_2.set s0_1.toNat (GTask.mk s0_0 x2.split x2.in_ x2.out x2.clear x2.role x2.apart x2.all x2.need)).set s0_1.toNat (GTask.mk x4.join (s0_0 + 1) x4.in_ x4.out x4.clear x4.role x4.apart x4.all x4.need)).set s0_1.toNat (GTask.mk x6.join x6.split x7.2 x6.out x6.clear x6.role x6.apart x6.all x6.need)).set s0_1.toNat (GTask.mk x8.join x8.split x8.in_ x9.2 x8.clear x8.role x8.apart x8.all x8.need)).set s0_1.toNat (GTask.mk x10.join x10.split x10.in_ x10.out x11.2 x10.role x10.apart x10.all x10.need)).set s0_1.toNat (GTask.mk x12.join x12.split x12.in_ x12.out x12.clear x11.1 x12.apart x12.all x12.need)).set s0_1.toNat (GTask.mk x14.join x14.split x14.in_ x14.out x14.clear x14.role (x11.1 + 1) x14.all x14.need)).set s0_1.toNat (GTask.mk x16.join x16.split x16.in_ x16.out x16.clear x16.role x16.apart ((x11.1 + 1) + 1) x16.need)) s0_1).bind fun x18 => (gd (ok64 ((((x11.1 + 1) + 1) + 1) + 1)) (gd (ok64 (s0_1 + 1)) ((m_markNetTaskS_l0 kx0_0 n0) ((((x11.1 + 1) + 1) + 1) + 1) (s0_1 + 1) (((((((((l0_2.set s0_1.toNat (GTask.mk s0_0 x2.split x2.in_ x2.out x2.clear x2.role x2.apart x2.all x2.need)).set s0_1.toNat (GTask.mk x4.join (s0_0 + 1) x4.in_ x4.out x4.clear x4.role x4.apart x4.all x4.need)).set s0_1.toNat (GTask.mk x6.join x6.split x7.2 x6.out x6.clear x6.role x6.apart x6.all x6.need)).set s0_1.toNat (GTask.mk x8.join x8.split x8.in_ x9.2 x8.clear x8.role x8.apart x8.all x8.need)).set s0_1.toNat (GTask.mk x10.join x10.split x10.in_ x10.out x11.2 x10.role x10.apart x10.all x10.need)).set s0_1.toNat (GTask.mk x12.join x12.split x12.in_ x12.out x12.clear x11.1 x12.apart x12.all x12.need)).set s0_1.toNat (GTask.mk x14.join x14.split x14.in_ x14.out x14.clear x14.role (x11.1 + 1) x14.all x14.need)).set s0_1.toNat (GTask.mk x16.join x16.split x16.in_ x16.out x16.clear x16.role x16.apart ((x11.1 + 1) + 1) x16.need)).set s0_1.toNat (GTask.mk x18.join x18.split x18.in_ x18.out x18.clear x18.role x18.apart x18.all (((x11.1 + 1) + 1) + 1))))))))))))))))))))))) else (kx0_0 s0_0 l0_2)
def m_markNetTaskS (a : List GTask) (k : Int) : Option (Int × (List GTask)) := m_markNetTaskS_l0 m_markNetTaskS_k1 FUEL k 0 a
def k_markNetTaskS : Con := ⟨85, [.v (.sl (.s .task)) true, .v .I false], [(.I, true)], [(0, .v (.sl (.s .task)) true)], fun x => m_markNetTaskS x.1 x.2.1⟩
def f_markNetTaskS : Fs := ⟨[k_markIntS, k_markNetFlowS], []⟩
theorem g_markNetTaskS : f_markNetTaskS.Ok Try.prog := (fsK o_markIntS (fsK o_markNetFlowS fs0))
def t_markNetTaskS_0 : Tmpl := ⟨[(0, .c (.ref 1000000)), (1, .c .i), (5, .c .i)], [(1000000, .arr (.s .task) true)]⟩
def x0_markNetTaskS_0 : Tmpl := ⟨[(1, .c .i)], [(1000000, .arr (.s .task) true)]⟩
def L_markNetTaskS_0 (av : AV) (x : HP k_markNetTaskS.ps) (n : Nat) (v : t_markNetTaskS_0.den) (K : Ks (CR k_markNetTaskS)) : Option (CR k_markNetTaskS) := m_markNetTaskS_l0 (fun s0_0 l0_2 => x0_markNetTaskS_0.at none ((s0_0, ()), (l0_2, ())) (K (.exit 0))) n v.1.2.1 v.1.2.2.1 v.2.1
def h_markNetTaskS_0 (av : AV) (x : HP k_markNetTaskS.ps) : Hdl (CR k_markNetTaskS) := hnd [] t_markNetTaskS_0 (L_markNetTaskS_0 av x)
theorem l_markNetTaskS_0 : LP k_markNetTaskS Try.f85 [0] h_markNetTaskS_0 := lp_ok (W := []) (H := []) (xs := [x0_markNetTaskS_0]) g_markNetTaskS trivial rfl (fun av x v K => by kernel_rfl) (fun av x n v K => by kernel_rfl)
theorem o_markNetTaskS : k_markNetTaskS.Ok Try.prog := fn_ok (k := k_markNetTaskS) (fn := Try.f85) (W := []) (H := [h_markNetTaskS_0]) Try.func85 g_markNetTaskS ⟨l_markNetTaskS_0, trivial⟩ rfl rfl (fun av x => by kernel_rfl)

def m_heldNetTaskS_k1 (s0_0 : Int) : Option Int := some s0_0
def m_heldNetTaskS_l0 (a : List GTask) (kx0_0 : Int → Option Int) : Nat → Int → Int → Option Int
  | 0, _, _ => none
  | n0 + 1, s0_0, s0_1 => if decide (s0_1 < (a.length : Int)) = true then ((getI a s0_1).bind fun x2 => (if decide (x2.join = s0_0) = true then (gd (ok64 (s0_0 + 1)) ((getI a s0_1).bind fun x5 => (if decide (x5.split = (s0_0 + 1)) = true then (gd (ok64 ((s0_0 + 1) + 1)) ((getI a s0_1).bind fun x8 => ((m_heldIntS x8.in_ ((s0_0 + 1) + 1)).bind fun x9 => (if decide (x9 < 0) = true then (some (-1)) else ((getI a s0_1).bind fun x11 => ((m_heldNetFlowS x11.out x9).bind fun x12 => (if decide (x12 < 0) = true then (some (-1)) else ((getI a s0_1).bind fun x14 => ((m_heldIntS x14.clear x12).bind fun x15 => (if decide (x15 < 0) = true then (some (-1)) else ((getI a s0_1).bind fun x17 => (if decide (x17.role = x15) = true then (gd (ok64 (x15 + 1)) ((getI a s0_1).bind fun x20 => (if decide (x20.apart = (x15 + 1)) = true then (gd (ok64 ((x15 + 1) + 1)) ((getI a s0_1).bind fun x23 => (if decide (x23.all = ((x15 + 1) + 1)) = true then (gd (ok64 (((x15 + 1) + 1) + 1)) ((getI a s0_1).bind fun x26 => (if decide (x26.need = (((x15 + 1) + 1) + 1)) = true then (gd (ok64 ((((x15 + 1) + 1) + 1) + 1)) (gd (ok64 (s0_1 + 1)) ((m_heldNetTaskS_l0 a kx0_0 n0) ((((x15 + 1) + 1) + 1) + 1) (s0_1 + 1)))) else (some (-1))))) else (some (-1))))) else (some (-1))))) else (some (-1)))))))))))))) else (some (-1))))) else (some (-1)))) else (kx0_0 s0_0)
def m_heldNetTaskS (a : List GTask) (k : Int) : Option Int := m_heldNetTaskS_l0 a m_heldNetTaskS_k1 FUEL k 0

def m_markNetNetS_k1 (s0_0 : Int) (l0_2 : List GNet) : Option (Int × (List GNet)) := some (s0_0, l0_2)
def m_markNetNetS_l0 (kx0_0 : Int → List GNet → Option (Int × (List GNet))) : Nat → Int → Int → List GNet → Option (Int × (List GNet))
  | 0, _, _, _ => none
  | n0 + 1, s0_0, s0_1, l0_2 => if decide (s0_1 < (l0_2.length : Int)) = true then ((getI l0_2 s0_1).bind fun x2 => (gd (ok64 (s0_0 + 1)) ((getI (l0_2.set s0_1.toNat (GNet.mk s0_0 x2.tasks)) s0_1).bind fun x4 => ((m_markNetTaskS x4.tasks (s0_0 + 1)).bind fun x5 => (gd (ok64 (s0_1 + 1)) ((m_markNetNetS_l0 kx0_0 n0) x5.1 (s0_1 + 1) ((l0_2.set s0_1.toNat (GNet.mk s0_0 x2.tasks)).set s0_1.toNat (GNet.mk x4.places x5.2)))))))) else (kx0_0 s0_0 l0_2)
def m_markNetNetS (a : List GNet) (k : Int) : Option (Int × (List GNet)) := m_markNetNetS_l0 m_markNetNetS_k1 FUEL k 0 a

def m_heldNetNetS_k1 (s0_0 : Int) : Option Int := some s0_0
def m_heldNetNetS_l0 (a : List GNet) (kx0_0 : Int → Option Int) : Nat → Int → Int → Option Int
  | 0, _, _ => none
  | n0 + 1, s0_0, s0_1 => if decide (s0_1 < (a.length : Int)) = true then ((getI a s0_1).bind fun x2 => (if decide (x2.places = s0_0) = true then (gd (ok64 (s0_0 + 1)) ((getI a s0_1).bind fun x5 => ((m_heldNetTaskS x5.tasks (s0_0 + 1)).bind fun x6 => (if decide (x6 < 0) = true then (some (-1)) else (gd (ok64 (s0_1 + 1)) ((m_heldNetNetS_l0 a kx0_0 n0) x6 (s0_1 + 1))))))) else (some (-1)))) else (kx0_0 s0_0)
def m_heldNetNetS (a : List GNet) (k : Int) : Option Int := m_heldNetNetS_l0 a m_heldNetNetS_k1 FUEL k 0

def m_markRdrNodeS_k1 (s0_0 : Int) (l0_2 : List GNode) : Option (Int × (List GNode)) := some (s0_0, l0_2)
def m_markRdrNodeS_l0 (kx0_0 : Int → List GNode → Option (Int × (List GNode))) : Nat → Int → Int → List GNode → Option (Int × (List GNode))
  | 0, _, _, _ => none
  | n0 + 1, s0_0, s0_1, l0_2 => if decide (s0_1 < (l0_2.length : Int)) = true then ((getI l0_2 s0_1).bind fun x2 => (gd (ok64 (s0_0 + 1)) ((getI (l0_2.set s0_1.toNat (GNode.mk (GAsk.mk s0_0 x2.if_.var x2.if_.k) x2.yes x2.no x2.ans x2.stone)) s0_1).bind fun x4 => (gd (ok64 ((s0_0 + 1) + 1)) ((getI ((l0_2.set s0_1.toNat (GNode.mk (GAsk.mk s0_0 x2.if_.var x2.if_.k) x2.yes x2.no x2.ans x2.stone)).set s0_1.toNat (GNode.mk (GAsk.mk x4.if_.op (s0_0 + 1) x4.if_.k) x4.yes x4.no x4.ans x4.stone)) s0_1).bind fun x6 => (gd (ok64 (((s0_0 + 1) + 1) + 1)) ((getI (((l0_2.set s0_1.toNat (GNode.mk (GAsk.mk s0_0 x2.if_.var x2.if_.k) x2.yes x2.no x2.ans x2.stone)).set s0_1.toNat (GNode.mk (GAsk.mk x4.if_.op (s0_0 + 1) x4.if_.k) x4.yes x4.no x4.ans x4.stone)).set s0_1.toNat (GNode.mk (GAsk.mk x6.if_.op x6.if_.var ((s0_0 + 1) + 1)) x6.yes x6.no x6.ans x6.stone)) s0_1).bind fun x8 => (gd (ok64 ((((s0_0 + 1) + 1) + 1) + 1)) ((getI ((((l0_2.set s0_1.toNat (GNode.mk (GAsk.mk s0_0 x2.if_.var x2.if_.k) x2.yes x2.no x2.ans x2.stone)).set s0_1.toNat (GNode.mk (GAsk.mk x4.if_.op (s0_0 + 1) x4.if_.k) x4.yes x4.no x4.ans x4.stone)).set s0_1.toNat (GNode.mk (GAsk.mk x6.if_.op x6.if_.var ((s0_0 + 1) + 1)) x6.yes x6.no x6.ans x6.stone)).set s0_1.toNat (GNode.mk x8.if_ (((s0_0 + 1) + 1) + 1) x8.no x8.ans x8.stone)) s0_1).bind fun x10 => (gd (ok64 (((((s0_0 + 1) + 1) + 1) + 1) + 1)) ((getI (((((l0_2.set s0_1.toNat (GNode.mk (GAsk.mk s0_0 x2.if_.var x2.if_.k) x2.yes x2.no x2.ans x2.stone)).set s0_1.toNat (GNode.mk (GAsk.mk x4.if_.op (s0_0 + 1) x4.if_.k) x4.yes x4.no x4.ans x4.stone)).set s0_1.toNat (GNode.mk (GAsk.mk x6.if_.op x6.if_.var ((s0_0 + 1) + 1)) x6.yes x6.no x6.ans x6.stone)).set s0_1.toNat (GNode.mk x8.if_ (((s0_0 + 1) + 1) + 1) x8.no x8.ans x8.stone)).set s0_1.toNat (GNode.mk x10.if_ x10.yes ((((s0_0 + 1) + 1) + 1) + 1) x10.ans x10.stone)) s0_1).bind fun x12 => (gd (ok64 ((((((s0_0 + 1) + 1) + 1) + 1) + 1) + 1)) ((getI ((((((l0_2.set s0_1.toNat (GNode.mk (GAsk.mk s0_0 x2.if_.var x2.if_.k) x2.yes x2.no x2.ans x2.stone)).set s0_1.toNat (GNode.mk (GAsk.mk x4.if_.op (s0_0 + 1) x4.if_.k) x4.yes x4.no x4.ans x4.stone)).set s0_1.toNat (GNode.mk (GAsk.mk x6.if_.op x6.if_.var ((s0_0 + 1) + 1)) x6.yes x6.no x6.ans x6.stone)).set s0_1.toNat (GNode.mk x8.if_ (((s0_0 + 1) + 1) + 1) x8.no x8.ans x8.stone)).set s0_1.toNat (GNode.mk x10.if_ x10.yes ((((s0_0 + 1) + 1) + 1) + 1) x10.ans x10.stone)).set s0_1.toNat (GNode.mk x12.if_ x12.yes x12.no (((((s0_0 + 1) + 1) + 1) + 1) + 1) x12.stone)) s0_1).bind fun x14 => ((m_markIntS x14.stone ((((((s0_0 + 1) + 1) + 1) + 1) + 1) + 1)).bind fun x15 => (gd (ok64 (s0_1 + 1)) ((m_markRdrNodeS_l0 kx0_0 n0) x15.1 (s0_1 + 1) (((((((l0_2.set s0_1.toNat (GNode.mk (GAsk.mk s0_0 x2.if_.var x2.if_.k) x2.yes x2.no x2.ans x2.stone)).set s0_1.toNat (GNode.mk (GAsk.mk x4.if_.op (s0_0 + 1) x4.if_.k) x4.yes x4.no x4.ans x4.stone)).set s0_1.toNat (GNode.mk (GAsk.mk x6.if_.op x6.if_.var ((s0_0 + 1) + 1)) x6.yes x6.no x6.ans x6.stone)).set s0_1.toNat (GNode.mk x8.if_ (((s0_0 + 1) + 1) + 1) x8.no x8.ans x8.stone)).set s0_1.toNat (GNode.mk x10.if_ x10.yes ((((s0_0 + 1) + 1) + 1) + 1) x10.ans x10.stone)).set s0_1.toNat (GNode.mk x12.if_ x12.yes x12.no (((((s0_0 + 1) + 1) + 1) + 1) + 1) x12.stone)).set s0_1.toNat (GNode.mk x14.if_ x14.yes x14.no x14.ans x15.2)))))))))))))))))) else (kx0_0 s0_0 l0_2)
def m_markRdrNodeS (a : List GNode) (k : Int) : Option (Int × (List GNode)) := m_markRdrNodeS_l0 m_markRdrNodeS_k1 FUEL k 0 a

def m_heldRdrNodeS_k1 (s0_0 : Int) : Option Int := some s0_0
def m_heldRdrNodeS_l0 (a : List GNode) (kx0_0 : Int → Option Int) : Nat → Int → Int → Option Int
  | 0, _, _ => none
  | n0 + 1, s0_0, s0_1 => if decide (s0_1 < (a.length : Int)) = true then ((getI a s0_1).bind fun x2 => (if decide (x2.if_.op = s0_0) = true then (gd (ok64 (s0_0 + 1)) ((getI a s0_1).bind fun x5 => (if decide (x5.if_.var = (s0_0 + 1)) = true then (gd (ok64 ((s0_0 + 1) + 1)) ((getI a s0_1).bind fun x8 => (if decide (x8.if_.k = ((s0_0 + 1) + 1)) = true then (gd (ok64 (((s0_0 + 1) + 1) + 1)) ((getI a s0_1).bind fun x11 => (if decide (x11.yes = (((s0_0 + 1) + 1) + 1)) = true then (gd (ok64 ((((s0_0 + 1) + 1) + 1) + 1)) ((getI a s0_1).bind fun x14 => (if decide (x14.no = ((((s0_0 + 1) + 1) + 1) + 1)) = true then (gd (ok64 (((((s0_0 + 1) + 1) + 1) + 1) + 1)) ((getI a s0_1).bind fun x17 => (if decide (x17.ans = (((((s0_0 + 1) + 1) + 1) + 1) + 1)) = true then (gd (ok64 ((((((s0_0 + 1) + 1) + 1) + 1) + 1) + 1)) ((getI a s0_1).bind fun x20 => ((m_heldIntS x20.stone ((((((s0_0 + 1) + 1) + 1) + 1) + 1) + 1)).bind fun x21 => (if decide (x21 < 0) = true then (some (-1)) else (gd (ok64 (s0_1 + 1)) ((m_heldRdrNodeS_l0 a kx0_0 n0) x21 (s0_1 + 1))))))) else (some (-1))))) else (some (-1))))) else (some (-1))))) else (some (-1))))) else (some (-1))))) else (some (-1)))) else (kx0_0 s0_0)
def m_heldRdrNodeS (a : List GNode) (k : Int) : Option Int := m_heldRdrNodeS_l0 a m_heldRdrNodeS_k1 FUEL k 0

def m_markCasItemS_k1 (s0_0 : Int) (l0_2 : List GItem) : Option (Int × (List GItem)) := some (s0_0, l0_2)
def m_markCasItemS_l0 (kx0_0 : Int → List GItem → Option (Int × (List GItem))) : Nat → Int → Int → List GItem → Option (Int × (List GItem))
  | 0, _, _, _ => none
  | n0 + 1, s0_0, s0_1, l0_2 => if decide (s0_1 < (l0_2.length : Int)) = true then ((getI l0_2 s0_1).bind fun x2 => (gd (ok64 (s0_0 + 1)) ((getI (l0_2.set s0_1.toNat (GItem.mk s0_0 x2.who x2.did)) s0_1).bind fun x4 => (gd (ok64 ((s0_0 + 1) + 1)) ((getI ((l0_2.set s0_1.toNat (GItem.mk s0_0 x2.who x2.did)).set s0_1.toNat (GItem.mk x4.task (s0_0 + 1) x4.did)) s0_1).bind fun x6 => (gd (ok64 (((s0_0 + 1) + 1) + 1)) (gd (ok64 (s0_1 + 1)) ((m_markCasItemS_l0 kx0_0 n0) (((s0_0 + 1) + 1) + 1) (s0_1 + 1) (((l0_2.set s0_1.toNat (GItem.mk s0_0 x2.who x2.did)).set s0_1.toNat (GItem.mk x4.task (s0_0 + 1) x4.did)).set s0_1.toNat (GItem.mk x6.task x6.who ((s0_0 + 1) + 1))))))))))) else (kx0_0 s0_0 l0_2)
def m_markCasItemS (a : List GItem) (k : Int) : Option (Int × (List GItem)) := m_markCasItemS_l0 m_markCasItemS_k1 FUEL k 0 a
def k_markCasItemS : Con := ⟨86, [.v (.sl (.s .item)) true, .v .I false], [(.I, true)], [(0, .v (.sl (.s .item)) true)], fun x => m_markCasItemS x.1 x.2.1⟩
def f_markCasItemS : Fs := ⟨[], []⟩
theorem g_markCasItemS : f_markCasItemS.Ok Try.prog := fs0
def t_markCasItemS_0 : Tmpl := ⟨[(0, .c (.ref 1000000)), (1, .c .i), (5, .c .i)], [(1000000, .arr (.s .item) true)]⟩
def x0_markCasItemS_0 : Tmpl := ⟨[(1, .c .i)], [(1000000, .arr (.s .item) true)]⟩
def L_markCasItemS_0 (av : AV) (x : HP k_markCasItemS.ps) (n : Nat) (v : t_markCasItemS_0.den) (K : Ks (CR k_markCasItemS)) : Option (CR k_markCasItemS) := m_markCasItemS_l0 (fun s0_0 l0_2 => x0_markCasItemS_0.at none ((s0_0, ()), (l0_2, ())) (K (.exit 0))) n v.1.2.1 v.1.2.2.1 v.2.1
def h_markCasItemS_0 (av : AV) (x : HP k_markCasItemS.ps) : Hdl (CR k_markCasItemS) := hnd [] t_markCasItemS_0 (L_markCasItemS_0 av x)
theorem l_markCasItemS_0 : LP k_markCasItemS Try.f86 [0] h_markCasItemS_0 := lp_ok (W := []) (H := []) (xs := [x0_markCasItemS_0]) g_markCasItemS trivial rfl (fun av x v K => by kernel_rfl) (fun av x n v K => by kernel_rfl)
theorem o_markCasItemS : k_markCasItemS.Ok Try.prog := fn_ok (k := k_markCasItemS) (fn := Try.f86) (W := []) (H := [h_markCasItemS_0]) Try.func86 g_markCasItemS ⟨l_markCasItemS_0, trivial⟩ rfl rfl (fun av x => by kernel_rfl)

def m_heldCasItemS_k1 (s0_0 : Int) : Option Int := some s0_0
def m_heldCasItemS_l0 (a : List GItem) (kx0_0 : Int → Option Int) : Nat → Int → Int → Option Int
  | 0, _, _ => none
  | n0 + 1, s0_0, s0_1 => if decide (s0_1 < (a.length : Int)) = true then ((getI a s0_1).bind fun x2 => (if decide (x2.task = s0_0) = true then (gd (ok64 (s0_0 + 1)) ((getI a s0_1).bind fun x5 => (if decide (x5.who = (s0_0 + 1)) = true then (gd (ok64 ((s0_0 + 1) + 1)) ((getI a s0_1).bind fun x8 => (if decide (x8.did = ((s0_0 + 1) + 1)) = true then (gd (ok64 (((s0_0 + 1) + 1) + 1)) (gd (ok64 (s0_1 + 1)) ((m_heldCasItemS_l0 a kx0_0 n0) (((s0_0 + 1) + 1) + 1) (s0_1 + 1)))) else (some (-1))))) else (some (-1))))) else (some (-1)))) else (kx0_0 s0_0)
def m_heldCasItemS (a : List GItem) (k : Int) : Option Int := m_heldCasItemS_l0 a m_heldCasItemS_k1 FUEL k 0
def k_heldCasItemS : Con := ⟨91, [.v (.sl (.s .item)) false, .v .I false], [(.I, true)], [], fun x => m_heldCasItemS x.1 x.2.1⟩
def f_heldCasItemS : Fs := ⟨[], []⟩
theorem g_heldCasItemS : f_heldCasItemS.Ok Try.prog := fs0
def t_heldCasItemS_0 : Tmpl := ⟨[(0, .c (.s (.s .item))), (1, .c .i), (5, .c .i)], []⟩
def x0_heldCasItemS_0 : Tmpl := ⟨[(1, .c .i)], []⟩
def L_heldCasItemS_0 (av : AV) (x : HP k_heldCasItemS.ps) (n : Nat) (v : t_heldCasItemS_0.den) (K : Ks (CR k_heldCasItemS)) : Option (CR k_heldCasItemS) := m_heldCasItemS_l0 v.1.1 (fun s0_0 => x0_heldCasItemS_0.at none ((s0_0, ()), ()) (K (.exit 0))) n v.1.2.1 v.1.2.2.1
def h_heldCasItemS_0 (av : AV) (x : HP k_heldCasItemS.ps) : Hdl (CR k_heldCasItemS) := hnd [] t_heldCasItemS_0 (L_heldCasItemS_0 av x)
theorem l_heldCasItemS_0 : LP k_heldCasItemS Try.f91 [0] h_heldCasItemS_0 := lp_ok (W := []) (H := []) (xs := [x0_heldCasItemS_0]) g_heldCasItemS trivial rfl (fun av x v K => by kernel_rfl) (fun av x n v K => by kernel_rfl)
theorem o_heldCasItemS : k_heldCasItemS.Ok Try.prog := fn_ok (k := k_heldCasItemS) (fn := Try.f91) (W := []) (H := [h_heldCasItemS_0]) Try.func91 g_heldCasItemS ⟨l_heldCasItemS_0, trivial⟩ rfl rfl (fun av x => by kernel_rfl)

def m_markCasDidS_k1 (s0_0 : Int) (l0_2 : List GDid) : Option (Int × (List GDid)) := some (s0_0, l0_2)
def m_markCasDidS_l0 (kx0_0 : Int → List GDid → Option (Int × (List GDid))) : Nat → Int → Int → List GDid → Option (Int × (List GDid))
  | 0, _, _, _ => none
  | n0 + 1, s0_0, s0_1, l0_2 => if decide (s0_1 < (l0_2.length : Int)) = true then ((getI l0_2 s0_1).bind fun x2 => (gd (ok64 (s0_0 + 1)) ((getI (l0_2.set s0_1.toNat (GDid.mk s0_0 x2.who)) s0_1).bind fun x4 => (gd (ok64 ((s0_0 + 1) + 1)) (gd (ok64 (s0_1 + 1)) ((m_markCasDidS_l0 kx0_0 n0) ((s0_0 + 1) + 1) (s0_1 + 1) ((l0_2.set s0_1.toNat (GDid.mk s0_0 x2.who)).set s0_1.toNat (GDid.mk x4.task (s0_0 + 1))))))))) else (kx0_0 s0_0 l0_2)
def m_markCasDidS (a : List GDid) (k : Int) : Option (Int × (List GDid)) := m_markCasDidS_l0 m_markCasDidS_k1 FUEL k 0 a
def k_markCasDidS : Con := ⟨87, [.v (.sl (.s .did)) true, .v .I false], [(.I, true)], [(0, .v (.sl (.s .did)) true)], fun x => m_markCasDidS x.1 x.2.1⟩
def f_markCasDidS : Fs := ⟨[], []⟩
theorem g_markCasDidS : f_markCasDidS.Ok Try.prog := fs0
def t_markCasDidS_0 : Tmpl := ⟨[(0, .c (.ref 1000000)), (1, .c .i), (5, .c .i)], [(1000000, .arr (.s .did) true)]⟩
def x0_markCasDidS_0 : Tmpl := ⟨[(1, .c .i)], [(1000000, .arr (.s .did) true)]⟩
def L_markCasDidS_0 (av : AV) (x : HP k_markCasDidS.ps) (n : Nat) (v : t_markCasDidS_0.den) (K : Ks (CR k_markCasDidS)) : Option (CR k_markCasDidS) := m_markCasDidS_l0 (fun s0_0 l0_2 => x0_markCasDidS_0.at none ((s0_0, ()), (l0_2, ())) (K (.exit 0))) n v.1.2.1 v.1.2.2.1 v.2.1
def h_markCasDidS_0 (av : AV) (x : HP k_markCasDidS.ps) : Hdl (CR k_markCasDidS) := hnd [] t_markCasDidS_0 (L_markCasDidS_0 av x)
theorem l_markCasDidS_0 : LP k_markCasDidS Try.f87 [0] h_markCasDidS_0 := lp_ok (W := []) (H := []) (xs := [x0_markCasDidS_0]) g_markCasDidS trivial rfl (fun av x v K => by kernel_rfl) (fun av x n v K => by kernel_rfl)
theorem o_markCasDidS : k_markCasDidS.Ok Try.prog := fn_ok (k := k_markCasDidS) (fn := Try.f87) (W := []) (H := [h_markCasDidS_0]) Try.func87 g_markCasDidS ⟨l_markCasDidS_0, trivial⟩ rfl rfl (fun av x => by kernel_rfl)

def m_heldCasDidS_k1 (s0_0 : Int) : Option Int := some s0_0
def m_heldCasDidS_l0 (a : List GDid) (kx0_0 : Int → Option Int) : Nat → Int → Int → Option Int
  | 0, _, _ => none
  | n0 + 1, s0_0, s0_1 => if decide (s0_1 < (a.length : Int)) = true then ((getI a s0_1).bind fun x2 => (if decide (x2.task = s0_0) = true then (gd (ok64 (s0_0 + 1)) ((getI a s0_1).bind fun x5 => (if decide (x5.who = (s0_0 + 1)) = true then (gd (ok64 ((s0_0 + 1) + 1)) (gd (ok64 (s0_1 + 1)) ((m_heldCasDidS_l0 a kx0_0 n0) ((s0_0 + 1) + 1) (s0_1 + 1)))) else (some (-1))))) else (some (-1)))) else (kx0_0 s0_0)
def m_heldCasDidS (a : List GDid) (k : Int) : Option Int := m_heldCasDidS_l0 a m_heldCasDidS_k1 FUEL k 0
def k_heldCasDidS : Con := ⟨92, [.v (.sl (.s .did)) false, .v .I false], [(.I, true)], [], fun x => m_heldCasDidS x.1 x.2.1⟩
def f_heldCasDidS : Fs := ⟨[], []⟩
theorem g_heldCasDidS : f_heldCasDidS.Ok Try.prog := fs0
def t_heldCasDidS_0 : Tmpl := ⟨[(0, .c (.s (.s .did))), (1, .c .i), (5, .c .i)], []⟩
def x0_heldCasDidS_0 : Tmpl := ⟨[(1, .c .i)], []⟩
def L_heldCasDidS_0 (av : AV) (x : HP k_heldCasDidS.ps) (n : Nat) (v : t_heldCasDidS_0.den) (K : Ks (CR k_heldCasDidS)) : Option (CR k_heldCasDidS) := m_heldCasDidS_l0 v.1.1 (fun s0_0 => x0_heldCasDidS_0.at none ((s0_0, ()), ()) (K (.exit 0))) n v.1.2.1 v.1.2.2.1
def h_heldCasDidS_0 (av : AV) (x : HP k_heldCasDidS.ps) : Hdl (CR k_heldCasDidS) := hnd [] t_heldCasDidS_0 (L_heldCasDidS_0 av x)
theorem l_heldCasDidS_0 : LP k_heldCasDidS Try.f92 [0] h_heldCasDidS_0 := lp_ok (W := []) (H := []) (xs := [x0_heldCasDidS_0]) g_heldCasDidS trivial rfl (fun av x v K => by kernel_rfl) (fun av x n v K => by kernel_rfl)
theorem o_heldCasDidS : k_heldCasDidS.Ok Try.prog := fn_ok (k := k_heldCasDidS) (fn := Try.f92) (W := []) (H := [h_heldCasDidS_0]) Try.func92 g_heldCasDidS ⟨l_heldCasDidS_0, trivial⟩ rfl rfl (fun av x => by kernel_rfl)

def m_markEngRunS_k1 (s0_0 : Int) (l0_2 : List GRun) : Option (Int × (List GRun)) := some (s0_0, l0_2)
def m_markEngRunS_l0 (kx0_0 : Int → List GRun → Option (Int × (List GRun))) : Nat → Int → Int → List GRun → Option (Int × (List GRun))
  | 0, _, _, _ => none
  | n0 + 1, s0_0, s0_1, l0_2 => if decide (s0_1 < (l0_2.length : Int)) = true then ((getI l0_2 s0_1).bind fun x2 => (gd (ok64 (s0_0 + 1)) ((getI (l0_2.set s0_1.toNat (GRun.mk s0_0 x2.case)) s0_1).bind fun x4 => (gd (ok64 ((s0_0 + 1) + 1)) ((getI ((l0_2.set s0_1.toNat (GRun.mk s0_0 x2.case)).set s0_1.toNat (GRun.mk x4.net (GCase.mk (s0_0 + 1) x4.case.marks x4.case.busy x4.case.data x4.case.did))) s0_1).bind fun x6 => ((m_markIntS x6.case.marks ((s0_0 + 1) + 1)).bind fun x7 => ((getI (((l0_2.set s0_1.toNat (GRun.mk s0_0 x2.case)).set s0_1.toNat (GRun.mk x4.net (GCase.mk (s0_0 + 1) x4.case.marks x4.case.busy x4.case.data x4.case.did))).set s0_1.toNat (GRun.mk x6.net (GCase.mk x6.case.state x7.2 x6.case.busy x6.case.data x6.case.did))) s0_1).bind fun x8 => ((m_markCasItemS x8.case.busy x7.1).bind fun x9 => ((getI ((((l0_2.set s0_1.toNat (GRun.mk s0_0 x2.case)).set s0_1.toNat (GRun.mk x4.net (GCase.mk (s0_0 + 1) x4.case.marks x4.case.busy x4.case.data x4.case.did))).set s0_1.toNat (GRun.mk x6.net (GCase.mk x6.case.state x7.2 x6.case.busy x6.case.data x6.case.did))).set s0_1.toNat (GRun.mk x8.net (GCase.mk x8.case.state x8.case.marks x9.2 x8.case.data x8.case.did))) s0_1).bind fun x10 => ((m_markIntS x10.case.data x9.1).bind fun x11 => ((getI (((((l0_2.set s0_1.toNat (GRun.mk s0_0 x2.case)).set s0_1.toNat (GRun.mk x4.net (GCase.mk (s0_0 + 1) x4.case.marks x4.case.busy x4.case.data x4.case.did))).set s0_1.toNat (GRun.mk x6.net (GCase.mk x6.case.state x7.2 x6.case.busy x6.case.data x6.case.did))).set s0_1.toNat (GRun.mk x8.net (GCase.mk x8.case.state x8.case.marks x9.2 x8.case.data x8.case.did))).set s0_1.toNat (GRun.mk x10.net (GCase.mk x10.case.state x10.case.marks x10.case.busy x11.2 x10.case.did))) s0_1).bind fun x12 => ((m_markCasDidS x12.case.did x11.1).bind fun x13 => (gd (ok64 (s0_1 + 1)) ((m_markEngRunS_l0 kx0_0 n0) x13.1 (s0_1 + 1) ((((((l0_2.set s0_1.toNat (GRun.mk s0_0 x2.case)).set s0_1.toNat (GRun.mk x4.net (GCase.mk (s0_0 + 1) x4.case.marks x4.case.busy x4.case.data x4.case.did))).set s0_1.toNat (GRun.mk x6.net (GCase.mk x6.case.state x7.2 x6.case.busy x6.case.data x6.case.did))).set s0_1.toNat (GRun.mk x8.net (GCase.mk x8.case.state x8.case.marks x9.2 x8.case.data x8.case.did))).set s0_1.toNat (GRun.mk x10.net (GCase.mk x10.case.state x10.case.marks x10.case.busy x11.2 x10.case.did))).set s0_1.toNat (GRun.mk x12.net (GCase.mk x12.case.state x12.case.marks x12.case.busy x12.case.data x13.2))))))))))))))))) else (kx0_0 s0_0 l0_2)
def m_markEngRunS (a : List GRun) (k : Int) : Option (Int × (List GRun)) := m_markEngRunS_l0 m_markEngRunS_k1 FUEL k 0 a

def m_heldEngRunS_k1 (s0_0 : Int) : Option Int := some s0_0
def m_heldEngRunS_l0 (a : List GRun) (kx0_0 : Int → Option Int) : Nat → Int → Int → Option Int
  | 0, _, _ => none
  | n0 + 1, s0_0, s0_1 => if decide (s0_1 < (a.length : Int)) = true then ((getI a s0_1).bind fun x2 => (if decide (x2.net = s0_0) = true then (gd (ok64 (s0_0 + 1)) ((getI a s0_1).bind fun x5 => (if decide (x5.case.state = (s0_0 + 1)) = true then (gd (ok64 ((s0_0 + 1) + 1)) ((getI a s0_1).bind fun x8 => ((m_heldIntS x8.case.marks ((s0_0 + 1) + 1)).bind fun x9 => (if decide (x9 < 0) = true then (some (-1)) else ((getI a s0_1).bind fun x11 => ((m_heldCasItemS x11.case.busy x9).bind fun x12 => (if decide (x12 < 0) = true then (some (-1)) else ((getI a s0_1).bind fun x14 => ((m_heldIntS x14.case.data x12).bind fun x15 => (if decide (x15 < 0) = true then (some (-1)) else ((getI a s0_1).bind fun x17 => ((m_heldCasDidS x17.case.did x15).bind fun x18 => (if decide (x18 < 0) = true then (some (-1)) else (gd (ok64 (s0_1 + 1)) ((m_heldEngRunS_l0 a kx0_0 n0) x18 (s0_1 + 1)))))))))))))))) else (some (-1))))) else (some (-1)))) else (kx0_0 s0_0)
def m_heldEngRunS (a : List GRun) (k : Int) : Option Int := m_heldEngRunS_l0 a m_heldEngRunS_k1 FUEL k 0

def m_markEngReqS_k1 (s0_0 : Int) (l0_2 : List GReq) : Option (Int × (List GReq)) := some (s0_0, l0_2)
def m_markEngReqS_l0 (kx0_0 : Int → List GReq → Option (Int × (List GReq))) : Nat → Int → Int → List GReq → Option (Int × (List GReq))
  | 0, _, _, _ => none
  | n0 + 1, s0_0, s0_1, l0_2 => if decide (s0_1 < (l0_2.length : Int)) = true then ((getI l0_2 s0_1).bind fun x2 => (gd (ok64 (s0_0 + 1)) ((getI (l0_2.set s0_1.toNat (GReq.mk s0_0 x2.who x2.case x2.task x2.var x2.num x2.data x2.if_ x2.ans)) s0_1).bind fun x4 => (gd (ok64 ((s0_0 + 1) + 1)) ((getI ((l0_2.set s0_1.toNat (GReq.mk s0_0 x2.who x2.case x2.task x2.var x2.num x2.data x2.if_ x2.ans)).set s0_1.toNat (GReq.mk x4.kind (s0_0 + 1) x4.case x4.task x4.var x4.num x4.data x4.if_ x4.ans)) s0_1).bind fun x6 => (gd (ok64 (((s0_0 + 1) + 1) + 1)) ((getI (((l0_2.set s0_1.toNat (GReq.mk s0_0 x2.who x2.case x2.task x2.var x2.num x2.data x2.if_ x2.ans)).set s0_1.toNat (GReq.mk x4.kind (s0_0 + 1) x4.case x4.task x4.var x4.num x4.data x4.if_ x4.ans)).set s0_1.toNat (GReq.mk x6.kind x6.who ((s0_0 + 1) + 1) x6.task x6.var x6.num x6.data x6.if_ x6.ans)) s0_1).bind fun x8 => (gd (ok64 ((((s0_0 + 1) + 1) + 1) + 1)) ((getI ((((l0_2.set s0_1.toNat (GReq.mk s0_0 x2.who x2.case x2.task x2.var x2.num x2.data x2.if_ x2.ans)).set s0_1.toNat (GReq.mk x4.kind (s0_0 + 1) x4.case x4.task x4.var x4.num x4.data x4.if_ x4.ans)).set s0_1.toNat (GReq.mk x6.kind x6.who ((s0_0 + 1) + 1) x6.task x6.var x6.num x6.data x6.if_ x6.ans)).set s0_1.toNat (GReq.mk x8.kind x8.who x8.case (((s0_0 + 1) + 1) + 1) x8.var x8.num x8.data x8.if_ x8.ans)) s0_1).bind fun x10 => (gd (ok64 (((((s0_0 + 1) + 1) + 1) + 1) + 1)) ((getI (((((l0_2.set s0_1.toNat (GReq.mk s0_0 x2.who x2.case x2.task x2.var x2.num x2.data x2.if_ x2.ans)).set s0_1.toNat (GReq.mk x4.kind (s0_0 + 1) x4.case x4.task x4.var x4.num x4.data x4.if_ x4.ans)).set s0_1.toNat (GReq.mk x6.kind x6.who ((s0_0 + 1) + 1) x6.task x6.var x6.num x6.data x6.if_ x6.ans)).set s0_1.toNat (GReq.mk x8.kind x8.who x8.case (((s0_0 + 1) + 1) + 1) x8.var x8.num x8.data x8.if_ x8.ans)).set s0_1.toNat (GReq.mk x10.kind x10.who x10.case x10.task ((((s0_0 + 1) + 1) + 1) + 1) x10.num x10.data x10.if_ x10.ans)) s0_1).bind fun x12 => (gd (ok64 ((((((s0_0 + 1) + 1) + 1) + 1) + 1) + 1)) ((getI ((((((l0_2.set s0_1.toNat (GReq.mk s0_0 x2.who x2.case x2.task x2.var x2.num x2.data x2.if_ x2.ans)).set s0_1.toNat (GReq.mk x4.kind (s0_0 + 1) x4.case x4.task x4.var x4.num x4.data x4.if_ x4.ans)).set s0_1.toNat (GReq.mk x6.kind x6.who ((s0_0 + 1) + 1) x6.task x6.var x6.num x6.data x6.if_ x6.ans)).set s0_1.toNat (GReq.mk x8.kind x8.who x8.case (((s0_0 + 1) + 1) + 1) x8.var x8.num x8.data x8.if_ x8.ans)).set s0_1.toNat (GReq.mk x10.kind x10.who x10.case x10.task ((((s0_0 + 1) + 1) + 1) + 1) x10.num x10.data x10.if_ x10.ans)).set s0_1.toNat (GReq.mk x12.kind x12.who x12.case x12.task x12.var (((((s0_0 + 1) + 1) + 1) + 1) + 1) x12.data x12.if_ x12.ans)) s0_1).bind fun x14 => ((m_markIntS x14.data ((((((s0_0 + 1) + 1) + 1) + 1) + 1) + 1)).bind fun x15 => ((getI (((((((l0_2.set s0_1.toNat (GReq.mk s0_0 x2.who x2.case x2.task x2.var x2.num x2.data x2.if_ x2.ans)).set s0_1.toNat (GReq.mk x4.kind (s0_0 + 1) x4.case x4.task x4.var x4.num x4.data x4.if_ x4.ans)).set s0_1.toNat (GReq.mk x6.kind x6.who ((s0_0 + 1) + 1) x6.task x6.var x6.num x6.data x6.if_ x6.ans)).set s0_1.toNat (GReq.mk x8.kind x8.who x8.case (((s0_0 + 1) + 1) + 1) x8.var x8.num x8.data x8.if_ x8.ans)).set s0_1.toNat (GReq.mk x10.kind x10.who x10.case x10.task ((((s0_0 + 1) + 1) + 1) + 1) x10.num x10.data x10.if_ x10.ans)).set s0_1.toNat (GReq.mk x12.kind x12.who x12.case x12.task x12.var (((((s0_0 + 1) + 1) + 1) + 1) + 1) x12.data x12.if_ x12.ans)).set s0_1.toNat (GReq.mk x14.kind x14.who x14.case x14.task x14.var x14.num x15.2 x14.if_ x14.ans)) s0_1).bind fun x16 => (gd (ok64 (x15.1 + 1)) ((getI ((((((((l0_2.set s0_1.toNat (GReq.mk s0_0 x2.who x2.case x2.task x2.var x2.num x2.data x2.if_ x2.ans)).set s0_1.toNat (GReq.mk x4.kind (s0_0 + 1) x4.case x4.task x4.var x4.num x4.data x4.if_ x4.ans)).set s0_1.toNat (GReq.mk x6.kind x6.who ((s0_0 + 1) + 1) x6.task x6.var x6.num x6.data x6.if_ x6.ans)).set s0_1.toNat (GReq.mk x8.kind x8.who x8.case (((s0_0 + 1) + 1) + 1) x8.var x8.num x8.data x8.if_ x8.ans)).set s0_1.toNat (GReq.mk x10.kind x10.who x10.case x10.task ((((s0_0 + 1) + 1) + 1) + 1) x10.num x10.data x10.if_ x10.ans)).set s0_1.toNat (GReq.mk x12.kind x12.who x12.case x12.task x12.var (((((s0_0 + 1) + 1) + 1) + 1) + 1) x12.data x12.if_ x12.ans)).set s0_1.toNat (GReq.mk x14.kind x14.who x14.case x14.task x14.var x14.num x15.2 x14.if_ x14.ans)).set s0_1.toNat (GReq.mk x16.kind x16.who x16.case x16.task x16.var x16.num x16.data (GAsk.mk x15.1 x16.if_.var x16.if_.k) x16.ans)) s0_1).bind fun x18 => (gd (ok64 ((x15.1 + 1) + 1)) ((getI (((((((((l0_2.set s0_1.toNat (GReq.mk s0_0 x2.who x2.case x2.task x2.var x2.num x2.data x2.if_ x2.ans)).set s0_1.toNat (GReq.mk x4.kind (s0_0 + 1) x4.case x4.task x4.var x4.num x4.data x4.if_ x4.ans)).set s0_1.toNat (GReq.mk x6.kind x6.who ((s0_0 + 1) + 1) x6.task x6.var x6.num x6.data x6.if_ x6.ans)).set s0_1.toNat (GReq.mk x8.kind x8.who x8.case (((s0_0 + 1) + 1) + 1) x8.var x8.num x8.data x8.if_ x8.ans)).set s0_1.toNat (GReq.mk x10.kind x10.who x10.case x10.task ((((s0_0 + 1) + 1) + 1) + 1) x10.num x10.data x10.if_ x10.ans)).set s0_1.toNat (GReq.mk x12.kind x12.who x12.case x12.task x12.var (((((s0_0 + 1) + 1) + 1) + 1) + 1) x12.data x12.if_ x12.ans)).set s0_1.toNat (GReq.mk x14.kind x14.who x14.case x14.task x14.var x14.num x15.2 x14.if_ x14.ans)).set s0_1.toNat (GReq.mk x16.kind x16.who x16.case x16.task x16.var x16.num x16.data (GAsk.mk x15.1 x16.if_.var x16.if_.k) x16.ans)).set s0_1.toNat (GReq.mk x18.kind x18.who x18.case x18.task x18.var x18.num x18.data (GAsk.mk x18.if_.op (x15.1 + 1) x18.if_.k) x18.ans)) s0_1).bind fun x20 => (gd (ok64 (((x15.1 + 1) + 1) + 1)) ((getI ((((((((((l0_2.set s0_1.toNat (GReq.mk s0_0 x2.who x2.case x2.task x2.var x2.num x2.data x2.if_ x2.ans)).set s0_1.toNat (GReq.mk x4.kind (s0_0 + 1) x4.case x4.task x4.var x4.num x4.data x4.if_ x4.ans)).set s0_1.toNat (GReq.mk x6.kind x6.who ((s0_0 + 1) + 1) x6.task x6.var x6.num x6.data x6.if_ x6.ans)).set s0_1.toNat (GReq.mk x8.kind x8.who x8.case (((s0_0 + 1) + 1) + 1) x8.var x8.num x8.data x8.if_ x8.ans)).set s0_1.toNat (GReq.mk x10.kind x10.who x10.case x10.task ((((s0_0 + 1) + 1) + 1) + 1) x10.num x10.data x10.if_ x10.ans)).set s0_1.toNat (GReq.mk x12.kind x12.who x12.case x12.task x12.var (((((s0_0 + 1) + 1) + 1) + 1) + 1) x12.data x12.if_ x12.ans)).set s0_1.toNat (GReq.mk x14.kind x14.who x14.case x14.task x14.var x14.num x15.2 x14.if_ x14.ans)).set s0_1.toNat (GReq.mk x16.kind x16.who x16.case x16.task x16.var x16.num x16.data (GAsk.mk x15.1 x16.if_.var x16.if_.k) x16.ans)).set s0_1.toNat (GReq.mk x18.kind x18.who x18.case x18.task x18.var x18.num x18.data (GAsk.mk x18.if_.op (x15.1 + 1) x18.if_.k) x18.ans)).set s0_1.toNat (GReq.mk x20.kind x20.who x20.case x20.task x20.var x20.num x20.data (GAsk.mk x20.if_.op x20.if_.var ((x15.1 + 1) + 1)) x20.ans)) s0_1).bind fun x22 => (gd (ok64 ((((x15.1 + 1) + 1) + 1) + 1)) (gd (ok64 (s0_1 + 1)) ((m_markEngReqS_l0 kx0_0 n0) ((((x15.1 + 1) + 1) + 1) + 1) (s0_1 + 1) (((((((((((l0_2.set s0_1.toNat (GReq.mk s0_0 x2.who x2.case x2.task x2.var x2.num x2.data x2.if_ x2.ans)).set s0_1.toNat (GReq.mk x4.kind (s0_0 + 1) x4.case x4.task x4.var x4.num x4.data x4.if_ x4.ans)).set s0_1.toNat (GReq.mk x6.kind x6.who ((s0_0 + 1) + 1) x6.task x6.var x6.num x6.data x6.if_ x6.ans)).set s0_1.toNat (GReq.mk x8.kind x8.who x8.case (((s0_0 + 1) + 1) + 1) x8.var x8.num x8.data x8.if_ x8.ans)).set s0_1.toNat (GReq.mk x10.kind x10.who x10.case x10.task ((((s0_0 + 1) + 1) + 1) + 1) x10.num x10.data x10.if_ x10.ans)).set s0_1.toNat (GReq.mk x12.kind x12.who x12.case x12.task x12.var (((((s0_0 + 1) + 1) + 1) + 1) + 1) x12.data x12.if_ x12.ans)).set s0_1.toNat (GReq.mk x14.kind x14.who x14.case x14.task x14.var x14.num x15.2 x14.if_ x14.ans)).set s0_1.toNat (GReq.mk x16.kind x16.who x16.case x16.task x16.var x16.num x16.data (GAsk.mk x15.1 x16.if_.var x16.if_.k) x16.ans)).set s0_1.toNat (GReq.mk x18.kind x18.who x18.case x18.task x18.var x18.num x18.data (GAsk.mk x18.if_.op (x15.1 + 1) x18.if_.k) x18.ans)).set s0_1.toNat (GReq.mk x20.kind x20.who x20.case x20.task x20.var x20.num x20.data (GAsk.mk x20.if_.op x20.if_.var ((x15.1 + 1) + 1)) x20.ans)).set s0_1.toNat (GReq.mk x22.kind x22.who x22.case x22.task x22.var x22.num x22.data x22.if_ (((x15.1 + 1) + 1) + 1))))))))))))))))))))))))))) else (kx0_0 s0_0 l0_2)
def m_markEngReqS (a : List GReq) (k : Int) : Option (Int × (List GReq)) := m_markEngReqS_l0 m_markEngReqS_k1 FUEL k 0 a

def m_heldEngReqS_k1 (s0_0 : Int) : Option Int := some s0_0
def m_heldEngReqS_l0 (a : List GReq) (kx0_0 : Int → Option Int) : Nat → Int → Int → Option Int
  | 0, _, _ => none
  | n0 + 1, s0_0, s0_1 => if decide (s0_1 < (a.length : Int)) = true then ((getI a s0_1).bind fun x2 => (if decide (x2.kind = s0_0) = true then (gd (ok64 (s0_0 + 1)) ((getI a s0_1).bind fun x5 => (if decide (x5.who = (s0_0 + 1)) = true then (gd (ok64 ((s0_0 + 1) + 1)) ((getI a s0_1).bind fun x8 => (if decide (x8.case = ((s0_0 + 1) + 1)) = true then (gd (ok64 (((s0_0 + 1) + 1) + 1)) ((getI a s0_1).bind fun x11 => (if decide (x11.task = (((s0_0 + 1) + 1) + 1)) = true then (gd (ok64 ((((s0_0 + 1) + 1) + 1) + 1)) ((getI a s0_1).bind fun x14 => (if decide (x14.var = ((((s0_0 + 1) + 1) + 1) + 1)) = true then (gd (ok64 (((((s0_0 + 1) + 1) + 1) + 1) + 1)) ((getI a s0_1).bind fun x17 => (if decide (x17.num = (((((s0_0 + 1) + 1) + 1) + 1) + 1)) = true then (gd (ok64 ((((((s0_0 + 1) + 1) + 1) + 1) + 1) + 1)) ((getI a s0_1).bind fun x20 => ((m_heldIntS x20.data ((((((s0_0 + 1) + 1) + 1) + 1) + 1) + 1)).bind fun x21 => (if decide (x21 < 0) = true then (some (-1)) else ((getI a s0_1).bind fun x23 => (if decide (x23.if_.op = x21) = true then (gd (ok64 (x21 + 1)) ((getI a s0_1).bind fun x26 => (if decide (x26.if_.var = (x21 + 1)) = true then (gd (ok64 ((x21 + 1) + 1)) ((getI a s0_1).bind fun x29 => (if decide (x29.if_.k = ((x21 + 1) + 1)) = true then (gd (ok64 (((x21 + 1) + 1) + 1)) ((getI a s0_1).bind fun x32 => (if decide (x32.ans = (((x21 + 1) + 1) + 1)) = true then (gd (ok64 ((((x21 + 1) + 1) + 1) + 1)) (gd (ok64 (s0_1 + 1)) ((m_heldEngReqS_l0 a kx0_0 n0) ((((x21 + 1) + 1) + 1) + 1) (s0_1 + 1)))) else (some (-1))))) else (some (-1))))) else (some (-1))))) else (some (-1)))))))) else (some (-1))))) else (some (-1))))) else (some (-1))))) else (some (-1))))) else (some (-1))))) else (some (-1)))) else (kx0_0 s0_0)
def m_heldEngReqS (a : List GReq) (k : Int) : Option Int := m_heldEngReqS_l0 a m_heldEngReqS_k1 FUEL k 0

def m_markNetNet (a : GNet) (k : Int) : Option (Int × GNet) := (m_markNetTaskS a.tasks k).bind fun x1 => (some (x1.1, (GNet.mk a.places x1.2)))
def k_markNetNet : Con := ⟨39, [.v (.s .net) true, .v .I false], [(.I, true)], [(0, .v (.s .net) true)], fun x => m_markNetNet x.1 x.2.1⟩
def f_markNetNet : Fs := ⟨[k_markNetTaskS], []⟩
theorem g_markNetNet : f_markNetNet.Ok Try.prog := (fsK o_markNetTaskS fs0)
theorem o_markNetNet : k_markNetNet.Ok Try.prog := fn_ok (k := k_markNetNet) (fn := Try.f39) (W := []) (H := []) Try.func39 g_markNetNet trivial rfl rfl (fun av x => by kernel_rfl)

def m_markCasCase (a : GCase) (k : Int) : Option (Int × GCase) := (m_markIntS a.marks k).bind fun x1 => ((m_markCasItemS a.busy x1.1).bind fun x2 => ((m_markIntS a.data x2.1).bind fun x3 => ((m_markCasDidS a.did x3.1).bind fun x4 => (some (x4.1, (GCase.mk a.state x1.2 x2.2 x3.2 x4.2))))))
def k_markCasCase : Con := ⟨40, [.v (.s .kase) true, .v .I false], [(.I, true)], [(0, .v (.s .kase) true)], fun x => m_markCasCase x.1 x.2.1⟩
def f_markCasCase : Fs := ⟨[k_markIntS, k_markCasItemS, k_markCasDidS], []⟩
theorem g_markCasCase : f_markCasCase.Ok Try.prog := (fsK o_markIntS (fsK o_markCasItemS (fsK o_markCasDidS fs0)))
theorem o_markCasCase : k_markCasCase.Ok Try.prog := fn_ok (k := k_markCasCase) (fn := Try.f40) (W := []) (H := []) Try.func40 g_markCasCase trivial rfl rfl (fun av x => by kernel_rfl)

def m_heldCasCase (a : GCase) (k : Int) : Option Int := (m_heldIntS a.marks k).bind fun x1 => (if decide (x1 < 0) = true then (some (-1)) else ((m_heldCasItemS a.busy x1).bind fun x3 => (if decide (x3 < 0) = true then (some (-1)) else ((m_heldIntS a.data x3).bind fun x5 => (if decide (x5 < 0) = true then (some (-1)) else ((m_heldCasDidS a.did x5).bind fun x7 => (if decide (x7 < 0) = true then (some (-1)) else (some x7))))))))
def k_heldCasCase : Con := ⟨45, [.v (.s .kase) false, .v .I false], [(.I, true)], [], fun x => m_heldCasCase x.1 x.2.1⟩
def f_heldCasCase : Fs := ⟨[k_heldIntS, k_heldCasItemS, k_heldCasDidS], []⟩
theorem g_heldCasCase : f_heldCasCase.Ok Try.prog := (fsK o_heldIntS (fsK o_heldCasItemS (fsK o_heldCasDidS fs0)))
theorem o_heldCasCase : k_heldCasCase.Ok Try.prog := fn_ok (k := k_heldCasCase) (fn := Try.f45) (W := []) (H := []) Try.func45 g_heldCasCase trivial rfl rfl (fun av x => by kernel_rfl)

def m_markEngHouse (a : GHouse) (k : Int) : Option (Int × GHouse) := (m_markNetNetS a.nets k).bind fun x1 => ((m_markIntS a.people x1.1).bind fun x2 => ((m_markRdrNodeS a.tree x2.1).bind fun x3 => ((m_markEngRunS a.runs x3.1).bind fun x4 => (some (x4.1, (GHouse.mk x1.2 x2.2 x3.2 x4.2))))))

def m_heldEngHouse (a : GHouse) (k : Int) : Option Int := (m_heldNetNetS a.nets k).bind fun x1 => (if decide (x1 < 0) = true then (some (-1)) else ((m_heldIntS a.people x1).bind fun x3 => (if decide (x3 < 0) = true then (some (-1)) else ((m_heldRdrNodeS a.tree x3).bind fun x5 => (if decide (x5 < 0) = true then (some (-1)) else ((m_heldEngRunS a.runs x5).bind fun x7 => (if decide (x7 < 0) = true then (some (-1)) else (some x7))))))))

def m_markEngReq (a : GReq) (k : Int) : Option (Int × GReq) := (m_markIntS a.data k).bind fun x1 => (some (x1.1, (GReq.mk a.kind a.who a.case a.task a.var a.num x1.2 a.if_ a.ans)))

def m_laws_FnExactCasWork (aN : GNet) (aC : GCase) (aK : Int) (aV : Int) (aNum : Int) : Option Bool := (m_szNetNet aN 1048576).bind fun x1 => (if decide (x1 < 0) = true then (some true) else ((m_szCasCase aC x1).bind fun x3 => (if decide (x3 < 0) = true then (some true) else ((m_toNetNet aN).bind fun x5 => ((m_toCasCase aC).bind fun x6 => ((m_spec_CasWork x5 x6 aK aV aNum).bind fun x7 => ((m_toNetNet aN).bind fun x8 => ((m_toCasCase aC).bind fun x9 => ((m_impl_CasWork x8 x9 aK aV aNum).bind fun x10 => ((m_eqCasCase x10.1 x7.1).bind fun x11 => (if x11 = true then (if (x10.2 == x7.2) = true then ((m_toNetNet aN).bind fun x14 => ((m_eqNetNet x8 x14).bind fun x15 => (if x15 = true then ((m_toCasCase aC).bind fun x17 => ((m_eqCasCase x9 x17).bind fun x18 => (if x18 = true then ((m_markNetNet x8 1).bind fun x20 => ((m_markCasCase x9 x20.1).bind fun x21 => (if decide (x21.1 < 0) = true then (some false) else ((m_eqCasCase x10.1 x7.1).bind fun x23 => (if x23 = true then (if (x10.2 == x7.2) = true then ((m_markCasCase x10.1 1).bind fun x26 => ((m_heldCasCase (GCase.mk x10.1.state x26.2.marks x26.2.busy x26.2.data x26.2.did) 1).bind fun x27 => (if decide (x27 < 0) = true then (some false) else (if decide (x27 = x26.1) = true then ((m_toNetNet aN).bind fun x30 => ((m_toCasCase aC).bind fun x31 => ((m_impl_CasWork x30 x31 aK aV aNum).bind fun x32 => ((m_eqCasCase x32.1 x7.1).bind fun x33 => (if x33 = true then (if (x32.2 == x7.2) = true then ((m_heldCasCase (GCase.mk x10.1.state x26.2.marks x26.2.busy x26.2.data x26.2.did) 1).bind fun x36 => (if decide (x36 < 0) = true then (some false) else (if decide (x36 = x26.1) = true then (some true) else (some false)))) else (some false)) else (some false)))))) else (some false))))) else (some false)) else (some false)))))) else (some false)))) else (some false)))) else (some false)) else (some false))))))))))))
def k_laws_FnExactCasWork : Con := ⟨10, [.v (.s .net) false, .v (.s .kase) false, .v .I false, .v .I false, .v .I false], [(.B, true)], [], fun x => m_laws_FnExactCasWork x.1 x.2.1 x.2.2.1 x.2.2.2.1 x.2.2.2.2.1⟩
def f_laws_FnExactCasWork : Fs := ⟨[k_szNetNet, k_szCasCase, k_toNetNet, k_toCasCase, k_spec_CasWork, k_impl_CasWork, k_eqCasCase, k_eqNetNet, k_markNetNet, k_markCasCase, k_heldCasCase], []⟩
theorem g_laws_FnExactCasWork : f_laws_FnExactCasWork.Ok Try.prog := (fsK o_szNetNet (fsK o_szCasCase (fsK o_toNetNet (fsK o_toCasCase (fsK o_spec_CasWork (fsK o_impl_CasWork (fsK o_eqCasCase (fsK o_eqNetNet (fsK o_markNetNet (fsK o_markCasCase (fsK o_heldCasCase fs0)))))))))))
theorem o_laws_FnExactCasWork : k_laws_FnExactCasWork.Ok Try.prog := fn_ok (k := k_laws_FnExactCasWork) (fn := Try.f10) (W := []) (H := []) Try.func10 g_laws_FnExactCasWork trivial rfl rfl (fun av x => by kernel_rfl)

end
end Go.Am
