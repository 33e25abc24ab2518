/- Mirrors and contracts, printed. Own work. -/
import Derived.Test.YtcbpckbehdaloaaXb5
set_option linter.unusedSimpArgs false
set_option maxRecDepth 100000
set_option maxHeartbeats 4000000
set_option linter.unusedVariables false
namespace Go.Am
noncomputable section
open Go Go.Proofs
def m_e_szIntS (l : List Int) (left : Int) : Option Int := gd (ok64 (left - (l.length : Int))) (if decide ((left - (l.length : Int)) < 0) = true then (some (-1)) else (some (left - (l.length : Int))))
def k_e_szIntS : Con := ⟨59, [.v (.sl .I) false, .v .I false], [(.I, true)], [], fun x => m_e_szIntS x.1 x.2.1⟩
def f_e_szIntS : Fs := ⟨[], []⟩
theorem g_e_szIntS : f_e_szIntS.Ok Try.prog := fs0
theorem o_e_szIntS : k_e_szIntS.Ok Try.prog := fn_ok (k := k_e_szIntS) (fn := Try.f59) (W := []) (H := []) Try.func59 g_e_szIntS trivial rfl rfl (fun av x => by kernel_rfl)
noncomputable def m_szIntS (l : List Int) (left : Int) : Option Int := @gd ((0 ≤ left) ∧ (left ≤ 1048576) ∧ (l.length ≤ 9223372036854775807)) (Classical.propDecidable _) _ (some (szR left l.length))
theorem c_szIntS (l : List Int) (left : Int) (h : (0 ≤ left) ∧ (left ≤ 1048576) ∧ (l.length ≤ 9223372036854775807)) : m_szIntS l left = some (szR left l.length) := gdC h
theorem s_szIntS (l : List Int) (left : Int) (h : (0 ≤ left) ∧ (left ≤ 1048576) ∧ (l.length ≤ 9223372036854775807)) : m_e_szIntS l left = some (szR left l.length) := by
  exact sz_flat h.1 h.2.1 h.2.2
noncomputable def k_szIntS : Con := ⟨59, [.v (.sl .I) false, .v .I false], [(.I, true)], [], fun x => m_szIntS x.1 x.2.1⟩
theorem o_szIntS : k_szIntS.Ok Try.prog := con_sub o_e_szIntS fun x z hz => by
  obtain ⟨h, e⟩ := gdC_some hz
  subst e
  exact s_szIntS _ _ h

def m_e_szNetFlowS (l : List GFlow) (left : Int) : Option Int := gd (ok64 (left - (l.length : Int))) (if decide ((left - (l.length : Int)) < 0) = true then (some (-1)) else (some (left - (l.length : Int))))
def k_e_szNetFlowS : Con := ⟨137, [.v (.sl (.s .flow)) false, .v .I false], [(.I, true)], [], fun x => m_e_szNetFlowS x.1 x.2.1⟩
def f_e_szNetFlowS : Fs := ⟨[], []⟩
theorem g_e_szNetFlowS : f_e_szNetFlowS.Ok Try.prog := fs0
theorem o_e_szNetFlowS : k_e_szNetFlowS.Ok Try.prog := fn_ok (k := k_e_szNetFlowS) (fn := Try.f137) (W := []) (H := []) Try.func137 g_e_szNetFlowS trivial rfl rfl (fun av x => by kernel_rfl)
noncomputable def m_szNetFlowS (l : List GFlow) (left : Int) : Option Int := @gd ((0 ≤ left) ∧ (left ≤ 1048576) ∧ (l.length ≤ 9223372036854775807)) (Classical.propDecidable _) _ (some (szR left l.length))
theorem c_szNetFlowS (l : List GFlow) (left : Int) (h : (0 ≤ left) ∧ (left ≤ 1048576) ∧ (l.length ≤ 9223372036854775807)) : m_szNetFlowS l left = some (szR left l.length) := gdC h
theorem s_szNetFlowS (l : List GFlow) (left : Int) (h : (0 ≤ left) ∧ (left ≤ 1048576) ∧ (l.length ≤ 9223372036854775807)) : m_e_szNetFlowS l left = some (szR left l.length) := by
  exact sz_flat h.1 h.2.1 h.2.2
noncomputable def k_szNetFlowS : Con := ⟨137, [.v (.sl (.s .flow)) false, .v .I false], [(.I, true)], [], fun x => m_szNetFlowS x.1 x.2.1⟩
theorem o_szNetFlowS : k_szNetFlowS.Ok Try.prog := con_sub o_e_szNetFlowS fun x z hz => by
  obtain ⟨h, e⟩ := gdC_some hz
  subst e
  exact s_szNetFlowS _ _ h

def m_e_szNetTask (x : GTask) (left : Int) : Option Int := (m_szIntS x.in_ left).bind fun x1 => (if decide (x1 < 0) = true then (some (-1)) else ((m_szNetFlowS x.out x1).bind fun x3 => (if decide (x3 < 0) = true then (some (-1)) else ((m_szIntS x.clear x3).bind fun x5 => (if decide (x5 < 0) = true then (some (-1)) else (some x5))))))
def k_e_szNetTask : Con := ⟨117, [.v (.s .task) false, .v .I false], [(.I, true)], [], fun x => m_e_szNetTask x.1 x.2.1⟩
def f_e_szNetTask : Fs := ⟨[k_szIntS, k_szNetFlowS], []⟩
theorem g_e_szNetTask : f_e_szNetTask.Ok Try.prog := (fsK o_szIntS (fsK o_szNetFlowS fs0))
theorem o_e_szNetTask : k_e_szNetTask.Ok Try.prog := fn_ok (k := k_e_szNetTask) (fn := Try.f117) (W := []) (H := []) Try.func117 g_e_szNetTask trivial rfl rfl (fun av x => by kernel_rfl)
noncomputable def m_szNetTask (x : GTask) (left : Int) : Option Int := @gd ((0 ≤ left) ∧ (left ≤ 1048576) ∧ (GTask.lens (· ≤ 9223372036854775807) x)) (Classical.propDecidable _) _ (some (szR left (GTask.W x)))
theorem c_szNetTask (x : GTask) (left : Int) (h : (0 ≤ left) ∧ (left ≤ 1048576) ∧ (GTask.lens (· ≤ 9223372036854775807) x)) : m_szNetTask x left = some (szR left (GTask.W x)) := gdC h
theorem s_szNetTask (x : GTask) (left : Int) (h : (0 ≤ left) ∧ (left ≤ 1048576) ∧ (GTask.lens (· ≤ 9223372036854775807) x)) : m_e_szNetTask x left = some (szR left (GTask.W x)) := by
  have e : GTask.W x = (x.in_.length + (x.out.length + (x.clear.length + 0))) := by simp only [GTask.W]; omega
  rw [e]
  have g1 := h.1
  have g2 := h.2.1
  unfold m_e_szNetTask
  rw [c_szIntS _ _ ⟨g1, g2, h.2.2.1⟩]; refine sz_step g1 g2 fun left g1 g2 => ?_
  rw [c_szNetFlowS _ _ ⟨g1, g2, h.2.2.2.1⟩]; refine sz_step g1 g2 fun left g1 g2 => ?_
  rw [c_szIntS _ _ ⟨g1, g2, h.2.2.2.2⟩]; refine sz_step g1 g2 fun left g1 g2 => ?_
  exact szR_zero g1
noncomputable def k_szNetTask : Con := ⟨117, [.v (.s .task) false, .v .I false], [(.I, true)], [], fun x => m_szNetTask x.1 x.2.1⟩
theorem o_szNetTask : k_szNetTask.Ok Try.prog := con_sub o_e_szNetTask fun x z hz => by
  obtain ⟨h, e⟩ := gdC_some hz
  subst e
  exact s_szNetTask _ _ h

def m_e_szNetTaskS_k1 (s0_0 : Int) : Option Int := some s0_0
def m_e_szNetTaskS_l0 (l : List GTask) (kx0_0 : Int → Option Int) : Nat → Int → Int → Option Int
  | 0, _, _ => none
  | n0 + 1, s0_0, s0_1 => if decide (s0_1 < (l.length : Int)) = true then ((getI l s0_1).bind fun x4 => ((m_szNetTask x4 s0_0).bind fun x5 => (if decide (x5 < 0) = true then (some (-1)) else (gd (ok64 (s0_1 + 1)) ((m_e_szNetTaskS_l0 l kx0_0 n0) x5 (s0_1 + 1)))))) else (kx0_0 s0_0)
def m_e_szNetTaskS (l : List GTask) (left : Int) : Option Int := gd (ok64 (left - (l.length : Int))) (if decide ((left - (l.length : Int)) < 0) = true then (some (-1)) else (m_e_szNetTaskS_l0 l m_e_szNetTaskS_k1 FUEL (left - (l.length : Int)) 0))
def k_e_szNetTaskS : Con := ⟨72, [.v (.sl (.s .task)) false, .v .I false], [(.I, true)], [], fun x => m_e_szNetTaskS x.1 x.2.1⟩
def f_e_szNetTaskS : Fs := ⟨[k_szNetTask], []⟩
theorem g_e_szNetTaskS : f_e_szNetTaskS.Ok Try.prog := (fsK o_szNetTask fs0)
def t_e_szNetTaskS_0 : Tmpl := ⟨[(0, .c (.s (.s .task))), (1, .c .i), (5, .c .i)], []⟩
def x0_e_szNetTaskS_0 : Tmpl := ⟨[(1, .c .i)], []⟩
def L_e_szNetTaskS_0 (av : AV) (x : HP k_e_szNetTaskS.ps) (n : Nat) (v : t_e_szNetTaskS_0.den) (K : Ks (CR k_e_szNetTaskS)) : Option (CR k_e_szNetTaskS) := m_e_szNetTaskS_l0 v.1.1 (fun s0_0 => x0_e_szNetTaskS_0.at none ((s0_0, ()), ()) (K (.exit 0))) n v.1.2.1 v.1.2.2.1
def h_e_szNetTaskS_0 (av : AV) (x : HP k_e_szNetTaskS.ps) : Hdl (CR k_e_szNetTaskS) := hnd [] t_e_szNetTaskS_0 (L_e_szNetTaskS_0 av x)
theorem l_e_szNetTaskS_0 : LP k_e_szNetTaskS Try.f72 [0] h_e_szNetTaskS_0 := lp_ok (W := []) (H := []) (xs := [x0_e_szNetTaskS_0]) g_e_szNetTaskS trivial rfl (fun av x v K => by kernel_rfl) (fun av x n v K => by kernel_rfl)
theorem o_e_szNetTaskS : k_e_szNetTaskS.Ok Try.prog := fn_ok (k := k_e_szNetTaskS) (fn := Try.f72) (W := []) (H := [h_e_szNetTaskS_0]) Try.func72 g_e_szNetTaskS ⟨l_e_szNetTaskS_0, trivial⟩ rfl rfl (fun av x => by kernel_rfl)
noncomputable def m_szNetTaskS (l : List GTask) (left : Int) : Option Int := @gd ((0 ≤ left) ∧ (left ≤ 1048576) ∧ (l.length ≤ 9223372036854775807) ∧ (∀ y ∈ l, GTask.lens (· ≤ 9223372036854775807) y)) (Classical.propDecidable _) _ (some (szR left (l.length + sumW GTask.W l)))
theorem c_szNetTaskS (l : List GTask) (left : Int) (h : (0 ≤ left) ∧ (left ≤ 1048576) ∧ (l.length ≤ 9223372036854775807) ∧ (∀ y ∈ l, GTask.lens (· ≤ 9223372036854775807) y)) : m_szNetTaskS l left = some (szR left (l.length + sumW GTask.W l)) := gdC h
theorem s_szNetTaskS (l : List GTask) (left : Int) (h : (0 ≤ left) ∧ (left ≤ 1048576) ∧ (l.length ≤ 9223372036854775807) ∧ (∀ y ∈ l, GTask.lens (· ≤ 9223372036854775807) y)) : m_e_szNetTaskS l left = some (szR left (l.length + sumW GTask.W l)) := by
  refine sz_nest (f := m_e_szNetTaskS_l0 l m_e_szNetTaskS_k1) h.1 h.2.1 h.2.2.1 (fun n i m hi hn g1 g2 => ?_) (fun n m => ?_)
  · rw [m_e_szNetTaskS_l0, if_pos (decide_eq_true (Int.ofNat_lt.2 hi)), getI_lt hi, Option.bind_some, c_szNetTask _ _ ⟨g1, g2, h.2.2.2 _ (List.getElem_mem _)⟩, Option.bind_some, gd_pos (ok64i hi hn)]; rfl
  · rw [m_e_szNetTaskS_l0, if_neg (by simp)]; rfl
noncomputable def k_szNetTaskS : Con := ⟨72, [.v (.sl (.s .task)) false, .v .I false], [(.I, true)], [], fun x => m_szNetTaskS x.1 x.2.1⟩
theorem o_szNetTaskS : k_szNetTaskS.Ok Try.prog := con_sub o_e_szNetTaskS fun x z hz => by
  obtain ⟨h, e⟩ := gdC_some hz
  subst e
  exact s_szNetTaskS _ _ h

def m_e_szNetNet (x : GNet) (left : Int) : Option Int := (m_szNetTaskS x.tasks left).bind fun x1 => (if decide (x1 < 0) = true then (some (-1)) else (some x1))
def k_e_szNetNet : Con := ⟨31, [.v (.s .net) false, .v .I false], [(.I, true)], [], fun x => m_e_szNetNet x.1 x.2.1⟩
def f_e_szNetNet : Fs := ⟨[k_szNetTaskS], []⟩
theorem g_e_szNetNet : f_e_szNetNet.Ok Try.prog := (fsK o_szNetTaskS fs0)
theorem o_e_szNetNet : k_e_szNetNet.Ok Try.prog := fn_ok (k := k_e_szNetNet) (fn := Try.f31) (W := []) (H := []) Try.func31 g_e_szNetNet trivial rfl rfl (fun av x => by kernel_rfl)
noncomputable def m_szNetNet (x : GNet) (left : Int) : Option Int := @gd ((0 ≤ left) ∧ (left ≤ 1048576) ∧ (GNet.lens (· ≤ 9223372036854775807) x)) (Classical.propDecidable _) _ (some (szR left (GNet.W x)))
theorem c_szNetNet (x : GNet) (left : Int) (h : (0 ≤ left) ∧ (left ≤ 1048576) ∧ (GNet.lens (· ≤ 9223372036854775807) x)) : m_szNetNet x left = some (szR left (GNet.W x)) := gdC h
theorem s_szNetNet (x : GNet) (left : Int) (h : (0 ≤ left) ∧ (left ≤ 1048576) ∧ (GNet.lens (· ≤ 9223372036854775807) x)) : m_e_szNetNet x left = some (szR left (GNet.W x)) := by
  have e : GNet.W x = ((x.tasks.length + sumW GTask.W x.tasks) + 0) := by simp only [GNet.W]; omega
  rw [e]
  have g1 := h.1
  have g2 := h.2.1
  unfold m_e_szNetNet
  rw [c_szNetTaskS _ _ ⟨g1, g2, h.2.2.1, h.2.2.2⟩]; refine sz_step g1 g2 fun left g1 g2 => ?_
  exact szR_zero g1
noncomputable def k_szNetNet : Con := ⟨31, [.v (.s .net) false, .v .I false], [(.I, true)], [], fun x => m_szNetNet x.1 x.2.1⟩
theorem o_szNetNet : k_szNetNet.Ok Try.prog := con_sub o_e_szNetNet fun x z hz => by
  obtain ⟨h, e⟩ := gdC_some hz
  subst e
  exact s_szNetNet _ _ h

def m_e_szNetNetS_k1 (s0_0 : Int) : Option Int := some s0_0
def m_e_szNetNetS_l0 (l : List GNet) (kx0_0 : Int → Option Int) : Nat → Int → Int → Option Int
  | 0, _, _ => none
  | n0 + 1, s0_0, s0_1 => if decide (s0_1 < (l.length : Int)) = true then ((getI l s0_1).bind fun x4 => ((m_szNetNet x4 s0_0).bind fun x5 => (if decide (x5 < 0) = true then (some (-1)) else (gd (ok64 (s0_1 + 1)) ((m_e_szNetNetS_l0 l kx0_0 n0) x5 (s0_1 + 1)))))) else (kx0_0 s0_0)
def m_e_szNetNetS (l : List GNet) (left : Int) : Option Int := gd (ok64 (left - (l.length : Int))) (if decide ((left - (l.length : Int)) < 0) = true then (some (-1)) else (m_e_szNetNetS_l0 l m_e_szNetNetS_k1 FUEL (left - (l.length : Int)) 0))
def k_e_szNetNetS : Con := ⟨58, [.v (.sl (.s .net)) false, .v .I false], [(.I, true)], [], fun x => m_e_szNetNetS x.1 x.2.1⟩
def f_e_szNetNetS : Fs := ⟨[k_szNetNet], []⟩
theorem g_e_szNetNetS : f_e_szNetNetS.Ok Try.prog := (fsK o_szNetNet fs0)
def t_e_szNetNetS_0 : Tmpl := ⟨[(0, .c (.s (.s .net))), (1, .c .i), (5, .c .i)], []⟩
def x0_e_szNetNetS_0 : Tmpl := ⟨[(1, .c .i)], []⟩
def L_e_szNetNetS_0 (av : AV) (x : HP k_e_szNetNetS.ps) (n : Nat) (v : t_e_szNetNetS_0.den) (K : Ks (CR k_e_szNetNetS)) : Option (CR k_e_szNetNetS) := m_e_szNetNetS_l0 v.1.1 (fun s0_0 => x0_e_szNetNetS_0.at none ((s0_0, ()), ()) (K (.exit 0))) n v.1.2.1 v.1.2.2.1
def h_e_szNetNetS_0 (av : AV) (x : HP k_e_szNetNetS.ps) : Hdl (CR k_e_szNetNetS) := hnd [] t_e_szNetNetS_0 (L_e_szNetNetS_0 av x)
theorem l_e_szNetNetS_0 : LP k_e_szNetNetS Try.f58 [0] h_e_szNetNetS_0 := lp_ok (W := []) (H := []) (xs := [x0_e_szNetNetS_0]) g_e_szNetNetS trivial rfl (fun av x v K => by kernel_rfl) (fun av x n v K => by kernel_rfl)
theorem o_e_szNetNetS : k_e_szNetNetS.Ok Try.prog := fn_ok (k := k_e_szNetNetS) (fn := Try.f58) (W := []) (H := [h_e_szNetNetS_0]) Try.func58 g_e_szNetNetS ⟨l_e_szNetNetS_0, trivial⟩ rfl rfl (fun av x => by kernel_rfl)
noncomputable def m_szNetNetS (l : List GNet) (left : Int) : Option Int := @gd ((0 ≤ left) ∧ (left ≤ 1048576) ∧ (l.length ≤ 9223372036854775807) ∧ (∀ y ∈ l, GNet.lens (· ≤ 9223372036854775807) y)) (Classical.propDecidable _) _ (some (szR left (l.length + sumW GNet.W l)))
theorem c_szNetNetS (l : List GNet) (left : Int) (h : (0 ≤ left) ∧ (left ≤ 1048576) ∧ (l.length ≤ 9223372036854775807) ∧ (∀ y ∈ l, GNet.lens (· ≤ 9223372036854775807) y)) : m_szNetNetS l left = some (szR left (l.length + sumW GNet.W l)) := gdC h
theorem s_szNetNetS (l : List GNet) (left : Int) (h : (0 ≤ left) ∧ (left ≤ 1048576) ∧ (l.length ≤ 9223372036854775807) ∧ (∀ y ∈ l, GNet.lens (· ≤ 9223372036854775807) y)) : m_e_szNetNetS l left = some (szR left (l.length + sumW GNet.W l)) := by
  refine sz_nest (f := m_e_szNetNetS_l0 l m_e_szNetNetS_k1) h.1 h.2.1 h.2.2.1 (fun n i m hi hn g1 g2 => ?_) (fun n m => ?_)
  · rw [m_e_szNetNetS_l0, if_pos (decide_eq_true (Int.ofNat_lt.2 hi)), getI_lt hi, Option.bind_some, c_szNetNet _ _ ⟨g1, g2, h.2.2.2 _ (List.getElem_mem _)⟩, Option.bind_some, gd_pos (ok64i hi hn)]; rfl
  · rw [m_e_szNetNetS_l0, if_neg (by simp)]; rfl
noncomputable def k_szNetNetS : Con := ⟨58, [.v (.sl (.s .net)) false, .v .I false], [(.I, true)], [], fun x => m_szNetNetS x.1 x.2.1⟩
theorem o_szNetNetS : k_szNetNetS.Ok Try.prog := con_sub o_e_szNetNetS fun x z hz => by
  obtain ⟨h, e⟩ := gdC_some hz
  subst e
  exact s_szNetNetS _ _ h

def m_e_szCasItemS (l : List GItem) (left : Int) : Option Int := gd (ok64 (left - (l.length : Int))) (if decide ((left - (l.length : Int)) < 0) = true then (some (-1)) else (some (left - (l.length : Int))))
def k_e_szCasItemS : Con := ⟨73, [.v (.sl (.s .item)) false, .v .I false], [(.I, true)], [], fun x => m_e_szCasItemS x.1 x.2.1⟩
def f_e_szCasItemS : Fs := ⟨[], []⟩
theorem g_e_szCasItemS : f_e_szCasItemS.Ok Try.prog := fs0
theorem o_e_szCasItemS : k_e_szCasItemS.Ok Try.prog := fn_ok (k := k_e_szCasItemS) (fn := Try.f73) (W := []) (H := []) Try.func73 g_e_szCasItemS trivial rfl rfl (fun av x => by kernel_rfl)
noncomputable def m_szCasItemS (l : List GItem) (left : Int) : Option Int := @gd ((0 ≤ left) ∧ (left ≤ 1048576) ∧ (l.length ≤ 9223372036854775807)) (Classical.propDecidable _) _ (some (szR left l.length))
theorem c_szCasItemS (l : List GItem) (left : Int) (h : (0 ≤ left) ∧ (left ≤ 1048576) ∧ (l.length ≤ 9223372036854775807)) : m_szCasItemS l left = some (szR left l.length) := gdC h
theorem s_szCasItemS (l : List GItem) (left : Int) (h : (0 ≤ left) ∧ (left ≤ 1048576) ∧ (l.length ≤ 9223372036854775807)) : m_e_szCasItemS l left = some (szR left l.length) := by
  exact sz_flat h.1 h.2.1 h.2.2
noncomputable def k_szCasItemS : Con := ⟨73, [.v (.sl (.s .item)) false, .v .I false], [(.I, true)], [], fun x => m_szCasItemS x.1 x.2.1⟩
theorem o_szCasItemS : k_szCasItemS.Ok Try.prog := con_sub o_e_szCasItemS fun x z hz => by
  obtain ⟨h, e⟩ := gdC_some hz
  subst e
  exact s_szCasItemS _ _ h

def m_e_szCasDidS (l : List GDid) (left : Int) : Option Int := gd (ok64 (left - (l.length : Int))) (if decide ((left - (l.length : Int)) < 0) = true then (some (-1)) else (some (left - (l.length : Int))))
def k_e_szCasDidS : Con := ⟨74, [.v (.sl (.s .did)) false, .v .I false], [(.I, true)], [], fun x => m_e_szCasDidS x.1 x.2.1⟩
def f_e_szCasDidS : Fs := ⟨[], []⟩
theorem g_e_szCasDidS : f_e_szCasDidS.Ok Try.prog := fs0
theorem o_e_szCasDidS : k_e_szCasDidS.Ok Try.prog := fn_ok (k := k_e_szCasDidS) (fn := Try.f74) (W := []) (H := []) Try.func74 g_e_szCasDidS trivial rfl rfl (fun av x => by kernel_rfl)
noncomputable def m_szCasDidS (l : List GDid) (left : Int) : Option Int := @gd ((0 ≤ left) ∧ (left ≤ 1048576) ∧ (l.length ≤ 9223372036854775807)) (Classical.propDecidable _) _ (some (szR left l.length))
theorem c_szCasDidS (l : List GDid) (left : Int) (h : (0 ≤ left) ∧ (left ≤ 1048576) ∧ (l.length ≤ 9223372036854775807)) : m_szCasDidS l left = some (szR left l.length) := gdC h
theorem s_szCasDidS (l : List GDid) (left : Int) (h : (0 ≤ left) ∧ (left ≤ 1048576) ∧ (l.length ≤ 9223372036854775807)) : m_e_szCasDidS l left = some (szR left l.length) := by
  exact sz_flat h.1 h.2.1 h.2.2
noncomputable def k_szCasDidS : Con := ⟨74, [.v (.sl (.s .did)) false, .v .I false], [(.I, true)], [], fun x => m_szCasDidS x.1 x.2.1⟩
theorem o_szCasDidS : k_szCasDidS.Ok Try.prog := con_sub o_e_szCasDidS fun x z hz => by
  obtain ⟨h, e⟩ := gdC_some hz
  subst e
  exact s_szCasDidS _ _ h

def m_e_szRdrNode (x : GNode) (left : Int) : Option Int := (m_szIntS x.stone left).bind fun x1 => (if decide (x1 < 0) = true then (some (-1)) else (some x1))
def k_e_szRdrNode : Con := ⟨111, [.v (.s .node) false, .v .I false], [(.I, true)], [], fun x => m_e_szRdrNode x.1 x.2.1⟩
def f_e_szRdrNode : Fs := ⟨[k_szIntS], []⟩
theorem g_e_szRdrNode : f_e_szRdrNode.Ok Try.prog := (fsK o_szIntS fs0)
theorem o_e_szRdrNode : k_e_szRdrNode.Ok Try.prog := fn_ok (k := k_e_szRdrNode) (fn := Try.f111) (W := []) (H := []) Try.func111 g_e_szRdrNode trivial rfl rfl (fun av x => by kernel_rfl)
noncomputable def m_szRdrNode (x : GNode) (left : Int) : Option Int := @gd ((0 ≤ left) ∧ (left ≤ 1048576) ∧ (GNode.lens (· ≤ 9223372036854775807) x)) (Classical.propDecidable _) _ (some (szR left (GNode.W x)))
theorem c_szRdrNode (x : GNode) (left : Int) (h : (0 ≤ left) ∧ (left ≤ 1048576) ∧ (GNode.lens (· ≤ 9223372036854775807) x)) : m_szRdrNode x left = some (szR left (GNode.W x)) := gdC h
theorem s_szRdrNode (x : GNode) (left : Int) (h : (0 ≤ left) ∧ (left ≤ 1048576) ∧ (GNode.lens (· ≤ 9223372036854775807) x)) : m_e_szRdrNode x left = some (szR left (GNode.W x)) := by
  have e : GNode.W x = (x.stone.length + 0) := by simp only [GNode.W]; omega
  rw [e]
  have g1 := h.1
  have g2 := h.2.1
  unfold m_e_szRdrNode
  rw [c_szIntS _ _ ⟨g1, g2, h.2.2⟩]; refine sz_step g1 g2 fun left g1 g2 => ?_
  exact szR_zero g1
noncomputable def k_szRdrNode : Con := ⟨111, [.v (.s .node) false, .v .I false], [(.I, true)], [], fun x => m_szRdrNode x.1 x.2.1⟩
theorem o_szRdrNode : k_szRdrNode.Ok Try.prog := con_sub o_e_szRdrNode fun x z hz => by
  obtain ⟨h, e⟩ := gdC_some hz
  subst e
  exact s_szRdrNode _ _ h

def m_e_szRdrNodeS_k1 (s0_0 : Int) : Option Int := some s0_0
def m_e_szRdrNodeS_l0 (l : List GNode) (kx0_0 : Int → Option Int) : Nat → Int → Int → Option Int
  | 0, _, _ => none
  | n0 + 1, s0_0, s0_1 => if decide (s0_1 < (l.length : Int)) = true then ((getI l s0_1).bind fun x4 => ((m_szRdrNode x4 s0_0).bind fun x5 => (if decide (x5 < 0) = true then (some (-1)) else (gd (ok64 (s0_1 + 1)) ((m_e_szRdrNodeS_l0 l kx0_0 n0) x5 (s0_1 + 1)))))) else (kx0_0 s0_0)
def m_e_szRdrNodeS (l : List GNode) (left : Int) : Option Int := gd (ok64 (left - (l.length : Int))) (if decide ((left - (l.length : Int)) < 0) = true then (some (-1)) else (m_e_szRdrNodeS_l0 l m_e_szRdrNodeS_k1 FUEL (left - (l.length : Int)) 0))
def k_e_szRdrNodeS : Con := ⟨60, [.v (.sl (.s .node)) false, .v .I false], [(.I, true)], [], fun x => m_e_szRdrNodeS x.1 x.2.1⟩
def f_e_szRdrNodeS : Fs := ⟨[k_szRdrNode], []⟩
theorem g_e_szRdrNodeS : f_e_szRdrNodeS.Ok Try.prog := (fsK o_szRdrNode fs0)
def t_e_szRdrNodeS_0 : Tmpl := ⟨[(0, .c (.s (.s .node))), (1, .c .i), (5, .c .i)], []⟩
def x0_e_szRdrNodeS_0 : Tmpl := ⟨[(1, .c .i)], []⟩
def L_e_szRdrNodeS_0 (av : AV) (x : HP k_e_szRdrNodeS.ps) (n : Nat) (v : t_e_szRdrNodeS_0.den) (K : Ks (CR k_e_szRdrNodeS)) : Option (CR k_e_szRdrNodeS) := m_e_szRdrNodeS_l0 v.1.1 (fun s0_0 => x0_e_szRdrNodeS_0.at none ((s0_0, ()), ()) (K (.exit 0))) n v.1.2.1 v.1.2.2.1
def h_e_szRdrNodeS_0 (av : AV) (x : HP k_e_szRdrNodeS.ps) : Hdl (CR k_e_szRdrNodeS) := hnd [] t_e_szRdrNodeS_0 (L_e_szRdrNodeS_0 av x)
theorem l_e_szRdrNodeS_0 : LP k_e_szRdrNodeS Try.f60 [0] h_e_szRdrNodeS_0 := lp_ok (W := []) (H := []) (xs := [x0_e_szRdrNodeS_0]) g_e_szRdrNodeS trivial rfl (fun av x v K => by kernel_rfl) (fun av x n v K => by kernel_rfl)
theorem o_e_szRdrNodeS : k_e_szRdrNodeS.Ok Try.prog := fn_ok (k := k_e_szRdrNodeS) (fn := Try.f60) (W := []) (H := [h_e_szRdrNodeS_0]) Try.func60 g_e_szRdrNodeS ⟨l_e_szRdrNodeS_0, trivial⟩ rfl rfl (fun av x => by kernel_rfl)
noncomputable def m_szRdrNodeS (l : List GNode) (left : Int) : Option Int := @gd ((0 ≤ left) ∧ (left ≤ 1048576) ∧ (l.length ≤ 9223372036854775807) ∧ (∀ y ∈ l, GNode.lens (· ≤ 9223372036854775807) y)) (Classical.propDecidable _) _ (some (szR left (l.length + sumW GNode.W l)))
theorem c_szRdrNodeS (l : List GNode) (left : Int) (h : (0 ≤ left) ∧ (left ≤ 1048576) ∧ (l.length ≤ 9223372036854775807) ∧ (∀ y ∈ l, GNode.lens (· ≤ 9223372036854775807) y)) : m_szRdrNodeS l left = some (szR left (l.length + sumW GNode.W l)) := gdC h
theorem s_szRdrNodeS (l : List GNode) (left : Int) (h : (0 ≤ left) ∧ (left ≤ 1048576) ∧ (l.length ≤ 9223372036854775807) ∧ (∀ y ∈ l, GNode.lens (· ≤ 9223372036854775807) y)) : m_e_szRdrNodeS l left = some (szR left (l.length + sumW GNode.W l)) := by
  refine sz_nest (f := m_e_szRdrNodeS_l0 l m_e_szRdrNodeS_k1) h.1 h.2.1 h.2.2.1 (fun n i m hi hn g1 g2 => ?_) (fun n m => ?_)
  · rw [m_e_szRdrNodeS_l0, if_pos (decide_eq_true (Int.ofNat_lt.2 hi)), getI_lt hi, Option.bind_some, c_szRdrNode _ _ ⟨g1, g2, h.2.2.2 _ (List.getElem_mem _)⟩, Option.bind_some, gd_pos (ok64i hi hn)]; rfl
  · rw [m_e_szRdrNodeS_l0, if_neg (by simp)]; rfl
noncomputable def k_szRdrNodeS : Con := ⟨60, [.v (.sl (.s .node)) false, .v .I false], [(.I, true)], [], fun x => m_szRdrNodeS x.1 x.2.1⟩
theorem o_szRdrNodeS : k_szRdrNodeS.Ok Try.prog := con_sub o_e_szRdrNodeS fun x z hz => by
  obtain ⟨h, e⟩ := gdC_some hz
  subst e
  exact s_szRdrNodeS _ _ h

def m_e_szCasCase (x : GCase) (left : Int) : Option Int := (m_szIntS x.marks left).bind fun x1 => (if decide (x1 < 0) = true then (some (-1)) else ((m_szCasItemS x.busy x1).bind fun x3 => (if decide (x3 < 0) = true then (some (-1)) else ((m_szIntS x.data x3).bind fun x5 => (if decide (x5 < 0) = true then (some (-1)) else ((m_szCasDidS x.did x5).bind fun x7 => (if decide (x7 < 0) = true then (some (-1)) else (some x7))))))))
def k_e_szCasCase : Con := ⟨32, [.v (.s .kase) false, .v .I false], [(.I, true)], [], fun x => m_e_szCasCase x.1 x.2.1⟩
def f_e_szCasCase : Fs := ⟨[k_szIntS, k_szCasItemS, k_szCasDidS], []⟩
theorem g_e_szCasCase : f_e_szCasCase.Ok Try.prog := (fsK o_szIntS (fsK o_szCasItemS (fsK o_szCasDidS fs0)))
theorem o_e_szCasCase : k_e_szCasCase.Ok Try.prog := fn_ok (k := k_e_szCasCase) (fn := Try.f32) (W := []) (H := []) Try.func32 g_e_szCasCase trivial rfl rfl (fun av x => by kernel_rfl)
noncomputable def m_szCasCase (x : GCase) (left : Int) : Option Int := @gd ((0 ≤ left) ∧ (left ≤ 1048576) ∧ (GCase.lens (· ≤ 9223372036854775807) x)) (Classical.propDecidable _) _ (some (szR left (GCase.W x)))
theorem c_szCasCase (x : GCase) (left : Int) (h : (0 ≤ left) ∧ (left ≤ 1048576) ∧ (GCase.lens (· ≤ 9223372036854775807) x)) : m_szCasCase x left = some (szR left (GCase.W x)) := gdC h
theorem s_szCasCase (x : GCase) (left : Int) (h : (0 ≤ left) ∧ (left ≤ 1048576) ∧ (GCase.lens (· ≤ 9223372036854775807) x)) : m_e_szCasCase x left = some (szR left (GCase.W x)) := by
  have e : GCase.W x = (x.marks.length + (x.busy.length + (x.data.length + (x.did.length + 0)))) := by simp only [GCase.W]; omega
  rw [e]
  have g1 := h.1
  have g2 := h.2.1
  unfold m_e_szCasCase
  rw [c_szIntS _ _ ⟨g1, g2, h.2.2.1⟩]; refine sz_step g1 g2 fun left g1 g2 => ?_
  rw [c_szCasItemS _ _ ⟨g1, g2, h.2.2.2.1⟩]; refine sz_step g1 g2 fun left g1 g2 => ?_
  rw [c_szIntS _ _ ⟨g1, g2, h.2.2.2.2.1⟩]; refine sz_step g1 g2 fun left g1 g2 => ?_
  rw [c_szCasDidS _ _ ⟨g1, g2, h.2.2.2.2.2⟩]; refine sz_step g1 g2 fun left g1 g2 => ?_
  exact szR_zero g1
noncomputable def k_szCasCase : Con := ⟨32, [.v (.s .kase) false, .v .I false], [(.I, true)], [], fun x => m_szCasCase x.1 x.2.1⟩
theorem o_szCasCase : k_szCasCase.Ok Try.prog := con_sub o_e_szCasCase fun x z hz => by
  obtain ⟨h, e⟩ := gdC_some hz
  subst e
  exact s_szCasCase _ _ h

def m_e_szEngRun (x : GRun) (left : Int) : Option Int := (m_szCasCase x.case left).bind fun x1 => (if decide (x1 < 0) = true then (some (-1)) else (some x1))
def k_e_szEngRun : Con := ⟨112, [.v (.s .run) false, .v .I false], [(.I, true)], [], fun x => m_e_szEngRun x.1 x.2.1⟩
def f_e_szEngRun : Fs := ⟨[k_szCasCase], []⟩
theorem g_e_szEngRun : f_e_szEngRun.Ok Try.prog := (fsK o_szCasCase fs0)
theorem o_e_szEngRun : k_e_szEngRun.Ok Try.prog := fn_ok (k := k_e_szEngRun) (fn := Try.f112) (W := []) (H := []) Try.func112 g_e_szEngRun trivial rfl rfl (fun av x => by kernel_rfl)
noncomputable def m_szEngRun (x : GRun) (left : Int) : Option Int := @gd ((0 ≤ left) ∧ (left ≤ 1048576) ∧ (GRun.lens (· ≤ 9223372036854775807) x)) (Classical.propDecidable _) _ (some (szR left (GRun.W x)))
theorem c_szEngRun (x : GRun) (left : Int) (h : (0 ≤ left) ∧ (left ≤ 1048576) ∧ (GRun.lens (· ≤ 9223372036854775807) x)) : m_szEngRun x left = some (szR left (GRun.W x)) := gdC h
theorem s_szEngRun (x : GRun) (left : Int) (h : (0 ≤ left) ∧ (left ≤ 1048576) ∧ (GRun.lens (· ≤ 9223372036854775807) x)) : m_e_szEngRun x left = some (szR left (GRun.W x)) := by
  have e : GRun.W x = (GCase.W x.case + 0) := by simp only [GRun.W]; omega
  rw [e]
  have g1 := h.1
  have g2 := h.2.1
  unfold m_e_szEngRun
  rw [c_szCasCase _ _ ⟨g1, g2, h.2.2⟩]; refine sz_step g1 g2 fun left g1 g2 => ?_
  exact szR_zero g1
noncomputable def k_szEngRun : Con := ⟨112, [.v (.s .run) false, .v .I false], [(.I, true)], [], fun x => m_szEngRun x.1 x.2.1⟩
theorem o_szEngRun : k_szEngRun.Ok Try.prog := con_sub o_e_szEngRun fun x z hz => by
  obtain ⟨h, e⟩ := gdC_some hz
  subst e
  exact s_szEngRun _ _ h

def m_e_szEngRunS_k1 (s0_0 : Int) : Option Int := some s0_0
def m_e_szEngRunS_l0 (l : List GRun) (kx0_0 : Int → Option Int) : Nat → Int → Int → Option Int
  | 0, _, _ => none
  | n0 + 1, s0_0, s0_1 => if decide (s0_1 < (l.length : Int)) = true then ((getI l s0_1).bind fun x4 => ((m_szEngRun x4 s0_0).bind fun x5 => (if decide (x5 < 0) = true then (some (-1)) else (gd (ok64 (s0_1 + 1)) ((m_e_szEngRunS_l0 l kx0_0 n0) x5 (s0_1 + 1)))))) else (kx0_0 s0_0)
def m_e_szEngRunS (l : List GRun) (left : Int) : Option Int := gd (ok64 (left - (l.length : Int))) (if decide ((left - (l.length : Int)) < 0) = true then (some (-1)) else (m_e_szEngRunS_l0 l m_e_szEngRunS_k1 FUEL (left - (l.length : Int)) 0))
def k_e_szEngRunS : Con := ⟨61, [.v (.sl (.s .run)) false, .v .I false], [(.I, true)], [], fun x => m_e_szEngRunS x.1 x.2.1⟩
def f_e_szEngRunS : Fs := ⟨[k_szEngRun], []⟩
theorem g_e_szEngRunS : f_e_szEngRunS.Ok Try.prog := (fsK o_szEngRun fs0)
def t_e_szEngRunS_0 : Tmpl := ⟨[(0, .c (.s (.s .run))), (1, .c .i), (5, .c .i)], []⟩
def x0_e_szEngRunS_0 : Tmpl := ⟨[(1, .c .i)], []⟩
def L_e_szEngRunS_0 (av : AV) (x : HP k_e_szEngRunS.ps) (n : Nat) (v : t_e_szEngRunS_0.den) (K : Ks (CR k_e_szEngRunS)) : Option (CR k_e_szEngRunS) := m_e_szEngRunS_l0 v.1.1 (fun s0_0 => x0_e_szEngRunS_0.at none ((s0_0, ()), ()) (K (.exit 0))) n v.1.2.1 v.1.2.2.1
def h_e_szEngRunS_0 (av : AV) (x : HP k_e_szEngRunS.ps) : Hdl (CR k_e_szEngRunS) := hnd [] t_e_szEngRunS_0 (L_e_szEngRunS_0 av x)
theorem l_e_szEngRunS_0 : LP k_e_szEngRunS Try.f61 [0] h_e_szEngRunS_0 := lp_ok (W := []) (H := []) (xs := [x0_e_szEngRunS_0]) g_e_szEngRunS trivial rfl (fun av x v K => by kernel_rfl) (fun av x n v K => by kernel_rfl)
theorem o_e_szEngRunS : k_e_szEngRunS.Ok Try.prog := fn_ok (k := k_e_szEngRunS) (fn := Try.f61) (W := []) (H := [h_e_szEngRunS_0]) Try.func61 g_e_szEngRunS ⟨l_e_szEngRunS_0, trivial⟩ rfl rfl (fun av x => by kernel_rfl)
noncomputable def m_szEngRunS (l : List GRun) (left : Int) : Option Int := @gd ((0 ≤ left) ∧ (left ≤ 1048576) ∧ (l.length ≤ 9223372036854775807) ∧ (∀ y ∈ l, GRun.lens (· ≤ 9223372036854775807) y)) (Classical.propDecidable _) _ (some (szR left (l.length + sumW GRun.W l)))
theorem c_szEngRunS (l : List GRun) (left : Int) (h : (0 ≤ left) ∧ (left ≤ 1048576) ∧ (l.length ≤ 9223372036854775807) ∧ (∀ y ∈ l, GRun.lens (· ≤ 9223372036854775807) y)) : m_szEngRunS l left = some (szR left (l.length + sumW GRun.W l)) := gdC h
theorem s_szEngRunS (l : List GRun) (left : Int) (h : (0 ≤ left) ∧ (left ≤ 1048576) ∧ (l.length ≤ 9223372036854775807) ∧ (∀ y ∈ l, GRun.lens (· ≤ 9223372036854775807) y)) : m_e_szEngRunS l left = some (szR left (l.length + sumW GRun.W l)) := by
  refine sz_nest (f := m_e_szEngRunS_l0 l m_e_szEngRunS_k1) h.1 h.2.1 h.2.2.1 (fun n i m hi hn g1 g2 => ?_) (fun n m => ?_)
  · rw [m_e_szEngRunS_l0, if_pos (decide_eq_true (Int.ofNat_lt.2 hi)), getI_lt hi, Option.bind_some, c_szEngRun _ _ ⟨g1, g2, h.2.2.2 _ (List.getElem_mem _)⟩, Option.bind_some, gd_pos (ok64i hi hn)]; rfl
  · rw [m_e_szEngRunS_l0, if_neg (by simp)]; rfl
noncomputable def k_szEngRunS : Con := ⟨61, [.v (.sl (.s .run)) false, .v .I false], [(.I, true)], [], fun x => m_szEngRunS x.1 x.2.1⟩
theorem o_szEngRunS : k_szEngRunS.Ok Try.prog := con_sub o_e_szEngRunS fun x z hz => by
  obtain ⟨h, e⟩ := gdC_some hz
  subst e
  exact s_szEngRunS _ _ h

def m_e_szEngHouse (x : GHouse) (left : Int) : Option Int := (m_szNetNetS x.nets left).bind fun x1 => (if decide (x1 < 0) = true then (some (-1)) else ((m_szIntS x.people x1).bind fun x3 => (if decide (x3 < 0) = true then (some (-1)) else ((m_szRdrNodeS x.tree x3).bind fun x5 => (if decide (x5 < 0) = true then (some (-1)) else ((m_szEngRunS x.runs x5).bind fun x7 => (if decide (x7 < 0) = true then (some (-1)) else (some x7))))))))
def k_e_szEngHouse : Con := ⟨22, [.v (.s .house) false, .v .I false], [(.I, true)], [], fun x => m_e_szEngHouse x.1 x.2.1⟩
def f_e_szEngHouse : Fs := ⟨[k_szNetNetS, k_szIntS, k_szRdrNodeS, k_szEngRunS], []⟩
theorem g_e_szEngHouse : f_e_szEngHouse.Ok Try.prog := (fsK o_szNetNetS (fsK o_szIntS (fsK o_szRdrNodeS (fsK o_szEngRunS fs0))))
theorem o_e_szEngHouse : k_e_szEngHouse.Ok Try.prog := fn_ok (k := k_e_szEngHouse) (fn := Try.f22) (W := []) (H := []) Try.func22 g_e_szEngHouse trivial rfl rfl (fun av x => by kernel_rfl)
noncomputable def m_szEngHouse (x : GHouse) (left : Int) : Option Int := @gd ((0 ≤ left) ∧ (left ≤ 1048576) ∧ (GHouse.lens (· ≤ 9223372036854775807) x)) (Classical.propDecidable _) _ (some (szR left (GHouse.W x)))
theorem c_szEngHouse (x : GHouse) (left : Int) (h : (0 ≤ left) ∧ (left ≤ 1048576) ∧ (GHouse.lens (· ≤ 9223372036854775807) x)) : m_szEngHouse x left = some (szR left (GHouse.W x)) := gdC h
theorem s_szEngHouse (x : GHouse) (left : Int) (h : (0 ≤ left) ∧ (left ≤ 1048576) ∧ (GHouse.lens (· ≤ 9223372036854775807) x)) : m_e_szEngHouse x left = some (szR left (GHouse.W x)) := by
  have e : GHouse.W x = ((x.nets.length + sumW GNet.W x.nets) + (x.people.length + ((x.tree.length + sumW GNode.W x.tree) + ((x.runs.length + sumW GRun.W x.runs) + 0)))) := by simp only [GHouse.W]; omega
  rw [e]
  have g1 := h.1
  have g2 := h.2.1
  unfold m_e_szEngHouse
  rw [c_szNetNetS _ _ ⟨g1, g2, h.2.2.1.1, h.2.2.1.2⟩]; refine sz_step g1 g2 fun left g1 g2 => ?_
  rw [c_szIntS _ _ ⟨g1, g2, h.2.2.2.1⟩]; refine sz_step g1 g2 fun left g1 g2 => ?_
  rw [c_szRdrNodeS _ _ ⟨g1, g2, h.2.2.2.2.1.1, h.2.2.2.2.1.2⟩]; refine sz_step g1 g2 fun left g1 g2 => ?_
  rw [c_szEngRunS _ _ ⟨g1, g2, h.2.2.2.2.2.1, h.2.2.2.2.2.2⟩]; refine sz_step g1 g2 fun left g1 g2 => ?_
  exact szR_zero g1
noncomputable def k_szEngHouse : Con := ⟨22, [.v (.s .house) false, .v .I false], [(.I, true)], [], fun x => m_szEngHouse x.1 x.2.1⟩
theorem o_szEngHouse : k_szEngHouse.Ok Try.prog := con_sub o_e_szEngHouse fun x z hz => by
  obtain ⟨h, e⟩ := gdC_some hz
  subst e
  exact s_szEngHouse _ _ h

def m_e_toIntS_k1 (l0_1 : List Int) : Option (List Int) := some l0_1
def m_e_toIntS_l0 (l : List Int) (kx0_0 : List Int → Option (List Int)) : Nat → Int → List Int → Option (List Int)
  | 0, _, _ => none
  | n0 + 1, s0_0, l0_1 => if decide (s0_0 < (l.length : Int)) = true then ((getI l s0_0).bind fun x3 => ((getI l0_1 s0_0).bind fun x4 => (gd (ok64 (s0_0 + 1)) ((m_e_toIntS_l0 l kx0_0 n0) (s0_0 + 1) (l0_1.set s0_0.toNat x3))))) else (kx0_0 l0_1)
def m_e_toIntS (l : List Int) : Option (List Int) := gd ((0 : Int) ≤ (l.length : Int) ∧ (l.length : Int) ≤ (1000000000 : Int)) (m_e_toIntS_l0 l m_e_toIntS_k1 FUEL 0 (List.replicate (l.length : Int).toNat (0 : Int)))
def k_e_toIntS : Con := ⟨63, [.v (.sl .I) false], [((.sl .I), true)], [], fun x => m_e_toIntS x.1⟩
def f_e_toIntS : Fs := ⟨[], []⟩
theorem g_e_toIntS : f_e_toIntS.Ok Try.prog := fs0
def t_e_toIntS_0 : Tmpl := ⟨[(0, .c (.s .I)), (3, .c (.ref 7)), (4, .c .i)], [(7, .arr .I true)]⟩
def x0_e_toIntS_0 : Tmpl := ⟨[(3, .c (.ref 7))], [(7, .arr .I true)]⟩
def L_e_toIntS_0 (av : AV) (x : HP k_e_toIntS.ps) (n : Nat) (v : t_e_toIntS_0.den) (K : Ks (CR k_e_toIntS)) : Option (CR k_e_toIntS) := m_e_toIntS_l0 v.1.1 (fun l0_1 => x0_e_toIntS_0.at none (((), ()), (l0_1, ())) (K (.exit 0))) n v.1.2.2.1 v.2.1
def h_e_toIntS_0 (av : AV) (x : HP k_e_toIntS.ps) : Hdl (CR k_e_toIntS) := hnd [] t_e_toIntS_0 (L_e_toIntS_0 av x)
theorem l_e_toIntS_0 : LP k_e_toIntS Try.f63 [0] h_e_toIntS_0 := lp_ok (W := []) (H := []) (xs := [x0_e_toIntS_0]) g_e_toIntS trivial rfl (fun av x v K => by kernel_rfl) (fun av x n v K => by kernel_rfl)
theorem o_e_toIntS : k_e_toIntS.Ok Try.prog := fn_ok (k := k_e_toIntS) (fn := Try.f63) (W := []) (H := [h_e_toIntS_0]) Try.func63 g_e_toIntS ⟨l_e_toIntS_0, trivial⟩ rfl rfl (fun av x => by kernel_rfl)
noncomputable def m_toIntS (l : List Int) : Option (List Int) := @gd ((l.length ≤ 1048576)) (Classical.propDecidable _) _ (some l)
theorem c_toIntS (l : List Int) (h : (l.length ≤ 1048576)) : m_toIntS l = some l := gdC h
theorem s_toIntS (l : List Int) (h : (l.length ≤ 1048576)) : m_e_toIntS l = some l := by
  refine (gd_pos (toOk h)).trans ?_
  have hl := h
  refine to_gen (f := m_e_toIntS_l0 l m_e_toIntS_k1) (by omega) (fun n i acc hi ha => ?_) (fun n acc => ?_)
  · rw [m_e_toIntS_l0, if_pos (decide_eq_true (Int.ofNat_lt.2 hi)), getI_lt hi, Option.bind_some, getI_lt (by omega), Option.bind_some, gd_pos (ok64i hi h)]; rfl
  · rw [m_e_toIntS_l0, if_neg (by simp)]; rfl
noncomputable def k_toIntS : Con := ⟨63, [.v (.sl .I) false], [((.sl .I), true)], [], fun x => m_toIntS x.1⟩
theorem o_toIntS : k_toIntS.Ok Try.prog := con_sub o_e_toIntS fun x z hz => by
  obtain ⟨h, e⟩ := gdC_some hz
  subst e
  exact s_toIntS _ h

def m_e_toExpAsk (x : GAsk) : Option GAsk := some x
def k_e_toExpAsk : Con := ⟨99, [.v (.s .ask) false], [((.s .ask), true)], [], fun x => m_e_toExpAsk x.1⟩
def f_e_toExpAsk : Fs := ⟨[], []⟩
theorem g_e_toExpAsk : f_e_toExpAsk.Ok Try.prog := fs0
theorem o_e_toExpAsk : k_e_toExpAsk.Ok Try.prog := fn_ok (k := k_e_toExpAsk) (fn := Try.f99) (W := []) (H := []) Try.func99 g_e_toExpAsk trivial rfl rfl (fun av x => by kernel_rfl)
noncomputable def m_toExpAsk (x : GAsk) : Option GAsk := @gd (True) (Classical.propDecidable _) _ (some x)
theorem c_toExpAsk (x : GAsk) (h : True) : m_toExpAsk x = some x := gdC h
theorem s_toExpAsk (x : GAsk) (h : True) : m_e_toExpAsk x = some x := by
  rfl
noncomputable def k_toExpAsk : Con := ⟨99, [.v (.s .ask) false], [((.s .ask), true)], [], fun x => m_toExpAsk x.1⟩
theorem o_toExpAsk : k_toExpAsk.Ok Try.prog := con_sub o_e_toExpAsk fun x z hz => by
  obtain ⟨h, e⟩ := gdC_some hz
  subst e
  exact s_toExpAsk _ h

def m_e_toNetFlow (x : GFlow) : Option GFlow := (m_toExpAsk x.if_).bind fun x1 => (some (GFlow.mk x.to x1))
def k_e_toNetFlow : Con := ⟨146, [.v (.s .flow) false], [((.s .flow), true)], [], fun x => m_e_toNetFlow x.1⟩
def f_e_toNetFlow : Fs := ⟨[k_toExpAsk], []⟩
theorem g_e_toNetFlow : f_e_toNetFlow.Ok Try.prog := (fsK o_toExpAsk fs0)
theorem o_e_toNetFlow : k_e_toNetFlow.Ok Try.prog := fn_ok (k := k_e_toNetFlow) (fn := Try.f146) (W := []) (H := []) Try.func146 g_e_toNetFlow trivial rfl rfl (fun av x => by kernel_rfl)
noncomputable def m_toNetFlow (x : GFlow) : Option GFlow := @gd (True) (Classical.propDecidable _) _ (some x)
theorem c_toNetFlow (x : GFlow) (h : True) : m_toNetFlow x = some x := gdC h
theorem s_toNetFlow (x : GFlow) (h : True) : m_e_toNetFlow x = some x := by
  rw [m_e_toNetFlow, c_toExpAsk _ trivial, Option.bind_some]
noncomputable def k_toNetFlow : Con := ⟨146, [.v (.s .flow) false], [((.s .flow), true)], [], fun x => m_toNetFlow x.1⟩
theorem o_toNetFlow : k_toNetFlow.Ok Try.prog := con_sub o_e_toNetFlow fun x z hz => by
  obtain ⟨h, e⟩ := gdC_some hz
  subst e
  exact s_toNetFlow _ h

def m_e_toNetFlowS_k1 (l0_1 : List GFlow) : Option (List GFlow) := some l0_1
def m_e_toNetFlowS_l0 (l : List GFlow) (kx0_0 : List GFlow → Option (List GFlow)) : Nat → Int → List GFlow → Option (List GFlow)
  | 0, _, _ => none
  | n0 + 1, s0_0, l0_1 => if decide (s0_0 < (l.length : Int)) = true then ((getI l s0_0).bind fun x3 => ((m_toNetFlow x3).bind fun x4 => ((getI l0_1 s0_0).bind fun x5 => (gd (ok64 (s0_0 + 1)) ((m_e_toNetFlowS_l0 l kx0_0 n0) (s0_0 + 1) (l0_1.set s0_0.toNat x4)))))) else (kx0_0 l0_1)
def m_e_toNetFlowS (l : List GFlow) : Option (List GFlow) := gd ((0 : Int) ≤ (l.length : Int) ∧ (l.length : Int) ≤ (1000000000 : Int)) (m_e_toNetFlowS_l0 l m_e_toNetFlowS_k1 FUEL 0 (List.replicate (l.length : Int).toNat GFlow.zero))
def k_e_toNetFlowS : Con := ⟨139, [.v (.sl (.s .flow)) false], [((.sl (.s .flow)), true)], [], fun x => m_e_toNetFlowS x.1⟩
def f_e_toNetFlowS : Fs := ⟨[k_toNetFlow], []⟩
theorem g_e_toNetFlowS : f_e_toNetFlowS.Ok Try.prog := (fsK o_toNetFlow fs0)
def t_e_toNetFlowS_0 : Tmpl := ⟨[(0, .c (.s (.s .flow))), (3, .c (.ref 7)), (4, .c .i)], [(7, .arr (.s .flow) true)]⟩
def x0_e_toNetFlowS_0 : Tmpl := ⟨[(3, .c (.ref 7))], [(7, .arr (.s .flow) true)]⟩
def L_e_toNetFlowS_0 (av : AV) (x : HP k_e_toNetFlowS.ps) (n : Nat) (v : t_e_toNetFlowS_0.den) (K : Ks (CR k_e_toNetFlowS)) : Option (CR k_e_toNetFlowS) := m_e_toNetFlowS_l0 v.1.1 (fun l0_1 => x0_e_toNetFlowS_0.at none (((), ()), (l0_1, ())) (K (.exit 0))) n v.1.2.2.1 v.2.1
def h_e_toNetFlowS_0 (av : AV) (x : HP k_e_toNetFlowS.ps) : Hdl (CR k_e_toNetFlowS) := hnd [] t_e_toNetFlowS_0 (L_e_toNetFlowS_0 av x)
theorem l_e_toNetFlowS_0 : LP k_e_toNetFlowS Try.f139 [0] h_e_toNetFlowS_0 := lp_ok (W := []) (H := []) (xs := [x0_e_toNetFlowS_0]) g_e_toNetFlowS trivial rfl (fun av x v K => by kernel_rfl) (fun av x n v K => by kernel_rfl)
theorem o_e_toNetFlowS : k_e_toNetFlowS.Ok Try.prog := fn_ok (k := k_e_toNetFlowS) (fn := Try.f139) (W := []) (H := [h_e_toNetFlowS_0]) Try.func139 g_e_toNetFlowS ⟨l_e_toNetFlowS_0, trivial⟩ rfl rfl (fun av x => by kernel_rfl)
noncomputable def m_toNetFlowS (l : List GFlow) : Option (List GFlow) := @gd ((l.length ≤ 1048576)) (Classical.propDecidable _) _ (some l)
theorem c_toNetFlowS (l : List GFlow) (h : (l.length ≤ 1048576)) : m_toNetFlowS l = some l := gdC h
theorem s_toNetFlowS (l : List GFlow) (h : (l.length ≤ 1048576)) : m_e_toNetFlowS l = some l := by
  refine (gd_pos (toOk h)).trans ?_
  have hl := h
  refine to_gen (f := m_e_toNetFlowS_l0 l m_e_toNetFlowS_k1) (by omega) (fun n i acc hi ha => ?_) (fun n acc => ?_)
  · rw [m_e_toNetFlowS_l0, if_pos (decide_eq_true (Int.ofNat_lt.2 hi)), getI_lt hi, Option.bind_some, c_toNetFlow _ trivial, Option.bind_some, getI_lt (by omega), Option.bind_some, gd_pos (ok64i hi h)]; rfl
  · rw [m_e_toNetFlowS_l0, if_neg (by simp)]; rfl
noncomputable def k_toNetFlowS : Con := ⟨139, [.v (.sl (.s .flow)) false], [((.sl (.s .flow)), true)], [], fun x => m_toNetFlowS x.1⟩
theorem o_toNetFlowS : k_toNetFlowS.Ok Try.prog := con_sub o_e_toNetFlowS fun x z hz => by
  obtain ⟨h, e⟩ := gdC_some hz
  subst e
  exact s_toNetFlowS _ h

def m_e_toNetTask (x : GTask) : Option GTask := (m_toIntS x.in_).bind fun x1 => ((m_toNetFlowS x.out).bind fun x2 => ((m_toIntS x.clear).bind fun x3 => (some (GTask.mk x.join x.split x1 x2 x3 x.role x.apart x.all x.need))))
def k_e_toNetTask : Con := ⟨120, [.v (.s .task) false], [((.s .task), true)], [], fun x => m_e_toNetTask x.1⟩
def f_e_toNetTask : Fs := ⟨[k_toIntS, k_toNetFlowS], []⟩
theorem g_e_toNetTask : f_e_toNetTask.Ok Try.prog := (fsK o_toIntS (fsK o_toNetFlowS fs0))
theorem o_e_toNetTask : k_e_toNetTask.Ok Try.prog := fn_ok (k := k_e_toNetTask) (fn := Try.f120) (W := []) (H := []) Try.func120 g_e_toNetTask trivial rfl rfl (fun av x => by kernel_rfl)
noncomputable def m_toNetTask (x : GTask) : Option GTask := @gd ((GTask.lens (· ≤ 1048576) x)) (Classical.propDecidable _) _ (some x)
theorem c_toNetTask (x : GTask) (h : (GTask.lens (· ≤ 1048576) x)) : m_toNetTask x = some x := gdC h
theorem s_toNetTask (x : GTask) (h : (GTask.lens (· ≤ 1048576) x)) : m_e_toNetTask x = some x := by
  rw [m_e_toNetTask, c_toIntS _ h.1, Option.bind_some, c_toNetFlowS _ h.2.1, Option.bind_some, c_toIntS _ h.2.2, Option.bind_some]
noncomputable def k_toNetTask : Con := ⟨120, [.v (.s .task) false], [((.s .task), true)], [], fun x => m_toNetTask x.1⟩
theorem o_toNetTask : k_toNetTask.Ok Try.prog := con_sub o_e_toNetTask fun x z hz => by
  obtain ⟨h, e⟩ := gdC_some hz
  subst e
  exact s_toNetTask _ h

def m_e_toNetTaskS_k1 (l0_1 : List GTask) : Option (List GTask) := some l0_1
def m_e_toNetTaskS_l0 (l : List GTask) (kx0_0 : List GTask → Option (List GTask)) : Nat → Int → List GTask → Option (List GTask)
  | 0, _, _ => none
  | n0 + 1, s0_0, l0_1 => if decide (s0_0 < (l.length : Int)) = true then ((getI l s0_0).bind fun x3 => ((m_toNetTask x3).bind fun x4 => ((getI l0_1 s0_0).bind fun x5 => (gd (ok64 (s0_0 + 1)) ((m_e_toNetTaskS_l0 l kx0_0 n0) (s0_0 + 1) (l0_1.set s0_0.toNat x4)))))) else (kx0_0 l0_1)
def m_e_toNetTaskS (l : List GTask) : Option (List GTask) := gd ((0 : Int) ≤ (l.length : Int) ∧ (l.length : Int) ≤ (1000000000 : Int)) (m_e_toNetTaskS_l0 l m_e_toNetTaskS_k1 FUEL 0 (List.replicate (l.length : Int).toNat GTask.zero))
def k_e_toNetTaskS : Con := ⟨76, [.v (.sl (.s .task)) false], [((.sl (.s .task)), true)], [], fun x => m_e_toNetTaskS x.1⟩
def f_e_toNetTaskS : Fs := ⟨[k_toNetTask], []⟩
theorem g_e_toNetTaskS : f_e_toNetTaskS.Ok Try.prog := (fsK o_toNetTask fs0)
def t_e_toNetTaskS_0 : Tmpl := ⟨[(0, .c (.s (.s .task))), (3, .c (.ref 7)), (4, .c .i)], [(7, .arr (.s .task) true)]⟩
def x0_e_toNetTaskS_0 : Tmpl := ⟨[(3, .c (.ref 7))], [(7, .arr (.s .task) true)]⟩
def L_e_toNetTaskS_0 (av : AV) (x : HP k_e_toNetTaskS.ps) (n : Nat) (v : t_e_toNetTaskS_0.den) (K : Ks (CR k_e_toNetTaskS)) : Option (CR k_e_toNetTaskS) := m_e_toNetTaskS_l0 v.1.1 (fun l0_1 => x0_e_toNetTaskS_0.at none (((), ()), (l0_1, ())) (K (.exit 0))) n v.1.2.2.1 v.2.1
def h_e_toNetTaskS_0 (av : AV) (x : HP k_e_toNetTaskS.ps) : Hdl (CR k_e_toNetTaskS) := hnd [] t_e_toNetTaskS_0 (L_e_toNetTaskS_0 av x)
theorem l_e_toNetTaskS_0 : LP k_e_toNetTaskS Try.f76 [0] h_e_toNetTaskS_0 := lp_ok (W := []) (H := []) (xs := [x0_e_toNetTaskS_0]) g_e_toNetTaskS trivial rfl (fun av x v K => by kernel_rfl) (fun av x n v K => by kernel_rfl)
theorem o_e_toNetTaskS : k_e_toNetTaskS.Ok Try.prog := fn_ok (k := k_e_toNetTaskS) (fn := Try.f76) (W := []) (H := [h_e_toNetTaskS_0]) Try.func76 g_e_toNetTaskS ⟨l_e_toNetTaskS_0, trivial⟩ rfl rfl (fun av x => by kernel_rfl)
noncomputable def m_toNetTaskS (l : List GTask) : Option (List GTask) := @gd ((l.length ≤ 1048576) ∧ (∀ y ∈ l, GTask.lens (· ≤ 1048576) y)) (Classical.propDecidable _) _ (some l)
theorem c_toNetTaskS (l : List GTask) (h : (l.length ≤ 1048576) ∧ (∀ y ∈ l, GTask.lens (· ≤ 1048576) y)) : m_toNetTaskS l = some l := gdC h
theorem s_toNetTaskS (l : List GTask) (h : (l.length ≤ 1048576) ∧ (∀ y ∈ l, GTask.lens (· ≤ 1048576) y)) : m_e_toNetTaskS l = some l := by
  refine (gd_pos (toOk h.1)).trans ?_
  have hl := h.1
  refine to_gen (f := m_e_toNetTaskS_l0 l m_e_toNetTaskS_k1) (by omega) (fun n i acc hi ha => ?_) (fun n acc => ?_)
  · rw [m_e_toNetTaskS_l0, if_pos (decide_eq_true (Int.ofNat_lt.2 hi)), getI_lt hi, Option.bind_some, c_toNetTask _ (h.2 _ (List.getElem_mem _)), Option.bind_some, getI_lt (by omega), Option.bind_some, gd_pos (ok64i hi h.1)]; rfl
  · rw [m_e_toNetTaskS_l0, if_neg (by simp)]; rfl
noncomputable def k_toNetTaskS : Con := ⟨76, [.v (.sl (.s .task)) false], [((.sl (.s .task)), true)], [], fun x => m_toNetTaskS x.1⟩
theorem o_toNetTaskS : k_toNetTaskS.Ok Try.prog := con_sub o_e_toNetTaskS fun x z hz => by
  obtain ⟨h, e⟩ := gdC_some hz
  subst e
  exact s_toNetTaskS _ h

def m_e_toNetNet (x : GNet) : Option GNet := (m_toNetTaskS x.tasks).bind fun x1 => (some (GNet.mk x.places x1))
def k_e_toNetNet : Con := ⟨34, [.v (.s .net) false], [((.s .net), true)], [], fun x => m_e_toNetNet x.1⟩
def f_e_toNetNet : Fs := ⟨[k_toNetTaskS], []⟩
theorem g_e_toNetNet : f_e_toNetNet.Ok Try.prog := (fsK o_toNetTaskS fs0)
theorem o_e_toNetNet : k_e_toNetNet.Ok Try.prog := fn_ok (k := k_e_toNetNet) (fn := Try.f34) (W := []) (H := []) Try.func34 g_e_toNetNet trivial rfl rfl (fun av x => by kernel_rfl)
noncomputable def m_toNetNet (x : GNet) : Option GNet := @gd ((GNet.lens (· ≤ 1048576) x)) (Classical.propDecidable _) _ (some x)
theorem c_toNetNet (x : GNet) (h : (GNet.lens (· ≤ 1048576) x)) : m_toNetNet x = some x := gdC h
theorem s_toNetNet (x : GNet) (h : (GNet.lens (· ≤ 1048576) x)) : m_e_toNetNet x = some x := by
  rw [m_e_toNetNet, c_toNetTaskS _ ⟨h.1, h.2⟩, Option.bind_some]
noncomputable def k_toNetNet : Con := ⟨34, [.v (.s .net) false], [((.s .net), true)], [], fun x => m_toNetNet x.1⟩
theorem o_toNetNet : k_toNetNet.Ok Try.prog := con_sub o_e_toNetNet fun x z hz => by
  obtain ⟨h, e⟩ := gdC_some hz
  subst e
  exact s_toNetNet _ h

def m_e_toNetNetS_k1 (l0_1 : List GNet) : Option (List GNet) := some l0_1
def m_e_toNetNetS_l0 (l : List GNet) (kx0_0 : List GNet → Option (List GNet)) : Nat → Int → List GNet → Option (List GNet)
  | 0, _, _ => none
  | n0 + 1, s0_0, l0_1 => if decide (s0_0 < (l.length : Int)) = true then ((getI l s0_0).bind fun x3 => ((m_toNetNet x3).bind fun x4 => ((getI l0_1 s0_0).bind fun x5 => (gd (ok64 (s0_0 + 1)) ((m_e_toNetNetS_l0 l kx0_0 n0) (s0_0 + 1) (l0_1.set s0_0.toNat x4)))))) else (kx0_0 l0_1)
def m_e_toNetNetS (l : List GNet) : Option (List GNet) := gd ((0 : Int) ≤ (l.length : Int) ∧ (l.length : Int) ≤ (1000000000 : Int)) (m_e_toNetNetS_l0 l m_e_toNetNetS_k1 FUEL 0 (List.replicate (l.length : Int).toNat GNet.zero))
def k_e_toNetNetS : Con := ⟨62, [.v (.sl (.s .net)) false], [((.sl (.s .net)), true)], [], fun x => m_e_toNetNetS x.1⟩
def f_e_toNetNetS : Fs := ⟨[k_toNetNet], []⟩
theorem g_e_toNetNetS : f_e_toNetNetS.Ok Try.prog := (fsK o_toNetNet fs0)
def t_e_toNetNetS_0 : Tmpl := ⟨[(0, .c (.s (.s .net))), (3, .c (.ref 7)), (4, .c .i)], [(7, .arr (.s .net) true)]⟩
def x0_e_toNetNetS_0 : Tmpl := ⟨[(3, .c (.ref 7))], [(7, .arr (.s .net) true)]⟩
def L_e_toNetNetS_0 (av : AV) (x : HP k_e_toNetNetS.ps) (n : Nat) (v : t_e_toNetNetS_0.den) (K : Ks (CR k_e_toNetNetS)) : Option (CR k_e_toNetNetS) := m_e_toNetNetS_l0 v.1.1 (fun l0_1 => x0_e_toNetNetS_0.at none (((), ()), (l0_1, ())) (K (.exit 0))) n v.1.2.2.1 v.2.1
def h_e_toNetNetS_0 (av : AV) (x : HP k_e_toNetNetS.ps) : Hdl (CR k_e_toNetNetS) := hnd [] t_e_toNetNetS_0 (L_e_toNetNetS_0 av x)
theorem l_e_toNetNetS_0 : LP k_e_toNetNetS Try.f62 [0] h_e_toNetNetS_0 := lp_ok (W := []) (H := []) (xs := [x0_e_toNetNetS_0]) g_e_toNetNetS trivial rfl (fun av x v K => by kernel_rfl) (fun av x n v K => by kernel_rfl)
theorem o_e_toNetNetS : k_e_toNetNetS.Ok Try.prog := fn_ok (k := k_e_toNetNetS) (fn := Try.f62) (W := []) (H := [h_e_toNetNetS_0]) Try.func62 g_e_toNetNetS ⟨l_e_toNetNetS_0, trivial⟩ rfl rfl (fun av x => by kernel_rfl)
noncomputable def m_toNetNetS (l : List GNet) : Option (List GNet) := @gd ((l.length ≤ 1048576) ∧ (∀ y ∈ l, GNet.lens (· ≤ 1048576) y)) (Classical.propDecidable _) _ (some l)
theorem c_toNetNetS (l : List GNet) (h : (l.length ≤ 1048576) ∧ (∀ y ∈ l, GNet.lens (· ≤ 1048576) y)) : m_toNetNetS l = some l := gdC h
theorem s_toNetNetS (l : List GNet) (h : (l.length ≤ 1048576) ∧ (∀ y ∈ l, GNet.lens (· ≤ 1048576) y)) : m_e_toNetNetS l = some l := by
  refine (gd_pos (toOk h.1)).trans ?_
  have hl := h.1
  refine to_gen (f := m_e_toNetNetS_l0 l m_e_toNetNetS_k1) (by omega) (fun n i acc hi ha => ?_) (fun n acc => ?_)
  · rw [m_e_toNetNetS_l0, if_pos (decide_eq_true (Int.ofNat_lt.2 hi)), getI_lt hi, Option.bind_some, c_toNetNet _ (h.2 _ (List.getElem_mem _)), Option.bind_some, getI_lt (by omega), Option.bind_some, gd_pos (ok64i hi h.1)]; rfl
  · rw [m_e_toNetNetS_l0, if_neg (by simp)]; rfl
noncomputable def k_toNetNetS : Con := ⟨62, [.v (.sl (.s .net)) false], [((.sl (.s .net)), true)], [], fun x => m_toNetNetS x.1⟩
theorem o_toNetNetS : k_toNetNetS.Ok Try.prog := con_sub o_e_toNetNetS fun x z hz => by
  obtain ⟨h, e⟩ := gdC_some hz
  subst e
  exact s_toNetNetS _ h

def m_e_toCasItem (x : GItem) : Option GItem := some x
def k_e_toCasItem : Con := ⟨121, [.v (.s .item) false], [((.s .item), true)], [], fun x => m_e_toCasItem x.1⟩
def f_e_toCasItem : Fs := ⟨[], []⟩
theorem g_e_toCasItem : f_e_toCasItem.Ok Try.prog := fs0
theorem o_e_toCasItem : k_e_toCasItem.Ok Try.prog := fn_ok (k := k_e_toCasItem) (fn := Try.f121) (W := []) (H := []) Try.func121 g_e_toCasItem trivial rfl rfl (fun av x => by kernel_rfl)
noncomputable def m_toCasItem (x : GItem) : Option GItem := @gd (True) (Classical.propDecidable _) _ (some x)
theorem c_toCasItem (x : GItem) (h : True) : m_toCasItem x = some x := gdC h
theorem s_toCasItem (x : GItem) (h : True) : m_e_toCasItem x = some x := by
  rfl
noncomputable def k_toCasItem : Con := ⟨121, [.v (.s .item) false], [((.s .item), true)], [], fun x => m_toCasItem x.1⟩
theorem o_toCasItem : k_toCasItem.Ok Try.prog := con_sub o_e_toCasItem fun x z hz => by
  obtain ⟨h, e⟩ := gdC_some hz
  subst e
  exact s_toCasItem _ h

def m_e_toCasItemS_k1 (l0_1 : List GItem) : Option (List GItem) := some l0_1
def m_e_toCasItemS_l0 (l : List GItem) (kx0_0 : List GItem → Option (List GItem)) : Nat → Int → List GItem → Option (List GItem)
  | 0, _, _ => none
  | n0 + 1, s0_0, l0_1 => if decide (s0_0 < (l.length : Int)) = true then ((getI l s0_0).bind fun x3 => ((m_toCasItem x3).bind fun x4 => ((getI l0_1 s0_0).bind fun x5 => (gd (ok64 (s0_0 + 1)) ((m_e_toCasItemS_l0 l kx0_0 n0) (s0_0 + 1) (l0_1.set s0_0.toNat x4)))))) else (kx0_0 l0_1)
def m_e_toCasItemS (l : List GItem) : Option (List GItem) := gd ((0 : Int) ≤ (l.length : Int) ∧ (l.length : Int) ≤ (1000000000 : Int)) (m_e_toCasItemS_l0 l m_e_toCasItemS_k1 FUEL 0 (List.replicate (l.length : Int).toNat GItem.zero))
def k_e_toCasItemS : Con := ⟨77, [.v (.sl (.s .item)) false], [((.sl (.s .item)), true)], [], fun x => m_e_toCasItemS x.1⟩
def f_e_toCasItemS : Fs := ⟨[k_toCasItem], []⟩
theorem g_e_toCasItemS : f_e_toCasItemS.Ok Try.prog := (fsK o_toCasItem fs0)
def t_e_toCasItemS_0 : Tmpl := ⟨[(0, .c (.s (.s .item))), (3, .c (.ref 7)), (4, .c .i)], [(7, .arr (.s .item) true)]⟩
def x0_e_toCasItemS_0 : Tmpl := ⟨[(3, .c (.ref 7))], [(7, .arr (.s .item) true)]⟩
def L_e_toCasItemS_0 (av : AV) (x : HP k_e_toCasItemS.ps) (n : Nat) (v : t_e_toCasItemS_0.den) (K : Ks (CR k_e_toCasItemS)) : Option (CR k_e_toCasItemS) := m_e_toCasItemS_l0 v.1.1 (fun l0_1 => x0_e_toCasItemS_0.at none (((), ()), (l0_1, ())) (K (.exit 0))) n v.1.2.2.1 v.2.1
def h_e_toCasItemS_0 (av : AV) (x : HP k_e_toCasItemS.ps) : Hdl (CR k_e_toCasItemS) := hnd [] t_e_toCasItemS_0 (L_e_toCasItemS_0 av x)
theorem l_e_toCasItemS_0 : LP k_e_toCasItemS Try.f77 [0] h_e_toCasItemS_0 := lp_ok (W := []) (H := []) (xs := [x0_e_toCasItemS_0]) g_e_toCasItemS trivial rfl (fun av x v K => by kernel_rfl) (fun av x n v K => by kernel_rfl)
theorem o_e_toCasItemS : k_e_toCasItemS.Ok Try.prog := fn_ok (k := k_e_toCasItemS) (fn := Try.f77) (W := []) (H := [h_e_toCasItemS_0]) Try.func77 g_e_toCasItemS ⟨l_e_toCasItemS_0, trivial⟩ rfl rfl (fun av x => by kernel_rfl)
noncomputable def m_toCasItemS (l : List GItem) : Option (List GItem) := @gd ((l.length ≤ 1048576)) (Classical.propDecidable _) _ (some l)
theorem c_toCasItemS (l : List GItem) (h : (l.length ≤ 1048576)) : m_toCasItemS l = some l := gdC h
theorem s_toCasItemS (l : List GItem) (h : (l.length ≤ 1048576)) : m_e_toCasItemS l = some l := by
  refine (gd_pos (toOk h)).trans ?_
  have hl := h
  refine to_gen (f := m_e_toCasItemS_l0 l m_e_toCasItemS_k1) (by omega) (fun n i acc hi ha => ?_) (fun n acc => ?_)
  · rw [m_e_toCasItemS_l0, if_pos (decide_eq_true (Int.ofNat_lt.2 hi)), getI_lt hi, Option.bind_some, c_toCasItem _ trivial, Option.bind_some, getI_lt (by omega), Option.bind_some, gd_pos (ok64i hi h)]; rfl
  · rw [m_e_toCasItemS_l0, if_neg (by simp)]; rfl
noncomputable def k_toCasItemS : Con := ⟨77, [.v (.sl (.s .item)) false], [((.sl (.s .item)), true)], [], fun x => m_toCasItemS x.1⟩
theorem o_toCasItemS : k_toCasItemS.Ok Try.prog := con_sub o_e_toCasItemS fun x z hz => by
  obtain ⟨h, e⟩ := gdC_some hz
  subst e
  exact s_toCasItemS _ h

def m_e_toCasDid (x : GDid) : Option GDid := some x
def k_e_toCasDid : Con := ⟨122, [.v (.s .did) false], [((.s .did), true)], [], fun x => m_e_toCasDid x.1⟩
def f_e_toCasDid : Fs := ⟨[], []⟩
theorem g_e_toCasDid : f_e_toCasDid.Ok Try.prog := fs0
theorem o_e_toCasDid : k_e_toCasDid.Ok Try.prog := fn_ok (k := k_e_toCasDid) (fn := Try.f122) (W := []) (H := []) Try.func122 g_e_toCasDid trivial rfl rfl (fun av x => by kernel_rfl)
noncomputable def m_toCasDid (x : GDid) : Option GDid := @gd (True) (Classical.propDecidable _) _ (some x)
theorem c_toCasDid (x : GDid) (h : True) : m_toCasDid x = some x := gdC h
theorem s_toCasDid (x : GDid) (h : True) : m_e_toCasDid x = some x := by
  rfl
noncomputable def k_toCasDid : Con := ⟨122, [.v (.s .did) false], [((.s .did), true)], [], fun x => m_toCasDid x.1⟩
theorem o_toCasDid : k_toCasDid.Ok Try.prog := con_sub o_e_toCasDid fun x z hz => by
  obtain ⟨h, e⟩ := gdC_some hz
  subst e
  exact s_toCasDid _ h

def m_e_toCasDidS_k1 (l0_1 : List GDid) : Option (List GDid) := some l0_1
def m_e_toCasDidS_l0 (l : List GDid) (kx0_0 : List GDid → Option (List GDid)) : Nat → Int → List GDid → Option (List GDid)
  | 0, _, _ => none
  | n0 + 1, s0_0, l0_1 => if decide (s0_0 < (l.length : Int)) = true then ((getI l s0_0).bind fun x3 => ((m_toCasDid x3).bind fun x4 => ((getI l0_1 s0_0).bind fun x5 => (gd (ok64 (s0_0 + 1)) ((m_e_toCasDidS_l0 l kx0_0 n0) (s0_0 + 1) (l0_1.set s0_0.toNat x4)))))) else (kx0_0 l0_1)
def m_e_toCasDidS (l : List GDid) : Option (List GDid) := gd ((0 : Int) ≤ (l.length : Int) ∧ (l.length : Int) ≤ (1000000000 : Int)) (m_e_toCasDidS_l0 l m_e_toCasDidS_k1 FUEL 0 (List.replicate (l.length : Int).toNat GDid.zero))
def k_e_toCasDidS : Con := ⟨78, [.v (.sl (.s .did)) false], [((.sl (.s .did)), true)], [], fun x => m_e_toCasDidS x.1⟩
def f_e_toCasDidS : Fs := ⟨[k_toCasDid], []⟩
theorem g_e_toCasDidS : f_e_toCasDidS.Ok Try.prog := (fsK o_toCasDid fs0)
def t_e_toCasDidS_0 : Tmpl := ⟨[(0, .c (.s (.s .did))), (3, .c (.ref 7)), (4, .c .i)], [(7, .arr (.s .did) true)]⟩
def x0_e_toCasDidS_0 : Tmpl := ⟨[(3, .c (.ref 7))], [(7, .arr (.s .did) true)]⟩
def L_e_toCasDidS_0 (av : AV) (x : HP k_e_toCasDidS.ps) (n : Nat) (v : t_e_toCasDidS_0.den) (K : Ks (CR k_e_toCasDidS)) : Option (CR k_e_toCasDidS) := m_e_toCasDidS_l0 v.1.1 (fun l0_1 => x0_e_toCasDidS_0.at none (((), ()), (l0_1, ())) (K (.exit 0))) n v.1.2.2.1 v.2.1
def h_e_toCasDidS_0 (av : AV) (x : HP k_e_toCasDidS.ps) : Hdl (CR k_e_toCasDidS) := hnd [] t_e_toCasDidS_0 (L_e_toCasDidS_0 av x)
theorem l_e_toCasDidS_0 : LP k_e_toCasDidS Try.f78 [0] h_e_toCasDidS_0 := lp_ok (W := []) (H := []) (xs := [x0_e_toCasDidS_0]) g_e_toCasDidS trivial rfl (fun av x v K => by kernel_rfl) (fun av x n v K => by kernel_rfl)
theorem o_e_toCasDidS : k_e_toCasDidS.Ok Try.prog := fn_ok (k := k_e_toCasDidS) (fn := Try.f78) (W := []) (H := [h_e_toCasDidS_0]) Try.func78 g_e_toCasDidS ⟨l_e_toCasDidS_0, trivial⟩ rfl rfl (fun av x => by kernel_rfl)
noncomputable def m_toCasDidS (l : List GDid) : Option (List GDid) := @gd ((l.length ≤ 1048576)) (Classical.propDecidable _) _ (some l)
theorem c_toCasDidS (l : List GDid) (h : (l.length ≤ 1048576)) : m_toCasDidS l = some l := gdC h
theorem s_toCasDidS (l : List GDid) (h : (l.length ≤ 1048576)) : m_e_toCasDidS l = some l := by
  refine (gd_pos (toOk h)).trans ?_
  have hl := h
  refine to_gen (f := m_e_toCasDidS_l0 l m_e_toCasDidS_k1) (by omega) (fun n i acc hi ha => ?_) (fun n acc => ?_)
  · rw [m_e_toCasDidS_l0, if_pos (decide_eq_true (Int.ofNat_lt.2 hi)), getI_lt hi, Option.bind_some, c_toCasDid _ trivial, Option.bind_some, getI_lt (by omega), Option.bind_some, gd_pos (ok64i hi h)]; rfl
  · rw [m_e_toCasDidS_l0, if_neg (by simp)]; rfl
noncomputable def k_toCasDidS : Con := ⟨78, [.v (.sl (.s .did)) false], [((.sl (.s .did)), true)], [], fun x => m_toCasDidS x.1⟩
theorem o_toCasDidS : k_toCasDidS.Ok Try.prog := con_sub o_e_toCasDidS fun x z hz => by
  obtain ⟨h, e⟩ := gdC_some hz
  subst e
  exact s_toCasDidS _ h

def m_e_toRdrNode (x : GNode) : Option GNode := (m_toExpAsk x.if_).bind fun x1 => ((m_toIntS x.stone).bind fun x2 => (some (GNode.mk x1 x.yes x.no x.ans x2)))
def k_e_toRdrNode : Con := ⟨113, [.v (.s .node) false], [((.s .node), true)], [], fun x => m_e_toRdrNode x.1⟩
def f_e_toRdrNode : Fs := ⟨[k_toExpAsk, k_toIntS], []⟩
theorem g_e_toRdrNode : f_e_toRdrNode.Ok Try.prog := (fsK o_toExpAsk (fsK o_toIntS fs0))
theorem o_e_toRdrNode : k_e_toRdrNode.Ok Try.prog := fn_ok (k := k_e_toRdrNode) (fn := Try.f113) (W := []) (H := []) Try.func113 g_e_toRdrNode trivial rfl rfl (fun av x => by kernel_rfl)
noncomputable def m_toRdrNode (x : GNode) : Option GNode := @gd ((GNode.lens (· ≤ 1048576) x)) (Classical.propDecidable _) _ (some x)
theorem c_toRdrNode (x : GNode) (h : (GNode.lens (· ≤ 1048576) x)) : m_toRdrNode x = some x := gdC h
theorem s_toRdrNode (x : GNode) (h : (GNode.lens (· ≤ 1048576) x)) : m_e_toRdrNode x = some x := by
  rw [m_e_toRdrNode, c_toExpAsk _ trivial, Option.bind_some, c_toIntS _ h, Option.bind_some]
noncomputable def k_toRdrNode : Con := ⟨113, [.v (.s .node) false], [((.s .node), true)], [], fun x => m_toRdrNode x.1⟩
theorem o_toRdrNode : k_toRdrNode.Ok Try.prog := con_sub o_e_toRdrNode fun x z hz => by
  obtain ⟨h, e⟩ := gdC_some hz
  subst e
  exact s_toRdrNode _ h

def m_e_toRdrNodeS_k1 (l0_1 : List GNode) : Option (List GNode) := some l0_1
def m_e_toRdrNodeS_l0 (l : List GNode) (kx0_0 : List GNode → Option (List GNode)) : Nat → Int → List GNode → Option (List GNode)
  | 0, _, _ => none
  | n0 + 1, s0_0, l0_1 => if decide (s0_0 < (l.length : Int)) = true then ((getI l s0_0).bind fun x3 => ((m_toRdrNode x3).bind fun x4 => ((getI l0_1 s0_0).bind fun x5 => (gd (ok64 (s0_0 + 1)) ((m_e_toRdrNodeS_l0 l kx0_0 n0) (s0_0 + 1) (l0_1.set s0_0.toNat x4)))))) else (kx0_0 l0_1)
def m_e_toRdrNodeS (l : List GNode) : Option (List GNode) := gd ((0 : Int) ≤ (l.length : Int) ∧ (l.length : Int) ≤ (1000000000 : Int)) (m_e_toRdrNodeS_l0 l m_e_toRdrNodeS_k1 FUEL 0 (List.replicate (l.length : Int).toNat GNode.zero))
def k_e_toRdrNodeS : Con := ⟨64, [.v (.sl (.s .node)) false], [((.sl (.s .node)), true)], [], fun x => m_e_toRdrNodeS x.1⟩
def f_e_toRdrNodeS : Fs := ⟨[k_toRdrNode], []⟩
theorem g_e_toRdrNodeS : f_e_toRdrNodeS.Ok Try.prog := (fsK o_toRdrNode fs0)
def t_e_toRdrNodeS_0 : Tmpl := ⟨[(0, .c (.s (.s .node))), (3, .c (.ref 7)), (4, .c .i)], [(7, .arr (.s .node) true)]⟩
def x0_e_toRdrNodeS_0 : Tmpl := ⟨[(3, .c (.ref 7))], [(7, .arr (.s .node) true)]⟩
def L_e_toRdrNodeS_0 (av : AV) (x : HP k_e_toRdrNodeS.ps) (n : Nat) (v : t_e_toRdrNodeS_0.den) (K : Ks (CR k_e_toRdrNodeS)) : Option (CR k_e_toRdrNodeS) := m_e_toRdrNodeS_l0 v.1.1 (fun l0_1 => x0_e_toRdrNodeS_0.at none (((), ()), (l0_1, ())) (K (.exit 0))) n v.1.2.2.1 v.2.1
def h_e_toRdrNodeS_0 (av : AV) (x : HP k_e_toRdrNodeS.ps) : Hdl (CR k_e_toRdrNodeS) := hnd [] t_e_toRdrNodeS_0 (L_e_toRdrNodeS_0 av x)
theorem l_e_toRdrNodeS_0 : LP k_e_toRdrNodeS Try.f64 [0] h_e_toRdrNodeS_0 := lp_ok (W := []) (H := []) (xs := [x0_e_toRdrNodeS_0]) g_e_toRdrNodeS trivial rfl (fun av x v K => by kernel_rfl) (fun av x n v K => by kernel_rfl)
theorem o_e_toRdrNodeS : k_e_toRdrNodeS.Ok Try.prog := fn_ok (k := k_e_toRdrNodeS) (fn := Try.f64) (W := []) (H := [h_e_toRdrNodeS_0]) Try.func64 g_e_toRdrNodeS ⟨l_e_toRdrNodeS_0, trivial⟩ rfl rfl (fun av x => by kernel_rfl)
noncomputable def m_toRdrNodeS (l : List GNode) : Option (List GNode) := @gd ((l.length ≤ 1048576) ∧ (∀ y ∈ l, GNode.lens (· ≤ 1048576) y)) (Classical.propDecidable _) _ (some l)
theorem c_toRdrNodeS (l : List GNode) (h : (l.length ≤ 1048576) ∧ (∀ y ∈ l, GNode.lens (· ≤ 1048576) y)) : m_toRdrNodeS l = some l := gdC h
theorem s_toRdrNodeS (l : List GNode) (h : (l.length ≤ 1048576) ∧ (∀ y ∈ l, GNode.lens (· ≤ 1048576) y)) : m_e_toRdrNodeS l = some l := by
  refine (gd_pos (toOk h.1)).trans ?_
  have hl := h.1
  refine to_gen (f := m_e_toRdrNodeS_l0 l m_e_toRdrNodeS_k1) (by omega) (fun n i acc hi ha => ?_) (fun n acc => ?_)
  · rw [m_e_toRdrNodeS_l0, if_pos (decide_eq_true (Int.ofNat_lt.2 hi)), getI_lt hi, Option.bind_some, c_toRdrNode _ (h.2 _ (List.getElem_mem _)), Option.bind_some, getI_lt (by omega), Option.bind_some, gd_pos (ok64i hi h.1)]; rfl
  · rw [m_e_toRdrNodeS_l0, if_neg (by simp)]; rfl
noncomputable def k_toRdrNodeS : Con := ⟨64, [.v (.sl (.s .node)) false], [((.sl (.s .node)), true)], [], fun x => m_toRdrNodeS x.1⟩
theorem o_toRdrNodeS : k_toRdrNodeS.Ok Try.prog := con_sub o_e_toRdrNodeS fun x z hz => by
  obtain ⟨h, e⟩ := gdC_some hz
  subst e
  exact s_toRdrNodeS _ h

def m_e_toCasCase (x : GCase) : Option GCase := (m_toIntS x.marks).bind fun x1 => ((m_toCasItemS x.busy).bind fun x2 => ((m_toIntS x.data).bind fun x3 => ((m_toCasDidS x.did).bind fun x4 => (some (GCase.mk x.state x1 x2 x3 x4)))))
def k_e_toCasCase : Con := ⟨35, [.v (.s .kase) false], [((.s .kase), true)], [], fun x => m_e_toCasCase x.1⟩
def f_e_toCasCase : Fs := ⟨[k_toIntS, k_toCasItemS, k_toCasDidS], []⟩
theorem g_e_toCasCase : f_e_toCasCase.Ok Try.prog := (fsK o_toIntS (fsK o_toCasItemS (fsK o_toCasDidS fs0)))
theorem o_e_toCasCase : k_e_toCasCase.Ok Try.prog := fn_ok (k := k_e_toCasCase) (fn := Try.f35) (W := []) (H := []) Try.func35 g_e_toCasCase trivial rfl rfl (fun av x => by kernel_rfl)
noncomputable def m_toCasCase (x : GCase) : Option GCase := @gd ((GCase.lens (· ≤ 1048576) x)) (Classical.propDecidable _) _ (some x)
theorem c_toCasCase (x : GCase) (h : (GCase.lens (· ≤ 1048576) x)) : m_toCasCase x = some x := gdC h
theorem s_toCasCase (x : GCase) (h : (GCase.lens (· ≤ 1048576) x)) : m_e_toCasCase x = some x := by
  rw [m_e_toCasCase, c_toIntS _ h.1, Option.bind_some, c_toCasItemS _ h.2.1, Option.bind_some, c_toIntS _ h.2.2.1, Option.bind_some, c_toCasDidS _ h.2.2.2, Option.bind_some]
noncomputable def k_toCasCase : Con := ⟨35, [.v (.s .kase) false], [((.s .kase), true)], [], fun x => m_toCasCase x.1⟩
theorem o_toCasCase : k_toCasCase.Ok Try.prog := con_sub o_e_toCasCase fun x z hz => by
  obtain ⟨h, e⟩ := gdC_some hz
  subst e
  exact s_toCasCase _ h

def m_e_toEngRun (x : GRun) : Option GRun := (m_toCasCase x.case).bind fun x1 => (some (GRun.mk x.net x1))
def k_e_toEngRun : Con := ⟨114, [.v (.s .run) false], [((.s .run), true)], [], fun x => m_e_toEngRun x.1⟩
def f_e_toEngRun : Fs := ⟨[k_toCasCase], []⟩
theorem g_e_toEngRun : f_e_toEngRun.Ok Try.prog := (fsK o_toCasCase fs0)
theorem o_e_toEngRun : k_e_toEngRun.Ok Try.prog := fn_ok (k := k_e_toEngRun) (fn := Try.f114) (W := []) (H := []) Try.func114 g_e_toEngRun trivial rfl rfl (fun av x => by kernel_rfl)
noncomputable def m_toEngRun (x : GRun) : Option GRun := @gd ((GRun.lens (· ≤ 1048576) x)) (Classical.propDecidable _) _ (some x)
theorem c_toEngRun (x : GRun) (h : (GRun.lens (· ≤ 1048576) x)) : m_toEngRun x = some x := gdC h
theorem s_toEngRun (x : GRun) (h : (GRun.lens (· ≤ 1048576) x)) : m_e_toEngRun x = some x := by
  rw [m_e_toEngRun, c_toCasCase _ h, Option.bind_some]
noncomputable def k_toEngRun : Con := ⟨114, [.v (.s .run) false], [((.s .run), true)], [], fun x => m_toEngRun x.1⟩
theorem o_toEngRun : k_toEngRun.Ok Try.prog := con_sub o_e_toEngRun fun x z hz => by
  obtain ⟨h, e⟩ := gdC_some hz
  subst e
  exact s_toEngRun _ h

def m_e_toEngRunS_k1 (l0_1 : List GRun) : Option (List GRun) := some l0_1
def m_e_toEngRunS_l0 (l : List GRun) (kx0_0 : List GRun → Option (List GRun)) : Nat → Int → List GRun → Option (List GRun)
  | 0, _, _ => none
  | n0 + 1, s0_0, l0_1 => if decide (s0_0 < (l.length : Int)) = true then ((getI l s0_0).bind fun x3 => ((m_toEngRun x3).bind fun x4 => ((getI l0_1 s0_0).bind fun x5 => (gd (ok64 (s0_0 + 1)) ((m_e_toEngRunS_l0 l kx0_0 n0) (s0_0 + 1) (l0_1.set s0_0.toNat x4)))))) else (kx0_0 l0_1)
def m_e_toEngRunS (l : List GRun) : Option (List GRun) := gd ((0 : Int) ≤ (l.length : Int) ∧ (l.length : Int) ≤ (1000000000 : Int)) (m_e_toEngRunS_l0 l m_e_toEngRunS_k1 FUEL 0 (List.replicate (l.length : Int).toNat GRun.zero))
def k_e_toEngRunS : Con := ⟨65, [.v (.sl (.s .run)) false], [((.sl (.s .run)), true)], [], fun x => m_e_toEngRunS x.1⟩
def f_e_toEngRunS : Fs := ⟨[k_toEngRun], []⟩
theorem g_e_toEngRunS : f_e_toEngRunS.Ok Try.prog := (fsK o_toEngRun fs0)
def t_e_toEngRunS_0 : Tmpl := ⟨[(0, .c (.s (.s .run))), (3, .c (.ref 7)), (4, .c .i)], [(7, .arr (.s .run) true)]⟩
def x0_e_toEngRunS_0 : Tmpl := ⟨[(3, .c (.ref 7))], [(7, .arr (.s .run) true)]⟩
def L_e_toEngRunS_0 (av : AV) (x : HP k_e_toEngRunS.ps) (n : Nat) (v : t_e_toEngRunS_0.den) (K : Ks (CR k_e_toEngRunS)) : Option (CR k_e_toEngRunS) := m_e_toEngRunS_l0 v.1.1 (fun l0_1 => x0_e_toEngRunS_0.at none (((), ()), (l0_1, ())) (K (.exit 0))) n v.1.2.2.1 v.2.1
def h_e_toEngRunS_0 (av : AV) (x : HP k_e_toEngRunS.ps) : Hdl (CR k_e_toEngRunS) := hnd [] t_e_toEngRunS_0 (L_e_toEngRunS_0 av x)
theorem l_e_toEngRunS_0 : LP k_e_toEngRunS Try.f65 [0] h_e_toEngRunS_0 := lp_ok (W := []) (H := []) (xs := [x0_e_toEngRunS_0]) g_e_toEngRunS trivial rfl (fun av x v K => by kernel_rfl) (fun av x n v K => by kernel_rfl)
theorem o_e_toEngRunS : k_e_toEngRunS.Ok Try.prog := fn_ok (k := k_e_toEngRunS) (fn := Try.f65) (W := []) (H := [h_e_toEngRunS_0]) Try.func65 g_e_toEngRunS ⟨l_e_toEngRunS_0, trivial⟩ rfl rfl (fun av x => by kernel_rfl)
noncomputable def m_toEngRunS (l : List GRun) : Option (List GRun) := @gd ((l.length ≤ 1048576) ∧ (∀ y ∈ l, GRun.lens (· ≤ 1048576) y)) (Classical.propDecidable _) _ (some l)
theorem c_toEngRunS (l : List GRun) (h : (l.length ≤ 1048576) ∧ (∀ y ∈ l, GRun.lens (· ≤ 1048576) y)) : m_toEngRunS l = some l := gdC h
theorem s_toEngRunS (l : List GRun) (h : (l.length ≤ 1048576) ∧ (∀ y ∈ l, GRun.lens (· ≤ 1048576) y)) : m_e_toEngRunS l = some l := by
  refine (gd_pos (toOk h.1)).trans ?_
  have hl := h.1
  refine to_gen (f := m_e_toEngRunS_l0 l m_e_toEngRunS_k1) (by omega) (fun n i acc hi ha => ?_) (fun n acc => ?_)
  · rw [m_e_toEngRunS_l0, if_pos (decide_eq_true (Int.ofNat_lt.2 hi)), getI_lt hi, Option.bind_some, c_toEngRun _ (h.2 _ (List.getElem_mem _)), Option.bind_some, getI_lt (by omega), Option.bind_some, gd_pos (ok64i hi h.1)]; rfl
  · rw [m_e_toEngRunS_l0, if_neg (by simp)]; rfl
noncomputable def k_toEngRunS : Con := ⟨65, [.v (.sl (.s .run)) false], [((.sl (.s .run)), true)], [], fun x => m_toEngRunS x.1⟩
theorem o_toEngRunS : k_toEngRunS.Ok Try.prog := con_sub o_e_toEngRunS fun x z hz => by
  obtain ⟨h, e⟩ := gdC_some hz
  subst e
  exact s_toEngRunS _ h

def m_e_toEngHouse (x : GHouse) : Option GHouse := (m_toNetNetS x.nets).bind fun x1 => ((m_toIntS x.people).bind fun x2 => ((m_toRdrNodeS x.tree).bind fun x3 => ((m_toEngRunS x.runs).bind fun x4 => (some (GHouse.mk x1 x2 x3 x4)))))
def k_e_toEngHouse : Con := ⟨24, [.v (.s .house) false], [((.s .house), true)], [], fun x => m_e_toEngHouse x.1⟩
def f_e_toEngHouse : Fs := ⟨[k_toNetNetS, k_toIntS, k_toRdrNodeS, k_toEngRunS], []⟩
theorem g_e_toEngHouse : f_e_toEngHouse.Ok Try.prog := (fsK o_toNetNetS (fsK o_toIntS (fsK o_toRdrNodeS (fsK o_toEngRunS fs0))))
theorem o_e_toEngHouse : k_e_toEngHouse.Ok Try.prog := fn_ok (k := k_e_toEngHouse) (fn := Try.f24) (W := []) (H := []) Try.func24 g_e_toEngHouse trivial rfl rfl (fun av x => by kernel_rfl)
noncomputable def m_toEngHouse (x : GHouse) : Option GHouse := @gd ((GHouse.lens (· ≤ 1048576) x)) (Classical.propDecidable _) _ (some x)
theorem c_toEngHouse (x : GHouse) (h : (GHouse.lens (· ≤ 1048576) x)) : m_toEngHouse x = some x := gdC h
theorem s_toEngHouse (x : GHouse) (h : (GHouse.lens (· ≤ 1048576) x)) : m_e_toEngHouse x = some x := by
  rw [m_e_toEngHouse, c_toNetNetS _ ⟨h.1.1, h.1.2⟩, Option.bind_some, c_toIntS _ h.2.1, Option.bind_some, c_toRdrNodeS _ ⟨h.2.2.1.1, h.2.2.1.2⟩, Option.bind_some, c_toEngRunS _ ⟨h.2.2.2.1, h.2.2.2.2⟩, Option.bind_some]
noncomputable def k_toEngHouse : Con := ⟨24, [.v (.s .house) false], [((.s .house), true)], [], fun x => m_toEngHouse x.1⟩
theorem o_toEngHouse : k_toEngHouse.Ok Try.prog := con_sub o_e_toEngHouse fun x z hz => by
  obtain ⟨h, e⟩ := gdC_some hz
  subst e
  exact s_toEngHouse _ h

def m_e_eqIntS_k1  : Option Bool := some true
def m_e_eqIntS_l0 (a : List Int) (b : List Int) (kx0_0 : Option Bool) : Nat → Int → Option Bool
  | 0, _ => none
  | n0 + 1, s0_0 => if decide (s0_0 < (a.length : Int)) = true then ((getI a s0_0).bind fun x3 => ((getI b s0_0).bind fun x4 => (if decide (x3 = x4) = true then (gd (ok64 (s0_0 + 1)) ((m_e_eqIntS_l0 a b kx0_0 n0) (s0_0 + 1))) else (some false)))) else (kx0_0)
def m_e_eqIntS (a : List Int) (b : List Int) : Option Bool := if decide ((a.length : Int) = (b.length : Int)) = true then (m_e_eqIntS_l0 a b m_e_eqIntS_k1 FUEL 0) else (some false)
def k_e_eqIntS : Con := ⟨26, [.v (.sl .I) false, .v (.sl .I) false], [(.B, true)], [], fun x => m_e_eqIntS x.1 x.2.1⟩
def f_e_eqIntS : Fs := ⟨[], []⟩
theorem g_e_eqIntS : f_e_eqIntS.Ok Try.prog := fs0
def t_e_eqIntS_0 : Tmpl := ⟨[(0, .c (.s .I)), (1, .c (.s .I)), (5, .c .i)], []⟩
def x0_e_eqIntS_0 : Tmpl := ⟨[], []⟩
def L_e_eqIntS_0 (av : AV) (x : HP k_e_eqIntS.ps) (n : Nat) (v : t_e_eqIntS_0.den) (K : Ks (CR k_e_eqIntS)) : Option (CR k_e_eqIntS) := m_e_eqIntS_l0 v.1.1 v.1.2.1 (x0_e_eqIntS_0.at none ((), ()) (K (.exit 0))) n v.1.2.2.1
def h_e_eqIntS_0 (av : AV) (x : HP k_e_eqIntS.ps) : Hdl (CR k_e_eqIntS) := hnd [] t_e_eqIntS_0 (L_e_eqIntS_0 av x)
theorem l_e_eqIntS_0 : LP k_e_eqIntS Try.f26 [0] h_e_eqIntS_0 := lp_ok (W := []) (H := []) (xs := [x0_e_eqIntS_0]) g_e_eqIntS trivial rfl (fun av x v K => by kernel_rfl) (fun av x n v K => by kernel_rfl)
theorem o_e_eqIntS : k_e_eqIntS.Ok Try.prog := fn_ok (k := k_e_eqIntS) (fn := Try.f26) (W := []) (H := [h_e_eqIntS_0]) Try.func26 g_e_eqIntS ⟨l_e_eqIntS_0, trivial⟩ rfl rfl (fun av x => by kernel_rfl)
noncomputable def m_eqIntS (a : List Int) (b : List Int) : Option Bool := @gd ((a.length ≤ 1048576)) (Classical.propDecidable _) _ (some (decide (a = b)))
theorem c_eqIntS (a : List Int) (b : List Int) (h : (a.length ≤ 1048576)) : m_eqIntS a b = some (decide (a = b)) := gdC h
theorem s_eqIntS (a : List Int) (b : List Int) (h : (a.length ≤ 1048576)) : m_e_eqIntS a b = some (decide (a = b)) := by
  have hl := h
  refine eq_len fun hab => eq_gen (f := m_e_eqIntS_l0 a b m_e_eqIntS_k1) (by omega) hab (fun n i hi hj => ?_) (fun n => ?_)
  · rw [m_e_eqIntS_l0, if_pos (decide_eq_true (Int.ofNat_lt.2 hi)), getI_lt hi, Option.bind_some, getI_lt hj, Option.bind_some, gd_pos (ok64i hi h)]; rfl
  · rw [m_e_eqIntS_l0, if_neg (by simp)]; rfl
noncomputable def k_eqIntS : Con := ⟨26, [.v (.sl .I) false, .v (.sl .I) false], [(.B, true)], [], fun x => m_eqIntS x.1 x.2.1⟩
theorem o_eqIntS : k_eqIntS.Ok Try.prog := con_sub o_e_eqIntS fun x z hz => by
  obtain ⟨h, e⟩ := gdC_some hz
  subst e
  exact s_eqIntS _ _ h

def m_e_eqExpAsk (x : GAsk) (y : GAsk) : Option Bool := if decide (x.op = y.op) = true then (if decide (x.var = y.var) = true then (if decide (x.k = y.k) = true then (some true) else (some false)) else (some false)) else (some false)
def k_e_eqExpAsk : Con := ⟨100, [.v (.s .ask) false, .v (.s .ask) false], [(.B, true)], [], fun x => m_e_eqExpAsk x.1 x.2.1⟩
def f_e_eqExpAsk : Fs := ⟨[], []⟩
theorem g_e_eqExpAsk : f_e_eqExpAsk.Ok Try.prog := fs0
theorem o_e_eqExpAsk : k_e_eqExpAsk.Ok Try.prog := fn_ok (k := k_e_eqExpAsk) (fn := Try.f100) (W := []) (H := []) Try.func100 g_e_eqExpAsk trivial rfl rfl (fun av x => by kernel_rfl)
noncomputable def m_eqExpAsk (x : GAsk) (y : GAsk) : Option Bool := @gd (True) (Classical.propDecidable _) _ (some (decide (x = y)))
theorem c_eqExpAsk (x : GAsk) (y : GAsk) (h : True) : m_eqExpAsk x y = some (decide (x = y)) := gdC h
theorem s_eqExpAsk (x : GAsk) (y : GAsk) (h : True) : m_e_eqExpAsk x y = some (decide (x = y)) := by
  unfold m_e_eqExpAsk
  refine (eq_step (eq_step (eq_step eq_end))).trans (congrArg some (decide_eq_decide.2 ⟨fun ⟨h0, h1, h2, _⟩ => ?_, fun h => by subst h; simp⟩))
  cases x; cases y; simp_all
noncomputable def k_eqExpAsk : Con := ⟨100, [.v (.s .ask) false, .v (.s .ask) false], [(.B, true)], [], fun x => m_eqExpAsk x.1 x.2.1⟩
theorem o_eqExpAsk : k_eqExpAsk.Ok Try.prog := con_sub o_e_eqExpAsk fun x z hz => by
  obtain ⟨h, e⟩ := gdC_some hz
  subst e
  exact s_eqExpAsk _ _ h

def m_e_eqNetFlow (x : GFlow) (y : GFlow) : Option Bool := if decide (x.to = y.to) = true then ((m_eqExpAsk x.if_ y.if_).bind fun x2 => (if x2 = true then (some true) else (some false))) else (some false)
def k_e_eqNetFlow : Con := ⟨151, [.v (.s .flow) false, .v (.s .flow) false], [(.B, true)], [], fun x => m_e_eqNetFlow x.1 x.2.1⟩
def f_e_eqNetFlow : Fs := ⟨[k_eqExpAsk], []⟩
theorem g_e_eqNetFlow : f_e_eqNetFlow.Ok Try.prog := (fsK o_eqExpAsk fs0)
theorem o_e_eqNetFlow : k_e_eqNetFlow.Ok Try.prog := fn_ok (k := k_e_eqNetFlow) (fn := Try.f151) (W := []) (H := []) Try.func151 g_e_eqNetFlow trivial rfl rfl (fun av x => by kernel_rfl)
noncomputable def m_eqNetFlow (x : GFlow) (y : GFlow) : Option Bool := @gd (True) (Classical.propDecidable _) _ (some (decide (x = y)))
theorem c_eqNetFlow (x : GFlow) (y : GFlow) (h : True) : m_eqNetFlow x y = some (decide (x = y)) := gdC h
theorem s_eqNetFlow (x : GFlow) (y : GFlow) (h : True) : m_e_eqNetFlow x y = some (decide (x = y)) := by
  rw [m_e_eqNetFlow, c_eqExpAsk _ _ trivial, Option.bind_some]
  refine (eq_step (eq_step eq_end)).trans (congrArg some (decide_eq_decide.2 ⟨fun ⟨h0, h1, _⟩ => ?_, fun h => by subst h; simp⟩))
  cases x; cases y; simp_all
noncomputable def k_eqNetFlow : Con := ⟨151, [.v (.s .flow) false, .v (.s .flow) false], [(.B, true)], [], fun x => m_eqNetFlow x.1 x.2.1⟩
theorem o_eqNetFlow : k_eqNetFlow.Ok Try.prog := con_sub o_e_eqNetFlow fun x z hz => by
  obtain ⟨h, e⟩ := gdC_some hz
  subst e
  exact s_eqNetFlow _ _ h

def m_e_eqNetFlowS_k1  : Option Bool := some true
def m_e_eqNetFlowS_l0 (a : List GFlow) (b : List GFlow) (kx0_0 : Option Bool) : Nat → Int → Option Bool
  | 0, _ => none
  | n0 + 1, s0_0 => if decide (s0_0 < (a.length : Int)) = true then ((getI a s0_0).bind fun x3 => ((getI b s0_0).bind fun x4 => ((m_eqNetFlow x3 x4).bind fun x5 => (if x5 = true then (gd (ok64 (s0_0 + 1)) ((m_e_eqNetFlowS_l0 a b kx0_0 n0) (s0_0 + 1))) else (some false))))) else (kx0_0)
def m_e_eqNetFlowS (a : List GFlow) (b : List GFlow) : Option Bool := if decide ((a.length : Int) = (b.length : Int)) = true then (m_e_eqNetFlowS_l0 a b m_e_eqNetFlowS_k1 FUEL 0) else (some false)
def k_e_eqNetFlowS : Con := ⟨142, [.v (.sl (.s .flow)) false, .v (.sl (.s .flow)) false], [(.B, true)], [], fun x => m_e_eqNetFlowS x.1 x.2.1⟩
def f_e_eqNetFlowS : Fs := ⟨[k_eqNetFlow], []⟩
theorem g_e_eqNetFlowS : f_e_eqNetFlowS.Ok Try.prog := (fsK o_eqNetFlow fs0)
def t_e_eqNetFlowS_0 : Tmpl := ⟨[(0, .c (.s (.s .flow))), (1, .c (.s (.s .flow))), (5, .c .i)], []⟩
def x0_e_eqNetFlowS_0 : Tmpl := ⟨[], []⟩
def L_e_eqNetFlowS_0 (av : AV) (x : HP k_e_eqNetFlowS.ps) (n : Nat) (v : t_e_eqNetFlowS_0.den) (K : Ks (CR k_e_eqNetFlowS)) : Option (CR k_e_eqNetFlowS) := m_e_eqNetFlowS_l0 v.1.1 v.1.2.1 (x0_e_eqNetFlowS_0.at none ((), ()) (K (.exit 0))) n v.1.2.2.1
def h_e_eqNetFlowS_0 (av : AV) (x : HP k_e_eqNetFlowS.ps) : Hdl (CR k_e_eqNetFlowS) := hnd [] t_e_eqNetFlowS_0 (L_e_eqNetFlowS_0 av x)
theorem l_e_eqNetFlowS_0 : LP k_e_eqNetFlowS Try.f142 [0] h_e_eqNetFlowS_0 := lp_ok (W := []) (H := []) (xs := [x0_e_eqNetFlowS_0]) g_e_eqNetFlowS trivial rfl (fun av x v K => by kernel_rfl) (fun av x n v K => by kernel_rfl)
theorem o_e_eqNetFlowS : k_e_eqNetFlowS.Ok Try.prog := fn_ok (k := k_e_eqNetFlowS) (fn := Try.f142) (W := []) (H := [h_e_eqNetFlowS_0]) Try.func142 g_e_eqNetFlowS ⟨l_e_eqNetFlowS_0, trivial⟩ rfl rfl (fun av x => by kernel_rfl)
noncomputable def m_eqNetFlowS (a : List GFlow) (b : List GFlow) : Option Bool := @gd ((a.length ≤ 1048576)) (Classical.propDecidable _) _ (some (decide (a = b)))
theorem c_eqNetFlowS (a : List GFlow) (b : List GFlow) (h : (a.length ≤ 1048576)) : m_eqNetFlowS a b = some (decide (a = b)) := gdC h
theorem s_eqNetFlowS (a : List GFlow) (b : List GFlow) (h : (a.length ≤ 1048576)) : m_e_eqNetFlowS a b = some (decide (a = b)) := by
  have hl := h
  refine eq_len fun hab => eq_gen (f := m_e_eqNetFlowS_l0 a b m_e_eqNetFlowS_k1) (by omega) hab (fun n i hi hj => ?_) (fun n => ?_)
  · rw [m_e_eqNetFlowS_l0, if_pos (decide_eq_true (Int.ofNat_lt.2 hi)), getI_lt hi, Option.bind_some, getI_lt hj, Option.bind_some, c_eqNetFlow _ _ trivial, Option.bind_some, gd_pos (ok64i hi h)]; rfl
  · rw [m_e_eqNetFlowS_l0, if_neg (by simp)]; rfl
noncomputable def k_eqNetFlowS : Con := ⟨142, [.v (.sl (.s .flow)) false, .v (.sl (.s .flow)) false], [(.B, true)], [], fun x => m_eqNetFlowS x.1 x.2.1⟩
theorem o_eqNetFlowS : k_eqNetFlowS.Ok Try.prog := con_sub o_e_eqNetFlowS fun x z hz => by
  obtain ⟨h, e⟩ := gdC_some hz
  subst e
  exact s_eqNetFlowS _ _ h

def m_e_eqNetTask (x : GTask) (y : GTask) : Option Bool := if decide (x.join = y.join) = true then (if decide (x.split = y.split) = true then ((m_eqIntS x.in_ y.in_).bind fun x3 => (if x3 = true then ((m_eqNetFlowS x.out y.out).bind fun x5 => (if x5 = true then ((m_eqIntS x.clear y.clear).bind fun x7 => (if x7 = true then (if decide (x.role = y.role) = true then (if decide (x.apart = y.apart) = true then (if decide (x.all = y.all) = true then (if decide (x.need = y.need) = true then (some true) else (some false)) else (some false)) else (some false)) else (some false)) else (some false))) else (some false))) else (some false))) else (some false)) else (some false)
def k_e_eqNetTask : Con := ⟨129, [.v (.s .task) false, .v (.s .task) false], [(.B, true)], [], fun x => m_e_eqNetTask x.1 x.2.1⟩
def f_e_eqNetTask : Fs := ⟨[k_eqIntS, k_eqNetFlowS], []⟩
theorem g_e_eqNetTask : f_e_eqNetTask.Ok Try.prog := (fsK o_eqIntS (fsK o_eqNetFlowS fs0))
theorem o_e_eqNetTask : k_e_eqNetTask.Ok Try.prog := fn_ok (k := k_e_eqNetTask) (fn := Try.f129) (W := []) (H := []) Try.func129 g_e_eqNetTask trivial rfl rfl (fun av x => by kernel_rfl)
noncomputable def m_eqNetTask (x : GTask) (y : GTask) : Option Bool := @gd ((GTask.lens (· ≤ 1048576) x) ∧ (GTask.lens (· ≤ 1048576) y)) (Classical.propDecidable _) _ (some (decide (x = y)))
theorem c_eqNetTask (x : GTask) (y : GTask) (h : (GTask.lens (· ≤ 1048576) x) ∧ (GTask.lens (· ≤ 1048576) y)) : m_eqNetTask x y = some (decide (x = y)) := gdC h
theorem s_eqNetTask (x : GTask) (y : GTask) (h : (GTask.lens (· ≤ 1048576) x) ∧ (GTask.lens (· ≤ 1048576) y)) : m_e_eqNetTask x y = some (decide (x = y)) := by
  rw [m_e_eqNetTask, c_eqIntS _ _ h.1.1, Option.bind_some, c_eqNetFlowS _ _ h.1.2.1, Option.bind_some, c_eqIntS _ _ h.1.2.2, Option.bind_some]
  refine (eq_step (eq_step (eq_step (eq_step (eq_step (eq_step (eq_step (eq_step (eq_step eq_end))))))))).trans (congrArg some (decide_eq_decide.2 ⟨fun ⟨h0, h1, h2, h3, h4, h5, h6, h7, h8, _⟩ => ?_, fun h => by subst h; simp⟩))
  cases x; cases y; simp_all
noncomputable def k_eqNetTask : Con := ⟨129, [.v (.s .task) false, .v (.s .task) false], [(.B, true)], [], fun x => m_eqNetTask x.1 x.2.1⟩
theorem o_eqNetTask : k_eqNetTask.Ok Try.prog := con_sub o_e_eqNetTask fun x z hz => by
  obtain ⟨h, e⟩ := gdC_some hz
  subst e
  exact s_eqNetTask _ _ h

def m_e_eqNetTaskS_k1  : Option Bool := some true
def m_e_eqNetTaskS_l0 (a : List GTask) (b : List GTask) (kx0_0 : Option Bool) : Nat → Int → Option Bool
  | 0, _ => none
  | n0 + 1, s0_0 => if decide (s0_0 < (a.length : Int)) = true then ((getI a s0_0).bind fun x3 => ((getI b s0_0).bind fun x4 => ((m_eqNetTask x3 x4).bind fun x5 => (if x5 = true then (gd (ok64 (s0_0 + 1)) ((m_e_eqNetTaskS_l0 a b kx0_0 n0) (s0_0 + 1))) else (some false))))) else (kx0_0)
def m_e_eqNetTaskS (a : List GTask) (b : List GTask) : Option Bool := if decide ((a.length : Int) = (b.length : Int)) = true then (m_e_eqNetTaskS_l0 a b m_e_eqNetTaskS_k1 FUEL 0) else (some false)
def k_e_eqNetTaskS : Con := ⟨82, [.v (.sl (.s .task)) false, .v (.sl (.s .task)) false], [(.B, true)], [], fun x => m_e_eqNetTaskS x.1 x.2.1⟩
def f_e_eqNetTaskS : Fs := ⟨[k_eqNetTask], []⟩
theorem g_e_eqNetTaskS : f_e_eqNetTaskS.Ok Try.prog := (fsK o_eqNetTask fs0)
def t_e_eqNetTaskS_0 : Tmpl := ⟨[(0, .c (.s (.s .task))), (1, .c (.s (.s .task))), (5, .c .i)], []⟩
def x0_e_eqNetTaskS_0 : Tmpl := ⟨[], []⟩
def L_e_eqNetTaskS_0 (av : AV) (x : HP k_e_eqNetTaskS.ps) (n : Nat) (v : t_e_eqNetTaskS_0.den) (K : Ks (CR k_e_eqNetTaskS)) : Option (CR k_e_eqNetTaskS) := m_e_eqNetTaskS_l0 v.1.1 v.1.2.1 (x0_e_eqNetTaskS_0.at none ((), ()) (K (.exit 0))) n v.1.2.2.1
def h_e_eqNetTaskS_0 (av : AV) (x : HP k_e_eqNetTaskS.ps) : Hdl (CR k_e_eqNetTaskS) := hnd [] t_e_eqNetTaskS_0 (L_e_eqNetTaskS_0 av x)
theorem l_e_eqNetTaskS_0 : LP k_e_eqNetTaskS Try.f82 [0] h_e_eqNetTaskS_0 := lp_ok (W := []) (H := []) (xs := [x0_e_eqNetTaskS_0]) g_e_eqNetTaskS trivial rfl (fun av x v K => by kernel_rfl) (fun av x n v K => by kernel_rfl)
theorem o_e_eqNetTaskS : k_e_eqNetTaskS.Ok Try.prog := fn_ok (k := k_e_eqNetTaskS) (fn := Try.f82) (W := []) (H := [h_e_eqNetTaskS_0]) Try.func82 g_e_eqNetTaskS ⟨l_e_eqNetTaskS_0, trivial⟩ rfl rfl (fun av x => by kernel_rfl)
noncomputable def m_eqNetTaskS (a : List GTask) (b : List GTask) : Option Bool := @gd ((a.length ≤ 1048576) ∧ (∀ y ∈ a, GTask.lens (· ≤ 1048576) y) ∧ (∀ y ∈ b, GTask.lens (· ≤ 1048576) y)) (Classical.propDecidable _) _ (some (decide (a = b)))
theorem c_eqNetTaskS (a : List GTask) (b : List GTask) (h : (a.length ≤ 1048576) ∧ (∀ y ∈ a, GTask.lens (· ≤ 1048576) y) ∧ (∀ y ∈ b, GTask.lens (· ≤ 1048576) y)) : m_eqNetTaskS a b = some (decide (a = b)) := gdC h
theorem s_eqNetTaskS (a : List GTask) (b : List GTask) (h : (a.length ≤ 1048576) ∧ (∀ y ∈ a, GTask.lens (· ≤ 1048576) y) ∧ (∀ y ∈ b, GTask.lens (· ≤ 1048576) y)) : m_e_eqNetTaskS a b = some (decide (a = b)) := by
  have hl := h.1
  refine eq_len fun hab => eq_gen (f := m_e_eqNetTaskS_l0 a b m_e_eqNetTaskS_k1) (by omega) hab (fun n i hi hj => ?_) (fun n => ?_)
  · rw [m_e_eqNetTaskS_l0, if_pos (decide_eq_true (Int.ofNat_lt.2 hi)), getI_lt hi, Option.bind_some, getI_lt hj, Option.bind_some, c_eqNetTask _ _ ⟨h.2.1 _ (List.getElem_mem _), h.2.2 _ (List.getElem_mem _)⟩, Option.bind_some, gd_pos (ok64i hi h.1)]; rfl
  · rw [m_e_eqNetTaskS_l0, if_neg (by simp)]; rfl
noncomputable def k_eqNetTaskS : Con := ⟨82, [.v (.sl (.s .task)) false, .v (.sl (.s .task)) false], [(.B, true)], [], fun x => m_eqNetTaskS x.1 x.2.1⟩
theorem o_eqNetTaskS : k_eqNetTaskS.Ok Try.prog := con_sub o_e_eqNetTaskS fun x z hz => by
  obtain ⟨h, e⟩ := gdC_some hz
  subst e
  exact s_eqNetTaskS _ _ h

def m_e_eqNetNet (x : GNet) (y : GNet) : Option Bool := if decide (x.places = y.places) = true then ((m_eqNetTaskS x.tasks y.tasks).bind fun x2 => (if x2 = true then (some true) else (some false))) else (some false)
def k_e_eqNetNet : Con := ⟨37, [.v (.s .net) false, .v (.s .net) false], [(.B, true)], [], fun x => m_e_eqNetNet x.1 x.2.1⟩
def f_e_eqNetNet : Fs := ⟨[k_eqNetTaskS], []⟩
theorem g_e_eqNetNet : f_e_eqNetNet.Ok Try.prog := (fsK o_eqNetTaskS fs0)
theorem o_e_eqNetNet : k_e_eqNetNet.Ok Try.prog := fn_ok (k := k_e_eqNetNet) (fn := Try.f37) (W := []) (H := []) Try.func37 g_e_eqNetNet trivial rfl rfl (fun av x => by kernel_rfl)
noncomputable def m_eqNetNet (x : GNet) (y : GNet) : Option Bool := @gd ((GNet.lens (· ≤ 1048576) x) ∧ (GNet.lens (· ≤ 1048576) y)) (Classical.propDecidable _) _ (some (decide (x = y)))
theorem c_eqNetNet (x : GNet) (y : GNet) (h : (GNet.lens (· ≤ 1048576) x) ∧ (GNet.lens (· ≤ 1048576) y)) : m_eqNetNet x y = some (decide (x = y)) := gdC h
theorem s_eqNetNet (x : GNet) (y : GNet) (h : (GNet.lens (· ≤ 1048576) x) ∧ (GNet.lens (· ≤ 1048576) y)) : m_e_eqNetNet x y = some (decide (x = y)) := by
  rw [m_e_eqNetNet, c_eqNetTaskS _ _ ⟨h.1.1, h.1.2, h.2.2⟩, Option.bind_some]
  refine (eq_step (eq_step eq_end)).trans (congrArg some (decide_eq_decide.2 ⟨fun ⟨h0, h1, _⟩ => ?_, fun h => by subst h; simp⟩))
  cases x; cases y; simp_all
noncomputable def k_eqNetNet : Con := ⟨37, [.v (.s .net) false, .v (.s .net) false], [(.B, true)], [], fun x => m_eqNetNet x.1 x.2.1⟩
theorem o_eqNetNet : k_eqNetNet.Ok Try.prog := con_sub o_e_eqNetNet fun x z hz => by
  obtain ⟨h, e⟩ := gdC_some hz
  subst e
  exact s_eqNetNet _ _ h

def m_e_eqNetNetS_k1  : Option Bool := some true
def m_e_eqNetNetS_l0 (a : List GNet) (b : List GNet) (kx0_0 : Option Bool) : Nat → Int → Option Bool
  | 0, _ => none
  | n0 + 1, s0_0 => if decide (s0_0 < (a.length : Int)) = true then ((getI a s0_0).bind fun x3 => ((getI b s0_0).bind fun x4 => ((m_eqNetNet x3 x4).bind fun x5 => (if x5 = true then (gd (ok64 (s0_0 + 1)) ((m_e_eqNetNetS_l0 a b kx0_0 n0) (s0_0 + 1))) else (some false))))) else (kx0_0)
def m_e_eqNetNetS (a : List GNet) (b : List GNet) : Option Bool := if decide ((a.length : Int) = (b.length : Int)) = true then (m_e_eqNetNetS_l0 a b m_e_eqNetNetS_k1 FUEL 0) else (some false)
def k_e_eqNetNetS : Con := ⟨66, [.v (.sl (.s .net)) false, .v (.sl (.s .net)) false], [(.B, true)], [], fun x => m_e_eqNetNetS x.1 x.2.1⟩
def f_e_eqNetNetS : Fs := ⟨[k_eqNetNet], []⟩
theorem g_e_eqNetNetS : f_e_eqNetNetS.Ok Try.prog := (fsK o_eqNetNet fs0)
def t_e_eqNetNetS_0 : Tmpl := ⟨[(0, .c (.s (.s .net))), (1, .c (.s (.s .net))), (5, .c .i)], []⟩
def x0_e_eqNetNetS_0 : Tmpl := ⟨[], []⟩
def L_e_eqNetNetS_0 (av : AV) (x : HP k_e_eqNetNetS.ps) (n : Nat) (v : t_e_eqNetNetS_0.den) (K : Ks (CR k_e_eqNetNetS)) : Option (CR k_e_eqNetNetS) := m_e_eqNetNetS_l0 v.1.1 v.1.2.1 (x0_e_eqNetNetS_0.at none ((), ()) (K (.exit 0))) n v.1.2.2.1
def h_e_eqNetNetS_0 (av : AV) (x : HP k_e_eqNetNetS.ps) : Hdl (CR k_e_eqNetNetS) := hnd [] t_e_eqNetNetS_0 (L_e_eqNetNetS_0 av x)
theorem l_e_eqNetNetS_0 : LP k_e_eqNetNetS Try.f66 [0] h_e_eqNetNetS_0 := lp_ok (W := []) (H := []) (xs := [x0_e_eqNetNetS_0]) g_e_eqNetNetS trivial rfl (fun av x v K => by kernel_rfl) (fun av x n v K => by kernel_rfl)
theorem o_e_eqNetNetS : k_e_eqNetNetS.Ok Try.prog := fn_ok (k := k_e_eqNetNetS) (fn := Try.f66) (W := []) (H := [h_e_eqNetNetS_0]) Try.func66 g_e_eqNetNetS ⟨l_e_eqNetNetS_0, trivial⟩ rfl rfl (fun av x => by kernel_rfl)
noncomputable def m_eqNetNetS (a : List GNet) (b : List GNet) : Option Bool := @gd ((a.length ≤ 1048576) ∧ (∀ y ∈ a, GNet.lens (· ≤ 1048576) y) ∧ (∀ y ∈ b, GNet.lens (· ≤ 1048576) y)) (Classical.propDecidable _) _ (some (decide (a = b)))
theorem c_eqNetNetS (a : List GNet) (b : List GNet) (h : (a.length ≤ 1048576) ∧ (∀ y ∈ a, GNet.lens (· ≤ 1048576) y) ∧ (∀ y ∈ b, GNet.lens (· ≤ 1048576) y)) : m_eqNetNetS a b = some (decide (a = b)) := gdC h
theorem s_eqNetNetS (a : List GNet) (b : List GNet) (h : (a.length ≤ 1048576) ∧ (∀ y ∈ a, GNet.lens (· ≤ 1048576) y) ∧ (∀ y ∈ b, GNet.lens (· ≤ 1048576) y)) : m_e_eqNetNetS a b = some (decide (a = b)) := by
  have hl := h.1
  refine eq_len fun hab => eq_gen (f := m_e_eqNetNetS_l0 a b m_e_eqNetNetS_k1) (by omega) hab (fun n i hi hj => ?_) (fun n => ?_)
  · rw [m_e_eqNetNetS_l0, if_pos (decide_eq_true (Int.ofNat_lt.2 hi)), getI_lt hi, Option.bind_some, getI_lt hj, Option.bind_some, c_eqNetNet _ _ ⟨h.2.1 _ (List.getElem_mem _), h.2.2 _ (List.getElem_mem _)⟩, Option.bind_some, gd_pos (ok64i hi h.1)]; rfl
  · rw [m_e_eqNetNetS_l0, if_neg (by simp)]; rfl
noncomputable def k_eqNetNetS : Con := ⟨66, [.v (.sl (.s .net)) false, .v (.sl (.s .net)) false], [(.B, true)], [], fun x => m_eqNetNetS x.1 x.2.1⟩
theorem o_eqNetNetS : k_eqNetNetS.Ok Try.prog := con_sub o_e_eqNetNetS fun x z hz => by
  obtain ⟨h, e⟩ := gdC_some hz
  subst e
  exact s_eqNetNetS _ _ h

def m_e_eqCasItem (x : GItem) (y : GItem) : Option Bool := if decide (x.task = y.task) = true then (if decide (x.who = y.who) = true then (if decide (x.did = y.did) = true then (some true) else (some false)) else (some false)) else (some false)
def k_e_eqCasItem : Con := ⟨130, [.v (.s .item) false, .v (.s .item) false], [(.B, true)], [], fun x => m_e_eqCasItem x.1 x.2.1⟩
def f_e_eqCasItem : Fs := ⟨[], []⟩
theorem g_e_eqCasItem : f_e_eqCasItem.Ok Try.prog := fs0
theorem o_e_eqCasItem : k_e_eqCasItem.Ok Try.prog := fn_ok (k := k_e_eqCasItem) (fn := Try.f130) (W := []) (H := []) Try.func130 g_e_eqCasItem trivial rfl rfl (fun av x => by kernel_rfl)
noncomputable def m_eqCasItem (x : GItem) (y : GItem) : Option Bool := @gd (True) (Classical.propDecidable _) _ (some (decide (x = y)))
theorem c_eqCasItem (x : GItem) (y : GItem) (h : True) : m_eqCasItem x y = some (decide (x = y)) := gdC h
theorem s_eqCasItem (x : GItem) (y : GItem) (h : True) : m_e_eqCasItem x y = some (decide (x = y)) := by
  unfold m_e_eqCasItem
  refine (eq_step (eq_step (eq_step eq_end))).trans (congrArg some (decide_eq_decide.2 ⟨fun ⟨h0, h1, h2, _⟩ => ?_, fun h => by subst h; simp⟩))
  cases x; cases y; simp_all
noncomputable def k_eqCasItem : Con := ⟨130, [.v (.s .item) false, .v (.s .item) false], [(.B, true)], [], fun x => m_eqCasItem x.1 x.2.1⟩
theorem o_eqCasItem : k_eqCasItem.Ok Try.prog := con_sub o_e_eqCasItem fun x z hz => by
  obtain ⟨h, e⟩ := gdC_some hz
  subst e
  exact s_eqCasItem _ _ h

def m_e_eqCasItemS_k1  : Option Bool := some true
def m_e_eqCasItemS_l0 (a : List GItem) (b : List GItem) (kx0_0 : Option Bool) : Nat → Int → Option Bool
  | 0, _ => none
  | n0 + 1, s0_0 => if decide (s0_0 < (a.length : Int)) = true then ((getI a s0_0).bind fun x3 => ((getI b s0_0).bind fun x4 => ((m_eqCasItem x3 x4).bind fun x5 => (if x5 = true then (gd (ok64 (s0_0 + 1)) ((m_e_eqCasItemS_l0 a b kx0_0 n0) (s0_0 + 1))) else (some false))))) else (kx0_0)
def m_e_eqCasItemS (a : List GItem) (b : List GItem) : Option Bool := if decide ((a.length : Int) = (b.length : Int)) = true then (m_e_eqCasItemS_l0 a b m_e_eqCasItemS_k1 FUEL 0) else (some false)
def k_e_eqCasItemS : Con := ⟨83, [.v (.sl (.s .item)) false, .v (.sl (.s .item)) false], [(.B, true)], [], fun x => m_e_eqCasItemS x.1 x.2.1⟩
def f_e_eqCasItemS : Fs := ⟨[k_eqCasItem], []⟩
theorem g_e_eqCasItemS : f_e_eqCasItemS.Ok Try.prog := (fsK o_eqCasItem fs0)
def t_e_eqCasItemS_0 : Tmpl := ⟨[(0, .c (.s (.s .item))), (1, .c (.s (.s .item))), (5, .c .i)], []⟩
def x0_e_eqCasItemS_0 : Tmpl := ⟨[], []⟩
def L_e_eqCasItemS_0 (av : AV) (x : HP k_e_eqCasItemS.ps) (n : Nat) (v : t_e_eqCasItemS_0.den) (K : Ks (CR k_e_eqCasItemS)) : Option (CR k_e_eqCasItemS) := m_e_eqCasItemS_l0 v.1.1 v.1.2.1 (x0_e_eqCasItemS_0.at none ((), ()) (K (.exit 0))) n v.1.2.2.1
def h_e_eqCasItemS_0 (av : AV) (x : HP k_e_eqCasItemS.ps) : Hdl (CR k_e_eqCasItemS) := hnd [] t_e_eqCasItemS_0 (L_e_eqCasItemS_0 av x)
theorem l_e_eqCasItemS_0 : LP k_e_eqCasItemS Try.f83 [0] h_e_eqCasItemS_0 := lp_ok (W := []) (H := []) (xs := [x0_e_eqCasItemS_0]) g_e_eqCasItemS trivial rfl (fun av x v K => by kernel_rfl) (fun av x n v K => by kernel_rfl)
theorem o_e_eqCasItemS : k_e_eqCasItemS.Ok Try.prog := fn_ok (k := k_e_eqCasItemS) (fn := Try.f83) (W := []) (H := [h_e_eqCasItemS_0]) Try.func83 g_e_eqCasItemS ⟨l_e_eqCasItemS_0, trivial⟩ rfl rfl (fun av x => by kernel_rfl)
noncomputable def m_eqCasItemS (a : List GItem) (b : List GItem) : Option Bool := @gd ((a.length ≤ 1048576)) (Classical.propDecidable _) _ (some (decide (a = b)))
theorem c_eqCasItemS (a : List GItem) (b : List GItem) (h : (a.length ≤ 1048576)) : m_eqCasItemS a b = some (decide (a = b)) := gdC h
theorem s_eqCasItemS (a : List GItem) (b : List GItem) (h : (a.length ≤ 1048576)) : m_e_eqCasItemS a b = some (decide (a = b)) := by
  have hl := h
  refine eq_len fun hab => eq_gen (f := m_e_eqCasItemS_l0 a b m_e_eqCasItemS_k1) (by omega) hab (fun n i hi hj => ?_) (fun n => ?_)
  · rw [m_e_eqCasItemS_l0, if_pos (decide_eq_true (Int.ofNat_lt.2 hi)), getI_lt hi, Option.bind_some, getI_lt hj, Option.bind_some, c_eqCasItem _ _ trivial, Option.bind_some, gd_pos (ok64i hi h)]; rfl
  · rw [m_e_eqCasItemS_l0, if_neg (by simp)]; rfl
noncomputable def k_eqCasItemS : Con := ⟨83, [.v (.sl (.s .item)) false, .v (.sl (.s .item)) false], [(.B, true)], [], fun x => m_eqCasItemS x.1 x.2.1⟩
theorem o_eqCasItemS : k_eqCasItemS.Ok Try.prog := con_sub o_e_eqCasItemS fun x z hz => by
  obtain ⟨h, e⟩ := gdC_some hz
  subst e
  exact s_eqCasItemS _ _ h

def m_e_eqCasDid (x : GDid) (y : GDid) : Option Bool := if decide (x.task = y.task) = true then (if decide (x.who = y.who) = true then (some true) else (some false)) else (some false)
def k_e_eqCasDid : Con := ⟨131, [.v (.s .did) false, .v (.s .did) false], [(.B, true)], [], fun x => m_e_eqCasDid x.1 x.2.1⟩
def f_e_eqCasDid : Fs := ⟨[], []⟩
theorem g_e_eqCasDid : f_e_eqCasDid.Ok Try.prog := fs0
theorem o_e_eqCasDid : k_e_eqCasDid.Ok Try.prog := fn_ok (k := k_e_eqCasDid) (fn := Try.f131) (W := []) (H := []) Try.func131 g_e_eqCasDid trivial rfl rfl (fun av x => by kernel_rfl)
noncomputable def m_eqCasDid (x : GDid) (y : GDid) : Option Bool := @gd (True) (Classical.propDecidable _) _ (some (decide (x = y)))
theorem c_eqCasDid (x : GDid) (y : GDid) (h : True) : m_eqCasDid x y = some (decide (x = y)) := gdC h
theorem s_eqCasDid (x : GDid) (y : GDid) (h : True) : m_e_eqCasDid x y = some (decide (x = y)) := by
  unfold m_e_eqCasDid
  refine (eq_step (eq_step eq_end)).trans (congrArg some (decide_eq_decide.2 ⟨fun ⟨h0, h1, _⟩ => ?_, fun h => by subst h; simp⟩))
  cases x; cases y; simp_all
noncomputable def k_eqCasDid : Con := ⟨131, [.v (.s .did) false, .v (.s .did) false], [(.B, true)], [], fun x => m_eqCasDid x.1 x.2.1⟩
theorem o_eqCasDid : k_eqCasDid.Ok Try.prog := con_sub o_e_eqCasDid fun x z hz => by
  obtain ⟨h, e⟩ := gdC_some hz
  subst e
  exact s_eqCasDid _ _ h

def m_e_eqCasDidS_k1  : Option Bool := some true
def m_e_eqCasDidS_l0 (a : List GDid) (b : List GDid) (kx0_0 : Option Bool) : Nat → Int → Option Bool
  | 0, _ => none
  | n0 + 1, s0_0 => if decide (s0_0 < (a.length : Int)) = true then ((getI a s0_0).bind fun x3 => ((getI b s0_0).bind fun x4 => ((m_eqCasDid x3 x4).bind fun x5 => (if x5 = true then (gd (ok64 (s0_0 + 1)) ((m_e_eqCasDidS_l0 a b kx0_0 n0) (s0_0 + 1))) else (some false))))) else (kx0_0)
def m_e_eqCasDidS (a : List GDid) (b : List GDid) : Option Bool := if decide ((a.length : Int) = (b.length : Int)) = true then (m_e_eqCasDidS_l0 a b m_e_eqCasDidS_k1 FUEL 0) else (some false)
def k_e_eqCasDidS : Con := ⟨84, [.v (.sl (.s .did)) false, .v (.sl (.s .did)) false], [(.B, true)], [], fun x => m_e_eqCasDidS x.1 x.2.1⟩
def f_e_eqCasDidS : Fs := ⟨[k_eqCasDid], []⟩
theorem g_e_eqCasDidS : f_e_eqCasDidS.Ok Try.prog := (fsK o_eqCasDid fs0)
def t_e_eqCasDidS_0 : Tmpl := ⟨[(0, .c (.s (.s .did))), (1, .c (.s (.s .did))), (5, .c .i)], []⟩
def x0_e_eqCasDidS_0 : Tmpl := ⟨[], []⟩
def L_e_eqCasDidS_0 (av : AV) (x : HP k_e_eqCasDidS.ps) (n : Nat) (v : t_e_eqCasDidS_0.den) (K : Ks (CR k_e_eqCasDidS)) : Option (CR k_e_eqCasDidS) := m_e_eqCasDidS_l0 v.1.1 v.1.2.1 (x0_e_eqCasDidS_0.at none ((), ()) (K (.exit 0))) n v.1.2.2.1
def h_e_eqCasDidS_0 (av : AV) (x : HP k_e_eqCasDidS.ps) : Hdl (CR k_e_eqCasDidS) := hnd [] t_e_eqCasDidS_0 (L_e_eqCasDidS_0 av x)
theorem l_e_eqCasDidS_0 : LP k_e_eqCasDidS Try.f84 [0] h_e_eqCasDidS_0 := lp_ok (W := []) (H := []) (xs := [x0_e_eqCasDidS_0]) g_e_eqCasDidS trivial rfl (fun av x v K => by kernel_rfl) (fun av x n v K => by kernel_rfl)
theorem o_e_eqCasDidS : k_e_eqCasDidS.Ok Try.prog := fn_ok (k := k_e_eqCasDidS) (fn := Try.f84) (W := []) (H := [h_e_eqCasDidS_0]) Try.func84 g_e_eqCasDidS ⟨l_e_eqCasDidS_0, trivial⟩ rfl rfl (fun av x => by kernel_rfl)
noncomputable def m_eqCasDidS (a : List GDid) (b : List GDid) : Option Bool := @gd ((a.length ≤ 1048576)) (Classical.propDecidable _) _ (some (decide (a = b)))
theorem c_eqCasDidS (a : List GDid) (b : List GDid) (h : (a.length ≤ 1048576)) : m_eqCasDidS a b = some (decide (a = b)) := gdC h
theorem s_eqCasDidS (a : List GDid) (b : List GDid) (h : (a.length ≤ 1048576)) : m_e_eqCasDidS a b = some (decide (a = b)) := by
  have hl := h
  refine eq_len fun hab => eq_gen (f := m_e_eqCasDidS_l0 a b m_e_eqCasDidS_k1) (by omega) hab (fun n i hi hj => ?_) (fun n => ?_)
  · rw [m_e_eqCasDidS_l0, if_pos (decide_eq_true (Int.ofNat_lt.2 hi)), getI_lt hi, Option.bind_some, getI_lt hj, Option.bind_some, c_eqCasDid _ _ trivial, Option.bind_some, gd_pos (ok64i hi h)]; rfl
  · rw [m_e_eqCasDidS_l0, if_neg (by simp)]; rfl
noncomputable def k_eqCasDidS : Con := ⟨84, [.v (.sl (.s .did)) false, .v (.sl (.s .did)) false], [(.B, true)], [], fun x => m_eqCasDidS x.1 x.2.1⟩
theorem o_eqCasDidS : k_eqCasDidS.Ok Try.prog := con_sub o_e_eqCasDidS fun x z hz => by
  obtain ⟨h, e⟩ := gdC_some hz
  subst e
  exact s_eqCasDidS _ _ h

def m_e_eqRdrNode (x : GNode) (y : GNode) : Option Bool := (m_eqExpAsk x.if_ y.if_).bind fun x1 => (if x1 = true then (if decide (x.yes = y.yes) = true then (if decide (x.no = y.no) = true then (if decide (x.ans = y.ans) = true then ((m_eqIntS x.stone y.stone).bind fun x6 => (if x6 = true then (some true) else (some false))) else (some false)) else (some false)) else (some false)) else (some false))
def k_e_eqRdrNode : Con := ⟨115, [.v (.s .node) false, .v (.s .node) false], [(.B, true)], [], fun x => m_e_eqRdrNode x.1 x.2.1⟩
def f_e_eqRdrNode : Fs := ⟨[k_eqExpAsk, k_eqIntS], []⟩
theorem g_e_eqRdrNode : f_e_eqRdrNode.Ok Try.prog := (fsK o_eqExpAsk (fsK o_eqIntS fs0))
theorem o_e_eqRdrNode : k_e_eqRdrNode.Ok Try.prog := fn_ok (k := k_e_eqRdrNode) (fn := Try.f115) (W := []) (H := []) Try.func115 g_e_eqRdrNode trivial rfl rfl (fun av x => by kernel_rfl)
noncomputable def m_eqRdrNode (x : GNode) (y : GNode) : Option Bool := @gd ((GNode.lens (· ≤ 1048576) x) ∧ (GNode.lens (· ≤ 1048576) y)) (Classical.propDecidable _) _ (some (decide (x = y)))
theorem c_eqRdrNode (x : GNode) (y : GNode) (h : (GNode.lens (· ≤ 1048576) x) ∧ (GNode.lens (· ≤ 1048576) y)) : m_eqRdrNode x y = some (decide (x = y)) := gdC h
theorem s_eqRdrNode (x : GNode) (y : GNode) (h : (GNode.lens (· ≤ 1048576) x) ∧ (GNode.lens (· ≤ 1048576) y)) : m_e_eqRdrNode x y = some (decide (x = y)) := by
  rw [m_e_eqRdrNode, c_eqExpAsk _ _ trivial, Option.bind_some, c_eqIntS _ _ h.1, Option.bind_some]
  refine (eq_step (eq_step (eq_step (eq_step (eq_step eq_end))))).trans (congrArg some (decide_eq_decide.2 ⟨fun ⟨h0, h1, h2, h3, h4, _⟩ => ?_, fun h => by subst h; simp⟩))
  cases x; cases y; simp_all
noncomputable def k_eqRdrNode : Con := ⟨115, [.v (.s .node) false, .v (.s .node) false], [(.B, true)], [], fun x => m_eqRdrNode x.1 x.2.1⟩
theorem o_eqRdrNode : k_eqRdrNode.Ok Try.prog := con_sub o_e_eqRdrNode fun x z hz => by
  obtain ⟨h, e⟩ := gdC_some hz
  subst e
  exact s_eqRdrNode _ _ h

def m_e_eqRdrNodeS_k1  : Option Bool := some true
def m_e_eqRdrNodeS_l0 (a : List GNode) (b : List GNode) (kx0_0 : Option Bool) : Nat → Int → Option Bool
  | 0, _ => none
  | n0 + 1, s0_0 => if decide (s0_0 < (a.length : Int)) = true then ((getI a s0_0).bind fun x3 => ((getI b s0_0).bind fun x4 => ((m_eqRdrNode x3 x4).bind fun x5 => (if x5 = true then (gd (ok64 (s0_0 + 1)) ((m_e_eqRdrNodeS_l0 a b kx0_0 n0) (s0_0 + 1))) else (some false))))) else (kx0_0)
def m_e_eqRdrNodeS (a : List GNode) (b : List GNode) : Option Bool := if decide ((a.length : Int) = (b.length : Int)) = true then (m_e_eqRdrNodeS_l0 a b m_e_eqRdrNodeS_k1 FUEL 0) else (some false)
def k_e_eqRdrNodeS : Con := ⟨67, [.v (.sl (.s .node)) false, .v (.sl (.s .node)) false], [(.B, true)], [], fun x => m_e_eqRdrNodeS x.1 x.2.1⟩
def f_e_eqRdrNodeS : Fs := ⟨[k_eqRdrNode], []⟩
theorem g_e_eqRdrNodeS : f_e_eqRdrNodeS.Ok Try.prog := (fsK o_eqRdrNode fs0)
def t_e_eqRdrNodeS_0 : Tmpl := ⟨[(0, .c (.s (.s .node))), (1, .c (.s (.s .node))), (5, .c .i)], []⟩
def x0_e_eqRdrNodeS_0 : Tmpl := ⟨[], []⟩
def L_e_eqRdrNodeS_0 (av : AV) (x : HP k_e_eqRdrNodeS.ps) (n : Nat) (v : t_e_eqRdrNodeS_0.den) (K : Ks (CR k_e_eqRdrNodeS)) : Option (CR k_e_eqRdrNodeS) := m_e_eqRdrNodeS_l0 v.1.1 v.1.2.1 (x0_e_eqRdrNodeS_0.at none ((), ()) (K (.exit 0))) n v.1.2.2.1
def h_e_eqRdrNodeS_0 (av : AV) (x : HP k_e_eqRdrNodeS.ps) : Hdl (CR k_e_eqRdrNodeS) := hnd [] t_e_eqRdrNodeS_0 (L_e_eqRdrNodeS_0 av x)
theorem l_e_eqRdrNodeS_0 : LP k_e_eqRdrNodeS Try.f67 [0] h_e_eqRdrNodeS_0 := lp_ok (W := []) (H := []) (xs := [x0_e_eqRdrNodeS_0]) g_e_eqRdrNodeS trivial rfl (fun av x v K => by kernel_rfl) (fun av x n v K => by kernel_rfl)
theorem o_e_eqRdrNodeS : k_e_eqRdrNodeS.Ok Try.prog := fn_ok (k := k_e_eqRdrNodeS) (fn := Try.f67) (W := []) (H := [h_e_eqRdrNodeS_0]) Try.func67 g_e_eqRdrNodeS ⟨l_e_eqRdrNodeS_0, trivial⟩ rfl rfl (fun av x => by kernel_rfl)
noncomputable def m_eqRdrNodeS (a : List GNode) (b : List GNode) : Option Bool := @gd ((a.length ≤ 1048576) ∧ (∀ y ∈ a, GNode.lens (· ≤ 1048576) y) ∧ (∀ y ∈ b, GNode.lens (· ≤ 1048576) y)) (Classical.propDecidable _) _ (some (decide (a = b)))
theorem c_eqRdrNodeS (a : List GNode) (b : List GNode) (h : (a.length ≤ 1048576) ∧ (∀ y ∈ a, GNode.lens (· ≤ 1048576) y) ∧ (∀ y ∈ b, GNode.lens (· ≤ 1048576) y)) : m_eqRdrNodeS a b = some (decide (a = b)) := gdC h
theorem s_eqRdrNodeS (a : List GNode) (b : List GNode) (h : (a.length ≤ 1048576) ∧ (∀ y ∈ a, GNode.lens (· ≤ 1048576) y) ∧ (∀ y ∈ b, GNode.lens (· ≤ 1048576) y)) : m_e_eqRdrNodeS a b = some (decide (a = b)) := by
  have hl := h.1
  refine eq_len fun hab => eq_gen (f := m_e_eqRdrNodeS_l0 a b m_e_eqRdrNodeS_k1) (by omega) hab (fun n i hi hj => ?_) (fun n => ?_)
  · rw [m_e_eqRdrNodeS_l0, if_pos (decide_eq_true (Int.ofNat_lt.2 hi)), getI_lt hi, Option.bind_some, getI_lt hj, Option.bind_some, c_eqRdrNode _ _ ⟨h.2.1 _ (List.getElem_mem _), h.2.2 _ (List.getElem_mem _)⟩, Option.bind_some, gd_pos (ok64i hi h.1)]; rfl
  · rw [m_e_eqRdrNodeS_l0, if_neg (by simp)]; rfl
noncomputable def k_eqRdrNodeS : Con := ⟨67, [.v (.sl (.s .node)) false, .v (.sl (.s .node)) false], [(.B, true)], [], fun x => m_eqRdrNodeS x.1 x.2.1⟩
theorem o_eqRdrNodeS : k_eqRdrNodeS.Ok Try.prog := con_sub o_e_eqRdrNodeS fun x z hz => by
  obtain ⟨h, e⟩ := gdC_some hz
  subst e
  exact s_eqRdrNodeS _ _ h

def m_e_eqCasCase (x : GCase) (y : GCase) : Option Bool := if decide (x.state = y.state) = true then ((m_eqIntS x.marks y.marks).bind fun x2 => (if x2 = true then ((m_eqCasItemS x.busy y.busy).bind fun x4 => (if x4 = true then ((m_eqIntS x.data y.data).bind fun x6 => (if x6 = true then ((m_eqCasDidS x.did y.did).bind fun x8 => (if x8 = true then (some true) else (some false))) else (some false))) else (some false))) else (some false))) else (some false)
def k_e_eqCasCase : Con := ⟨38, [.v (.s .kase) false, .v (.s .kase) false], [(.B, true)], [], fun x => m_e_eqCasCase x.1 x.2.1⟩
def f_e_eqCasCase : Fs := ⟨[k_eqIntS, k_eqCasItemS, k_eqCasDidS], []⟩
theorem g_e_eqCasCase : f_e_eqCasCase.Ok Try.prog := (fsK o_eqIntS (fsK o_eqCasItemS (fsK o_eqCasDidS fs0)))
theorem o_e_eqCasCase : k_e_eqCasCase.Ok Try.prog := fn_ok (k := k_e_eqCasCase) (fn := Try.f38) (W := []) (H := []) Try.func38 g_e_eqCasCase trivial rfl rfl (fun av x => by kernel_rfl)
noncomputable def m_eqCasCase (x : GCase) (y : GCase) : Option Bool := @gd ((GCase.lens (· ≤ 1048576) x) ∧ (GCase.lens (· ≤ 1048576) y)) (Classical.propDecidable _) _ (some (decide (x = y)))
theorem c_eqCasCase (x : GCase) (y : GCase) (h : (GCase.lens (· ≤ 1048576) x) ∧ (GCase.lens (· ≤ 1048576) y)) : m_eqCasCase x y = some (decide (x = y)) := gdC h
theorem s_eqCasCase (x : GCase) (y : GCase) (h : (GCase.lens (· ≤ 1048576) x) ∧ (GCase.lens (· ≤ 1048576) y)) : m_e_eqCasCase x y = some (decide (x = y)) := by
  rw [m_e_eqCasCase, c_eqIntS _ _ h.1.1, Option.bind_some, c_eqCasItemS _ _ h.1.2.1, Option.bind_some, c_eqIntS _ _ h.1.2.2.1, Option.bind_some, c_eqCasDidS _ _ h.1.2.2.2, Option.bind_some]
  refine (eq_step (eq_step (eq_step (eq_step (eq_step eq_end))))).trans (congrArg some (decide_eq_decide.2 ⟨fun ⟨h0, h1, h2, h3, h4, _⟩ => ?_, fun h => by subst h; simp⟩))
  cases x; cases y; simp_all
noncomputable def k_eqCasCase : Con := ⟨38, [.v (.s .kase) false, .v (.s .kase) false], [(.B, true)], [], fun x => m_eqCasCase x.1 x.2.1⟩
theorem o_eqCasCase : k_eqCasCase.Ok Try.prog := con_sub o_e_eqCasCase fun x z hz => by
  obtain ⟨h, e⟩ := gdC_some hz
  subst e
  exact s_eqCasCase _ _ h

def m_e_eqEngRun (x : GRun) (y : GRun) : Option Bool := if decide (x.net = y.net) = true then ((m_eqCasCase x.case y.case).bind fun x2 => (if x2 = true then (some true) else (some false))) else (some false)
def k_e_eqEngRun : Con := ⟨116, [.v (.s .run) false, .v (.s .run) false], [(.B, true)], [], fun x => m_e_eqEngRun x.1 x.2.1⟩
def f_e_eqEngRun : Fs := ⟨[k_eqCasCase], []⟩
theorem g_e_eqEngRun : f_e_eqEngRun.Ok Try.prog := (fsK o_eqCasCase fs0)
theorem o_e_eqEngRun : k_e_eqEngRun.Ok Try.prog := fn_ok (k := k_e_eqEngRun) (fn := Try.f116) (W := []) (H := []) Try.func116 g_e_eqEngRun trivial rfl rfl (fun av x => by kernel_rfl)
noncomputable def m_eqEngRun (x : GRun) (y : GRun) : Option Bool := @gd ((GRun.lens (· ≤ 1048576) x) ∧ (GRun.lens (· ≤ 1048576) y)) (Classical.propDecidable _) _ (some (decide (x = y)))
theorem c_eqEngRun (x : GRun) (y : GRun) (h : (GRun.lens (· ≤ 1048576) x) ∧ (GRun.lens (· ≤ 1048576) y)) : m_eqEngRun x y = some (decide (x = y)) := gdC h
theorem s_eqEngRun (x : GRun) (y : GRun) (h : (GRun.lens (· ≤ 1048576) x) ∧ (GRun.lens (· ≤ 1048576) y)) : m_e_eqEngRun x y = some (decide (x = y)) := by
  rw [m_e_eqEngRun, c_eqCasCase _ _ ⟨h.1, h.2⟩, Option.bind_some]
  refine (eq_step (eq_step eq_end)).trans (congrArg some (decide_eq_decide.2 ⟨fun ⟨h0, h1, _⟩ => ?_, fun h => by subst h; simp⟩))
  cases x; cases y; simp_all
noncomputable def k_eqEngRun : Con := ⟨116, [.v (.s .run) false, .v (.s .run) false], [(.B, true)], [], fun x => m_eqEngRun x.1 x.2.1⟩
theorem o_eqEngRun : k_eqEngRun.Ok Try.prog := con_sub o_e_eqEngRun fun x z hz => by
  obtain ⟨h, e⟩ := gdC_some hz
  subst e
  exact s_eqEngRun _ _ h

def m_e_eqEngRunS_k1  : Option Bool := some true
def m_e_eqEngRunS_l0 (a : List GRun) (b : List GRun) (kx0_0 : Option Bool) : Nat → Int → Option Bool
  | 0, _ => none
  | n0 + 1, s0_0 => if decide (s0_0 < (a.length : Int)) = true then ((getI a s0_0).bind fun x3 => ((getI b s0_0).bind fun x4 => ((m_eqEngRun x3 x4).bind fun x5 => (if x5 = true then (gd (ok64 (s0_0 + 1)) ((m_e_eqEngRunS_l0 a b kx0_0 n0) (s0_0 + 1))) else (some false))))) else (kx0_0)
def m_e_eqEngRunS (a : List GRun) (b : List GRun) : Option Bool := if decide ((a.length : Int) = (b.length : Int)) = true then (m_e_eqEngRunS_l0 a b m_e_eqEngRunS_k1 FUEL 0) else (some false)
def k_e_eqEngRunS : Con := ⟨68, [.v (.sl (.s .run)) false, .v (.sl (.s .run)) false], [(.B, true)], [], fun x => m_e_eqEngRunS x.1 x.2.1⟩
def f_e_eqEngRunS : Fs := ⟨[k_eqEngRun], []⟩
theorem g_e_eqEngRunS : f_e_eqEngRunS.Ok Try.prog := (fsK o_eqEngRun fs0)
def t_e_eqEngRunS_0 : Tmpl := ⟨[(0, .c (.s (.s .run))), (1, .c (.s (.s .run))), (5, .c .i)], []⟩
def x0_e_eqEngRunS_0 : Tmpl := ⟨[], []⟩
def L_e_eqEngRunS_0 (av : AV) (x : HP k_e_eqEngRunS.ps) (n : Nat) (v : t_e_eqEngRunS_0.den) (K : Ks (CR k_e_eqEngRunS)) : Option (CR k_e_eqEngRunS) := m_e_eqEngRunS_l0 v.1.1 v.1.2.1 (x0_e_eqEngRunS_0.at none ((), ()) (K (.exit 0))) n v.1.2.2.1
def h_e_eqEngRunS_0 (av : AV) (x : HP k_e_eqEngRunS.ps) : Hdl (CR k_e_eqEngRunS) := hnd [] t_e_eqEngRunS_0 (L_e_eqEngRunS_0 av x)
theorem l_e_eqEngRunS_0 : LP k_e_eqEngRunS Try.f68 [0] h_e_eqEngRunS_0 := lp_ok (W := []) (H := []) (xs := [x0_e_eqEngRunS_0]) g_e_eqEngRunS trivial rfl (fun av x v K => by kernel_rfl) (fun av x n v K => by kernel_rfl)
theorem o_e_eqEngRunS : k_e_eqEngRunS.Ok Try.prog := fn_ok (k := k_e_eqEngRunS) (fn := Try.f68) (W := []) (H := [h_e_eqEngRunS_0]) Try.func68 g_e_eqEngRunS ⟨l_e_eqEngRunS_0, trivial⟩ rfl rfl (fun av x => by kernel_rfl)
noncomputable def m_eqEngRunS (a : List GRun) (b : List GRun) : Option Bool := @gd ((a.length ≤ 1048576) ∧ (∀ y ∈ a, GRun.lens (· ≤ 1048576) y) ∧ (∀ y ∈ b, GRun.lens (· ≤ 1048576) y)) (Classical.propDecidable _) _ (some (decide (a = b)))
theorem c_eqEngRunS (a : List GRun) (b : List GRun) (h : (a.length ≤ 1048576) ∧ (∀ y ∈ a, GRun.lens (· ≤ 1048576) y) ∧ (∀ y ∈ b, GRun.lens (· ≤ 1048576) y)) : m_eqEngRunS a b = some (decide (a = b)) := gdC h
theorem s_eqEngRunS (a : List GRun) (b : List GRun) (h : (a.length ≤ 1048576) ∧ (∀ y ∈ a, GRun.lens (· ≤ 1048576) y) ∧ (∀ y ∈ b, GRun.lens (· ≤ 1048576) y)) : m_e_eqEngRunS a b = some (decide (a = b)) := by
  have hl := h.1
  refine eq_len fun hab => eq_gen (f := m_e_eqEngRunS_l0 a b m_e_eqEngRunS_k1) (by omega) hab (fun n i hi hj => ?_) (fun n => ?_)
  · rw [m_e_eqEngRunS_l0, if_pos (decide_eq_true (Int.ofNat_lt.2 hi)), getI_lt hi, Option.bind_some, getI_lt hj, Option.bind_some, c_eqEngRun _ _ ⟨h.2.1 _ (List.getElem_mem _), h.2.2 _ (List.getElem_mem _)⟩, Option.bind_some, gd_pos (ok64i hi h.1)]; rfl
  · rw [m_e_eqEngRunS_l0, if_neg (by simp)]; rfl
noncomputable def k_eqEngRunS : Con := ⟨68, [.v (.sl (.s .run)) false, .v (.sl (.s .run)) false], [(.B, true)], [], fun x => m_eqEngRunS x.1 x.2.1⟩
theorem o_eqEngRunS : k_eqEngRunS.Ok Try.prog := con_sub o_e_eqEngRunS fun x z hz => by
  obtain ⟨h, e⟩ := gdC_some hz
  subst e
  exact s_eqEngRunS _ _ h

def m_e_eqEngHouse (x : GHouse) (y : GHouse) : Option Bool := (m_eqNetNetS x.nets y.nets).bind fun x1 => (if x1 = true then ((m_eqIntS x.people y.people).bind fun x3 => (if x3 = true then ((m_eqRdrNodeS x.tree y.tree).bind fun x5 => (if x5 = true then ((m_eqEngRunS x.runs y.runs).bind fun x7 => (if x7 = true then (some true) else (some false))) else (some false))) else (some false))) else (some false))
def k_e_eqEngHouse : Con := ⟨27, [.v (.s .house) false, .v (.s .house) false], [(.B, true)], [], fun x => m_e_eqEngHouse x.1 x.2.1⟩
def f_e_eqEngHouse : Fs := ⟨[k_eqNetNetS, k_eqIntS, k_eqRdrNodeS, k_eqEngRunS], []⟩
theorem g_e_eqEngHouse : f_e_eqEngHouse.Ok Try.prog := (fsK o_eqNetNetS (fsK o_eqIntS (fsK o_eqRdrNodeS (fsK o_eqEngRunS fs0))))
theorem o_e_eqEngHouse : k_e_eqEngHouse.Ok Try.prog := fn_ok (k := k_e_eqEngHouse) (fn := Try.f27) (W := []) (H := []) Try.func27 g_e_eqEngHouse trivial rfl rfl (fun av x => by kernel_rfl)
noncomputable def m_eqEngHouse (x : GHouse) (y : GHouse) : Option Bool := @gd ((GHouse.lens (· ≤ 1048576) x) ∧ (GHouse.lens (· ≤ 1048576) y)) (Classical.propDecidable _) _ (some (decide (x = y)))
theorem c_eqEngHouse (x : GHouse) (y : GHouse) (h : (GHouse.lens (· ≤ 1048576) x) ∧ (GHouse.lens (· ≤ 1048576) y)) : m_eqEngHouse x y = some (decide (x = y)) := gdC h
theorem s_eqEngHouse (x : GHouse) (y : GHouse) (h : (GHouse.lens (· ≤ 1048576) x) ∧ (GHouse.lens (· ≤ 1048576) y)) : m_e_eqEngHouse x y = some (decide (x = y)) := by
  rw [m_e_eqEngHouse, c_eqNetNetS _ _ ⟨h.1.1.1, h.1.1.2, h.2.1.2⟩, Option.bind_some, c_eqIntS _ _ h.1.2.1, Option.bind_some, c_eqRdrNodeS _ _ ⟨h.1.2.2.1.1, h.1.2.2.1.2, h.2.2.2.1.2⟩, Option.bind_some, c_eqEngRunS _ _ ⟨h.1.2.2.2.1, h.1.2.2.2.2, h.2.2.2.2.2⟩, Option.bind_some]
  refine (eq_step (eq_step (eq_step (eq_step eq_end)))).trans (congrArg some (decide_eq_decide.2 ⟨fun ⟨h0, h1, h2, h3, _⟩ => ?_, fun h => by subst h; simp⟩))
  cases x; cases y; simp_all
noncomputable def k_eqEngHouse : Con := ⟨27, [.v (.s .house) false, .v (.s .house) false], [(.B, true)], [], fun x => m_eqEngHouse x.1 x.2.1⟩
theorem o_eqEngHouse : k_eqEngHouse.Ok Try.prog := con_sub o_e_eqEngHouse fun x z hz => by
  obtain ⟨h, e⟩ := gdC_some hz
  subst e
  exact s_eqEngHouse _ _ h

def m_spec_l1In (n : Int) (low : Int) (high : Int) : Option Bool := if decide (low ≤ n) = true then (some (decide (n ≤ high))) else (some false)

def m_spec_DatOk_k1  : Option Bool := some true
def m_spec_DatOk_l0 (data : List Int) (kx0_0 : Option Bool) : Nat → Int → Option Bool
  | 0, _ => none
  | n0 + 1, s0_0 => if decide (s0_0 < (data.length : Int)) = true then ((getI data s0_0).bind fun x3 => ((m_spec_l1In x3 (-99) 99).bind fun x4 => (if x4 = true then (gd (ok64 (s0_0 + 1)) ((m_spec_DatOk_l0 data kx0_0 n0) (s0_0 + 1))) else (some false)))) else (kx0_0)
def m_spec_DatOk (data : List Int) : Option Bool := if decide ((data.length : Int) = 3) = true then (m_spec_DatOk_l0 data m_spec_DatOk_k1 FUEL 0) else (some false)

def m_spec_ExpOk (e : GAsk) : Option Bool := if decide (e.op = 0) = true then (some (decide ([e.op, e.var, e.k] = [0, 0, 0]))) else ((m_spec_l1In e.op 1 3).bind fun x2 => (if x2 = true then ((m_spec_l1In e.var 0 2).bind fun x4 => (if x4 = true then ((m_spec_l1In e.k (-99) 99).bind fun x6 => (some x6)) else (some false))) else (some false)))

def m_spec_ExpHolds (e : GAsk) (data : List Int) : Option Bool := (m_spec_ExpOk e).bind fun x1 => (if x1 = true then ((m_spec_DatOk data).bind fun x3 => (if x3 = true then (if decide (e.op = 1) = true then ((getI data e.var).bind fun x6 => (some (decide (x6 < e.k)))) else (if decide (e.op = 2) = true then ((getI data e.var).bind fun x8 => (some (decide (x8 = e.k)))) else (if decide (e.op = 3) = true then ((getI data e.var).bind fun x10 => (some (decide (e.k < x10)))) else (some true)))) else (some false))) else (some false))

def m_impl_in (n : Int) (low : Int) (high : Int) : Option Bool := if decide (low ≤ n) = true then (some (decide (n ≤ high))) else (some false)

def m_impl_isDatum (n : Int) : Option Bool := (m_impl_in n (-99) 99).bind fun x1 => (some x1)

def m_impl_ExpOk (e : GAsk) : Option Bool := if decide (e.op = 0) = true then (if decide (e.var = 0) = true then (some (decide (e.k = 0))) else (some false)) else ((m_impl_in e.op 1 3).bind fun x3 => (if x3 = true then ((m_impl_in e.var 0 2).bind fun x5 => (if x5 = true then ((m_impl_isDatum e.k).bind fun x7 => (some x7)) else (some false))) else (some false)))

def m_spec_l2Rises_k1  : Option Bool := some true
def m_spec_l2Rises_l0 (list : List Int) (low : Int) (high : Int) (kx0_0 : Option Bool) : Nat → Int → Option Bool
  | 0, _ => none
  | n0 + 1, s0_0 => if decide (s0_0 < (list.length : Int)) = true then ((getI list s0_0).bind fun x4 => ((m_spec_l1In x4 low high).bind fun x5 => (if x5 = true then (if decide (0 < s0_0) = true then (gd (ok64 (s0_0 - 1)) ((getI list (s0_0 - 1)).bind fun x9 => ((getI list s0_0).bind fun x10 => (if decide (x10 ≤ x9) = true then (some false) else (gd (ok64 (s0_0 + 1)) ((m_spec_l2Rises_l0 list low high kx0_0 n0) (s0_0 + 1))))))) else (gd (ok64 (s0_0 + 1)) ((m_spec_l2Rises_l0 list low high kx0_0 n0) (s0_0 + 1)))) else (some false)))) else (kx0_0)
def m_spec_l2Rises (list : List Int) (least : Int) (most : Int) (low : Int) (high : Int) : Option Bool := (m_spec_l1In (list.length : Int) least most).bind fun x1 => (if x1 = true then (m_spec_l2Rises_l0 list low high m_spec_l2Rises_k1 FUEL 0) else (some false))

def m_spec_l2Has_k1  : Option Bool := some false
def m_spec_l2Has_l0 (list : List Int) (n : Int) (kx0_0 : Option Bool) : Nat → Int → Option Bool
  | 0, _ => none
  | n0 + 1, s0_0 => if decide (s0_0 < (list.length : Int)) = true then ((getI list s0_0).bind fun x2 => (if decide (x2 = n) = true then (some true) else (gd (ok64 (s0_0 + 1)) ((m_spec_l2Has_l0 list n kx0_0 n0) (s0_0 + 1))))) else (kx0_0)
def m_spec_l2Has (list : List Int) (n : Int) : Option Bool := m_spec_l2Has_l0 list n m_spec_l2Has_k1 FUEL 0

def m_spec_l2Flows_k1 (s0_0 : Int) (bk0 : Int → Option Bool) : Option Bool := gd (ok64 (s0_0 + 1)) (bk0 (s0_0 + 1))
def m_spec_l2Flows_l1 (t : GTask) (s0_0 : Int) (x4 : GFlow) (kx1_0 : Option Bool) : Nat → Int → Option Bool
  | 0, _ => none
  | n1 + 1, s1_0 => if decide (s1_0 < s0_0) = true then ((getI t.out s1_0).bind fun x14 => (if decide (x14.to = x4.to) = true then (some false) else (gd (ok64 (s1_0 + 1)) ((m_spec_l2Flows_l1 t s0_0 x4 kx1_0 n1) (s1_0 + 1))))) else (kx1_0)
def m_spec_l2Flows_k2 (s0_0 : Int) (bk0 : Int → Option Bool) : Option Bool := gd (ok64 (s0_0 + 1)) (bk0 (s0_0 + 1))
def m_spec_l2Flows_k3  : Option Bool := some true
def m_spec_l2Flows_l0 (t : GTask) (places : Int) (kx0_0 : Option Bool) : Nat → Int → Option Bool
  | 0, _ => none
  | n0 + 1, s0_0 => if decide (s0_0 < (t.out.length : Int)) = true then ((getI t.out s0_0).bind fun x4 => (gd (ok64 ((t.out.length : Int) - 1)) (if decide (s0_0 = ((t.out.length : Int) - 1)) = true then (gd (ok64 (places - 1)) ((m_spec_l1In x4.to 1 (places - 1)).bind fun x8 => (if x8 = true then ((m_spec_ExpOk x4.if_).bind fun x10 => (if x10 = true then (if (true == (decide (x4.if_.op = 0))) = true then (m_spec_l2Flows_l1 t s0_0 x4 (m_spec_l2Flows_k1 s0_0 (m_spec_l2Flows_l0 t places kx0_0 n0)) FUEL 0) else (some false)) else (some false))) else (some false)))) else (gd (ok64 (places - 1)) ((m_spec_l1In x4.to 1 (places - 1)).bind fun x19 => (if x19 = true then ((m_spec_ExpOk x4.if_).bind fun x21 => (if x21 = true then (if ((decide (t.split = 1)) == (decide (x4.if_.op = 0))) = true then (m_spec_l2Flows_l1 t s0_0 x4 (m_spec_l2Flows_k2 s0_0 (m_spec_l2Flows_l0 t places kx0_0 n0)) FUEL 0) else (some false)) else (some false))) else (some false))))))) else (kx0_0)
def m_spec_l2Flows (t : GTask) (places : Int) : Option Bool := (m_spec_l1In (t.out.length : Int) 1 3).bind fun x1 => (if x1 = true then (m_spec_l2Flows_l0 t places m_spec_l2Flows_k3 FUEL 0) else (some false))

def m_spec_l2Task (t : GTask) (places : Int) (tasks : Int) : Option Bool := (m_spec_l1In t.join 1 3).bind fun x1 => (if x1 = true then ((m_spec_l1In t.split 1 3).bind fun x3 => (if x3 = true then (gd (ok64 (places - 1)) ((m_spec_l2Rises t.in_ 1 3 0 (places - 1)).bind fun x6 => (if x6 = true then ((m_spec_l2Has t.in_ 1).bind fun x8 => (if x8 = true then (some false) else ((m_spec_l2Flows t places).bind fun x10 => (if x10 = true then (gd (ok64 (places - 1)) ((m_spec_l2Rises t.clear 0 places 2 (places - 1)).bind fun x13 => (if x13 = true then ((m_spec_l1In t.role 1 3).bind fun x15 => (if x15 = true then (gd (ok64 (tasks - 1)) ((m_spec_l1In t.apart (-1) (tasks - 1)).bind fun x18 => (if x18 = true then ((m_spec_l1In t.all 1 3).bind fun x20 => (if x20 = true then ((m_spec_l1In t.need 1 t.all).bind fun x22 => (some x22)) else (some false))) else (some false)))) else (some false))) else (some false)))) else (some false))))) else (some false)))) else (some false))) else (some false))

def m_spec_NetOk_k1  : Option Bool := some true
def m_spec_NetOk_l0 (n : GNet) (kx0_0 : Option Bool) : Nat → Int → Option Bool
  | 0, _ => none
  | n0 + 1, s0_0 => if decide (s0_0 < (n.tasks.length : Int)) = true then ((getI n.tasks s0_0).bind fun x6 => ((m_spec_l2Task x6 n.places (n.tasks.length : Int)).bind fun x7 => (if x7 = true then (gd (ok64 (s0_0 + 1)) ((m_spec_NetOk_l0 n kx0_0 n0) (s0_0 + 1))) else (some false)))) else (kx0_0)
def m_spec_NetOk (n : GNet) : Option Bool := (m_spec_l1In n.places 2 8).bind fun x1 => (if x1 = true then ((m_spec_l1In (n.tasks.length : Int) 1 6).bind fun x3 => (if x3 = true then (m_spec_NetOk_l0 n m_spec_NetOk_k1 FUEL 0) else (some false))) else (some false))

def m_impl_isKind (kind : Int) : Option Bool := (m_impl_in kind 1 3).bind fun x1 => (some x1)

def m_impl_isRole (role : Int) : Option Bool := (m_impl_in role 1 3).bind fun x1 => (some x1)

def m_impl_sizesOk (places : Int) (tasks : Int) : Option Bool := (m_impl_in places 2 8).bind fun x1 => (if x1 = true then ((m_impl_in tasks 1 6).bind fun x3 => (some x3)) else (some false))

def m_impl_NetNet_hasTask (n : GNet) (t : Int) : Option Bool := gd (ok64 ((n.tasks.length : Int) - 1)) ((m_impl_in t 0 ((n.tasks.length : Int) - 1)).bind fun x2 => (some x2))

def m_spec_MrkOk_k1  : Option Bool := some true
def m_spec_MrkOk_l0 (marks : List Int) (kx0_0 : Option Bool) : Nat → Int → Option Bool
  | 0, _ => none
  | n0 + 1, s0_0 => if decide (s0_0 < (marks.length : Int)) = true then ((getI marks s0_0).bind fun x5 => ((m_spec_l1In x5 0 4).bind fun x6 => (if x6 = true then (gd (ok64 (s0_0 + 1)) ((m_spec_MrkOk_l0 marks kx0_0 n0) (s0_0 + 1))) else (some false)))) else (kx0_0)
def m_spec_MrkOk (n : GNet) (marks : List Int) : Option Bool := (m_spec_NetOk n).bind fun x1 => (if x1 = true then (if decide ((marks.length : Int) = n.places) = true then (m_spec_MrkOk_l0 marks m_spec_MrkOk_k1 FUEL 0) else (some false)) else (some false))

def m_spec_l3Busy_k1  : Option Bool := some true
def m_spec_l3Busy_l0 (n : GNet) (busy : List GItem) (kx0_0 : Option Bool) : Nat → Int → Option Bool
  | 0, _ => none
  | n0 + 1, s0_0 => if decide (s0_0 < (busy.length : Int)) = true then ((getI busy s0_0).bind fun x3 => (gd (ok64 ((n.tasks.length : Int) - 1)) ((m_spec_l1In x3.task 0 ((n.tasks.length : Int) - 1)).bind fun x5 => (if x5 = true then ((getI busy s0_0).bind fun x7 => ((m_spec_l1In x7.who 1 4).bind fun x8 => (if x8 = true then ((getI busy s0_0).bind fun x10 => ((getI busy s0_0).bind fun x11 => ((getI n.tasks x11.task).bind fun x12 => (gd (ok64 (x12.need - 1)) ((m_spec_l1In x10.did 0 (x12.need - 1)).bind fun x14 => (if x14 = true then (gd (ok64 (s0_0 + 1)) ((m_spec_l3Busy_l0 n busy kx0_0 n0) (s0_0 + 1))) else (some false))))))) else (some false)))) else (some false))))) else (kx0_0)
def m_spec_l3Busy (n : GNet) (busy : List GItem) : Option Bool := if decide (6 < (busy.length : Int)) = true then (some false) else (m_spec_l3Busy_l0 n busy m_spec_l3Busy_k1 FUEL 0)

def m_impl_isPerson (who : Int) : Option Bool := (m_impl_in who 1 4).bind fun x1 => (some x1)

def m_spec_PplOk_k1  : Option Bool := some true
def m_spec_PplOk_l0 (people : List Int) (kx0_0 : Option Bool) : Nat → Int → Option Bool
  | 0, _ => none
  | n0 + 1, s0_0 => if decide (s0_0 < (people.length : Int)) = true then ((getI people s0_0).bind fun x4 => ((m_spec_l1In x4 0 7).bind fun x5 => (if x5 = true then (gd (ok64 (s0_0 + 1)) ((m_spec_PplOk_l0 people kx0_0 n0) (s0_0 + 1))) else (some false)))) else (kx0_0)
def m_spec_PplOk (people : List Int) : Option Bool := (m_spec_l1In (people.length : Int) 1 4).bind fun x1 => (if x1 = true then (m_spec_PplOk_l0 people m_spec_PplOk_k1 FUEL 0) else (some false))

def m_spec_CasOk_k1 (c : GCase) : Option Bool := if decide (c.state = 1) = true then ((getI c.marks 1).bind fun x20 => (some (decide (x20 = 0)))) else (if decide ((c.busy.length : Int) = 0) = true then ((getI c.marks 1).bind fun x22 => (some ((decide (c.state = 2)) == (decide (0 < x22))))) else (some false))
def m_spec_CasOk_l0 (n : GNet) (c : GCase) (kx0_0 : Option Bool) : Nat → Int → Option Bool
  | 0, _ => none
  | n0 + 1, s0_0 => if decide (s0_0 < (c.did.length : Int)) = true then ((getI c.did s0_0).bind fun x11 => (gd (ok64 ((n.tasks.length : Int) - 1)) ((m_spec_l1In x11.task 0 ((n.tasks.length : Int) - 1)).bind fun x13 => (if x13 = true then ((getI c.did s0_0).bind fun x15 => ((m_spec_l1In x15.who 1 4).bind fun x16 => (if x16 = true then (gd (ok64 (s0_0 + 1)) ((m_spec_CasOk_l0 n c kx0_0 n0) (s0_0 + 1))) else (some false)))) else (some false))))) else (kx0_0)
def m_spec_CasOk (n : GNet) (c : GCase) : Option Bool := (m_spec_MrkOk n c.marks).bind fun x1 => (if x1 = true then ((m_spec_l3Busy n c.busy).bind fun x3 => (if x3 = true then ((m_spec_DatOk c.data).bind fun x5 => (if x5 = true then (if decide (60 < (c.did.length : Int)) = true then (some false) else ((m_spec_l1In c.state 1 3).bind fun x8 => (if x8 = true then (m_spec_CasOk_l0 n c (m_spec_CasOk_k1 c) FUEL 0) else (some false)))) else (some false))) else (some false))) else (some false))

def m_spec_RdrOk_k1 (s0_0 : Int) (bk0 : Int → Option Bool) (s1_0 : Int) : Option Bool := if ((decide (s0_0 = 0)) == (decide (s1_0 = 0))) = true then (if decide (1 < s1_0) = true then (some false) else (gd (ok64 (s0_0 + 1)) (bk0 (s0_0 + 1)))) else (some false)
def m_spec_RdrOk_l1 (tree : List GNode) (s0_0 : Int) (kx1_0 : Int → Option Bool) : Nat → Int → Int → Option Bool
  | 0, _, _ => none
  | n1 + 1, s1_0, s1_1 => if decide (s1_1 < (tree.length : Int)) = true then ((getI tree s1_1).bind fun x15 => (if decide (x15.yes = s0_0) = true then (gd (ok64 (s1_0 + 1)) ((getI tree s1_1).bind fun x18 => (if decide (x18.no = s0_0) = true then (gd (ok64 ((s1_0 + 1) + 1)) (gd (ok64 (s1_1 + 1)) ((m_spec_RdrOk_l1 tree s0_0 kx1_0 n1) ((s1_0 + 1) + 1) (s1_1 + 1)))) else (gd (ok64 (s1_1 + 1)) ((m_spec_RdrOk_l1 tree s0_0 kx1_0 n1) (s1_0 + 1) (s1_1 + 1)))))) else ((getI tree s1_1).bind fun x23 => (if decide (x23.no = s0_0) = true then (gd (ok64 (s1_0 + 1)) (gd (ok64 (s1_1 + 1)) ((m_spec_RdrOk_l1 tree s0_0 kx1_0 n1) (s1_0 + 1) (s1_1 + 1)))) else (gd (ok64 (s1_1 + 1)) ((m_spec_RdrOk_l1 tree s0_0 kx1_0 n1) s1_0 (s1_1 + 1))))))) else (kx1_0 s1_0)
def m_spec_RdrOk_k2 (s0_0 : Int) (bk0 : Int → Option Bool) (s2_0 : Int) : Option Bool := if ((decide (s0_0 = 0)) == (decide (s2_0 = 0))) = true then (if decide (1 < s2_0) = true then (some false) else (gd (ok64 (s0_0 + 1)) (bk0 (s0_0 + 1)))) else (some false)
def m_spec_RdrOk_k3 (s0_0 : Int) (bk0 : Int → Option Bool) (s3_0 : Int) : Option Bool := if ((decide (s0_0 = 0)) == (decide (s3_0 = 0))) = true then (if decide (1 < s3_0) = true then (some false) else (gd (ok64 (s0_0 + 1)) (bk0 (s0_0 + 1)))) else (some false)
def m_spec_RdrOk_k4 (s0_0 : Int) (bk0 : Int → Option Bool) (s4_0 : Int) : Option Bool := if ((decide (s0_0 = 0)) == (decide (s4_0 = 0))) = true then (if decide (1 < s4_0) = true then (some false) else (gd (ok64 (s0_0 + 1)) (bk0 (s0_0 + 1)))) else (some false)
def m_spec_RdrOk_k5  : Option Bool := some true
def m_spec_RdrOk_l0 (tree : List GNode) (kx0_0 : Option Bool) : Nat → Int → Option Bool
  | 0, _ => none
  | n0 + 1, s0_0 => if decide (s0_0 < (tree.length : Int)) = true then ((getI tree s0_0).bind fun x3 => ((m_spec_ExpOk x3.if_).bind fun x4 => (if x4 = true then ((m_spec_l1In x3.ans 0 2).bind fun x6 => (if x6 = true then ((m_spec_DatOk x3.stone).bind fun x8 => (if x8 = true then ((m_spec_ExpHolds x3.if_ x3.stone).bind fun x10 => (if x10 = true then (if decide (x3.yes = (-1)) = true then (if decide (x3.no = (-1)) = true then (m_spec_RdrOk_l1 tree s0_0 (m_spec_RdrOk_k1 s0_0 (m_spec_RdrOk_l0 tree kx0_0 n0)) FUEL 0 0) else (gd (ok64 (s0_0 + 1)) (gd (ok64 ((tree.length : Int) - 1)) ((m_spec_l1In x3.no (s0_0 + 1) ((tree.length : Int) - 1)).bind fun x33 => (if x33 = true then (m_spec_RdrOk_l1 tree s0_0 (m_spec_RdrOk_k2 s0_0 (m_spec_RdrOk_l0 tree kx0_0 n0)) FUEL 0 0) else (some false)))))) else (gd (ok64 (s0_0 + 1)) (gd (ok64 ((tree.length : Int) - 1)) ((m_spec_l1In x3.yes (s0_0 + 1) ((tree.length : Int) - 1)).bind fun x54 => (if x54 = true then (if decide (x3.no = (-1)) = true then (m_spec_RdrOk_l1 tree s0_0 (m_spec_RdrOk_k3 s0_0 (m_spec_RdrOk_l0 tree kx0_0 n0)) FUEL 0 0) else (gd (ok64 (s0_0 + 1)) (gd (ok64 ((tree.length : Int) - 1)) ((m_spec_l1In x3.no (s0_0 + 1) ((tree.length : Int) - 1)).bind fun x76 => (if x76 = true then (m_spec_RdrOk_l1 tree s0_0 (m_spec_RdrOk_k4 s0_0 (m_spec_RdrOk_l0 tree kx0_0 n0)) FUEL 0 0) else (some false)))))) else (some false)))))) else (some false))) else (some false))) else (some false))) else (some false)))) else (kx0_0)
def m_spec_RdrOk (tree : List GNode) : Option Bool := if decide (12 < (tree.length : Int)) = true then (some false) else (m_spec_RdrOk_l0 tree m_spec_RdrOk_k5 FUEL 0)

def m_impl_isAnswer (ans : Int) : Option Bool := (m_impl_in ans 0 2).bind fun x1 => (some x1)

def m_spec_l9Nets_k1  : Option Bool := some true
def m_spec_l9Nets_l0 (nets : List GNet) (kx0_0 : Option Bool) : Nat → Int → Option Bool
  | 0, _ => none
  | n0 + 1, s0_0 => if decide (s0_0 < (nets.length : Int)) = true then ((getI nets s0_0).bind fun x4 => ((m_spec_NetOk x4).bind fun x5 => (if x5 = true then (gd (ok64 (s0_0 + 1)) ((m_spec_l9Nets_l0 nets kx0_0 n0) (s0_0 + 1))) else (some false)))) else (kx0_0)
def m_spec_l9Nets (nets : List GNet) : Option Bool := (m_spec_l1In (nets.length : Int) 1 3).bind fun x1 => (if x1 = true then (m_spec_l9Nets_l0 nets m_spec_l9Nets_k1 FUEL 0) else (some false))

def m_spec_EngOk_k1  : Option Bool := some true
def m_spec_EngOk_l0 (h : GHouse) (kx0_0 : Option Bool) : Nat → Int → Option Bool
  | 0, _ => none
  | n0 + 1, s0_0 => if decide (s0_0 < (h.runs.length : Int)) = true then ((getI h.runs s0_0).bind fun x9 => (gd (ok64 ((h.nets.length : Int) - 1)) ((m_spec_l1In x9.net 0 ((h.nets.length : Int) - 1)).bind fun x11 => (if x11 = true then ((getI h.runs s0_0).bind fun x13 => ((getI h.nets x13.net).bind fun x14 => ((getI h.runs s0_0).bind fun x15 => ((m_spec_CasOk x14 x15.case).bind fun x16 => (if x16 = true then (gd (ok64 (s0_0 + 1)) ((m_spec_EngOk_l0 h kx0_0 n0) (s0_0 + 1))) else (some false)))))) else (some false))))) else (kx0_0)
def m_spec_EngOk (h : GHouse) : Option Bool := (m_spec_l9Nets h.nets).bind fun x1 => (if x1 = true then ((m_spec_PplOk h.people).bind fun x3 => (if x3 = true then ((m_spec_RdrOk h.tree).bind fun x5 => (if x5 = true then (if decide (5 < (h.runs.length : Int)) = true then (some false) else (m_spec_EngOk_l0 h m_spec_EngOk_k1 FUEL 0)) else (some false))) else (some false))) else (some false))

def m_IndexFunc_I_k1  : Option Int := some (-1)
def m_IndexFunc_I_l0 (s : List Int) (p : Int → Option Bool) (p0_0 : Int) (kx0_0 : Option Int) : Nat → Int → Option Int
  | 0, _ => none
  | n0 + 1, s0_0 => if decide (s0_0 < p0_0) = true then ((getI s s0_0).bind fun x2 => ((p x2).bind fun x3 => (if x3 = true then (some s0_0) else (gd (ok64 (s0_0 + 1)) ((m_IndexFunc_I_l0 s p p0_0 kx0_0 n0) (s0_0 + 1)))))) else (kx0_0)
def m_IndexFunc_I (s : List Int) (p : Int → Option Bool) : Option Int := m_IndexFunc_I_l0 s p (s.length : Int) m_IndexFunc_I_k1 FUEL 0

def m_ContainsFunc_I (s : List Int) (p : Int → Option Bool) : Option Bool := (m_IndexFunc_I s p).bind fun x1 => (some (decide (0 ≤ x1)))

def m_IndexFunc_GReq_k1  : Option Int := some (-1)
def m_IndexFunc_GReq_l0 (s : List GReq) (p : GReq → Option Bool) (p0_0 : Int) (kx0_0 : Option Int) : Nat → Int → Option Int
  | 0, _ => none
  | n0 + 1, s0_0 => if decide (s0_0 < p0_0) = true then ((getI s s0_0).bind fun x2 => ((p x2).bind fun x3 => (if x3 = true then (some s0_0) else (gd (ok64 (s0_0 + 1)) ((m_IndexFunc_GReq_l0 s p p0_0 kx0_0 n0) (s0_0 + 1)))))) else (kx0_0)
def m_IndexFunc_GReq (s : List GReq) (p : GReq → Option Bool) : Option Int := m_IndexFunc_GReq_l0 s p (s.length : Int) m_IndexFunc_GReq_k1 FUEL 0

def m_ContainsFunc_GReq (s : List GReq) (p : GReq → Option Bool) : Option Bool := (m_IndexFunc_GReq s p).bind fun x1 => (some (decide (0 ≤ x1)))

def m_IndexFunc_GTask_k1  : Option Int := some (-1)
def m_IndexFunc_GTask_l0 (s : List GTask) (p : GTask → Option Bool) (p0_0 : Int) (kx0_0 : Option Int) : Nat → Int → Option Int
  | 0, _ => none
  | n0 + 1, s0_0 => if decide (s0_0 < p0_0) = true then ((getI s s0_0).bind fun x2 => ((p x2).bind fun x3 => (if x3 = true then (some s0_0) else (gd (ok64 (s0_0 + 1)) ((m_IndexFunc_GTask_l0 s p p0_0 kx0_0 n0) (s0_0 + 1)))))) else (kx0_0)
def m_IndexFunc_GTask (s : List GTask) (p : GTask → Option Bool) : Option Int := m_IndexFunc_GTask_l0 s p (s.length : Int) m_IndexFunc_GTask_k1 FUEL 0

def m_ContainsFunc_GTask (s : List GTask) (p : GTask → Option Bool) : Option Bool := (m_IndexFunc_GTask s p).bind fun x1 => (some (decide (0 ≤ x1)))

def m_IndexFunc_GNet_k1  : Option Int := some (-1)
def m_IndexFunc_GNet_l0 (s : List GNet) (p : GNet → Option Bool) (p0_0 : Int) (kx0_0 : Option Int) : Nat → Int → Option Int
  | 0, _ => none
  | n0 + 1, s0_0 => if decide (s0_0 < p0_0) = true then ((getI s s0_0).bind fun x2 => ((p x2).bind fun x3 => (if x3 = true then (some s0_0) else (gd (ok64 (s0_0 + 1)) ((m_IndexFunc_GNet_l0 s p p0_0 kx0_0 n0) (s0_0 + 1)))))) else (kx0_0)
def m_IndexFunc_GNet (s : List GNet) (p : GNet → Option Bool) : Option Int := m_IndexFunc_GNet_l0 s p (s.length : Int) m_IndexFunc_GNet_k1 FUEL 0

def m_ContainsFunc_GNet (s : List GNet) (p : GNet → Option Bool) : Option Bool := (m_IndexFunc_GNet s p).bind fun x1 => (some (decide (0 ≤ x1)))

def m_IndexFunc_GItem_k1  : Option Int := some (-1)
def m_IndexFunc_GItem_l0 (s : List GItem) (p : GItem → Option Bool) (p0_0 : Int) (kx0_0 : Option Int) : Nat → Int → Option Int
  | 0, _ => none
  | n0 + 1, s0_0 => if decide (s0_0 < p0_0) = true then ((getI s s0_0).bind fun x2 => ((p x2).bind fun x3 => (if x3 = true then (some s0_0) else (gd (ok64 (s0_0 + 1)) ((m_IndexFunc_GItem_l0 s p p0_0 kx0_0 n0) (s0_0 + 1)))))) else (kx0_0)
def m_IndexFunc_GItem (s : List GItem) (p : GItem → Option Bool) : Option Int := m_IndexFunc_GItem_l0 s p (s.length : Int) m_IndexFunc_GItem_k1 FUEL 0

def m_ContainsFunc_GItem (s : List GItem) (p : GItem → Option Bool) : Option Bool := (m_IndexFunc_GItem s p).bind fun x1 => (some (decide (0 ≤ x1)))

def m_Index_I_k1  : Option Int := some (-1)
def m_Index_I_l0 (s : List Int) (v : Int) (p0_0 : Int) (kx0_0 : Option Int) : Nat → Int → Option Int
  | 0, _ => none
  | n0 + 1, s0_0 => if decide (s0_0 < p0_0) = true then ((getI s s0_0).bind fun x2 => (if decide (v = x2) = true then (some s0_0) else (gd (ok64 (s0_0 + 1)) ((m_Index_I_l0 s v p0_0 kx0_0 n0) (s0_0 + 1))))) else (kx0_0)
def m_Index_I (s : List Int) (v : Int) : Option Int := m_Index_I_l0 s v (s.length : Int) m_Index_I_k1 FUEL 0

def m_Contains_I (s : List Int) (v : Int) : Option Bool := (m_Index_I s v).bind fun x1 => (some (decide (0 ≤ x1)))

def m_impl_DatOk_1 (n : Int) : Option Bool := (m_impl_isDatum n).bind fun x1 => (some (!x1))

def m_impl_DatOk (data : List Int) : Option Bool := if decide ((data.length : Int) = 3) = true then ((m_ContainsFunc_I data (fun z => m_impl_DatOk_1 z )).bind fun x2 => (some (!x2))) else (some false)

def m_impl_ExpHolds (e : GAsk) (data : List Int) : Option Bool := (m_impl_ExpOk e).bind fun x1 => (if x1 = true then ((m_impl_DatOk data).bind fun x3 => (if x3 = true then (if decide (e.op = 1) = true then ((getI data e.var).bind fun x6 => (some (decide (x6 < e.k)))) else (if decide (e.op = 2) = true then ((getI data e.var).bind fun x8 => (some (decide (x8 = e.k)))) else (if decide (e.op = 3) = true then ((getI data e.var).bind fun x10 => (some (decide (e.k < x10)))) else (some true)))) else (some false))) else (some false))

def m_impl_ascends_k1  : Option Bool := some true
def m_impl_ascends_l0 (list : List Int) (places : Int) (without : List Int) (p0_0 : Int) (kx0_0 : Option Bool) : Nat → Int → Int → Option Bool
  | 0, _, _ => none
  | n0 + 1, s0_0, s0_1 => if decide (s0_0 < p0_0) = true then ((getI list s0_0).bind fun x2 => (gd (ok64 (s0_1 + 1)) (gd (ok64 (places - 1)) ((m_impl_in x2 (s0_1 + 1) (places - 1)).bind fun x5 => (if x5 = true then ((m_Contains_I without x2).bind fun x7 => (if x7 = true then (some false) else (gd (ok64 (s0_0 + 1)) ((m_impl_ascends_l0 list places without p0_0 kx0_0 n0) (s0_0 + 1) x2)))) else (some false)))))) else (kx0_0)
def m_impl_ascends (list : List Int) (places : Int) (without : List Int) : Option Bool := m_impl_ascends_l0 list places without (list.length : Int) m_impl_ascends_k1 FUEL 0 (-1)

def m_impl_NetTask_outOk_k1 (t : GTask) : Option Bool := (m_impl_in (t.out.length : Int) 1 3).bind fun x21 => (some x21)
def m_impl_NetTask_outOk_l0 (t : GTask) (places : Int) (p0_0 : List GFlow) (p0_1 : Int) (kx0_0 : Option Bool) : Nat → Int → List Int → Option Bool
  | 0, _, _ => none
  | n0 + 1, s0_0, m0_1 => if decide (s0_0 < p0_1) = true then ((getI p0_0 s0_0).bind fun x2 => (if decide (t.split = 1) = true then (gd (ok64 (places - 1)) ((m_impl_in x2.to 0 (places - 1)).bind fun x5 => (if x5 = true then (if decide (x2.to ∈ m0_1) = true then (some false) else ((m_impl_ExpOk x2.if_).bind fun x8 => (if x8 = true then (if ((decide (x2.if_.op = 0)) == true) = true then (gd (ok64 (s0_0 + 1)) ((m_impl_NetTask_outOk_l0 t places p0_0 p0_1 kx0_0 n0) (s0_0 + 1) (insKey m0_1 x2.to))) else (some false)) else (some false)))) else (some false)))) else (gd (ok64 ((t.out.length : Int) - 1)) (gd (ok64 (places - 1)) ((m_impl_in x2.to 0 (places - 1)).bind fun x14 => (if x14 = true then (if decide (x2.to ∈ m0_1) = true then (some false) else ((m_impl_ExpOk x2.if_).bind fun x17 => (if x17 = true then (if ((decide (x2.if_.op = 0)) == (decide (s0_0 = ((t.out.length : Int) - 1)))) = true then (gd (ok64 (s0_0 + 1)) ((m_impl_NetTask_outOk_l0 t places p0_0 p0_1 kx0_0 n0) (s0_0 + 1) (insKey m0_1 x2.to))) else (some false)) else (some false)))) else (some false))))))) else (kx0_0)
def m_impl_NetTask_outOk (t : GTask) (places : Int) : Option Bool := m_impl_NetTask_outOk_l0 t places t.out (t.out.length : Int) (m_impl_NetTask_outOk_k1 t) FUEL 0 (insKey ([] : List Int) 0)

def m_impl_NetTask_ok (t : GTask) (places : Int) (tasks : Int) : Option Bool := (m_impl_isKind t.join).bind fun x1 => (if x1 = true then ((m_impl_isKind t.split).bind fun x3 => (if x3 = true then ((m_impl_in (t.in_.length : Int) 1 3).bind fun x5 => (if x5 = true then ((m_impl_ascends t.in_ places [1]).bind fun x7 => (if x7 = true then ((m_impl_NetTask_outOk t places).bind fun x9 => (if x9 = true then ((m_impl_ascends t.clear places [0, 1]).bind fun x11 => (if x11 = true then ((m_impl_isRole t.role).bind fun x13 => (if x13 = true then (gd (ok64 (tasks - 1)) ((m_impl_in t.apart (-1) (tasks - 1)).bind fun x16 => (if x16 = true then ((m_impl_in t.all 1 3).bind fun x18 => (if x18 = true then ((m_impl_in t.need 1 t.all).bind fun x20 => (some x20)) else (some false))) else (some false)))) else (some false))) else (some false))) else (some false))) else (some false))) else (some false))) else (some false))) else (some false))

def m_impl_NetOk_1 (t : GTask) (n : GNet) : Option Bool := (m_impl_NetTask_ok t n.places (n.tasks.length : Int)).bind fun x1 => (some (!x1))

def m_impl_NetOk (n : GNet) : Option Bool := (m_impl_sizesOk n.places (n.tasks.length : Int)).bind fun x1 => (if x1 = true then ((m_ContainsFunc_GTask n.tasks (fun z => m_impl_NetOk_1 z n)).bind fun x3 => (some (!x3))) else (some false))

def m_impl_NetNet_marksOk_1 (m : Int) : Option Bool := (m_impl_in m 0 4).bind fun x1 => (some (!x1))

def m_impl_NetNet_marksOk (n : GNet) (marks : List Int) : Option Bool := if decide ((marks.length : Int) = n.places) = true then ((m_ContainsFunc_I marks (fun z => m_impl_NetNet_marksOk_1 z )).bind fun x2 => (some (!x2))) else (some false)

def m_impl_MrkOk (n : GNet) (marks : List Int) : Option Bool := (m_impl_NetOk n).bind fun x1 => (if x1 = true then ((m_impl_NetNet_marksOk n marks).bind fun x3 => (some x3)) else (some false))

def m_impl_NetNet_busyOk_k1 (busy : List GItem) : Option Bool := some (decide ((busy.length : Int) ≤ 6))
def m_impl_NetNet_busyOk_l0 (n : GNet) (p0_0 : List GItem) (p0_1 : Int) (kx0_0 : Option Bool) : Nat → Int → Option Bool
  | 0, _ => none
  | n0 + 1, s0_0 => if decide (s0_0 < p0_1) = true then ((getI p0_0 s0_0).bind fun x2 => ((m_impl_NetNet_hasTask n x2.task).bind fun x3 => (if x3 = true then ((m_impl_isPerson x2.who).bind fun x5 => (if x5 = true then ((getI n.tasks x2.task).bind fun x7 => (gd (ok64 (x7.need - 1)) ((m_impl_in x2.did 0 (x7.need - 1)).bind fun x9 => (if x9 = true then (gd (ok64 (s0_0 + 1)) ((m_impl_NetNet_busyOk_l0 n p0_0 p0_1 kx0_0 n0) (s0_0 + 1))) else (some false))))) else (some false))) else (some false)))) else (kx0_0)
def m_impl_NetNet_busyOk (n : GNet) (busy : List GItem) : Option Bool := m_impl_NetNet_busyOk_l0 n busy (busy.length : Int) (m_impl_NetNet_busyOk_k1 busy) FUEL 0

def m_impl_PplOk_1 (n : Int) : Option Bool := (m_impl_in n 0 7).bind fun x1 => (some (!x1))

def m_impl_PplOk (people : List Int) : Option Bool := (m_impl_in (people.length : Int) 1 4).bind fun x1 => (if x1 = true then ((m_ContainsFunc_I people (fun z => m_impl_PplOk_1 z )).bind fun x3 => (some (!x3))) else (some false))

def m_impl_CasOk_k1 (c : GCase) : Option Bool := if decide (c.state = 1) = true then ((getI c.marks 1).bind fun x16 => (some (decide (x16 = 0)))) else (if decide (c.state = 2) = true then (if decide ((c.busy.length : Int) = 0) = true then ((getI c.marks 1).bind fun x19 => (some ((decide (c.state = 2)) == (decide (0 < x19))))) else (some false)) else (if decide (c.state = 3) = true then (if decide ((c.busy.length : Int) = 0) = true then ((getI c.marks 1).bind fun x22 => (some ((decide (c.state = 2)) == (decide (0 < x22))))) else (some false)) else (some false)))
def m_impl_CasOk_l0 (n : GNet) (p0_0 : List GDid) (p0_1 : Int) (kx0_0 : Option Bool) : Nat → Int → Option Bool
  | 0, _ => none
  | n0 + 1, s0_0 => if decide (s0_0 < p0_1) = true then ((getI p0_0 s0_0).bind fun x9 => ((m_impl_NetNet_hasTask n x9.task).bind fun x10 => (if x10 = true then ((m_impl_isPerson x9.who).bind fun x12 => (if x12 = true then (gd (ok64 (s0_0 + 1)) ((m_impl_CasOk_l0 n p0_0 p0_1 kx0_0 n0) (s0_0 + 1))) else (some false))) else (some false)))) else (kx0_0)
def m_impl_CasOk (n : GNet) (c : GCase) : Option Bool := (m_impl_MrkOk n c.marks).bind fun x1 => (if x1 = true then ((m_impl_NetNet_busyOk n c.busy).bind fun x3 => (if x3 = true then ((m_impl_DatOk c.data).bind fun x5 => (if x5 = true then (if decide (60 < (c.did.length : Int)) = true then (some false) else (m_impl_CasOk_l0 n c.did (c.did.length : Int) (m_impl_CasOk_k1 c) FUEL 0)) else (some false))) else (some false))) else (some false))

def m_impl_RdrOk_k1 (s0_0 : List GNode) (s0_1 : Int) (bk0 : List GNode → Int → Int → List Int → Option Bool) (p1_0 : Int) (l1_1 : List Int) : Option Bool := gd (ok64 (p1_0 + 1)) (bk0 s0_0 s0_1 (p1_0 + 1) l1_1)
def m_impl_RdrOk_l1 (tree : List GNode) (s0_2 : Int) (p1_1 : Int) (p1_2 : List Int) (kx1_0 : List Int → Option Bool) : Nat → Int → List Int → Option Bool
  | 0, _, _ => none
  | n1 + 1, s1_0, l1_1 => if decide (s1_0 < p1_1) = true then ((getI p1_2 s1_0).bind fun x9 => (if decide (x9 = (-1)) = true then (gd (ok64 (s1_0 + 1)) ((m_impl_RdrOk_l1 tree s0_2 p1_1 p1_2 kx1_0 n1) (s1_0 + 1) l1_1)) else (gd (ok64 (s0_2 + 1)) (gd (ok64 ((tree.length : Int) - 1)) ((m_impl_in x9 (s0_2 + 1) ((tree.length : Int) - 1)).bind fun x14 => (if x14 = true then ((getI l1_1 x9).bind fun x16 => (gd (ok64 (x16 + 1)) ((getI l1_1 x9).bind fun x18 => (gd (ok64 (s1_0 + 1)) ((m_impl_RdrOk_l1 tree s0_2 p1_1 p1_2 kx1_0 n1) (s1_0 + 1) (l1_1.set x9.toNat (x16 + 1))))))) else (some false))))))) else (kx1_0 l1_1)
def m_impl_RdrOk_k3 (tree : List GNode) : Option Bool := some (decide ((tree.length : Int) ≤ 12))
def m_impl_RdrOk_l2 (l0_3 : List Int) (p2_0 : Int) (kx2_0 : Option Bool) : Nat → Int → Option Bool
  | 0, _ => none
  | n2 + 1, s2_0 => if decide (s2_0 < p2_0) = true then ((getI l0_3 s2_0).bind fun x22 => (if decide (0 < s2_0) = true then (if decide (x22 = 1) = true then (gd (ok64 (s2_0 + 1)) ((m_impl_RdrOk_l2 l0_3 p2_0 kx2_0 n2) (s2_0 + 1))) else (some false)) else (gd (ok64 (s2_0 + 1)) ((m_impl_RdrOk_l2 l0_3 p2_0 kx2_0 n2) (s2_0 + 1))))) else (kx2_0)
def m_impl_RdrOk_k2 (tree : List GNode) (l0_3 : List Int) : Option Bool := m_impl_RdrOk_l2 l0_3 (l0_3.length : Int) (m_impl_RdrOk_k3 tree) FUEL 0
def m_impl_RdrOk_l0 (tree : List GNode) (kx0_0 : List Int → Option Bool) : Nat → List GNode → Int → Int → List Int → Option Bool
  | 0, _, _, _, _ => none
  | n0 + 1, s0_0, s0_1, s0_2, l0_3 => if decide (s0_2 < s0_1) = true then ((getI s0_0 s0_2).bind fun x3 => ((m_impl_ExpHolds x3.if_ x3.stone).bind fun x4 => (if x4 = true then ((m_impl_isAnswer x3.ans).bind fun x6 => (if x6 = true then (m_impl_RdrOk_l1 tree s0_2 ([x3.yes, x3.no].length : Int) [x3.yes, x3.no] (m_impl_RdrOk_k1 s0_0 s0_1 (m_impl_RdrOk_l0 tree kx0_0 n0) s0_2) FUEL 0 l0_3) else (some false))) else (some false)))) else (kx0_0 l0_3)
def m_impl_RdrOk (tree : List GNode) : Option Bool := gd ((0 : Int) ≤ (tree.length : Int) ∧ (tree.length : Int) ≤ (1000000000 : Int)) (m_impl_RdrOk_l0 tree (m_impl_RdrOk_k2 tree) FUEL tree (tree.length : Int) 0 (List.replicate (tree.length : Int).toNat (0 : Int)))

def m_impl_EngOk_1 (n : GNet) : Option Bool := (m_impl_NetOk n).bind fun x1 => (some (!x1))

def m_impl_EngOk_k1  : Option Bool := some true
def m_impl_EngOk_l0 (h : GHouse) (p0_0 : List GRun) (p0_1 : Int) (kx0_0 : Option Bool) : Nat → Int → Option Bool
  | 0, _ => none
  | n0 + 1, s0_0 => if decide (s0_0 < p0_1) = true then ((getI p0_0 s0_0).bind fun x11 => (gd (ok64 ((h.nets.length : Int) - 1)) ((m_impl_in x11.net 0 ((h.nets.length : Int) - 1)).bind fun x13 => (if x13 = true then ((getI h.nets x11.net).bind fun x15 => ((m_impl_CasOk x15 x11.case).bind fun x16 => (if x16 = true then (gd (ok64 (s0_0 + 1)) ((m_impl_EngOk_l0 h p0_0 p0_1 kx0_0 n0) (s0_0 + 1))) else (some false)))) else (some false))))) else (kx0_0)
def m_impl_EngOk (h : GHouse) : Option Bool := (m_impl_in (h.nets.length : Int) 1 3).bind fun x1 => (if x1 = true then ((m_ContainsFunc_GNet h.nets (fun z => m_impl_EngOk_1 z )).bind fun x3 => (if x3 = true then (some false) else ((m_impl_PplOk h.people).bind fun x5 => (if x5 = true then ((m_impl_RdrOk h.tree).bind fun x7 => (if x7 = true then (if decide (5 < (h.runs.length : Int)) = true then (some false) else (m_impl_EngOk_l0 h h.runs (h.runs.length : Int) m_impl_EngOk_k1 FUEL 0)) else (some false))) else (some false))))) else (some false))

def m_spec_EngWork_k1 (s0_0 : Int) (bk0 : Int → List Int → Option (List Int)) (l1_1 : List Int) : Option (List Int) := gd (ok64 (s0_0 + 1)) (bk0 (s0_0 + 1) l1_1)
def m_spec_EngWork_l1 (h : GHouse) (who : Int) (s0_0 : Int) (kx1_0 : List Int → Option (List Int)) : Nat → Int → List Int → Option (List Int)
  | 0, _, _ => none
  | n1 + 1, s1_0, l1_1 => (getI h.runs s0_0).bind fun x2 => (if decide (s1_0 < (x2.case.busy.length : Int)) = true then ((getI h.runs s0_0).bind fun x4 => ((getI x4.case.busy s1_0).bind fun x5 => (if decide (x5.who = who) = true then (gd (l1_1.length + [s0_0].length ≤ SMALL) (gd (ok64 (s1_0 + 1)) ((m_spec_EngWork_l1 h who s0_0 kx1_0 n1) (s1_0 + 1) (l1_1 ++ [s0_0])))) else (gd (ok64 (s1_0 + 1)) ((m_spec_EngWork_l1 h who s0_0 kx1_0 n1) (s1_0 + 1) l1_1))))) else (kx1_0 l1_1))
def m_spec_EngWork_k2 (l0_1 : List Int) : Option (List Int) := some l0_1
def m_spec_EngWork_l0 (h : GHouse) (who : Int) (kx0_0 : List Int → Option (List Int)) : Nat → Int → List Int → Option (List Int)
  | 0, _, _ => none
  | n0 + 1, s0_0, l0_1 => if decide (s0_0 < (h.runs.length : Int)) = true then (m_spec_EngWork_l1 h who s0_0 (m_spec_EngWork_k1 s0_0 (m_spec_EngWork_l0 h who kx0_0 n0)) FUEL 0 l0_1) else (kx0_0 l0_1)
def m_spec_EngWork (h : GHouse) (who : Int) : Option (List Int) := m_spec_EngWork_l0 h who m_spec_EngWork_k2 FUEL 0 ([] : List Int)
def k_spec_EngWork : Con := ⟨41, [.v (.s .house) false, .v .I false], [((.sl .I), true)], [], fun x => m_spec_EngWork x.1 x.2.1⟩
def f_spec_EngWork : Fs := ⟨[], []⟩
theorem g_spec_EngWork : f_spec_EngWork.Ok Try.prog := fs0
def t_spec_EngWork_0_0 : Tmpl := ⟨[(1, .c .i), (2, .c (.bx 2 0)), (5, .c (.ref 8)), (6, .c .i), (7, .c .i)], [(2, .boxT (.s .house)), (8, .arr .I true)]⟩
def x0_spec_EngWork_0_0 : Tmpl := ⟨[(1, .c .i), (2, .c (.bx 2 0)), (5, .c (.ref 8)), (6, .c .i)], [(2, .boxT (.s .house)), (8, .arr .I true)]⟩
def L_spec_EngWork_0_0 (av : AV) (x : HP k_spec_EngWork.ps) (n : Nat) (v : t_spec_EngWork_0_0.den) (K : Ks (CR k_spec_EngWork)) : Option (CR k_spec_EngWork) := m_spec_EngWork_l1 v.2.1 v.1.1 v.1.2.2.2.1 (fun l1_1 => x0_spec_EngWork_0_0.at none ((v.1.1, (), (), v.1.2.2.2.1, ()), (v.2.1, l1_1, ())) (K (.exit 2))) n v.1.2.2.2.2.1 v.2.2.1
def h_spec_EngWork_0_0 (av : AV) (x : HP k_spec_EngWork.ps) : Hdl (CR k_spec_EngWork) := hnd [] t_spec_EngWork_0_0 (L_spec_EngWork_0_0 av x)
theorem l_spec_EngWork_0_0 : LP k_spec_EngWork Try.f41 [0, 0] h_spec_EngWork_0_0 := lp_ok (W := []) (H := []) (xs := [x0_spec_EngWork_0_0]) g_spec_EngWork trivial rfl (fun av x v K => by kernel_rfl) (fun av x n v K => by kernel_rfl)
def t_spec_EngWork_0 : Tmpl := ⟨[(1, .c .i), (2, .c (.bx 2 0)), (5, .c (.ref 8)), (6, .c .i)], [(2, .boxT (.s .house)), (8, .arr .I true)]⟩
def x0_spec_EngWork_0 : Tmpl := ⟨[(5, .c (.ref 8))], [(8, .arr .I true)]⟩
def L_spec_EngWork_0 (av : AV) (x : HP k_spec_EngWork.ps) (n : Nat) (v : t_spec_EngWork_0.den) (K : Ks (CR k_spec_EngWork)) : Option (CR k_spec_EngWork) := m_spec_EngWork_l0 v.2.1 v.1.1 (fun l0_1 => x0_spec_EngWork_0.at none (((), ()), (l0_1, ())) (K (.exit 0))) n v.1.2.2.2.1 v.2.2.1
def h_spec_EngWork_0 (av : AV) (x : HP k_spec_EngWork.ps) : Hdl (CR k_spec_EngWork) := hnd [] t_spec_EngWork_0 (L_spec_EngWork_0 av x)
theorem l_spec_EngWork_0 : LP k_spec_EngWork Try.f41 [0] h_spec_EngWork_0 := lp_ok (W := []) (H := [h_spec_EngWork_0_0]) (xs := [x0_spec_EngWork_0]) g_spec_EngWork ⟨l_spec_EngWork_0_0, trivial⟩ rfl (fun av x v K => by kernel_rfl) (fun av x n v K => by kernel_rfl)
theorem o_spec_EngWork : k_spec_EngWork.Ok Try.prog := fn_ok (k := k_spec_EngWork) (fn := Try.f41) (W := []) (H := [h_spec_EngWork_0]) Try.func41 g_spec_EngWork ⟨l_spec_EngWork_0, trivial⟩ rfl rfl (fun av x => by kernel_rfl)

def m_impl_EngWork_k1 (s0_0 : List GRun) (s0_1 : Int) (bk0 : List GRun → Int → Int → List Int → Option (List Int)) (p1_0 : Int) (l1_1 : List Int) : Option (List Int) := gd (ok64 (p1_0 + 1)) (bk0 s0_0 s0_1 (p1_0 + 1) l1_1)
def m_impl_EngWork_l1 (who : Int) (s0_2 : Int) (p1_1 : List GItem) (p1_2 : Int) (kx1_0 : List Int → Option (List Int)) : Nat → Int → List Int → Option (List Int)
  | 0, _, _ => none
  | n1 + 1, s1_0, l1_1 => if decide (s1_0 < p1_2) = true then ((getI p1_1 s1_0).bind fun x4 => (if decide (x4.who = who) = true then (gd (l1_1.length + [s0_2].length ≤ SMALL) (gd (ok64 (s1_0 + 1)) ((m_impl_EngWork_l1 who s0_2 p1_1 p1_2 kx1_0 n1) (s1_0 + 1) (l1_1 ++ [s0_2])))) else (gd (ok64 (s1_0 + 1)) ((m_impl_EngWork_l1 who s0_2 p1_1 p1_2 kx1_0 n1) (s1_0 + 1) l1_1)))) else (kx1_0 l1_1)
def m_impl_EngWork_k2 (l0_3 : List Int) : Option (List Int) := some l0_3
def m_impl_EngWork_l0 (who : Int) (kx0_0 : List Int → Option (List Int)) : Nat → List GRun → Int → Int → List Int → Option (List Int)
  | 0, _, _, _, _ => none
  | n0 + 1, s0_0, s0_1, s0_2, l0_3 => if decide (s0_2 < s0_1) = true then ((getI s0_0 s0_2).bind fun x2 => (m_impl_EngWork_l1 who s0_2 x2.case.busy (x2.case.busy.length : Int) (m_impl_EngWork_k1 s0_0 s0_1 (m_impl_EngWork_l0 who kx0_0 n0) s0_2) FUEL 0 l0_3)) else (kx0_0 l0_3)
def m_impl_EngWork (h : GHouse) (who : Int) : Option (List Int) := m_impl_EngWork_l0 who m_impl_EngWork_k2 FUEL h.runs (h.runs.length : Int) 0 ([] : List Int)
def k_impl_EngWork : Con := ⟨42, [.v (.s .house) false, .v .I false], [((.sl .I), true)], [], fun x => m_impl_EngWork x.1 x.2.1⟩
def f_impl_EngWork : Fs := ⟨[], []⟩
theorem g_impl_EngWork : f_impl_EngWork.Ok Try.prog := fs0
def t_impl_EngWork_0_0 : Tmpl := ⟨[(1, .c .i), (5, .c (.ref 500005)), (6, .c .i), (11, .c (.s (.s .run))), (12, .c .i), (13, .c .i), (20, .c (.s (.s .item))), (21, .c .i), (22, .c .i)], [(500005, .arr .I true)]⟩
def x0_impl_EngWork_0_0 : Tmpl := ⟨[(1, .c .i), (5, .c (.ref 500005)), (11, .c (.s (.s .run))), (12, .c .i), (13, .c .i)], [(500005, .arr .I true)]⟩
def L_impl_EngWork_0_0 (av : AV) (x : HP k_impl_EngWork.ps) (n : Nat) (v : t_impl_EngWork_0_0.den) (K : Ks (CR k_impl_EngWork)) : Option (CR k_impl_EngWork) := m_impl_EngWork_l1 v.1.1 v.1.2.2.1 v.1.2.2.2.2.2.2.1 v.1.2.2.2.2.2.2.2.1 (fun l1_1 => x0_impl_EngWork_0_0.at none ((v.1.1, (), v.1.2.2.2.1, v.1.2.2.2.2.1, v.1.2.2.2.2.2.1, ()), (l1_1, ())) (K (.exit 2))) n v.1.2.2.2.2.2.2.2.2.1 v.2.1
def h_impl_EngWork_0_0 (av : AV) (x : HP k_impl_EngWork.ps) : Hdl (CR k_impl_EngWork) := hnd [] t_impl_EngWork_0_0 (L_impl_EngWork_0_0 av x)
theorem l_impl_EngWork_0_0 : LP k_impl_EngWork Try.f42 [0, 0] h_impl_EngWork_0_0 := lp_ok (W := []) (H := []) (xs := [x0_impl_EngWork_0_0]) g_impl_EngWork trivial rfl (fun av x v K => by kernel_rfl) (fun av x n v K => by kernel_rfl)
def t_impl_EngWork_0 : Tmpl := ⟨[(1, .c .i), (5, .c (.ref 500005)), (11, .c (.s (.s .run))), (12, .c .i), (13, .c .i)], [(500005, .arr .I true)]⟩
def x0_impl_EngWork_0 : Tmpl := ⟨[(5, .c (.ref 500005))], [(500005, .arr .I true)]⟩
def L_impl_EngWork_0 (av : AV) (x : HP k_impl_EngWork.ps) (n : Nat) (v : t_impl_EngWork_0.den) (K : Ks (CR k_impl_EngWork)) : Option (CR k_impl_EngWork) := m_impl_EngWork_l0 v.1.1 (fun l0_3 => x0_impl_EngWork_0.at none (((), ()), (l0_3, ())) (K (.exit 0))) n v.1.2.2.1 v.1.2.2.2.1 v.1.2.2.2.2.1 v.2.1
def h_impl_EngWork_0 (av : AV) (x : HP k_impl_EngWork.ps) : Hdl (CR k_impl_EngWork) := hnd [.e 5 500005 .I] t_impl_EngWork_0 (L_impl_EngWork_0 av x)
theorem l_impl_EngWork_0 : LP k_impl_EngWork Try.f42 [0] h_impl_EngWork_0 := lp_ok (W := []) (H := [h_impl_EngWork_0_0]) (xs := [x0_impl_EngWork_0]) g_impl_EngWork ⟨l_impl_EngWork_0_0, trivial⟩ rfl (fun av x v K => by kernel_rfl) (fun av x n v K => by kernel_rfl)
theorem o_impl_EngWork : k_impl_EngWork.Ok Try.prog := fn_ok (k := k_impl_EngWork) (fn := Try.f42) (W := []) (H := [h_impl_EngWork_0]) Try.func42 g_impl_EngWork ⟨l_impl_EngWork_0, trivial⟩ rfl rfl (fun av x => by kernel_rfl)

def m_markIntS_k1 (s0_0 : Int) (l0_2 : List Int) : Option (Int × (List Int)) := some (s0_0, l0_2)
def m_markIntS_l0 (kx0_0 : Int → List Int → Option (Int × (List Int))) : Nat → Int → Int → List Int → Option (Int × (List Int))
  | 0, _, _, _ => none
  | n0 + 1, s0_0, s0_1, l0_2 => if decide (s0_1 < (l0_2.length : Int)) = true then ((getI l0_2 s0_1).bind fun x2 => (gd (ok64 (s0_0 + 1)) (gd (ok64 (s0_1 + 1)) ((m_markIntS_l0 kx0_0 n0) (s0_0 + 1) (s0_1 + 1) (l0_2.set s0_1.toNat s0_0))))) else (kx0_0 s0_0 l0_2)
def m_markIntS (a : List Int) (k : Int) : Option (Int × (List Int)) := m_markIntS_l0 m_markIntS_k1 FUEL k 0 a
def k_markIntS : Con := ⟨29, [.v (.sl .I) true, .v .I false], [(.I, true)], [(0, .v (.sl .I) true)], fun x => m_markIntS x.1 x.2.1⟩
def f_markIntS : Fs := ⟨[], []⟩
theorem g_markIntS : f_markIntS.Ok Try.prog := fs0
def t_markIntS_0 : Tmpl := ⟨[(0, .c (.ref 1000000)), (1, .c .i), (5, .c .i)], [(1000000, .arr .I true)]⟩
def x0_markIntS_0 : Tmpl := ⟨[(1, .c .i)], [(1000000, .arr .I true)]⟩
def L_markIntS_0 (av : AV) (x : HP k_markIntS.ps) (n : Nat) (v : t_markIntS_0.den) (K : Ks (CR k_markIntS)) : Option (CR k_markIntS) := m_markIntS_l0 (fun s0_0 l0_2 => x0_markIntS_0.at none ((s0_0, ()), (l0_2, ())) (K (.exit 0))) n v.1.2.1 v.1.2.2.1 v.2.1
def h_markIntS_0 (av : AV) (x : HP k_markIntS.ps) : Hdl (CR k_markIntS) := hnd [] t_markIntS_0 (L_markIntS_0 av x)
theorem l_markIntS_0 : LP k_markIntS Try.f29 [0] h_markIntS_0 := lp_ok (W := []) (H := []) (xs := [x0_markIntS_0]) g_markIntS trivial rfl (fun av x v K => by kernel_rfl) (fun av x n v K => by kernel_rfl)
theorem o_markIntS : k_markIntS.Ok Try.prog := fn_ok (k := k_markIntS) (fn := Try.f29) (W := []) (H := [h_markIntS_0]) Try.func29 g_markIntS ⟨l_markIntS_0, trivial⟩ rfl rfl (fun av x => by kernel_rfl)

def m_heldIntS_k1 (s0_0 : Int) : Option Int := some s0_0
def m_heldIntS_l0 (a : List Int) (kx0_0 : Int → Option Int) : Nat → Int → Int → Option Int
  | 0, _, _ => none
  | n0 + 1, s0_0, s0_1 => if decide (s0_1 < (a.length : Int)) = true then ((getI a s0_1).bind fun x2 => (if decide (x2 = s0_0) = true then (gd (ok64 (s0_0 + 1)) (gd (ok64 (s0_1 + 1)) ((m_heldIntS_l0 a kx0_0 n0) (s0_0 + 1) (s0_1 + 1)))) else (some (-1)))) else (kx0_0 s0_0)
def m_heldIntS (a : List Int) (k : Int) : Option Int := m_heldIntS_l0 a m_heldIntS_k1 FUEL k 0
def k_heldIntS : Con := ⟨30, [.v (.sl .I) false, .v .I false], [(.I, true)], [], fun x => m_heldIntS x.1 x.2.1⟩
def f_heldIntS : Fs := ⟨[], []⟩
theorem g_heldIntS : f_heldIntS.Ok Try.prog := fs0
def t_heldIntS_0 : Tmpl := ⟨[(0, .c (.s .I)), (1, .c .i), (5, .c .i)], []⟩
def x0_heldIntS_0 : Tmpl := ⟨[(1, .c .i)], []⟩
def L_heldIntS_0 (av : AV) (x : HP k_heldIntS.ps) (n : Nat) (v : t_heldIntS_0.den) (K : Ks (CR k_heldIntS)) : Option (CR k_heldIntS) := m_heldIntS_l0 v.1.1 (fun s0_0 => x0_heldIntS_0.at none ((s0_0, ()), ()) (K (.exit 0))) n v.1.2.1 v.1.2.2.1
def h_heldIntS_0 (av : AV) (x : HP k_heldIntS.ps) : Hdl (CR k_heldIntS) := hnd [] t_heldIntS_0 (L_heldIntS_0 av x)
theorem l_heldIntS_0 : LP k_heldIntS Try.f30 [0] h_heldIntS_0 := lp_ok (W := []) (H := []) (xs := [x0_heldIntS_0]) g_heldIntS trivial rfl (fun av x v K => by kernel_rfl) (fun av x n v K => by kernel_rfl)
theorem o_heldIntS : k_heldIntS.Ok Try.prog := fn_ok (k := k_heldIntS) (fn := Try.f30) (W := []) (H := [h_heldIntS_0]) Try.func30 g_heldIntS ⟨l_heldIntS_0, trivial⟩ rfl rfl (fun av x => by kernel_rfl)

def m_markNetFlowS_k1 (s0_0 : Int) (l0_2 : List GFlow) : Option (Int × (List GFlow)) := some (s0_0, l0_2)
def m_markNetFlowS_l0 (kx0_0 : Int → List GFlow → Option (Int × (List GFlow))) : Nat → Int → Int → List GFlow → Option (Int × (List GFlow))
  | 0, _, _, _ => none
  | n0 + 1, s0_0, s0_1, l0_2 => if decide (s0_1 < (l0_2.length : Int)) = true then ((getI l0_2 s0_1).bind fun x2 => (gd (ok64 (s0_0 + 1)) ((getI (l0_2.set s0_1.toNat (GFlow.mk s0_0 x2.if_)) s0_1).bind fun x4 => (gd (ok64 ((s0_0 + 1) + 1)) ((getI ((l0_2.set s0_1.toNat (GFlow.mk s0_0 x2.if_)).set s0_1.toNat (GFlow.mk x4.to (GAsk.mk (s0_0 + 1) x4.if_.var x4.if_.k))) s0_1).bind fun x6 => (gd (ok64 (((s0_0 + 1) + 1) + 1)) ((getI (((l0_2.set s0_1.toNat (GFlow.mk s0_0 x2.if_)).set s0_1.toNat (GFlow.mk x4.to (GAsk.mk (s0_0 + 1) x4.if_.var x4.if_.k))).set s0_1.toNat (GFlow.mk x6.to (GAsk.mk x6.if_.op ((s0_0 + 1) + 1) x6.if_.k))) s0_1).bind fun x8 => (gd (ok64 ((((s0_0 + 1) + 1) + 1) + 1)) (gd (ok64 (s0_1 + 1)) ((m_markNetFlowS_l0 kx0_0 n0) ((((s0_0 + 1) + 1) + 1) + 1) (s0_1 + 1) ((((l0_2.set s0_1.toNat (GFlow.mk s0_0 x2.if_)).set s0_1.toNat (GFlow.mk x4.to (GAsk.mk (s0_0 + 1) x4.if_.var x4.if_.k))).set s0_1.toNat (GFlow.mk x6.to (GAsk.mk x6.if_.op ((s0_0 + 1) + 1) x6.if_.k))).set s0_1.toNat (GFlow.mk x8.to (GAsk.mk x8.if_.op x8.if_.var (((s0_0 + 1) + 1) + 1)))))))))))))) else (kx0_0 s0_0 l0_2)
def m_markNetFlowS (a : List GFlow) (k : Int) : Option (Int × (List GFlow)) := m_markNetFlowS_l0 m_markNetFlowS_k1 FUEL k 0 a
def k_markNetFlowS : Con := ⟨132, [.v (.sl (.s .flow)) true, .v .I false], [(.I, true)], [(0, .v (.sl (.s .flow)) true)], fun x => m_markNetFlowS x.1 x.2.1⟩
def f_markNetFlowS : Fs := ⟨[], []⟩
theorem g_markNetFlowS : f_markNetFlowS.Ok Try.prog := fs0
def t_markNetFlowS_0 : Tmpl := ⟨[(0, .c (.ref 1000000)), (1, .c .i), (5, .c .i)], [(1000000, .arr (.s .flow) true)]⟩
def x0_markNetFlowS_0 : Tmpl := ⟨[(1, .c .i)], [(1000000, .arr (.s .flow) true)]⟩
def L_markNetFlowS_0 (av : AV) (x : HP k_markNetFlowS.ps) (n : Nat) (v : t_markNetFlowS_0.den) (K : Ks (CR k_markNetFlowS)) : Option (CR k_markNetFlowS) := m_markNetFlowS_l0 (fun s0_0 l0_2 => x0_markNetFlowS_0.at none ((s0_0, ()), (l0_2, ())) (K (.exit 0))) n v.1.2.1 v.1.2.2.1 v.2.1
def h_markNetFlowS_0 (av : AV) (x : HP k_markNetFlowS.ps) : Hdl (CR k_markNetFlowS) := hnd [] t_markNetFlowS_0 (L_markNetFlowS_0 av x)
theorem l_markNetFlowS_0 : LP k_markNetFlowS Try.f132 [0] h_markNetFlowS_0 := lp_ok (W := []) (H := []) (xs := [x0_markNetFlowS_0]) g_markNetFlowS trivial rfl (fun av x v K => by kernel_rfl) (fun av x n v K => by kernel_rfl)
theorem o_markNetFlowS : k_markNetFlowS.Ok Try.prog := fn_ok (k := k_markNetFlowS) (fn := Try.f132) (W := []) (H := [h_markNetFlowS_0]) Try.func132 g_markNetFlowS ⟨l_markNetFlowS_0, trivial⟩ rfl rfl (fun av x => by kernel_rfl)

def m_heldNetFlowS_k1 (s0_0 : Int) : Option Int := some s0_0
def m_heldNetFlowS_l0 (a : List GFlow) (kx0_0 : Int → Option Int) : Nat → Int → Int → Option Int
  | 0, _, _ => none
  | n0 + 1, s0_0, s0_1 => if decide (s0_1 < (a.length : Int)) = true then ((getI a s0_1).bind fun x2 => (if decide (x2.to = s0_0) = true then (gd (ok64 (s0_0 + 1)) ((getI a s0_1).bind fun x5 => (if decide (x5.if_.op = (s0_0 + 1)) = true then (gd (ok64 ((s0_0 + 1) + 1)) ((getI a s0_1).bind fun x8 => (if decide (x8.if_.var = ((s0_0 + 1) + 1)) = true then (gd (ok64 (((s0_0 + 1) + 1) + 1)) ((getI a s0_1).bind fun x11 => (if decide (x11.if_.k = (((s0_0 + 1) + 1) + 1)) = true then (gd (ok64 ((((s0_0 + 1) + 1) + 1) + 1)) (gd (ok64 (s0_1 + 1)) ((m_heldNetFlowS_l0 a kx0_0 n0) ((((s0_0 + 1) + 1) + 1) + 1) (s0_1 + 1)))) else (some (-1))))) else (some (-1))))) else (some (-1))))) else (some (-1)))) else (kx0_0 s0_0)
def m_heldNetFlowS (a : List GFlow) (k : Int) : Option Int := m_heldNetFlowS_l0 a m_heldNetFlowS_k1 FUEL k 0

def m_markNetTaskS_k1 (s0_0 : Int) (l0_2 : List GTask) : Option (Int × (List GTask)) := some (s0_0, l0_2)
def m_markNetTaskS_l0 (kx0_0 : Int → List GTask → Option (Int × (List GTask))) : Nat → Int → Int → List GTask → Option (Int × (List GTask))
  | 0, _, _, _ => none
  | n0 + 1, s0_0, s0_1, l0_2 => if decide (s0_1 < (l0_2.length : Int)) = true then ((getI l0_2 s0_1).bind fun x2 => (gd (ok64 (s0_0 + 1)) ((getI (l0_2.set s0_1.toNat (GTask.mk s0_0 x2.split x2.in_ x2.out x2.clear x2.role x2.apart x2.all x2.need)) s0_1).bind fun x4 => (gd (ok64 ((s0_0 + 1) + 1)) ((getI ((l0_2.set s0_1.toNat (GTask.mk s0_0 x2.split x2.in_ x2.out x2.clear x2.role x2.apart x2.all x2.need)).set s0_1.toNat (GTask.mk x4.join (s0_0 + 1) x4.in_ x4.out x4.clear x4.role x4.apart x4.all x4.need)) s0_1).bind fun x6 => ((m_markIntS x6.in_ ((s0_0 + 1) + 1)).bind fun x7 => ((getI (((l0_2.set s0_1.toNat (GTask.mk s0_0 x2.split x2.in_ x2.out x2.clear x2.role x2.apart x2.all x2.need)).set s0_1.toNat (GTask.mk x4.join (s0_0 + 1) x4.in_ x4.out x4.clear x4.role x4.apart x4.all x4.need)).set s0_1.toNat (GTask.mk x6.join x6.split x7.2 x6.out x6.clear x6.role x6.apart x6.all x6.need)) s0_1).bind fun x8 => ((m_markNetFlowS x8.out x7.1).bind fun x9 => ((getI ((((l0_2.set s0_1.toNat (GTask.mk s0_0 x2.split x2.in_ x2.out x2.clear x2.role x2.apart x2.all x2.need)).set s0_1.toNat (GTask.mk x4.join (s0_0 + 1) x4.in_ x4.out x4.clear x4.role x4.apart x4.all x4.need)).set s0_1.toNat (GTask.mk x6.join x6.split x7.2 x6.out x6.clear x6.role x6.apart x6.all x6.need)).set s0_1.toNat (GTask.mk x8.join x8.split x8.in_ x9.2 x8.clear x8.role x8.apart x8.all x8.need)) s0_1).bind fun x10 => ((m_markIntS x10.clear x9.1).bind fun x11 => ((getI (((((l0_2.set s0_1.toNat (GTask.mk s0_0 x2.split x2.in_ x2.out x2.clear x2.role x2.apart x2.all x2.need)).set s0_1.toNat (GTask.mk x4.join (s0_0 + 1) x4.in_ x4.out x4.clear x4.role x4.apart x4.all x4.need)).set s0_1.toNat (GTask.mk x6.join x6.split x7.2 x6.out x6.clear x6.role x6.apart x6.all x6.need)).set s0_1.toNat (GTask.mk x8.join x8.split x8.in_ x9.2 x8.clear x8.role x8.apart x8.all x8.need)).set s0_1.toNat (GTask.mk x10.join x10.split x10.in_ x10.out x11.2 x10.role x10.apart x10.all x10.need)) s0_1).bind fun x12 => (gd (ok64 (x11.1 + 1)) ((getI ((((((l0_2.set s0_1.toNat (GTask.mk s0_0 x2.split x2.in_ x2.out x2.clear x2.role x2.apart x2.all x2.need)).set s0_1.toNat (GTask.mk x4.join (s0_0 + 1) x4.in_ x4.out x4.clear x4.role x4.apart x4.all x4.need)).set s0_1.toNat (GTask.mk x6.join x6.split x7.2 x6.out x6.clear x6.role x6.apart x6.all x6.need)).set s0_1.toNat (GTask.mk x8.join x8.split x8.in_ x9.2 x8.clear x8.role x8.apart x8.all x8.need)).set s0_1.toNat (GTask.mk x10.join x10.split x10.in_ x10.out x11.2 x10.role x10.apart x10.all x10.need)).set s0_1.toNat (GTask.mk x12.join x12.split x12.in_ x12.out x12.clear x11.1 x12.apart x12.all x12.need)) s0_1).bind fun x14 => (gd (ok64 ((x11.1 + 1) + 1)) ((getI (((((((l0_2.set s0_1.toNat (GTask.mk s0_0 x2.split x2.in_ x2.out x2.clear x2.role x2.apart x2.all x2.need)).set s0_1.toNat (GTask.mk x4.join (s0_0 + 1) x4.in_ x4.out x4.clear x4.role x4.apart x4.all x4.need)).set s0_1.toNat (GTask.mk x6.join x6.split x7.2 x6.out x6.clear x6.role x6.apart x6.all x6.need)).set s0_1.toNat (GTask.mk x8.join x8.split x8.in_ x9.2 x8.clear x8.role x8.apart x8.all x8.need)).set s0_1.toNat (GTask.mk x10.join x10.split x10.in_ x10.out x11.2 x10.role x10.apart x10.all x10.need)).set s0_1.toNat (GTask.mk x12.join x12.split x12.in_ x12.out x12.clear x11.1 x12.apart x12.all x12.need)).set s0_1.toNat (GTask.mk x14.join x14.split x14.in_ x14.out x14.clear x14.role (x11.1 + 1) x14.all x14.need)) s0_1).bind fun x16 => (gd (ok64 (((x11.1 + 1) + 1) + 1)) ((getI ((((((((l0_2.set s0_1.toNat (GTask.mk s0_0 x2.split x2.in_ x2.out x2.clear x2.role x2.apart x2.all x2.need)).set s0_1.toNat (GTask.mk x4.join (s0_0 + 1) x4.in_ x4.out x4.clear x4.role x4.apart x4.all x4.need)).set s0_1.toNat (GTask.mk x6.join x6.split x7.2 x6.out x6.clear x6.role x6.apart x6.all x6.need)).set s0_1.toNat (GTask.mk x8.join x8.split x8.in_ x9.2 x8.clear x8.role x8.apart x8.all x8.need)).set s0_1.toNat (GTask.mk x10.join x10.split x10.in_ x10.out x11.2 x10.role x10.apart x10.all x10.need)).set s0_1.toNat (GTask.mk x12.join x12.split x12.in_ x12.out x12.clear x11.1 x12.apart x12.all x12.need)).set s0_1.toNat (GTask.mk x14.join x14.split x14.in_ x14.out x14.clear x14.role (x11.1 + 1) x14.all x14.need)).set s0_1.toNat (GTask.mk x16.join x16.split x16.in_ x16.out x16.clear x16.role x16.apart ((x11.1 + 1) + 1) x16.need)) s0_1).bind fun x18 => (gd (ok64 ((((x11.1 + 1) + 1) + 1) + 1)) (gd (ok64 (s0_1 + 1)) ((m_markNetTaskS_l0 kx0_0 n0) ((((x11.1 + 1) + 1) + 1) + 1) (s0_1 + 1) (((((((((l0_2.set s0_1.toNat (GTask.mk s0_0 x2.split x2.in_ x2.out x2.clear x2.role x2.apart x2.all x2.need)).set s0_1.toNat (GTask.mk x4.join (s0_0 + 1) x4.in_ x4.out x4.clear x4.role x4.apart x4.all x4.need)).set s0_1.toNat (GTask.mk x6.join x6.split x7.2 x6.out x6.clear x6.role x6.apart x6.all x6.need)).set s0_1.toNat (GTask.mk x8.join x8.split x8.in_ x9.2 x8.clear x8.role x8.apart x8.all x8.need)).set s0_1.toNat (GTask.mk x10.join x10.split x10.in_ x10.out x11.2 x10.role x10.apart x10.all x10.need)).set s0_1.toNat (GTask.mk x12.join x12.split x12.in_ x12.out x12.clear x11.1 x12.apart x12.all x12.need)).set s0_1.toNat (GTask.mk x14.join x14.split x14.in_ x14.out x14.clear x14.role (x11.1 + 1) x14.all x14.need)).set s0_1.toNat (GTask.mk x16.join x16.split x16.in_ x16.out x16.clear x16.role x16.apart ((x11.1 + 1) + 1) x16.need)).set s0_1.toNat (GTask.mk x18.join x18.split x18.in_ x18.out x18.clear x18.role x18.apart x18.all (((x11.1 + 1) + 1) + 1))))))))))))))))))))))) else (kx0_0 s0_0 l0_2)
def m_markNetTaskS (a : List GTask) (k : Int) : Option (Int × (List GTask)) := m_markNetTaskS_l0 m_markNetTaskS_k1 FUEL k 0 a
def k_markNetTaskS : Con := ⟨85, [.v (.sl (.s .task)) true, .v .I false], [(.I, true)], [(0, .v (.sl (.s .task)) true)], fun x => m_markNetTaskS x.1 x.2.1⟩
def f_markNetTaskS : Fs := ⟨[k_markIntS, k_markNetFlowS], []⟩
theorem g_markNetTaskS : f_markNetTaskS.Ok Try.prog := (fsK o_markIntS (fsK o_markNetFlowS fs0))
def t_markNetTaskS_0 : Tmpl := ⟨[(0, .c (.ref 1000000)), (1, .c .i), (5, .c .i)], [(1000000, .arr (.s .task) true)]⟩
def x0_markNetTaskS_0 : Tmpl := ⟨[(1, .c .i)], [(1000000, .arr (.s .task) true)]⟩
def L_markNetTaskS_0 (av : AV) (x : HP k_markNetTaskS.ps) (n : Nat) (v : t_markNetTaskS_0.den) (K : Ks (CR k_markNetTaskS)) : Option (CR k_markNetTaskS) := m_markNetTaskS_l0 (fun s0_0 l0_2 => x0_markNetTaskS_0.at none ((s0_0, ()), (l0_2, ())) (K (.exit 0))) n v.1.2.1 v.1.2.2.1 v.2.1
def h_markNetTaskS_0 (av : AV) (x : HP k_markNetTaskS.ps) : Hdl (CR k_markNetTaskS) := hnd [] t_markNetTaskS_0 (L_markNetTaskS_0 av x)
theorem l_markNetTaskS_0 : LP k_markNetTaskS Try.f85 [0] h_markNetTaskS_0 := lp_ok (W := []) (H := []) (xs := [x0_markNetTaskS_0]) g_markNetTaskS trivial rfl (fun av x v K => by kernel_rfl) (fun av x n v K => by kernel_rfl)
theorem o_markNetTaskS : k_markNetTaskS.Ok Try.prog := fn_ok (k := k_markNetTaskS) (fn := Try.f85) (W := []) (H := [h_markNetTaskS_0]) Try.func85 g_markNetTaskS ⟨l_markNetTaskS_0, trivial⟩ rfl rfl (fun av x => by kernel_rfl)

def m_heldNetTaskS_k1 (s0_0 : Int) : Option Int := some s0_0
def m_heldNetTaskS_l0 (a : List GTask) (kx0_0 : Int → Option Int) : Nat → Int → Int → Option Int
  | 0, _, _ => none
  | n0 + 1, s0_0, s0_1 => if decide (s0_1 < (a.length : Int)) = true then ((getI a s0_1).bind fun x2 => (if decide (x2.join = s0_0) = true then (gd (ok64 (s0_0 + 1)) ((getI a s0_1).bind fun x5 => (if decide (x5.split = (s0_0 + 1)) = true then (gd (ok64 ((s0_0 + 1) + 1)) ((getI a s0_1).bind fun x8 => ((m_heldIntS x8.in_ ((s0_0 + 1) + 1)).bind fun x9 => (if decide (x9 < 0) = true then (some (-1)) else ((getI a s0_1).bind fun x11 => ((m_heldNetFlowS x11.out x9).bind fun x12 => (if decide (x12 < 0) = true then (some (-1)) else ((getI a s0_1).bind fun x14 => ((m_heldIntS x14.clear x12).bind fun x15 => (if decide (x15 < 0) = true then (some (-1)) else ((getI a s0_1).bind fun x17 => (if decide (x17.role = x15) = true then (gd (ok64 (x15 + 1)) ((getI a s0_1).bind fun x20 => (if decide (x20.apart = (x15 + 1)) = true then (gd (ok64 ((x15 + 1) + 1)) ((getI a s0_1).bind fun x23 => (if decide (x23.all = ((x15 + 1) + 1)) = true then (gd (ok64 (((x15 + 1) + 1) + 1)) ((getI a s0_1).bind fun x26 => (if decide (x26.need = (((x15 + 1) + 1) + 1)) = true then (gd (ok64 ((((x15 + 1) + 1) + 1) + 1)) (gd (ok64 (s0_1 + 1)) ((m_heldNetTaskS_l0 a kx0_0 n0) ((((x15 + 1) + 1) + 1) + 1) (s0_1 + 1)))) else (some (-1))))) else (some (-1))))) else (some (-1))))) else (some (-1)))))))))))))) else (some (-1))))) else (some (-1)))) else (kx0_0 s0_0)
def m_heldNetTaskS (a : List GTask) (k : Int) : Option Int := m_heldNetTaskS_l0 a m_heldNetTaskS_k1 FUEL k 0

def m_markNetNetS_k1 (s0_0 : Int) (l0_2 : List GNet) : Option (Int × (List GNet)) := some (s0_0, l0_2)
def m_markNetNetS_l0 (kx0_0 : Int → List GNet → Option (Int × (List GNet))) : Nat → Int → Int → List GNet → Option (Int × (List GNet))
  | 0, _, _, _ => none
  | n0 + 1, s0_0, s0_1, l0_2 => if decide (s0_1 < (l0_2.length : Int)) = true then ((getI l0_2 s0_1).bind fun x2 => (gd (ok64 (s0_0 + 1)) ((getI (l0_2.set s0_1.toNat (GNet.mk s0_0 x2.tasks)) s0_1).bind fun x4 => ((m_markNetTaskS x4.tasks (s0_0 + 1)).bind fun x5 => (gd (ok64 (s0_1 + 1)) ((m_markNetNetS_l0 kx0_0 n0) x5.1 (s0_1 + 1) ((l0_2.set s0_1.toNat (GNet.mk s0_0 x2.tasks)).set s0_1.toNat (GNet.mk x4.places x5.2)))))))) else (kx0_0 s0_0 l0_2)
def m_markNetNetS (a : List GNet) (k : Int) : Option (Int × (List GNet)) := m_markNetNetS_l0 m_markNetNetS_k1 FUEL k 0 a
def k_markNetNetS : Con := ⟨69, [.v (.sl (.s .net)) true, .v .I false], [(.I, true)], [(0, .v (.sl (.s .net)) true)], fun x => m_markNetNetS x.1 x.2.1⟩
def f_markNetNetS : Fs := ⟨[k_markNetTaskS], []⟩
theorem g_markNetNetS : f_markNetNetS.Ok Try.prog := (fsK o_markNetTaskS fs0)
def t_markNetNetS_0 : Tmpl := ⟨[(0, .c (.ref 1000000)), (1, .c .i), (5, .c .i)], [(1000000, .arr (.s .net) true)]⟩
def x0_markNetNetS_0 : Tmpl := ⟨[(1, .c .i)], [(1000000, .arr (.s .net) true)]⟩
def L_markNetNetS_0 (av : AV) (x : HP k_markNetNetS.ps) (n : Nat) (v : t_markNetNetS_0.den) (K : Ks (CR k_markNetNetS)) : Option (CR k_markNetNetS) := m_markNetNetS_l0 (fun s0_0 l0_2 => x0_markNetNetS_0.at none ((s0_0, ()), (l0_2, ())) (K (.exit 0))) n v.1.2.1 v.1.2.2.1 v.2.1
def h_markNetNetS_0 (av : AV) (x : HP k_markNetNetS.ps) : Hdl (CR k_markNetNetS) := hnd [] t_markNetNetS_0 (L_markNetNetS_0 av x)
theorem l_markNetNetS_0 : LP k_markNetNetS Try.f69 [0] h_markNetNetS_0 := lp_ok (W := []) (H := []) (xs := [x0_markNetNetS_0]) g_markNetNetS trivial rfl (fun av x v K => by kernel_rfl) (fun av x n v K => by kernel_rfl)
theorem o_markNetNetS : k_markNetNetS.Ok Try.prog := fn_ok (k := k_markNetNetS) (fn := Try.f69) (W := []) (H := [h_markNetNetS_0]) Try.func69 g_markNetNetS ⟨l_markNetNetS_0, trivial⟩ rfl rfl (fun av x => by kernel_rfl)

def m_heldNetNetS_k1 (s0_0 : Int) : Option Int := some s0_0
def m_heldNetNetS_l0 (a : List GNet) (kx0_0 : Int → Option Int) : Nat → Int → Int → Option Int
  | 0, _, _ => none
  | n0 + 1, s0_0, s0_1 => if decide (s0_1 < (a.length : Int)) = true then ((getI a s0_1).bind fun x2 => (if decide (x2.places = s0_0) = true then (gd (ok64 (s0_0 + 1)) ((getI a s0_1).bind fun x5 => ((m_heldNetTaskS x5.tasks (s0_0 + 1)).bind fun x6 => (if decide (x6 < 0) = true then (some (-1)) else (gd (ok64 (s0_1 + 1)) ((m_heldNetNetS_l0 a kx0_0 n0) x6 (s0_1 + 1))))))) else (some (-1)))) else (kx0_0 s0_0)
def m_heldNetNetS (a : List GNet) (k : Int) : Option Int := m_heldNetNetS_l0 a m_heldNetNetS_k1 FUEL k 0

def m_markRdrNodeS_k1 (s0_0 : Int) (l0_2 : List GNode) : Option (Int × (List GNode)) := some (s0_0, l0_2)
def m_markRdrNodeS_l0 (kx0_0 : Int → List GNode → Option (Int × (List GNode))) : Nat → Int → Int → List GNode → Option (Int × (List GNode))
  | 0, _, _, _ => none
  | n0 + 1, s0_0, s0_1, l0_2 => if decide (s0_1 < (l0_2.length : Int)) = true then ((getI l0_2 s0_1).bind fun x2 => (gd (ok64 (s0_0 + 1)) ((getI (l0_2.set s0_1.toNat (GNode.mk (GAsk.mk s0_0 x2.if_.var x2.if_.k) x2.yes x2.no x2.ans x2.stone)) s0_1).bind fun x4 => (gd (ok64 ((s0_0 + 1) + 1)) ((getI ((l0_2.set s0_1.toNat (GNode.mk (GAsk.mk s0_0 x2.if_.var x2.if_.k) x2.yes x2.no x2.ans x2.stone)).set s0_1.toNat (GNode.mk (GAsk.mk x4.if_.op (s0_0 + 1) x4.if_.k) x4.yes x4.no x4.ans x4.stone)) s0_1).bind fun x6 => (gd (ok64 (((s0_0 + 1) + 1) + 1)) ((getI (((l0_2.set s0_1.toNat (GNode.mk (GAsk.mk s0_0 x2.if_.var x2.if_.k) x2.yes x2.no x2.ans x2.stone)).set s0_1.toNat (GNode.mk (GAsk.mk x4.if_.op (s0_0 + 1) x4.if_.k) x4.yes x4.no x4.ans x4.stone)).set s0_1.toNat (GNode.mk (GAsk.mk x6.if_.op x6.if_.var ((s0_0 + 1) + 1)) x6.yes x6.no x6.ans x6.stone)) s0_1).bind fun x8 => (gd (ok64 ((((s0_0 + 1) + 1) + 1) + 1)) ((getI ((((l0_2.set s0_1.toNat (GNode.mk (GAsk.mk s0_0 x2.if_.var x2.if_.k) x2.yes x2.no x2.ans x2.stone)).set s0_1.toNat (GNode.mk (GAsk.mk x4.if_.op (s0_0 + 1) x4.if_.k) x4.yes x4.no x4.ans x4.stone)).set s0_1.toNat (GNode.mk (GAsk.mk x6.if_.op x6.if_.var ((s0_0 + 1) + 1)) x6.yes x6.no x6.ans x6.stone)).set s0_1.toNat (GNode.mk x8.if_ (((s0_0 + 1) + 1) + 1) x8.no x8.ans x8.stone)) s0_1).bind fun x10 => (gd (ok64 (((((s0_0 + 1) + 1) + 1) + 1) + 1)) ((getI (((((l0_2.set s0_1.toNat (GNode.mk (GAsk.mk s0_0 x2.if_.var x2.if_.k) x2.yes x2.no x2.ans x2.stone)).set s0_1.toNat (GNode.mk (GAsk.mk x4.if_.op (s0_0 + 1) x4.if_.k) x4.yes x4.no x4.ans x4.stone)).set s0_1.toNat (GNode.mk (GAsk.mk x6.if_.op x6.if_.var ((s0_0 + 1) + 1)) x6.yes x6.no x6.ans x6.stone)).set s0_1.toNat (GNode.mk x8.if_ (((s0_0 + 1) + 1) + 1) x8.no x8.ans x8.stone)).set s0_1.toNat (GNode.mk x10.if_ x10.yes ((((s0_0 + 1) + 1) + 1) + 1) x10.ans x10.stone)) s0_1).bind fun x12 => (gd (ok64 ((((((s0_0 + 1) + 1) + 1) + 1) + 1) + 1)) ((getI ((((((l0_2.set s0_1.toNat (GNode.mk (GAsk.mk s0_0 x2.if_.var x2.if_.k) x2.yes x2.no x2.ans x2.stone)).set s0_1.toNat (GNode.mk (GAsk.mk x4.if_.op (s0_0 + 1) x4.if_.k) x4.yes x4.no x4.ans x4.stone)).set s0_1.toNat (GNode.mk (GAsk.mk x6.if_.op x6.if_.var ((s0_0 + 1) + 1)) x6.yes x6.no x6.ans x6.stone)).set s0_1.toNat (GNode.mk x8.if_ (((s0_0 + 1) + 1) + 1) x8.no x8.ans x8.stone)).set s0_1.toNat (GNode.mk x10.if_ x10.yes ((((s0_0 + 1) + 1) + 1) + 1) x10.ans x10.stone)).set s0_1.toNat (GNode.mk x12.if_ x12.yes x12.no (((((s0_0 + 1) + 1) + 1) + 1) + 1) x12.stone)) s0_1).bind fun x14 => ((m_markIntS x14.stone ((((((s0_0 + 1) + 1) + 1) + 1) + 1) + 1)).bind fun x15 => (gd (ok64 (s0_1 + 1)) ((m_markRdrNodeS_l0 kx0_0 n0) x15.1 (s0_1 + 1) (((((((l0_2.set s0_1.toNat (GNode.mk (GAsk.mk s0_0 x2.if_.var x2.if_.k) x2.yes x2.no x2.ans x2.stone)).set s0_1.toNat (GNode.mk (GAsk.mk x4.if_.op (s0_0 + 1) x4.if_.k) x4.yes x4.no x4.ans x4.stone)).set s0_1.toNat (GNode.mk (GAsk.mk x6.if_.op x6.if_.var ((s0_0 + 1) + 1)) x6.yes x6.no x6.ans x6.stone)).set s0_1.toNat (GNode.mk x8.if_ (((s0_0 + 1) + 1) + 1) x8.no x8.ans x8.stone)).set s0_1.toNat (GNode.mk x10.if_ x10.yes ((((s0_0 + 1) + 1) + 1) + 1) x10.ans x10.stone)).set s0_1.toNat (GNode.mk x12.if_ x12.yes x12.no (((((s0_0 + 1) + 1) + 1) + 1) + 1) x12.stone)).set s0_1.toNat (GNode.mk x14.if_ x14.yes x14.no x14.ans x15.2)))))))))))))))))) else (kx0_0 s0_0 l0_2)
def m_markRdrNodeS (a : List GNode) (k : Int) : Option (Int × (List GNode)) := m_markRdrNodeS_l0 m_markRdrNodeS_k1 FUEL k 0 a
def k_markRdrNodeS : Con := ⟨70, [.v (.sl (.s .node)) true, .v .I false], [(.I, true)], [(0, .v (.sl (.s .node)) true)], fun x => m_markRdrNodeS x.1 x.2.1⟩
def f_markRdrNodeS : Fs := ⟨[k_markIntS], []⟩
theorem g_markRdrNodeS : f_markRdrNodeS.Ok Try.prog := (fsK o_markIntS fs0)
def t_markRdrNodeS_0 : Tmpl := ⟨[(0, .c (.ref 1000000)), (1, .c .i), (5, .c .i)], [(1000000, .arr (.s .node) true)]⟩
def x0_markRdrNodeS_0 : Tmpl := ⟨[(1, .c .i)], [(1000000, .arr (.s .node) true)]⟩
def L_markRdrNodeS_0 (av : AV) (x : HP k_markRdrNodeS.ps) (n : Nat) (v : t_markRdrNodeS_0.den) (K : Ks (CR k_markRdrNodeS)) : Option (CR k_markRdrNodeS) := m_markRdrNodeS_l0 (fun s0_0 l0_2 => x0_markRdrNodeS_0.at none ((s0_0, ()), (l0_2, ())) (K (.exit 0))) n v.1.2.1 v.1.2.2.1 v.2.1
def h_markRdrNodeS_0 (av : AV) (x : HP k_markRdrNodeS.ps) : Hdl (CR k_markRdrNodeS) := hnd [] t_markRdrNodeS_0 (L_markRdrNodeS_0 av x)
theorem l_markRdrNodeS_0 : LP k_markRdrNodeS Try.f70 [0] h_markRdrNodeS_0 := lp_ok (W := []) (H := []) (xs := [x0_markRdrNodeS_0]) g_markRdrNodeS trivial rfl (fun av x v K => by kernel_rfl) (fun av x n v K => by kernel_rfl)
theorem o_markRdrNodeS : k_markRdrNodeS.Ok Try.prog := fn_ok (k := k_markRdrNodeS) (fn := Try.f70) (W := []) (H := [h_markRdrNodeS_0]) Try.func70 g_markRdrNodeS ⟨l_markRdrNodeS_0, trivial⟩ rfl rfl (fun av x => by kernel_rfl)

def m_heldRdrNodeS_k1 (s0_0 : Int) : Option Int := some s0_0
def m_heldRdrNodeS_l0 (a : List GNode) (kx0_0 : Int → Option Int) : Nat → Int → Int → Option Int
  | 0, _, _ => none
  | n0 + 1, s0_0, s0_1 => if decide (s0_1 < (a.length : Int)) = true then ((getI a s0_1).bind fun x2 => (if decide (x2.if_.op = s0_0) = true then (gd (ok64 (s0_0 + 1)) ((getI a s0_1).bind fun x5 => (if decide (x5.if_.var = (s0_0 + 1)) = true then (gd (ok64 ((s0_0 + 1) + 1)) ((getI a s0_1).bind fun x8 => (if decide (x8.if_.k = ((s0_0 + 1) + 1)) = true then (gd (ok64 (((s0_0 + 1) + 1) + 1)) ((getI a s0_1).bind fun x11 => (if decide (x11.yes = (((s0_0 + 1) + 1) + 1)) = true then (gd (ok64 ((((s0_0 + 1) + 1) + 1) + 1)) ((getI a s0_1).bind fun x14 => (if decide (x14.no = ((((s0_0 + 1) + 1) + 1) + 1)) = true then (gd (ok64 (((((s0_0 + 1) + 1) + 1) + 1) + 1)) ((getI a s0_1).bind fun x17 => (if decide (x17.ans = (((((s0_0 + 1) + 1) + 1) + 1) + 1)) = true then (gd (ok64 ((((((s0_0 + 1) + 1) + 1) + 1) + 1) + 1)) ((getI a s0_1).bind fun x20 => ((m_heldIntS x20.stone ((((((s0_0 + 1) + 1) + 1) + 1) + 1) + 1)).bind fun x21 => (if decide (x21 < 0) = true then (some (-1)) else (gd (ok64 (s0_1 + 1)) ((m_heldRdrNodeS_l0 a kx0_0 n0) x21 (s0_1 + 1))))))) else (some (-1))))) else (some (-1))))) else (some (-1))))) else (some (-1))))) else (some (-1))))) else (some (-1)))) else (kx0_0 s0_0)
def m_heldRdrNodeS (a : List GNode) (k : Int) : Option Int := m_heldRdrNodeS_l0 a m_heldRdrNodeS_k1 FUEL k 0

def m_markCasItemS_k1 (s0_0 : Int) (l0_2 : List GItem) : Option (Int × (List GItem)) := some (s0_0, l0_2)
def m_markCasItemS_l0 (kx0_0 : Int → List GItem → Option (Int × (List GItem))) : Nat → Int → Int → List GItem → Option (Int × (List GItem))
  | 0, _, _, _ => none
  | n0 + 1, s0_0, s0_1, l0_2 => if decide (s0_1 < (l0_2.length : Int)) = true then ((getI l0_2 s0_1).bind fun x2 => (gd (ok64 (s0_0 + 1)) ((getI (l0_2.set s0_1.toNat (GItem.mk s0_0 x2.who x2.did)) s0_1).bind fun x4 => (gd (ok64 ((s0_0 + 1) + 1)) ((getI ((l0_2.set s0_1.toNat (GItem.mk s0_0 x2.who x2.did)).set s0_1.toNat (GItem.mk x4.task (s0_0 + 1) x4.did)) s0_1).bind fun x6 => (gd (ok64 (((s0_0 + 1) + 1) + 1)) (gd (ok64 (s0_1 + 1)) ((m_markCasItemS_l0 kx0_0 n0) (((s0_0 + 1) + 1) + 1) (s0_1 + 1) (((l0_2.set s0_1.toNat (GItem.mk s0_0 x2.who x2.did)).set s0_1.toNat (GItem.mk x4.task (s0_0 + 1) x4.did)).set s0_1.toNat (GItem.mk x6.task x6.who ((s0_0 + 1) + 1))))))))))) else (kx0_0 s0_0 l0_2)
def m_markCasItemS (a : List GItem) (k : Int) : Option (Int × (List GItem)) := m_markCasItemS_l0 m_markCasItemS_k1 FUEL k 0 a
def k_markCasItemS : Con := ⟨86, [.v (.sl (.s .item)) true, .v .I false], [(.I, true)], [(0, .v (.sl (.s .item)) true)], fun x => m_markCasItemS x.1 x.2.1⟩
def f_markCasItemS : Fs := ⟨[], []⟩
theorem g_markCasItemS : f_markCasItemS.Ok Try.prog := fs0
def t_markCasItemS_0 : Tmpl := ⟨[(0, .c (.ref 1000000)), (1, .c .i), (5, .c .i)], [(1000000, .arr (.s .item) true)]⟩
def x0_markCasItemS_0 : Tmpl := ⟨[(1, .c .i)], [(1000000, .arr (.s .item) true)]⟩
def L_markCasItemS_0 (av : AV) (x : HP k_markCasItemS.ps) (n : Nat) (v : t_markCasItemS_0.den) (K : Ks (CR k_markCasItemS)) : Option (CR k_markCasItemS) := m_markCasItemS_l0 (fun s0_0 l0_2 => x0_markCasItemS_0.at none ((s0_0, ()), (l0_2, ())) (K (.exit 0))) n v.1.2.1 v.1.2.2.1 v.2.1
def h_markCasItemS_0 (av : AV) (x : HP k_markCasItemS.ps) : Hdl (CR k_markCasItemS) := hnd [] t_markCasItemS_0 (L_markCasItemS_0 av x)
theorem l_markCasItemS_0 : LP k_markCasItemS Try.f86 [0] h_markCasItemS_0 := lp_ok (W := []) (H := []) (xs := [x0_markCasItemS_0]) g_markCasItemS trivial rfl (fun av x v K => by kernel_rfl) (fun av x n v K => by kernel_rfl)
theorem o_markCasItemS : k_markCasItemS.Ok Try.prog := fn_ok (k := k_markCasItemS) (fn := Try.f86) (W := []) (H := [h_markCasItemS_0]) Try.func86 g_markCasItemS ⟨l_markCasItemS_0, trivial⟩ rfl rfl (fun av x => by kernel_rfl)

def m_heldCasItemS_k1 (s0_0 : Int) : Option Int := some s0_0
def m_heldCasItemS_l0 (a : List GItem) (kx0_0 : Int → Option Int) : Nat → Int → Int → Option Int
  | 0, _, _ => none
  | n0 + 1, s0_0, s0_1 => if decide (s0_1 < (a.length : Int)) = true then ((getI a s0_1).bind fun x2 => (if decide (x2.task = s0_0) = true then (gd (ok64 (s0_0 + 1)) ((getI a s0_1).bind fun x5 => (if decide (x5.who = (s0_0 + 1)) = true then (gd (ok64 ((s0_0 + 1) + 1)) ((getI a s0_1).bind fun x8 => (if decide (x8.did = ((s0_0 + 1) + 1)) = true then (gd (ok64 (((s0_0 + 1) + 1) + 1)) (gd (ok64 (s0_1 + 1)) ((m_heldCasItemS_l0 a kx0_0 n0) (((s0_0 + 1) + 1) + 1) (s0_1 + 1)))) else (some (-1))))) else (some (-1))))) else (some (-1)))) else (kx0_0 s0_0)
def m_heldCasItemS (a : List GItem) (k : Int) : Option Int := m_heldCasItemS_l0 a m_heldCasItemS_k1 FUEL k 0

def m_markCasDidS_k1 (s0_0 : Int) (l0_2 : List GDid) : Option (Int × (List GDid)) := some (s0_0, l0_2)
def m_markCasDidS_l0 (kx0_0 : Int → List GDid → Option (Int × (List GDid))) : Nat → Int → Int → List GDid → Option (Int × (List GDid))
  | 0, _, _, _ => none
  | n0 + 1, s0_0, s0_1, l0_2 => if decide (s0_1 < (l0_2.length : Int)) = true then ((getI l0_2 s0_1).bind fun x2 => (gd (ok64 (s0_0 + 1)) ((getI (l0_2.set s0_1.toNat (GDid.mk s0_0 x2.who)) s0_1).bind fun x4 => (gd (ok64 ((s0_0 + 1) + 1)) (gd (ok64 (s0_1 + 1)) ((m_markCasDidS_l0 kx0_0 n0) ((s0_0 + 1) + 1) (s0_1 + 1) ((l0_2.set s0_1.toNat (GDid.mk s0_0 x2.who)).set s0_1.toNat (GDid.mk x4.task (s0_0 + 1))))))))) else (kx0_0 s0_0 l0_2)
def m_markCasDidS (a : List GDid) (k : Int) : Option (Int × (List GDid)) := m_markCasDidS_l0 m_markCasDidS_k1 FUEL k 0 a
def k_markCasDidS : Con := ⟨87, [.v (.sl (.s .did)) true, .v .I false], [(.I, true)], [(0, .v (.sl (.s .did)) true)], fun x => m_markCasDidS x.1 x.2.1⟩
def f_markCasDidS : Fs := ⟨[], []⟩
theorem g_markCasDidS : f_markCasDidS.Ok Try.prog := fs0
def t_markCasDidS_0 : Tmpl := ⟨[(0, .c (.ref 1000000)), (1, .c .i), (5, .c .i)], [(1000000, .arr (.s .did) true)]⟩
def x0_markCasDidS_0 : Tmpl := ⟨[(1, .c .i)], [(1000000, .arr (.s .did) true)]⟩
def L_markCasDidS_0 (av : AV) (x : HP k_markCasDidS.ps) (n : Nat) (v : t_markCasDidS_0.den) (K : Ks (CR k_markCasDidS)) : Option (CR k_markCasDidS) := m_markCasDidS_l0 (fun s0_0 l0_2 => x0_markCasDidS_0.at none ((s0_0, ()), (l0_2, ())) (K (.exit 0))) n v.1.2.1 v.1.2.2.1 v.2.1
def h_markCasDidS_0 (av : AV) (x : HP k_markCasDidS.ps) : Hdl (CR k_markCasDidS) := hnd [] t_markCasDidS_0 (L_markCasDidS_0 av x)
theorem l_markCasDidS_0 : LP k_markCasDidS Try.f87 [0] h_markCasDidS_0 := lp_ok (W := []) (H := []) (xs := [x0_markCasDidS_0]) g_markCasDidS trivial rfl (fun av x v K => by kernel_rfl) (fun av x n v K => by kernel_rfl)
theorem o_markCasDidS : k_markCasDidS.Ok Try.prog := fn_ok (k := k_markCasDidS) (fn := Try.f87) (W := []) (H := [h_markCasDidS_0]) Try.func87 g_markCasDidS ⟨l_markCasDidS_0, trivial⟩ rfl rfl (fun av x => by kernel_rfl)

def m_heldCasDidS_k1 (s0_0 : Int) : Option Int := some s0_0
def m_heldCasDidS_l0 (a : List GDid) (kx0_0 : Int → Option Int) : Nat → Int → Int → Option Int
  | 0, _, _ => none
  | n0 + 1, s0_0, s0_1 => if decide (s0_1 < (a.length : Int)) = true then ((getI a s0_1).bind fun x2 => (if decide (x2.task = s0_0) = true then (gd (ok64 (s0_0 + 1)) ((getI a s0_1).bind fun x5 => (if decide (x5.who = (s0_0 + 1)) = true then (gd (ok64 ((s0_0 + 1) + 1)) (gd (ok64 (s0_1 + 1)) ((m_heldCasDidS_l0 a kx0_0 n0) ((s0_0 + 1) + 1) (s0_1 + 1)))) else (some (-1))))) else (some (-1)))) else (kx0_0 s0_0)
def m_heldCasDidS (a : List GDid) (k : Int) : Option Int := m_heldCasDidS_l0 a m_heldCasDidS_k1 FUEL k 0

def m_markEngRunS_k1 (s0_0 : Int) (l0_2 : List GRun) : Option (Int × (List GRun)) := some (s0_0, l0_2)
def m_markEngRunS_l0 (kx0_0 : Int → List GRun → Option (Int × (List GRun))) : Nat → Int → Int → List GRun → Option (Int × (List GRun))
  | 0, _, _, _ => none
  | n0 + 1, s0_0, s0_1, l0_2 => if decide (s0_1 < (l0_2.length : Int)) = true then ((getI l0_2 s0_1).bind fun x2 => (gd (ok64 (s0_0 + 1)) ((getI (l0_2.set s0_1.toNat (GRun.mk s0_0 x2.case)) s0_1).bind fun x4 => (gd (ok64 ((s0_0 + 1) + 1)) ((getI ((l0_2.set s0_1.toNat (GRun.mk s0_0 x2.case)).set s0_1.toNat (GRun.mk x4.net (GCase.mk (s0_0 + 1) x4.case.marks x4.case.busy x4.case.data x4.case.did))) s0_1).bind fun x6 => ((m_markIntS x6.case.marks ((s0_0 + 1) + 1)).bind fun x7 => ((getI (((l0_2.set s0_1.toNat (GRun.mk s0_0 x2.case)).set s0_1.toNat (GRun.mk x4.net (GCase.mk (s0_0 + 1) x4.case.marks x4.case.busy x4.case.data x4.case.did))).set s0_1.toNat (GRun.mk x6.net (GCase.mk x6.case.state x7.2 x6.case.busy x6.case.data x6.case.did))) s0_1).bind fun x8 => ((m_markCasItemS x8.case.busy x7.1).bind fun x9 => ((getI ((((l0_2.set s0_1.toNat (GRun.mk s0_0 x2.case)).set s0_1.toNat (GRun.mk x4.net (GCase.mk (s0_0 + 1) x4.case.marks x4.case.busy x4.case.data x4.case.did))).set s0_1.toNat (GRun.mk x6.net (GCase.mk x6.case.state x7.2 x6.case.busy x6.case.data x6.case.did))).set s0_1.toNat (GRun.mk x8.net (GCase.mk x8.case.state x8.case.marks x9.2 x8.case.data x8.case.did))) s0_1).bind fun x10 => ((m_markIntS x10.case.data x9.1).bind fun x11 => ((getI (((((l0_2.set s0_1.toNat (GRun.mk s0_0 x2.case)).set s0_1.toNat (GRun.mk x4.net (GCase.mk (s0_0 + 1) x4.case.marks x4.case.busy x4.case.data x4.case.did))).set s0_1.toNat (GRun.mk x6.net (GCase.mk x6.case.state x7.2 x6.case.busy x6.case.data x6.case.did))).set s0_1.toNat (GRun.mk x8.net (GCase.mk x8.case.state x8.case.marks x9.2 x8.case.data x8.case.did))).set s0_1.toNat (GRun.mk x10.net (GCase.mk x10.case.state x10.case.marks x10.case.busy x11.2 x10.case.did))) s0_1).bind fun x12 => ((m_markCasDidS x12.case.did x11.1).bind fun x13 => (gd (ok64 (s0_1 + 1)) ((m_markEngRunS_l0 kx0_0 n0) x13.1 (s0_1 + 1) ((((((l0_2.set s0_1.toNat (GRun.mk s0_0 x2.case)).set s0_1.toNat (GRun.mk x4.net (GCase.mk (s0_0 + 1) x4.case.marks x4.case.busy x4.case.data x4.case.did))).set s0_1.toNat (GRun.mk x6.net (GCase.mk x6.case.state x7.2 x6.case.busy x6.case.data x6.case.did))).set s0_1.toNat (GRun.mk x8.net (GCase.mk x8.case.state x8.case.marks x9.2 x8.case.data x8.case.did))).set s0_1.toNat (GRun.mk x10.net (GCase.mk x10.case.state x10.case.marks x10.case.busy x11.2 x10.case.did))).set s0_1.toNat (GRun.mk x12.net (GCase.mk x12.case.state x12.case.marks x12.case.busy x12.case.data x13.2))))))))))))))))) else (kx0_0 s0_0 l0_2)
def m_markEngRunS (a : List GRun) (k : Int) : Option (Int × (List GRun)) := m_markEngRunS_l0 m_markEngRunS_k1 FUEL k 0 a
def k_markEngRunS : Con := ⟨71, [.v (.sl (.s .run)) true, .v .I false], [(.I, true)], [(0, .v (.sl (.s .run)) true)], fun x => m_markEngRunS x.1 x.2.1⟩
def f_markEngRunS : Fs := ⟨[k_markIntS, k_markCasItemS, k_markCasDidS], []⟩
theorem g_markEngRunS : f_markEngRunS.Ok Try.prog := (fsK o_markIntS (fsK o_markCasItemS (fsK o_markCasDidS fs0)))
def t_markEngRunS_0 : Tmpl := ⟨[(0, .c (.ref 1000000)), (1, .c .i), (5, .c .i)], [(1000000, .arr (.s .run) true)]⟩
def x0_markEngRunS_0 : Tmpl := ⟨[(1, .c .i)], [(1000000, .arr (.s .run) true)]⟩
def L_markEngRunS_0 (av : AV) (x : HP k_markEngRunS.ps) (n : Nat) (v : t_markEngRunS_0.den) (K : Ks (CR k_markEngRunS)) : Option (CR k_markEngRunS) := m_markEngRunS_l0 (fun s0_0 l0_2 => x0_markEngRunS_0.at none ((s0_0, ()), (l0_2, ())) (K (.exit 0))) n v.1.2.1 v.1.2.2.1 v.2.1
def h_markEngRunS_0 (av : AV) (x : HP k_markEngRunS.ps) : Hdl (CR k_markEngRunS) := hnd [] t_markEngRunS_0 (L_markEngRunS_0 av x)
theorem l_markEngRunS_0 : LP k_markEngRunS Try.f71 [0] h_markEngRunS_0 := lp_ok (W := []) (H := []) (xs := [x0_markEngRunS_0]) g_markEngRunS trivial rfl (fun av x v K => by kernel_rfl) (fun av x n v K => by kernel_rfl)
theorem o_markEngRunS : k_markEngRunS.Ok Try.prog := fn_ok (k := k_markEngRunS) (fn := Try.f71) (W := []) (H := [h_markEngRunS_0]) Try.func71 g_markEngRunS ⟨l_markEngRunS_0, trivial⟩ rfl rfl (fun av x => by kernel_rfl)

def m_heldEngRunS_k1 (s0_0 : Int) : Option Int := some s0_0
def m_heldEngRunS_l0 (a : List GRun) (kx0_0 : Int → Option Int) : Nat → Int → Int → Option Int
  | 0, _, _ => none
  | n0 + 1, s0_0, s0_1 => if decide (s0_1 < (a.length : Int)) = true then ((getI a s0_1).bind fun x2 => (if decide (x2.net = s0_0) = true then (gd (ok64 (s0_0 + 1)) ((getI a s0_1).bind fun x5 => (if decide (x5.case.state = (s0_0 + 1)) = true then (gd (ok64 ((s0_0 + 1) + 1)) ((getI a s0_1).bind fun x8 => ((m_heldIntS x8.case.marks ((s0_0 + 1) + 1)).bind fun x9 => (if decide (x9 < 0) = true then (some (-1)) else ((getI a s0_1).bind fun x11 => ((m_heldCasItemS x11.case.busy x9).bind fun x12 => (if decide (x12 < 0) = true then (some (-1)) else ((getI a s0_1).bind fun x14 => ((m_heldIntS x14.case.data x12).bind fun x15 => (if decide (x15 < 0) = true then (some (-1)) else ((getI a s0_1).bind fun x17 => ((m_heldCasDidS x17.case.did x15).bind fun x18 => (if decide (x18 < 0) = true then (some (-1)) else (gd (ok64 (s0_1 + 1)) ((m_heldEngRunS_l0 a kx0_0 n0) x18 (s0_1 + 1)))))))))))))))) else (some (-1))))) else (some (-1)))) else (kx0_0 s0_0)
def m_heldEngRunS (a : List GRun) (k : Int) : Option Int := m_heldEngRunS_l0 a m_heldEngRunS_k1 FUEL k 0

def m_markEngReqS_k1 (s0_0 : Int) (l0_2 : List GReq) : Option (Int × (List GReq)) := some (s0_0, l0_2)
def m_markEngReqS_l0 (kx0_0 : Int → List GReq → Option (Int × (List GReq))) : Nat → Int → Int → List GReq → Option (Int × (List GReq))
  | 0, _, _, _ => none
  | n0 + 1, s0_0, s0_1, l0_2 => if decide (s0_1 < (l0_2.length : Int)) = true then ((getI l0_2 s0_1).bind fun x2 => (gd (ok64 (s0_0 + 1)) ((getI (l0_2.set s0_1.toNat (GReq.mk s0_0 x2.who x2.case x2.task x2.var x2.num x2.data x2.if_ x2.ans)) s0_1).bind fun x4 => (gd (ok64 ((s0_0 + 1) + 1)) ((getI ((l0_2.set s0_1.toNat (GReq.mk s0_0 x2.who x2.case x2.task x2.var x2.num x2.data x2.if_ x2.ans)).set s0_1.toNat (GReq.mk x4.kind (s0_0 + 1) x4.case x4.task x4.var x4.num x4.data x4.if_ x4.ans)) s0_1).bind fun x6 => (gd (ok64 (((s0_0 + 1) + 1) + 1)) ((getI (((l0_2.set s0_1.toNat (GReq.mk s0_0 x2.who x2.case x2.task x2.var x2.num x2.data x2.if_ x2.ans)).set s0_1.toNat (GReq.mk x4.kind (s0_0 + 1) x4.case x4.task x4.var x4.num x4.data x4.if_ x4.ans)).set s0_1.toNat (GReq.mk x6.kind x6.who ((s0_0 + 1) + 1) x6.task x6.var x6.num x6.data x6.if_ x6.ans)) s0_1).bind fun x8 => (gd (ok64 ((((s0_0 + 1) + 1) + 1) + 1)) ((getI ((((l0_2.set s0_1.toNat (GReq.mk s0_0 x2.who x2.case x2.task x2.var x2.num x2.data x2.if_ x2.ans)).set s0_1.toNat (GReq.mk x4.kind (s0_0 + 1) x4.case x4.task x4.var x4.num x4.data x4.if_ x4.ans)).set s0_1.toNat (GReq.mk x6.kind x6.who ((s0_0 + 1) + 1) x6.task x6.var x6.num x6.data x6.if_ x6.ans)).set s0_1.toNat (GReq.mk x8.kind x8.who x8.case (((s0_0 + 1) + 1) + 1) x8.var x8.num x8.data x8.if_ x8.ans)) s0_1).bind fun x10 => (gd (ok64 (((((s0_0 + 1) + 1) + 1) + 1) + 1)) ((getI (((((l0_2.set s0_1.toNat (GReq.mk s0_0 x2.who x2.case x2.task x2.var x2.num x2.data x2.if_ x2.ans)).set s0_1.toNat (GReq.mk x4.kind (s0_0 + 1) x4.case x4.task x4.var x4.num x4.data x4.if_ x4.ans)).set s0_1.toNat (GReq.mk x6.kind x6.who ((s0_0 + 1) + 1) x6.task x6.var x6.num x6.data x6.if_ x6.ans)).set s0_1.toNat (GReq.mk x8.kind x8.who x8.case (((s0_0 + 1) + 1) + 1) x8.var x8.num x8.data x8.if_ x8.ans)).set s0_1.toNat (GReq.mk x10.kind x10.who x10.case x10.task ((((s0_0 + 1) + 1) + 1) + 1) x10.num x10.data x10.if_ x10.ans)) s0_1).bind fun x12 => (gd (ok64 ((((((s0_0 + 1) + 1) + 1) + 1) + 1) + 1)) ((getI ((((((l0_2.set s0_1.toNat (GReq.mk s0_0 x2.who x2.case x2.task x2.var x2.num x2.data x2.if_ x2.ans)).set s0_1.toNat (GReq.mk x4.kind (s0_0 + 1) x4.case x4.task x4.var x4.num x4.data x4.if_ x4.ans)).set s0_1.toNat (GReq.mk x6.kind x6.who ((s0_0 + 1) + 1) x6.task x6.var x6.num x6.data x6.if_ x6.ans)).set s0_1.toNat (GReq.mk x8.kind x8.who x8.case (((s0_0 + 1) + 1) + 1) x8.var x8.num x8.data x8.if_ x8.ans)).set s0_1.toNat (GReq.mk x10.kind x10.who x10.case x10.task ((((s0_0 + 1) + 1) + 1) + 1) x10.num x10.data x10.if_ x10.ans)).set s0_1.toNat (GReq.mk x12.kind x12.who x12.case x12.task x12.var (((((s0_0 + 1) + 1) + 1) + 1) + 1) x12.data x12.if_ x12.ans)) s0_1).bind fun x14 => ((m_markIntS x14.data ((((((s0_0 + 1) + 1) + 1) + 1) + 1) + 1)).bind fun x15 => ((getI (((((((l0_2.set s0_1.toNat (GReq.mk s0_0 x2.who x2.case x2.task x2.var x2.num x2.data x2.if_ x2.ans)).set s0_1.toNat (GReq.mk x4.kind (s0_0 + 1) x4.case x4.task x4.var x4.num x4.data x4.if_ x4.ans)).set s0_1.toNat (GReq.mk x6.kind x6.who ((s0_0 + 1) + 1) x6.task x6.var x6.num x6.data x6.if_ x6.ans)).set s0_1.toNat (GReq.mk x8.kind x8.who x8.case (((s0_0 + 1) + 1) + 1) x8.var x8.num x8.data x8.if_ x8.ans)).set s0_1.toNat (GReq.mk x10.kind x10.who x10.case x10.task ((((s0_0 + 1) + 1) + 1) + 1) x10.num x10.data x10.if_ x10.ans)).set s0_1.toNat (GReq.mk x12.kind x12.who x12.case x12.task x12.var (((((s0_0 + 1) + 1) + 1) + 1) + 1) x12.data x12.if_ x12.ans)).set s0_1.toNat (GReq.mk x14.kind x14.who x14.case x14.task x14.var x14.num x15.2 x14.if_ x14.ans)) s0_1).bind fun x16 => (gd (ok64 (x15.1 + 1)) ((getI ((((((((l0_2.set s0_1.toNat (GReq.mk s0_0 x2.who x2.case x2.task x2.var x2.num x2.data x2.if_ x2.ans)).set s0_1.toNat (GReq.mk x4.kind (s0_0 + 1) x4.case x4.task x4.var x4.num x4.data x4.if_ x4.ans)).set s0_1.toNat (GReq.mk x6.kind x6.who ((s0_0 + 1) + 1) x6.task x6.var x6.num x6.data x6.if_ x6.ans)).set s0_1.toNat (GReq.mk x8.kind x8.who x8.case (((s0_0 + 1) + 1) + 1) x8.var x8.num x8.data x8.if_ x8.ans)).set s0_1.toNat (GReq.mk x10.kind x10.who x10.case x10.task ((((s0_0 + 1) + 1) + 1) + 1) x10.num x10.data x10.if_ x10.ans)).set s0_1.toNat (GReq.mk x12.kind x12.who x12.case x12.task x12.var (((((s0_0 + 1) + 1) + 1) + 1) + 1) x12.data x12.if_ x12.ans)).set s0_1.toNat (GReq.mk x14.kind x14.who x14.case x14.task x14.var x14.num x15.2 x14.if_ x14.ans)).set s0_1.toNat (GReq.mk x16.kind x16.who x16.case x16.task x16.var x16.num x16.data (GAsk.mk x15.1 x16.if_.var x16.if_.k) x16.ans)) s0_1).bind fun x18 => (gd (ok64 ((x15.1 + 1) + 1)) ((getI (((((((((l0_2.set s0_1.toNat (GReq.mk s0_0 x2.who x2.case x2.task x2.var x2.num x2.data x2.if_ x2.ans)).set s0_1.toNat (GReq.mk x4.kind (s0_0 + 1) x4.case x4.task x4.var x4.num x4.data x4.if_ x4.ans)).set s0_1.toNat (GReq.mk x6.kind x6.who ((s0_0 + 1) + 1) x6.task x6.var x6.num x6.data x6.if_ x6.ans)).set s0_1.toNat (GReq.mk x8.kind x8.who x8.case (((s0_0 + 1) + 1) + 1) x8.var x8.num x8.data x8.if_ x8.ans)).set s0_1.toNat (GReq.mk x10.kind x10.who x10.case x10.task ((((s0_0 + 1) + 1) + 1) + 1) x10.num x10.data x10.if_ x10.ans)).set s0_1.toNat (GReq.mk x12.kind x12.who x12.case x12.task x12.var (((((s0_0 + 1) + 1) + 1) + 1) + 1) x12.data x12.if_ x12.ans)).set s0_1.toNat (GReq.mk x14.kind x14.who x14.case x14.task x14.var x14.num x15.2 x14.if_ x14.ans)).set s0_1.toNat (GReq.mk x16.kind x16.who x16.case x16.task x16.var x16.num x16.data (GAsk.mk x15.1 x16.if_.var x16.if_.k) x16.ans)).set s0_1.toNat (GReq.mk x18.kind x18.who x18.case x18.task x18.var x18.num x18.data (GAsk.mk x18.if_.op (x15.1 + 1) x18.if_.k) x18.ans)) s0_1).bind fun x20 => (gd (ok64 (((x15.1 + 1) + 1) + 1)) ((getI ((((((((((l0_2.set s0_1.toNat (GReq.mk s0_0 x2.who x2.case x2.task x2.var x2.num x2.data x2.if_ x2.ans)).set s0_1.toNat (GReq.mk x4.kind (s0_0 + 1) x4.case x4.task x4.var x4.num x4.data x4.if_ x4.ans)).set s0_1.toNat (GReq.mk x6.kind x6.who ((s0_0 + 1) + 1) x6.task x6.var x6.num x6.data x6.if_ x6.ans)).set s0_1.toNat (GReq.mk x8.kind x8.who x8.case (((s0_0 + 1) + 1) + 1) x8.var x8.num x8.data x8.if_ x8.ans)).set s0_1.toNat (GReq.mk x10.kind x10.who x10.case x10.task ((((s0_0 + 1) + 1) + 1) + 1) x10.num x10.data x10.if_ x10.ans)).set s0_1.toNat (GReq.mk x12.kind x12.who x12.case x12.task x12.var (((((s0_0 + 1) + 1) + 1) + 1) + 1) x12.data x12.if_ x12.ans)).set s0_1.toNat (GReq.mk x14.kind x14.who x14.case x14.task x14.var x14.num x15.2 x14.if_ x14.ans)).set s0_1.toNat (GReq.mk x16.kind x16.who x16.case x16.task x16.var x16.num x16.data (GAsk.mk x15.1 x16.if_.var x16.if_.k) x16.ans)).set s0_1.toNat (GReq.mk x18.kind x18.who x18.case x18.task x18.var x18.num x18.data (GAsk.mk x18.if_.op (x15.1 + 1) x18.if_.k) x18.ans)).set s0_1.toNat (GReq.mk x20.kind x20.who x20.case x20.task x20.var x20.num x20.data (GAsk.mk x20.if_.op x20.if_.var ((x15.1 + 1) + 1)) x20.ans)) s0_1).bind fun x22 => (gd (ok64 ((((x15.1 + 1) + 1) + 1) + 1)) (gd (ok64 (s0_1 + 1)) ((m_markEngReqS_l0 kx0_0 n0) ((((x15.1 + 1) + 1) + 1) + 1) (s0_1 + 1) (((((((((((l0_2.set s0_1.toNat (GReq.mk s0_0 x2.who x2.case x2.task x2.var x2.num x2.data x2.if_ x2.ans)).set s0_1.toNat (GReq.mk x4.kind (s0_0 + 1) x4.case x4.task x4.var x4.num x4.data x4.if_ x4.ans)).set s0_1.toNat (GReq.mk x6.kind x6.who ((s0_0 + 1) + 1) x6.task x6.var x6.num x6.data x6.if_ x6.ans)).set s0_1.toNat (GReq.mk x8.kind x8.who x8.case (((s0_0 + 1) + 1) + 1) x8.var x8.num x8.data x8.if_ x8.ans)).set s0_1.toNat (GReq.mk x10.kind x10.who x10.case x10.task ((((s0_0 + 1) + 1) + 1) + 1) x10.num x10.data x10.if_ x10.ans)).set s0_1.toNat (GReq.mk x12.kind x12.who x12.case x12.task x12.var (((((s0_0 + 1) + 1) + 1) + 1) + 1) x12.data x12.if_ x12.ans)).set s0_1.toNat (GReq.mk x14.kind x14.who x14.case x14.task x14.var x14.num x15.2 x14.if_ x14.ans)).set s0_1.toNat (GReq.mk x16.kind x16.who x16.case x16.task x16.var x16.num x16.data (GAsk.mk x15.1 x16.if_.var x16.if_.k) x16.ans)).set s0_1.toNat (GReq.mk x18.kind x18.who x18.case x18.task x18.var x18.num x18.data (GAsk.mk x18.if_.op (x15.1 + 1) x18.if_.k) x18.ans)).set s0_1.toNat (GReq.mk x20.kind x20.who x20.case x20.task x20.var x20.num x20.data (GAsk.mk x20.if_.op x20.if_.var ((x15.1 + 1) + 1)) x20.ans)).set s0_1.toNat (GReq.mk x22.kind x22.who x22.case x22.task x22.var x22.num x22.data x22.if_ (((x15.1 + 1) + 1) + 1))))))))))))))))))))))))))) else (kx0_0 s0_0 l0_2)
def m_markEngReqS (a : List GReq) (k : Int) : Option (Int × (List GReq)) := m_markEngReqS_l0 m_markEngReqS_k1 FUEL k 0 a

def m_heldEngReqS_k1 (s0_0 : Int) : Option Int := some s0_0
def m_heldEngReqS_l0 (a : List GReq) (kx0_0 : Int → Option Int) : Nat → Int → Int → Option Int
  | 0, _, _ => none
  | n0 + 1, s0_0, s0_1 => if decide (s0_1 < (a.length : Int)) = true then ((getI a s0_1).bind fun x2 => (if decide (x2.kind = s0_0) = true then (gd (ok64 (s0_0 + 1)) ((getI a s0_1).bind fun x5 => (if decide (x5.who = (s0_0 + 1)) = true then (gd (ok64 ((s0_0 + 1) + 1)) ((getI a s0_1).bind fun x8 => (if decide (x8.case = ((s0_0 + 1) + 1)) = true then (gd (ok64 (((s0_0 + 1) + 1) + 1)) ((getI a s0_1).bind fun x11 => (if decide (x11.task = (((s0_0 + 1) + 1) + 1)) = true then (gd (ok64 ((((s0_0 + 1) + 1) + 1) + 1)) ((getI a s0_1).bind fun x14 => (if decide (x14.var = ((((s0_0 + 1) + 1) + 1) + 1)) = true then (gd (ok64 (((((s0_0 + 1) + 1) + 1) + 1) + 1)) ((getI a s0_1).bind fun x17 => (if decide (x17.num = (((((s0_0 + 1) + 1) + 1) + 1) + 1)) = true then (gd (ok64 ((((((s0_0 + 1) + 1) + 1) + 1) + 1) + 1)) ((getI a s0_1).bind fun x20 => ((m_heldIntS x20.data ((((((s0_0 + 1) + 1) + 1) + 1) + 1) + 1)).bind fun x21 => (if decide (x21 < 0) = true then (some (-1)) else ((getI a s0_1).bind fun x23 => (if decide (x23.if_.op = x21) = true then (gd (ok64 (x21 + 1)) ((getI a s0_1).bind fun x26 => (if decide (x26.if_.var = (x21 + 1)) = true then (gd (ok64 ((x21 + 1) + 1)) ((getI a s0_1).bind fun x29 => (if decide (x29.if_.k = ((x21 + 1) + 1)) = true then (gd (ok64 (((x21 + 1) + 1) + 1)) ((getI a s0_1).bind fun x32 => (if decide (x32.ans = (((x21 + 1) + 1) + 1)) = true then (gd (ok64 ((((x21 + 1) + 1) + 1) + 1)) (gd (ok64 (s0_1 + 1)) ((m_heldEngReqS_l0 a kx0_0 n0) ((((x21 + 1) + 1) + 1) + 1) (s0_1 + 1)))) else (some (-1))))) else (some (-1))))) else (some (-1))))) else (some (-1)))))))) else (some (-1))))) else (some (-1))))) else (some (-1))))) else (some (-1))))) else (some (-1))))) else (some (-1)))) else (kx0_0 s0_0)
def m_heldEngReqS (a : List GReq) (k : Int) : Option Int := m_heldEngReqS_l0 a m_heldEngReqS_k1 FUEL k 0

def m_markNetNet (a : GNet) (k : Int) : Option (Int × GNet) := (m_markNetTaskS a.tasks k).bind fun x1 => (some (x1.1, (GNet.mk a.places x1.2)))

def m_markCasCase (a : GCase) (k : Int) : Option (Int × GCase) := (m_markIntS a.marks k).bind fun x1 => ((m_markCasItemS a.busy x1.1).bind fun x2 => ((m_markIntS a.data x2.1).bind fun x3 => ((m_markCasDidS a.did x3.1).bind fun x4 => (some (x4.1, (GCase.mk a.state x1.2 x2.2 x3.2 x4.2))))))

def m_heldCasCase (a : GCase) (k : Int) : Option Int := (m_heldIntS a.marks k).bind fun x1 => (if decide (x1 < 0) = true then (some (-1)) else ((m_heldCasItemS a.busy x1).bind fun x3 => (if decide (x3 < 0) = true then (some (-1)) else ((m_heldIntS a.data x3).bind fun x5 => (if decide (x5 < 0) = true then (some (-1)) else ((m_heldCasDidS a.did x5).bind fun x7 => (if decide (x7 < 0) = true then (some (-1)) else (some x7))))))))

def m_markEngHouse (a : GHouse) (k : Int) : Option (Int × GHouse) := (m_markNetNetS a.nets k).bind fun x1 => ((m_markIntS a.people x1.1).bind fun x2 => ((m_markRdrNodeS a.tree x2.1).bind fun x3 => ((m_markEngRunS a.runs x3.1).bind fun x4 => (some (x4.1, (GHouse.mk x1.2 x2.2 x3.2 x4.2))))))
def k_markEngHouse : Con := ⟨28, [.v (.s .house) true, .v .I false], [(.I, true)], [(0, .v (.s .house) true)], fun x => m_markEngHouse x.1 x.2.1⟩
def f_markEngHouse : Fs := ⟨[k_markNetNetS, k_markIntS, k_markRdrNodeS, k_markEngRunS], []⟩
theorem g_markEngHouse : f_markEngHouse.Ok Try.prog := (fsK o_markNetNetS (fsK o_markIntS (fsK o_markRdrNodeS (fsK o_markEngRunS fs0))))
theorem o_markEngHouse : k_markEngHouse.Ok Try.prog := fn_ok (k := k_markEngHouse) (fn := Try.f28) (W := []) (H := []) Try.func28 g_markEngHouse trivial rfl rfl (fun av x => by kernel_rfl)

def m_heldEngHouse (a : GHouse) (k : Int) : Option Int := (m_heldNetNetS a.nets k).bind fun x1 => (if decide (x1 < 0) = true then (some (-1)) else ((m_heldIntS a.people x1).bind fun x3 => (if decide (x3 < 0) = true then (some (-1)) else ((m_heldRdrNodeS a.tree x3).bind fun x5 => (if decide (x5 < 0) = true then (some (-1)) else ((m_heldEngRunS a.runs x5).bind fun x7 => (if decide (x7 < 0) = true then (some (-1)) else (some x7))))))))

def m_markEngReq (a : GReq) (k : Int) : Option (Int × GReq) := (m_markIntS a.data k).bind fun x1 => (some (x1.1, (GReq.mk a.kind a.who a.case a.task a.var a.num x1.2 a.if_ a.ans)))

def m_laws_FnExactEngWork (aH : GHouse) (aWho : Int) : Option Bool := (m_szEngHouse aH 1048576).bind fun x1 => (if decide (x1 < 0) = true then (some true) else ((m_toEngHouse aH).bind fun x3 => ((m_spec_EngWork x3 aWho).bind fun x4 => ((m_toEngHouse aH).bind fun x5 => ((m_impl_EngWork x5 aWho).bind fun x6 => ((m_eqIntS x6 x4).bind fun x7 => (if x7 = true then ((m_toEngHouse aH).bind fun x9 => ((m_eqEngHouse x5 x9).bind fun x10 => (if x10 = true then ((m_markEngHouse x5 1).bind fun x12 => (if decide (x12.1 < 0) = true then (some false) else ((m_eqIntS x6 x4).bind fun x14 => (if x14 = true then ((m_markIntS x6 1).bind fun x16 => ((m_heldIntS x16.2 1).bind fun x17 => (if decide (x17 < 0) = true then (some false) else (if decide (x17 = x16.1) = true then ((m_toEngHouse aH).bind fun x20 => ((m_impl_EngWork x20 aWho).bind fun x21 => ((m_eqIntS x21 x4).bind fun x22 => (if x22 = true then ((m_heldIntS x16.2 1).bind fun x24 => (if decide (x24 < 0) = true then (some false) else (if decide (x24 = x16.1) = true then (some true) else (some false)))) else (some false))))) else (some false))))) else (some false))))) else (some false)))) else (some false))))))))
def k_laws_FnExactEngWork : Con := ⟨8, [.v (.s .house) false, .v .I false], [(.B, true)], [], fun x => m_laws_FnExactEngWork x.1 x.2.1⟩
def f_laws_FnExactEngWork : Fs := ⟨[k_szEngHouse, k_toEngHouse, k_spec_EngWork, k_impl_EngWork, k_eqIntS, k_eqEngHouse, k_markEngHouse, k_markIntS, k_heldIntS], []⟩
theorem g_laws_FnExactEngWork : f_laws_FnExactEngWork.Ok Try.prog := (fsK o_szEngHouse (fsK o_toEngHouse (fsK o_spec_EngWork (fsK o_impl_EngWork (fsK o_eqIntS (fsK o_eqEngHouse (fsK o_markEngHouse (fsK o_markIntS (fsK o_heldIntS fs0)))))))))
theorem o_laws_FnExactEngWork : k_laws_FnExactEngWork.Ok Try.prog := fn_ok (k := k_laws_FnExactEngWork) (fn := Try.f8) (W := []) (H := []) Try.func8 g_laws_FnExactEngWork trivial rfl rfl (fun av x => by kernel_rfl)

end
end Go.Am
