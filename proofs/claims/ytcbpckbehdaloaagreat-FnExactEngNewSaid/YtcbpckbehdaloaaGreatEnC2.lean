/- Mirrors and contracts, printed. Own work. -/
import Derived.Test.YtcbpckbehdaloaaGreatEnC1
set_option linter.unusedSimpArgs false
set_option maxRecDepth 100000
set_option maxHeartbeats 4000000
set_option linter.unusedVariables false
namespace Go.Am
noncomputable section
open Go Go.Proofs
def m_heldCasCase (a : GCase) (k : Int) : Option Int := (m_heldIntS a.marks k).bind fun x1 => (if decide (x1 < 0) = true then (some (-1)) else ((m_heldCasItemS a.busy x1).bind fun x3 => (if decide (x3 < 0) = true then (some (-1)) else ((m_heldIntS a.data x3).bind fun x5 => (if decide (x5 < 0) = true then (some (-1)) else ((m_heldCasDidS a.did x5).bind fun x7 => (if decide (x7 < 0) = true then (some (-1)) else (some x7))))))))

def m_markEngHouse (a : GHouse) (k : Int) : Option (Int × GHouse) := (m_markNetNetS a.nets k).bind fun x1 => ((m_markIntS a.people x1.1).bind fun x2 => ((m_markRdrNodeS a.tree x2.1).bind fun x3 => ((m_markEngRunS a.runs x3.1).bind fun x4 => (some (x4.1, (GHouse.mk x1.2 x2.2 x3.2 x4.2))))))
def k_markEngHouse : Con := ⟨19, [.v (.s .house) true, .v .I false], [(.I, true)], [(0, .v (.s .house) true)], fun x => m_markEngHouse x.1 x.2.1⟩
def f_markEngHouse : Fs := ⟨[k_markNetNetS, k_markIntS, k_markRdrNodeS, k_markEngRunS], []⟩
theorem g_markEngHouse : f_markEngHouse.Ok Tryz.prog := (fsK o_markNetNetS (fsK o_markIntS (fsK o_markRdrNodeS (fsK o_markEngRunS fs0))))
theorem o_markEngHouse : k_markEngHouse.Ok Tryz.prog := fn_ok (k := k_markEngHouse) (fn := Tryz.f19) (W := []) (H := []) Tryz.func19 g_markEngHouse trivial rfl rfl (fun av x => by kernel_rfl)

def m_heldEngHouse (a : GHouse) (k : Int) : Option Int := (m_heldNetNetS a.nets k).bind fun x1 => (if decide (x1 < 0) = true then (some (-1)) else ((m_heldIntS a.people x1).bind fun x3 => (if decide (x3 < 0) = true then (some (-1)) else ((m_heldRdrNodeS a.tree x3).bind fun x5 => (if decide (x5 < 0) = true then (some (-1)) else ((m_heldEngRunS a.runs x5).bind fun x7 => (if decide (x7 < 0) = true then (some (-1)) else (some x7))))))))
def k_heldEngHouse : Con := ⟨21, [.v (.s .house) false, .v .I false], [(.I, true)], [], fun x => m_heldEngHouse x.1 x.2.1⟩
def f_heldEngHouse : Fs := ⟨[k_heldNetNetS, k_heldIntS, k_heldRdrNodeS, k_heldEngRunS], []⟩
theorem g_heldEngHouse : f_heldEngHouse.Ok Tryz.prog := (fsK o_heldNetNetS (fsK o_heldIntS (fsK o_heldRdrNodeS (fsK o_heldEngRunS fs0))))
theorem o_heldEngHouse : k_heldEngHouse.Ok Tryz.prog := fn_ok (k := k_heldEngHouse) (fn := Tryz.f21) (W := []) (H := []) Tryz.func21 g_heldEngHouse trivial rfl rfl (fun av x => by kernel_rfl)

def m_markEngReq (a : GReq) (k : Int) : Option (Int × GReq) := (m_markIntS a.data k).bind fun x1 => (some (x1.1, (GReq.mk a.kind a.who a.case a.task a.var a.num x1.2 a.if_ a.ans)))

def m_laws_FnExactEngNew (aNets : List GNet) (aPeople : List Int) : Option Bool := if decide (1048576 < (aPeople.length : Int)) = true then (some true) else ((m_szNetNetS aNets 1048576).bind fun x2 => (if decide (x2 < 0) = true then (some true) else ((m_toNetNetS aNets).bind fun x4 => ((m_toIntS aPeople).bind fun x5 => ((m_spec_EngNew x4 x5).bind fun x6 => ((m_toNetNetS aNets).bind fun x7 => ((m_toIntS aPeople).bind fun x8 => ((m_impl_EngNew x7 x8).bind fun x9 => ((m_eqEngHouse x9 x6).bind fun x10 => (if x10 = true then ((m_toNetNetS aNets).bind fun x12 => ((m_eqNetNetS x7 x12).bind fun x13 => (if x13 = true then ((m_toIntS aPeople).bind fun x15 => ((m_eqIntS x8 x15).bind fun x16 => (if x16 = true then ((m_markNetNetS x7 1).bind fun x18 => ((m_markIntS x8 x18.1).bind fun x19 => (if decide (x19.1 < 0) = true then (some false) else ((m_eqEngHouse x9 x6).bind fun x21 => (if x21 = true then ((m_markEngHouse x9 1).bind fun x23 => ((m_heldEngHouse x23.2 1).bind fun x24 => (if decide (x24 < 0) = true then (some false) else (if decide (x24 = x23.1) = true then ((m_toNetNetS aNets).bind fun x27 => ((m_toIntS aPeople).bind fun x28 => ((m_impl_EngNew x27 x28).bind fun x29 => ((m_eqEngHouse x29 x6).bind fun x30 => (if x30 = true then ((m_heldEngHouse x23.2 1).bind fun x32 => (if decide (x32 < 0) = true then (some false) else (if decide (x32 = x23.1) = true then (some true) else (some false)))) else (some false)))))) else (some false))))) else (some false)))))) else (some false)))) else (some false)))) else (some false)))))))))))
def k_laws_FnExactEngNew : Con := ⟨8, [.v (.sl (.s .net)) false, .v (.sl .I) false], [(.B, true)], [], fun x => m_laws_FnExactEngNew x.1 x.2.1⟩
def f_laws_FnExactEngNew : Fs := ⟨[k_szNetNetS, k_toNetNetS, k_toIntS, k_spec_EngNew, k_impl_EngNew, k_eqEngHouse, k_eqNetNetS, k_eqIntS, k_markNetNetS, k_markIntS, k_markEngHouse, k_heldEngHouse], []⟩
theorem g_laws_FnExactEngNew : f_laws_FnExactEngNew.Ok Tryz.prog := (fsK o_szNetNetS (fsK o_toNetNetS (fsK o_toIntS (fsK o_spec_EngNew (fsK o_impl_EngNew (fsK o_eqEngHouse (fsK o_eqNetNetS (fsK o_eqIntS (fsK o_markNetNetS (fsK o_markIntS (fsK o_markEngHouse (fsK o_heldEngHouse fs0))))))))))))
theorem o_laws_FnExactEngNew : k_laws_FnExactEngNew.Ok Tryz.prog := fn_ok (k := k_laws_FnExactEngNew) (fn := Tryz.f8) (W := []) (H := []) Tryz.func8 g_laws_FnExactEngNew trivial rfl rfl (fun av x => by kernel_rfl)

end
end Go.Am
