/- Mirrors and contracts, printed. Own work. -/
import Derived.Test.YtcbpckbehdaloaaGreatEdC1
set_option linter.unusedSimpArgs false
set_option maxRecDepth 100000
set_option maxHeartbeats 4000000
set_option linter.unusedVariables false
namespace Go.Am
noncomputable section
open Go Go.Proofs
def z0mw  : Option Bool := some true
def z05v (nets : List GNet) (kx0_0 : Option Bool) : Nat → Int → Option Bool
  | 0, _ => none
  | n0 + 1, s0_0 => if decide (s0_0 < (nets.length : Int)) = true then ((getI nets s0_0).bind fun x4 => ((z092 x4).bind fun x5 => (if x5 = true then (gd (ok64 (s0_0 + 1)) ((z05v nets kx0_0 n0) (s0_0 + 1))) else (some false)))) else (kx0_0)
def z0f9 (nets : List GNet) : Option Bool := (z002 (nets.length : Int) 1 3).bind fun x1 => (if x1 = true then (z05v nets z0mw FUEL 0) else (some false))
def z050 : Con := ⟨82, [.v (.sl (.s .net)) false], [(.B, true)], [], fun x => z0f9 x.1⟩
def z1hh : Fs := ⟨[z00o, z02v], []⟩
theorem z0yz : z1hh.Ok Tryz.prog := (fsK z00t (fsK z0hw fs0))
def z0re : Tmpl := ⟨[(0, .c (.s (.s .net))), (3, .c .i)], []⟩
def z0ol : Tmpl := ⟨[], []⟩
def z17r (av : AV) (x : HP z050.ps) (n : Nat) (v : z0re.den) (K : Ks (CR z050)) : Option (CR z050) := z05v v.1.1 (z0ol.at none ((), ()) (K (.exit 0))) n v.1.2.1
def z0q1 (av : AV) (x : HP z050.ps) : Hdl (CR z050) := hnd [] z0re (z17r av x)
theorem z197 : LP z050 Tryz.f82 [0] z0q1 := lp_ok (W := []) (H := []) (xs := [z0ol]) z0yz trivial rfl (fun av x v K => by kernel_rfl) (fun av x n v K => by kernel_rfl)
theorem z1l3 : z050.Ok Tryz.prog := fn_ok (k := z050) (fn := Tryz.f82) (W := []) (H := [z0q1]) Tryz.func82 z0yz ⟨z197, trivial⟩ rfl rfl (fun av x => by kernel_rfl)
def z09x (p0_1 : Int) (l0_1 : List GTask) : Option GNet := some (GNet.mk p0_1 l0_1)
def z02r (n : GNet) (kx0_0 : List GTask → Option GNet) : Nat → Int → List GTask → Option GNet
  | 0, _, _ => none
  | n0 + 1, s0_0, l0_1 => if decide (s0_0 < (n.tasks.length : Int)) = true then ((getI n.tasks s0_0).bind fun x2 => (gd (([] : List Int).length + x2.in_.length ≤ SMALL) (gd (([] : List GFlow).length + x2.out.length ≤ SMALL) (gd (([] : List Int).length + x2.clear.length ≤ SMALL) (gd (l0_1.length + [(GTask.mk x2.join x2.split (([] : List Int) ++ x2.in_) (([] : List GFlow) ++ x2.out) (([] : List Int) ++ x2.clear) x2.role x2.apart x2.all x2.need)].length ≤ SMALL) (gd (ok64 (s0_0 + 1)) ((z02r n kx0_0 n0) (s0_0 + 1) (l0_1 ++ [(GTask.mk x2.join x2.split (([] : List Int) ++ x2.in_) (([] : List GFlow) ++ x2.out) (([] : List Int) ++ x2.clear) x2.role x2.apart x2.all x2.need)])))))))) else (kx0_0 l0_1)
def z09w (n : GNet) : Option GNet := z02r n (z09x n.places) FUEL 0 ([] : List GTask)
def z01z : Con := ⟨119, [.v (.s .net) false], [((.s .net), true)], [], fun x => z09w x.1⟩
def z12m : Fs := ⟨[], []⟩
theorem z0km : z12m.Ok Tryz.prog := fs0
def z0gl : Tmpl := ⟨[(1, .c (.bx 1 0)), (2, .c (.bx 2 0)), (3, .c (.bx 3 0)), (4, .c .i)], [(1, .boxT (.s .net)), (2, .box [.i, .nl]), (3, .box [.i, .ref 510301]), (510301, .arr (.s .task) true)]⟩
def z0fo : Tmpl := ⟨[(2, .c (.bx 2 0)), (3, .c (.bx 3 0))], [(2, .box [.i, .nl]), (3, .box [.i, .ref 510301]), (510301, .arr (.s .task) true)]⟩
def z0x2 (av : AV) (x : HP z01z.ps) (n : Nat) (v : z0gl.den) (K : Ks (CR z01z)) : Option (CR z01z) := z02r v.2.1 (fun l0_1 => z0fo.at none (((), (), ()), ((v.2.2.1.1, (), ()), (v.2.2.2.1.1, (), ()), l0_1, ())) (K (.exit 0))) n v.1.2.2.2.1 v.2.2.2.2.1
def z0g8 (av : AV) (x : HP z01z.ps) : Hdl (CR z01z) := hnd [.b 3 1 510301 (.s .task)] z0gl (z0x2 av x)
theorem z0xi : LP z01z Tryz.f119 [0] z0g8 := lp_ok (W := []) (H := []) (xs := [z0fo]) z0km trivial rfl (fun av x v K => by kernel_rfl) (fun av x n v K => by kernel_rfl)
theorem z164 : z01z.Ok Tryz.prog := fn_ok (k := z01z) (fn := Tryz.f119) (W := []) (H := [z0g8]) Tryz.func119 z0km ⟨z0xi, trivial⟩ rfl rfl (fun av x => by kernel_rfl)
def z0qa  : Option Bool := some true
def z072 (h : GHouse) (kx0_0 : Option Bool) : Nat → Int → Option Bool
  | 0, _ => none
  | n0 + 1, s0_0 => if decide (s0_0 < (h.runs.length : Int)) = true then ((getI h.runs s0_0).bind fun x9 => (gd (ok64 ((h.nets.length : Int) - 1)) ((z002 x9.net 0 ((h.nets.length : Int) - 1)).bind fun x11 => (if x11 = true then ((getI h.runs s0_0).bind fun x13 => ((getI h.nets x13.net).bind fun x14 => ((getI h.runs s0_0).bind fun x15 => ((z090 x14 x15.case).bind fun x16 => (if x16 = true then (gd (ok64 (s0_0 + 1)) ((z072 h kx0_0 n0) (s0_0 + 1))) else (some false)))))) else (some false))))) else (kx0_0)
def z0hm (h : GHouse) : Option Bool := (z0f9 h.nets).bind fun x1 => (if x1 = true then ((z0b0 h.people).bind fun x3 => (if x3 = true then ((z093 h.tree).bind fun x5 => (if x5 = true then (if decide (5 < (h.runs.length : Int)) = true then (some false) else (z072 h z0qa FUEL 0)) else (some false))) else (some false))) else (some false))
def z06b : Con := ⟨31, [.v (.s .house) false], [(.B, true)], [], fun x => z0hm x.1⟩
def z1nc : Fs := ⟨[z050, z03r, z015, z00o, z02t], []⟩
theorem z12x : z1nc.Ok Tryz.prog := (fsK z1l3 (fsK z0tg (fsK z0th (fsK z00t (fsK z0ht fs0)))))
def z0wr : Tmpl := ⟨[(1, .c (.bx 1 0)), (3, .c .i)], [(1, .boxT (.s .house))]⟩
def z0rp : Tmpl := ⟨[], []⟩
def z1b3 (av : AV) (x : HP z06b.ps) (n : Nat) (v : z0wr.den) (K : Ks (CR z06b)) : Option (CR z06b) := z072 v.2.1 (z0rp.at none ((), ()) (K (.exit 0))) n v.1.2.1
def z0v0 (av : AV) (x : HP z06b.ps) : Hdl (CR z06b) := hnd [] z0wr (z1b3 av x)
theorem z1dn : LP z06b Tryz.f31 [0] z0v0 := lp_ok (W := []) (H := []) (xs := [z0rp]) z12x trivial rfl (fun av x v K => by kernel_rfl) (fun av x n v K => by kernel_rfl)
theorem z1pk : z06b.Ok Tryz.prog := fn_ok (k := z06b) (fn := Tryz.f31) (W := []) (H := [z0v0]) Tryz.func31 z12x ⟨z1dn, trivial⟩ rfl rfl (fun av x => by kernel_rfl)
def z0dq (x2 : (List GNode)) (p0_0 : List Int) (l0_1 : List GNet) (l1_1 : List GRun) : Option GHouse := some (GHouse.mk l0_1 p0_0 x2 l1_1)
def z05u (h : GHouse) (kx1_0 : List GRun → Option GHouse) : Nat → Int → List GRun → Option GHouse
  | 0, _, _ => none
  | n1 + 1, s1_0, l1_1 => if decide (s1_0 < (h.runs.length : Int)) = true then ((getI h.runs s1_0).bind fun x9 => ((getI h.runs s1_0).bind fun x10 => ((z065 x10.case).bind fun x11 => (gd (l1_1.length + [(GRun.mk x9.net x11)].length ≤ SMALL) (gd (ok64 (s1_0 + 1)) ((z05u h kx1_0 n1) (s1_0 + 1) (l1_1 ++ [(GRun.mk x9.net x11)]))))))) else (kx1_0 l1_1)
def z09y (h : GHouse) (x2 : (List GNode)) (p0_0 : List Int) (l0_1 : List GNet) : Option GHouse := z05u h (z0dq x2 p0_0 l0_1) FUEL 0 ([] : List GRun)
def z05t (h : GHouse) (kx0_0 : List GNet → Option GHouse) : Nat → Int → List GNet → Option GHouse
  | 0, _, _ => none
  | n0 + 1, s0_0, l0_1 => if decide (s0_0 < (h.nets.length : Int)) = true then ((getI h.nets s0_0).bind fun x4 => ((z09w x4).bind fun x5 => (gd (l0_1.length + [x5].length ≤ SMALL) (gd (ok64 (s0_0 + 1)) ((z05t h kx0_0 n0) (s0_0 + 1) (l0_1 ++ [x5])))))) else (kx0_0 l0_1)
def z0f7 (h : GHouse) : Option GHouse := gd (([] : List Int).length + h.people.length ≤ SMALL) ((z0by h.tree).bind fun x2 => (z05t h (z09y h x2 (([] : List Int) ++ h.people)) FUEL 0 ([] : List GNet)))
def z016 : Con := ⟨62, [.v (.s .house) false], [((.s .house), true)], [], fun x => z0f7 x.1⟩
def z1hf : Fs := ⟨[z03l, z01z, z099], []⟩
theorem z0kl : z1hf.Ok Tryz.prog := (fsK z0zz (fsK z164 (fsK z0fc fs0)))
def z0rc : Tmpl := ⟨[(1, .c (.bx 1 0)), (2, .c (.bx 2 0)), (3, .c (.bx 3 0)), (4, .c .i)], [(1, .boxT (.s .house)), (2, .box [.nl, .nl, .nl, .nl]), (3, .box [.ref 510300, .ref 9, .ref 12, .nl]), (510300, .arr (.s .net) true), (9, .arr .I true), (12, .arr (.s .node) true)]⟩
def z0oj : Tmpl := ⟨[(1, .c (.bx 1 0)), (2, .c (.bx 2 0)), (3, .c (.bx 3 0))], [(1, .boxT (.s .house)), (2, .box [.nl, .nl, .nl, .nl]), (3, .box [.ref 510300, .ref 9, .ref 12, .nl]), (510300, .arr (.s .net) true), (9, .arr .I true), (12, .arr (.s .node) true)]⟩
def z17p (av : AV) (x : HP z016.ps) (n : Nat) (v : z0rc.den) (K : Ks (CR z016)) : Option (CR z016) := z05t v.2.1 (fun l0_1 => z0oj.at none (((), (), (), ()), (v.2.1, ((), (), (), (), ()), ((), (), (), (), ()), l0_1, v.2.2.2.2.2.1, v.2.2.2.2.2.2.1, ())) (K (.exit 0))) n v.1.2.2.2.1 v.2.2.2.2.1
def z0pz (av : AV) (x : HP z016.ps) : Hdl (CR z016) := hnd [.b 3 0 510300 (.s .net)] z0rc (z17p av x)
theorem z195 : LP z016 Tryz.f62 [0] z0pz := lp_ok (W := []) (H := []) (xs := [z0oj]) z0kl trivial rfl (fun av x v K => by kernel_rfl) (fun av x n v K => by kernel_rfl)
def z0rd : Tmpl := ⟨[(1, .c (.bx 1 0)), (2, .c (.bx 2 0)), (3, .c (.bx 3 0)), (5, .c .i)], [(1, .boxT (.s .house)), (2, .box [.nl, .nl, .nl, .nl]), (3, .box [.ref 510300, .ref 9, .ref 12, .ref 510303]), (510300, .arr (.s .net) true), (9, .arr .I true), (12, .arr (.s .node) true), (510303, .arr (.s .run) true)]⟩
def z0ok : Tmpl := ⟨[(2, .c (.bx 2 0)), (3, .c (.bx 3 0))], [(2, .box [.nl, .nl, .nl, .nl]), (3, .box [.ref 510300, .ref 9, .ref 12, .ref 510303]), (510300, .arr (.s .net) true), (9, .arr .I true), (12, .arr (.s .node) true), (510303, .arr (.s .run) true)]⟩
def z17q (av : AV) (x : HP z016.ps) (n : Nat) (v : z0rd.den) (K : Ks (CR z016)) : Option (CR z016) := z05u v.2.1 (fun l1_1 => z0ok.at none (((), (), ()), (((), (), (), (), ()), ((), (), (), (), ()), v.2.2.2.2.1, v.2.2.2.2.2.1, v.2.2.2.2.2.2.1, l1_1, ())) (K (.exit 2))) n v.1.2.2.2.1 v.2.2.2.2.2.2.2.1
def z0q0 (av : AV) (x : HP z016.ps) : Hdl (CR z016) := hnd [.b 3 3 510303 (.s .run)] z0rd (z17q av x)
theorem z196 : LP z016 Tryz.f62 [1] z0q0 := lp_ok (W := []) (H := []) (xs := [z0ok]) z0kl trivial rfl (fun av x v K => by kernel_rfl) (fun av x n v K => by kernel_rfl)
theorem z1l1 : z016.Ok Tryz.prog := fn_ok (k := z016) (fn := Tryz.f62) (W := []) (H := [z0pz, z0q0]) Tryz.func62 z0kl ⟨z195, z196, trivial⟩ rfl rfl (fun av x => by kernel_rfl)
def z0f8 (r : GReq) : Option GReq := if decide (r.kind = 1) = true then (some (GReq.mk r.kind 0 0 0 0 0 r.data (GAsk.mk 0 0 0) 0)) else (if decide (r.kind = 2) = true then (some (GReq.mk r.kind r.who r.case r.task 0 0 [] (GAsk.mk 0 0 0) 0)) else (if decide (r.kind = 3) = true then (some (GReq.mk r.kind 0 r.case r.task r.var r.num [] (GAsk.mk 0 0 0) 0)) else (if decide (r.kind = 4) = true then (some (GReq.mk r.kind 0 r.case 0 0 0 [] (GAsk.mk 0 0 0) 0)) else (if decide (r.kind = 5) = true then (some (GReq.mk r.kind 0 0 0 0 0 r.data r.if_ r.ans)) else (some (GReq.mk r.kind 0 0 0 0 0 [] (GAsk.mk 0 0 0) 0))))))
def z0lw : Con := ⟨127, [.v (.s .req) false], [((.s .req), false)], [], fun x => z0f8 x.1⟩
def z1hg : Fs := ⟨[], []⟩
theorem z1ij : z1hg.Ok Tryz.prog := fs0
theorem z1l2 : z0lw.Ok Tryz.prog := fn_ok (k := z0lw) (fn := Tryz.f127) (W := []) (H := []) Tryz.func127 z1ij trivial rfl rfl (fun av x => by kernel_rfl)
def z03x (a : GReq) (b : GReq) : Option Bool := if decide (a.kind = b.kind) = true then (if decide (a.who = b.who) = true then (if decide (a.case = b.case) = true then (if decide (a.task = b.task) = true then (if decide (a.var = b.var) = true then (if decide (a.num = b.num) = true then (if decide ([a.if_.op, a.if_.var, a.if_.k] = [b.if_.op, b.if_.var, b.if_.k]) = true then (some (decide (a.ans = b.ans))) else (some false)) else (some false)) else (some false)) else (some false)) else (some false)) else (some false)) else (some false)
def z02n (a : GReq) (b : GReq) (kx0_0 : Option Bool) : Nat → Int → Option Bool
  | 0, _ => none
  | n0 + 1, s0_0 => if decide (s0_0 < (a.data.length : Int)) = true then ((getI a.data s0_0).bind fun x3 => ((getI b.data s0_0).bind fun x4 => (if decide (x3 = x4) = true then (gd (ok64 (s0_0 + 1)) ((z02n a b kx0_0 n0) (s0_0 + 1))) else (some false)))) else (kx0_0)
def z0fa (a : GReq) (b : GReq) : Option Bool := if decide ((a.data.length : Int) = (b.data.length : Int)) = true then (z02n a b (z03x a b) FUEL 0) else (some false)
def z051 : Con := ⟨126, [.v (.s .req) false, .v (.s .req) false], [(.B, true)], [], fun x => z0fa x.1 x.2.1⟩
def z1hi : Fs := ⟨[], []⟩
theorem z0z0 : z1hi.Ok Tryz.prog := fs0
def z0rf : Tmpl := ⟨[(2, .c (.bx 2 0)), (3, .c (.bx 3 0)), (5, .c .i)], [(2, .boxT (.s .req)), (3, .boxT (.s .req))]⟩
def z0om : Tmpl := ⟨[(2, .c (.bx 2 0)), (3, .c (.bx 3 0))], [(2, .boxT (.s .req)), (3, .boxT (.s .req))]⟩
def z17s (av : AV) (x : HP z051.ps) (n : Nat) (v : z0rf.den) (K : Ks (CR z051)) : Option (CR z051) := z02n v.2.1 v.2.2.1 (z0om.at none (((), (), ()), (v.2.1, v.2.2.1, ())) (K (.exit 0))) n v.1.2.2.1
def z0q2 (av : AV) (x : HP z051.ps) : Hdl (CR z051) := hnd [] z0rf (z17s av x)
theorem z198 : LP z051 Tryz.f126 [0] z0q2 := lp_ok (W := []) (H := []) (xs := [z0om]) z0z0 trivial rfl (fun av x v K => by kernel_rfl) (fun av x n v K => by kernel_rfl)
theorem z1l4 : z051.Ok Tryz.prog := fn_ok (k := z051) (fn := Tryz.f126) (W := []) (H := [z0q2]) Tryz.func126 z0z0 ⟨z198, trivial⟩ rfl rfl (fun av x => by kernel_rfl)
def z0bh (r : GReq) : Option Bool := (z002 r.kind 1 5).bind fun x1 => (if x1 = true then ((z0f8 r).bind fun x3 => ((z0fa r x3).bind fun x4 => (if x4 = true then ((z002 r.who 0 4).bind fun x6 => (if x6 = true then ((z002 r.case 0 4).bind fun x8 => (if x8 = true then ((z002 r.task 0 5).bind fun x10 => (if x10 = true then ((z002 r.var (-1) 2).bind fun x12 => (if x12 = true then ((z002 r.num (-99) 99).bind fun x14 => (if x14 = true then ((z07v r.if_).bind fun x16 => (if x16 = true then ((z002 r.ans 0 2).bind fun x18 => (if x18 = true then (if decide (r.kind = 1) = true then ((z02b r.data).bind fun x21 => (some (true == x21))) else ((z02b r.data).bind fun x22 => (some ((decide (r.kind = 5)) == x22)))) else (some false))) else (some false))) else (some false))) else (some false))) else (some false))) else (some false))) else (some false))) else (some false)))) else (some false))
def z0fu : Con := ⟨60, [.v (.s .req) false], [(.B, true)], [], fun x => z0bh x.1⟩
def z182 : Fs := ⟨[z00o, z0lw, z051, z0at, z013], []⟩
theorem z18e : z182.Ok Tryz.prog := (fsK z00t (fsK z1l2 (fsK z1l4 (fsK z0hu (fsK z06l fs0)))))
theorem z19g : z0fu.Ok Tryz.prog := fn_ok (k := z0fu) (fn := Tryz.f60) (W := []) (H := []) Tryz.func60 z18e trivial rfl rfl (fun av x => by kernel_rfl)
def z0f6 (h : GHouse) (r : GReq) : Option (GHouse × Int) := if decide ((h.runs.length : Int) ≤ r.case) = true then (some (h, 2)) else ((getI h.runs r.case).bind fun x2 => ((getI h.nets x2.net).bind fun x3 => (if decide (r.kind = 2) = true then ((z0bg x3 h.people x2.case r.task r.who).bind fun x5 => (if x5.2 = true then ((getI h.runs r.case).bind fun x7 => (some ((GHouse.mk h.nets h.people h.tree (h.runs.set r.case.toNat (GRun.mk x7.net x5.1))), 1))) else (some (h, 3)))) else (if decide (r.kind = 3) = true then ((z0d3 x3 x2.case r.task r.var r.num).bind fun x9 => (if x9.2 = true then ((getI h.runs r.case).bind fun x11 => (some ((GHouse.mk h.nets h.people h.tree (h.runs.set r.case.toNat (GRun.mk x11.net x9.1))), 1))) else (some (h, 3)))) else ((z0d2 x3 x2.case).bind fun x12 => (if x12.2 = true then ((getI h.runs r.case).bind fun x14 => (some ((GHouse.mk h.nets h.people h.tree (h.runs.set r.case.toNat (GRun.mk x14.net x12.1))), 1))) else (some (h, 3))))))))
def z0lv : Con := ⟨133, [.v (.s .house) true, .v (.s .req) false], [((.s .house), true), (.I, true)], [], fun x => z0f6 x.1 x.2.1⟩
def z1he : Fs := ⟨[z0ft, z0h6, z0h5], []⟩
theorem z1ii : z1he.Ok Tryz.prog := (fsK z19f (fsK z1ez (fsK z1ey fs0)))
theorem z1l0 : z0lv.Ok Tryz.prog := fn_ok (k := z0lv) (fn := Tryz.f133) (W := []) (H := []) Tryz.func133 z1ii trivial rfl rfl (fun av x => by kernel_rfl)
def z0oo (h : GHouse) (r : GReq) : Option (GHouse × Int) := if decide (r.kind = 1) = true then (if decide ((h.runs.length : Int) = 5) = true then (some (h, 4)) else ((z0f2 h.tree r.data).bind fun x3 => (if decide ((h.nets.length : Int) ≤ x3) = true then ((getI h.nets 0).bind fun x5 => ((z0bw x5 r.data).bind fun x6 => (gd (h.runs.length + [(GRun.mk 0 x6)].length ≤ SMALL) (some ((GHouse.mk h.nets h.people h.tree (h.runs ++ [(GRun.mk 0 x6)])), 1))))) else ((getI h.nets x3).bind fun x8 => ((z0bw x8 r.data).bind fun x9 => (gd (h.runs.length + [(GRun.mk x3 x9)].length ≤ SMALL) (some ((GHouse.mk h.nets h.people h.tree (h.runs ++ [(GRun.mk x3 x9)])), 1)))))))) else (if decide (r.kind = 5) = true then ((z0f1 h.tree r.data r.if_ r.ans).bind fun x12 => (if x12.2 = true then (some ((GHouse.mk h.nets h.people x12.1 h.runs), 1)) else (some (h, 3)))) else ((z0f6 h r).bind fun x14 => (some (x14.1, x14.2))))
def z0xd : Con := ⟨61, [.v (.s .house) true, .v (.s .req) false], [((.s .house), true), (.I, true)], [], fun x => z0oo x.1 x.2.1⟩
def z1tt : Fs := ⟨[z0ls, z0lp, z04y, z0lv], []⟩
theorem z1tw : z1tt.Ok Tryz.prog := (fsK z1kw (fsK z1kp (fsK z1kv (fsK z1l0 fs0))))
theorem z1uh : z0xd.Ok Tryz.prog := fn_ok (k := z0xd) (fn := Tryz.f61) (W := []) (H := []) Tryz.func61 z1tw trivial rfl rfl (fun av x => by kernel_rfl)
def z0hl (h : GHouse) (r : GReq) : Option (GHouse × Int) := (z0hm h).bind fun x1 => (if x1 = true then ((z0bh r).bind fun x3 => (if x3 = true then ((z0f7 h).bind fun x5 => ((z0oo x5 r).bind fun x6 => (some (x6.1, x6.2)))) else (some ((GHouse.mk [] [] [] []), 0)))) else (some ((GHouse.mk [] [] [] []), 0)))
def z0sg : Con := ⟨13, [.v (.s .house) false, .v (.s .req) false], [((.s .house), true), (.I, true)], [], fun x => z0hl x.1 x.2.1⟩
def z1nb : Fs := ⟨[z06b, z0fu, z016, z0xd], []⟩
theorem z1o6 : z1nb.Ok Tryz.prog := (fsK z1pk (fsK z19g (fsK z1l1 (fsK z1uh fs0))))
theorem z1pj : z0sg.Ok Tryz.prog := fn_ok (k := z0sg) (fn := Tryz.f13) (W := []) (H := []) Tryz.func13 z1o6 trivial rfl rfl (fun av x => by kernel_rfl)
def z06g (x1 : (List Int)) (x2 : (List GNode)) (l0_1 : List GNet) (l1_1 : List GRun) : Option GHouse := some (GHouse.mk l0_1 x1 x2 l1_1)
def z01c (p1_0 : List GRun) (p1_1 : Int) (kx1_0 : List GRun → Option GHouse) : Nat → Int → List GRun → Option GHouse
  | 0, _, _ => none
  | n1 + 1, s1_0, l1_1 => if decide (s1_0 < p1_1) = true then ((getI p1_0 s1_0).bind fun x9 => ((z007 x9.case).bind fun x10 => (gd (l1_1.length + [(GRun.mk x9.net x10)].length ≤ SMALL) (gd (ok64 (s1_0 + 1)) ((z01c p1_0 p1_1 kx1_0 n1) (s1_0 + 1) (l1_1 ++ [(GRun.mk x9.net x10)])))))) else (kx1_0 l1_1)
def z03f (h : GHouse) (x1 : (List Int)) (x2 : (List GNode)) (l0_1 : List GNet) : Option GHouse := z01c h.runs (h.runs.length : Int) (z06g x1 x2 l0_1) FUEL 0 ([] : List GRun)
def z01b (p0_0 : List GNet) (p0_1 : Int) (kx0_0 : List GNet → Option GHouse) : Nat → Int → List GNet → Option GHouse
  | 0, _, _ => none
  | n0 + 1, s0_0, l0_1 => if decide (s0_0 < p0_1) = true then ((getI p0_0 s0_0).bind fun x4 => ((z07g x4).bind fun x5 => (gd (l0_1.length + [x5].length ≤ SMALL) (gd (ok64 (s0_0 + 1)) ((z01b p0_0 p0_1 kx0_0 n0) (s0_0 + 1) (l0_1 ++ [x5])))))) else (kx0_0 l0_1)
def z022 (h : GHouse) : Option GHouse := (z00f h.people).bind fun x1 => ((z06r h.tree).bind fun x2 => (z01b h.nets (h.nets.length : Int) (z03f h x1 x2) FUEL 0 ([] : List GNet)))
def z008 : Con := ⟨67, [.v (.s .house) false], [((.s .house), true)], [], fun x => z022 x.1⟩
def z0ov : Fs := ⟨[z01m, z019, z012, z026], []⟩
theorem z084 : z0ov.Ok Tryz.prog := (fsK z02p (fsK z0iv (fsK z0w5 (fsK z06k fs0))))
def z0ah : Tmpl := ⟨[(1, .c (.bx 1 0)), (2, .c (.bx 2 0)), (3, .c (.bx 3 0)), (16, .c (.s (.s .net))), (17, .c .i), (18, .c .i)], [(1, .boxT (.s .house)), (2, .box [.nl, .nl, .nl, .nl]), (3, .box [.ref 510300, .ref 10, .ref 13, .nl]), (510300, .arr (.s .net) true), (10, .arr .I true), (13, .arr (.s .node) true)]⟩
def z0a4 : Tmpl := ⟨[(1, .c (.bx 1 0)), (2, .c (.bx 2 0)), (3, .c (.bx 3 0))], [(1, .boxT (.s .house)), (2, .box [.nl, .nl, .nl, .nl]), (3, .box [.ref 510300, .ref 10, .ref 13, .nl]), (510300, .arr (.s .net) true), (10, .arr .I true), (13, .arr (.s .node) true)]⟩
def z0ju (av : AV) (x : HP z008.ps) (n : Nat) (v : z0ah.den) (K : Ks (CR z008)) : Option (CR z008) := z01b v.1.2.2.2.1 v.1.2.2.2.2.1 (fun l0_1 => z0a4.at none (((), (), (), ()), (v.2.1, ((), (), (), (), ()), ((), (), (), (), ()), l0_1, v.2.2.2.2.2.1, v.2.2.2.2.2.2.1, ())) (K (.exit 0))) n v.1.2.2.2.2.2.1 v.2.2.2.2.1
def z0aa (av : AV) (x : HP z008.ps) : Hdl (CR z008) := hnd [.b 3 0 510300 (.s .net)] z0ah (z0ju av x)
theorem z0k4 : LP z008 Tryz.f67 [0] z0aa := lp_ok (W := []) (H := []) (xs := [z0a4]) z084 trivial rfl (fun av x v K => by kernel_rfl) (fun av x n v K => by kernel_rfl)
def z0ai : Tmpl := ⟨[(2, .c (.bx 2 0)), (3, .c (.bx 3 0)), (31, .c (.s (.s .run))), (32, .c .i), (33, .c .i)], [(2, .box [.nl, .nl, .nl, .nl]), (3, .box [.ref 510300, .ref 10, .ref 13, .ref 510303]), (510300, .arr (.s .net) true), (10, .arr .I true), (13, .arr (.s .node) true), (510303, .arr (.s .run) true)]⟩
def z0a5 : Tmpl := ⟨[(2, .c (.bx 2 0)), (3, .c (.bx 3 0))], [(2, .box [.nl, .nl, .nl, .nl]), (3, .box [.ref 510300, .ref 10, .ref 13, .ref 510303]), (510300, .arr (.s .net) true), (10, .arr .I true), (13, .arr (.s .node) true), (510303, .arr (.s .run) true)]⟩
def z0jv (av : AV) (x : HP z008.ps) (n : Nat) (v : z0ai.den) (K : Ks (CR z008)) : Option (CR z008) := z01c v.1.2.2.1 v.1.2.2.2.1 (fun l1_1 => z0a5.at none (((), (), ()), (((), (), (), (), ()), ((), (), (), (), ()), v.2.2.2.1, v.2.2.2.2.1, v.2.2.2.2.2.1, l1_1, ())) (K (.exit 2))) n v.1.2.2.2.2.1 v.2.2.2.2.2.2.1
def z0ab (av : AV) (x : HP z008.ps) : Hdl (CR z008) := hnd [.b 3 3 510303 (.s .run)] z0ai (z0jv av x)
theorem z0k5 : LP z008 Tryz.f67 [1] z0ab := lp_ok (W := []) (H := []) (xs := [z0a5]) z084 trivial rfl (fun av x v K => by kernel_rfl) (fun av x n v K => by kernel_rfl)
theorem z0p7 : z008.Ok Tryz.prog := fn_ok (k := z008) (fn := Tryz.f67) (W := []) (H := [z0aa, z0ab]) Tryz.func67 z084 ⟨z0k4, z0k5, trivial⟩ rfl rfl (fun av x => by kernel_rfl)
def z0m0  : Option Int := some (-1)
def z05g (s : List Int) (p : Int → Option Bool) (p0_0 : Int) (kx0_0 : Option Int) : Nat → Int → Option Int
  | 0, _ => none
  | n0 + 1, s0_0 => if decide (s0_0 < p0_0) = true then ((getI s s0_0).bind fun x2 => ((p x2).bind fun x3 => (if x3 = true then (some s0_0) else (gd (ok64 (s0_0 + 1)) ((z05g s p p0_0 kx0_0 n0) (s0_0 + 1)))))) else (kx0_0)
def z0ei (s : List Int) (p : Int → Option Bool) : Option Int := z05g s p (s.length : Int) z0m0 FUEL 0
def z03i : Con := ⟨211, [.v (.sl .I) false, .fn .I], [(.I, true)], [], fun x => z0ei x.1 x.2.1⟩
def z1fw : Fs := ⟨[], []⟩
theorem z0yc : z1fw.Ok Tryz.prog := fs0
def z0qo : Tmpl := ⟨[(0, .c (.s .I)), (1, .c .fp), (7, .c .i), (8, .c .i)], []⟩
def z0nv : Tmpl := ⟨[], []⟩
def z171 (av : AV) (x : HP z03i.ps) (n : Nat) (v : z0qo.den) (K : Ks (CR z03i)) : Option (CR z03i) := z05g v.1.1 x.2.1 v.1.2.2.1 (z0nv.at (fpOf z03i.ps x av) ((), ()) (K (.exit 0))) n v.1.2.2.2.1
def z0pb (av : AV) (x : HP z03i.ps) : Hdl (CR z03i) := hnd [] z0qo (z171 av x)
theorem z18h : LP z03i Tryz.f211 [0] z0pb := lp_ok (W := []) (H := []) (xs := [z0nv]) z0yc trivial rfl (fun av x v K => by kernel_rfl) (fun av x n v K => by kernel_rfl)
theorem z1jm : z03i.Ok Tryz.prog := fn_ok (k := z03i) (fn := Tryz.f211) (W := []) (H := [z0pb]) Tryz.func211 z0yc ⟨z18h, trivial⟩ rfl rfl (fun av x => by kernel_rfl)
def z020 (s : List Int) (p : Int → Option Bool) : Option Bool := (z0ei s p).bind fun x1 => (some (decide (0 ≤ x1)))
def z03q : Con := ⟨164, [.v (.sl .I) false, .fn .I], [(.B, true)], [], fun x => z020 x.1 x.2.1⟩
def z12j : Fs := ⟨[z03i], []⟩
theorem z12p : z12j.Ok Tryz.prog := (fsK z1jm fs0)
theorem z07x : z03q.Ok Tryz.prog := fn_ok (k := z03q) (fn := Tryz.f164) (W := []) (H := []) Tryz.func164 z12p trivial rfl rfl (fun av x => by kernel_rfl)
def z0dl  : Option Int := some (-1)
def z028 (s : List GTask) (p : GTask → Option Bool) (p0_0 : Int) (kx0_0 : Option Int) : Nat → Int → Option Int
  | 0, _ => none
  | n0 + 1, s0_0 => if decide (s0_0 < p0_0) = true then ((getI s s0_0).bind fun x2 => ((p x2).bind fun x3 => (if x3 = true then (some s0_0) else (gd (ok64 (s0_0 + 1)) ((z028 s p p0_0 kx0_0 n0) (s0_0 + 1)))))) else (kx0_0)
def z08l (s : List GTask) (p : GTask → Option Bool) : Option Int := z028 s p (s.length : Int) z0dl FUEL 0
def z018 : Con := ⟨206, [.v (.sl (.s .task)) false, .fn (.s .task)], [(.I, true)], [], fun x => z08l x.1 x.2.1⟩
def z10h : Fs := ⟨[], []⟩
theorem z0i6 : z10h.Ok Tryz.prog := fs0
def z0fh : Tmpl := ⟨[(0, .c (.s (.s .task))), (1, .c .fp), (7, .c .i), (8, .c .i)], []⟩
def z0e0 : Tmpl := ⟨[], []⟩
def z0tn (av : AV) (x : HP z018.ps) (n : Nat) (v : z0fh.den) (K : Ks (CR z018)) : Option (CR z018) := z028 v.1.1 x.2.1 v.1.2.2.1 (z0e0.at (fpOf z018.ps x av) ((), ()) (K (.exit 0))) n v.1.2.2.2.1
def z0e9 (av : AV) (x : HP z018.ps) : Hdl (CR z018) := hnd [] z0fh (z0tn av x)
theorem z0vk : LP z018 Tryz.f206 [0] z0e9 := lp_ok (W := []) (H := []) (xs := [z0e0]) z0i6 trivial rfl (fun av x v K => by kernel_rfl) (fun av x n v K => by kernel_rfl)
theorem z112 : z018.Ok Tryz.prog := fn_ok (k := z018) (fn := Tryz.f206) (W := []) (H := [z0e9]) Tryz.func206 z0i6 ⟨z0vk, trivial⟩ rfl rfl (fun av x => by kernel_rfl)
def z06e (s : List GTask) (p : GTask → Option Bool) : Option Bool := (z08l s p).bind fun x1 => (some (decide (0 ≤ x1)))
def z08v : Con := ⟨161, [.v (.sl (.s .task)) false, .fn (.s .task)], [(.B, true)], [], fun x => z06e x.1 x.2.1⟩
def z0s0 : Fs := ⟨[z018], []⟩
theorem z0s6 : z0s0.Ok Tryz.prog := (fsK z112 fs0)
theorem z0t8 : z08v.Ok Tryz.prog := fn_ok (k := z08v) (fn := Tryz.f161) (W := []) (H := []) Tryz.func161 z0s6 trivial rfl rfl (fun av x => by kernel_rfl)
def z0eh  : Option Int := some (-1)
def z02q (s : List GNet) (p : GNet → Option Bool) (p0_0 : Int) (kx0_0 : Option Int) : Nat → Int → Option Int
  | 0, _ => none
  | n0 + 1, s0_0 => if decide (s0_0 < p0_0) = true then ((getI s s0_0).bind fun x2 => ((p x2).bind fun x3 => (if x3 = true then (some s0_0) else (gd (ok64 (s0_0 + 1)) ((z02q s p p0_0 kx0_0 n0) (s0_0 + 1)))))) else (kx0_0)
def z09l (s : List GNet) (p : GNet → Option Bool) : Option Int := z02q s p (s.length : Int) z0eh FUEL 0
def z01l : Con := ⟨159, [.v (.sl (.s .net)) false, .fn (.s .net)], [(.I, true)], [], fun x => z09l x.1 x.2.1⟩
def z12k : Fs := ⟨[], []⟩
theorem z0kj : z12k.Ok Tryz.prog := fs0
def z0gj : Tmpl := ⟨[(0, .c (.s (.s .net))), (1, .c .fp), (7, .c .i), (8, .c .i)], []⟩
def z0fm : Tmpl := ⟨[], []⟩
def z0x0 (av : AV) (x : HP z01l.ps) (n : Nat) (v : z0gj.den) (K : Ks (CR z01l)) : Option (CR z01l) := z02q v.1.1 x.2.1 v.1.2.2.1 (z0fm.at (fpOf z01l.ps x av) ((), ()) (K (.exit 0))) n v.1.2.2.2.1
def z0g6 (av : AV) (x : HP z01l.ps) : Hdl (CR z01l) := hnd [] z0gj (z0x0 av x)
theorem z0xg : LP z01l Tryz.f159 [0] z0g6 := lp_ok (W := []) (H := []) (xs := [z0fm]) z0kj trivial rfl (fun av x v K => by kernel_rfl) (fun av x n v K => by kernel_rfl)
theorem z160 : z01l.Ok Tryz.prog := fn_ok (k := z01l) (fn := Tryz.f159) (W := []) (H := [z0g6]) Tryz.func159 z0kj ⟨z0xg, trivial⟩ rfl rfl (fun av x => by kernel_rfl)
def z07f (s : List GNet) (p : GNet → Option Bool) : Option Bool := (z09l s p).bind fun x1 => (some (decide (0 ≤ x1)))
def z09i : Con := ⟨88, [.v (.sl (.s .net)) false, .fn (.s .net)], [(.B, true)], [], fun x => z07f x.1 x.2.1⟩
def z0tx : Fs := ⟨[z01l], []⟩
theorem z0u2 : z0tx.Ok Tryz.prog := (fsK z160 fs0)
theorem z0w2 : z09i.Ok Tryz.prog := fn_ok (k := z09i) (fn := Tryz.f88) (W := []) (H := []) Tryz.func88 z0u2 trivial rfl rfl (fun av x => by kernel_rfl)
def z0dk  : Option Int := some (-1)
def z027 (s : List GItem) (p : GItem → Option Bool) (p0_0 : Int) (kx0_0 : Option Int) : Nat → Int → Option Int
  | 0, _ => none
  | n0 + 1, s0_0 => if decide (s0_0 < p0_0) = true then ((getI s s0_0).bind fun x2 => ((p x2).bind fun x3 => (if x3 = true then (some s0_0) else (gd (ok64 (s0_0 + 1)) ((z027 s p p0_0 kx0_0 n0) (s0_0 + 1)))))) else (kx0_0)
def z08k (s : List GItem) (p : GItem → Option Bool) : Option Int := z027 s p (s.length : Int) z0dk FUEL 0
def z017 : Con := ⟨218, [.v (.sl (.s .item)) false, .fn (.s .item)], [(.I, true)], [], fun x => z08k x.1 x.2.1⟩
def z10g : Fs := ⟨[], []⟩
theorem z0i5 : z10g.Ok Tryz.prog := fs0
def z0fg : Tmpl := ⟨[(0, .c (.s (.s .item))), (1, .c .fp), (7, .c .i), (8, .c .i)], []⟩
def z0dz : Tmpl := ⟨[], []⟩
def z0tm (av : AV) (x : HP z017.ps) (n : Nat) (v : z0fg.den) (K : Ks (CR z017)) : Option (CR z017) := z027 v.1.1 x.2.1 v.1.2.2.1 (z0dz.at (fpOf z017.ps x av) ((), ()) (K (.exit 0))) n v.1.2.2.2.1
def z0e8 (av : AV) (x : HP z017.ps) : Hdl (CR z017) := hnd [] z0fg (z0tm av x)
theorem z0vj : LP z017 Tryz.f218 [0] z0e8 := lp_ok (W := []) (H := []) (xs := [z0dz]) z0i5 trivial rfl (fun av x v K => by kernel_rfl) (fun av x n v K => by kernel_rfl)
theorem z111 : z017.Ok Tryz.prog := fn_ok (k := z017) (fn := Tryz.f218) (W := []) (H := [z0e8]) Tryz.func218 z0i5 ⟨z0vj, trivial⟩ rfl rfl (fun av x => by kernel_rfl)
def z06d (s : List GItem) (p : GItem → Option Bool) : Option Bool := (z08k s p).bind fun x1 => (some (decide (0 ≤ x1)))
def z08u : Con := ⟨182, [.v (.sl (.s .item)) false, .fn (.s .item)], [(.B, true)], [], fun x => z06d x.1 x.2.1⟩
def z0rz : Fs := ⟨[z017], []⟩
theorem z0s5 : z0rz.Ok Tryz.prog := (fsK z111 fs0)
theorem z0t7 : z08u.Ok Tryz.prog := fn_ok (k := z08u) (fn := Tryz.f182) (W := []) (H := []) Tryz.func182 z0s5 trivial rfl rfl (fun av x => by kernel_rfl)
def z15f  : Option Int := some (-1)
def z0aw (s : List Int) (v : Int) (p0_0 : Int) (kx0_0 : Option Int) : Nat → Int → Option Int
  | 0, _ => none
  | n0 + 1, s0_0 => if decide (s0_0 < p0_0) = true then ((getI s s0_0).bind fun x2 => (if decide (v = x2) = true then (some s0_0) else (gd (ok64 (s0_0 + 1)) ((z0aw s v p0_0 kx0_0 n0) (s0_0 + 1))))) else (kx0_0)
def z11a (s : List Int) (v : Int) : Option Int := z0aw s v (s.length : Int) z15f FUEL 0
def z0cq : Con := ⟨179, [.v (.sl .I) false, .v .I false], [(.I, true)], [], fun x => z11a x.1 x.2.1⟩
def z20i : Fs := ⟨[], []⟩
theorem z1ru : z20i.Ok Tryz.prog := fs0
def z1as : Tmpl := ⟨[(0, .c (.s .I)), (1, .c .i), (7, .c .i), (8, .c .i)], []⟩
def z16y : Tmpl := ⟨[], []⟩
def z1t1 (av : AV) (x : HP z0cq.ps) (n : Nat) (v : z1as.den) (K : Ks (CR z0cq)) : Option (CR z0cq) := z0aw v.1.1 v.1.2.1 v.1.2.2.1 (z16y.at none ((), ()) (K (.exit 0))) n v.1.2.2.2.1
def z19u (av : AV) (x : HP z0cq.ps) : Hdl (CR z0cq) := hnd [] z1as (z1t1 av x)
theorem z1u6 : LP z0cq Tryz.f179 [0] z19u := lp_ok (W := []) (H := []) (xs := [z16y]) z1ru trivial rfl (fun av x v K => by kernel_rfl) (fun av x n v K => by kernel_rfl)
theorem z20y : z0cq.Ok Tryz.prog := fn_ok (k := z0cq) (fn := Tryz.f179) (W := []) (H := [z19u]) Tryz.func179 z1ru ⟨z1u6, trivial⟩ rfl rfl (fun av x => by kernel_rfl)
def z0au (s : List Int) (v : Int) : Option Bool := (z11a s v).bind fun x1 => (some (decide (0 ≤ x1)))
def z0dg : Con := ⟨108, [.v (.sl .I) false, .v .I false], [(.B, true)], [], fun x => z0au x.1 x.2.1⟩
def z1mj : Fs := ⟨[z0cq], []⟩
theorem z1nl : z1mj.Ok Tryz.prog := (fsK z20y fs0)
theorem z0t9 : z0dg.Ok Tryz.prog := fn_ok (k := z0dg) (fn := Tryz.f108) (W := []) (H := []) Tryz.func108 z1nl trivial rfl rfl (fun av x => by kernel_rfl)
def z0q4  : Option Int := some (-1)
def z06w (s : List GDid) (v : GDid) (p0_0 : Int) (kx0_0 : Option Int) : Nat → Int → Option Int
  | 0, _ => none
  | n0 + 1, s0_0 => if decide (s0_0 < p0_0) = true then ((getI s s0_0).bind fun x2 => (if decide ([v.task, v.who] = [x2.task, x2.who]) = true then (some s0_0) else (gd (ok64 (s0_0 + 1)) ((z06w s v p0_0 kx0_0 n0) (s0_0 + 1))))) else (kx0_0)
def z0h7 (s : List GDid) (v : GDid) : Option Int := z06w s v (s.length : Int) z0q4 FUEL 0
def z067 : Con := ⟨232, [.v (.sl (.s .did)) false, .v (.s .did) false], [(.I, true)], [], fun x => z0h7 x.1 x.2.1⟩
def z1mk : Fs := ⟨[], []⟩
theorem z12q : z1mk.Ok Tryz.prog := fs0
def z0wj : Tmpl := ⟨[(0, .c (.s (.s .did))), (3, .c (.bx 3 0)), (7, .c .i), (8, .c .i)], [(3, .boxT (.s .did))]⟩
def z0rh : Tmpl := ⟨[], []⟩
def z1av (av : AV) (x : HP z067.ps) (n : Nat) (v : z0wj.den) (K : Ks (CR z067)) : Option (CR z067) := z06w v.1.1 v.2.1 v.1.2.2.1 (z0rh.at none ((), ()) (K (.exit 0))) n v.1.2.2.2.1
def z0us (av : AV) (x : HP z067.ps) : Hdl (CR z067) := hnd [] z0wj (z1av av x)
theorem z1df : LP z067 Tryz.f232 [0] z0us := lp_ok (W := []) (H := []) (xs := [z0rh]) z12q trivial rfl (fun av x v K => by kernel_rfl) (fun av x n v K => by kernel_rfl)
theorem z1ov : z067.Ok Tryz.prog := fn_ok (k := z067) (fn := Tryz.f232) (W := []) (H := [z0us]) Tryz.func232 z12q ⟨z1df, trivial⟩ rfl rfl (fun av x => by kernel_rfl)
def z0fv (s : List GDid) (v : GDid) : Option Bool := (z0h7 s v).bind fun x1 => (some (decide (0 ≤ x1)))
def z0fq : Con := ⟨219, [.v (.sl (.s .did)) false, .v (.s .did) false], [(.B, true)], [], fun x => z0fv x.1 x.2.1⟩
def z17u : Fs := ⟨[z067], []⟩
theorem z186 : z17u.Ok Tryz.prog := (fsK z1ov fs0)
theorem z19b : z0fq.Ok Tryz.prog := fn_ok (k := z0fq) (fn := Tryz.f219) (W := []) (H := []) Tryz.func219 z186 trivial rfl rfl (fun av x => by kernel_rfl)
def z15e  : Option Bool := some true
def z0av (s1 : List Int) (s2 : List Int) (p0_0 : Int) (kx0_0 : Option Bool) : Nat → Int → Option Bool
  | 0, _ => none
  | n0 + 1, s0_0 => if decide (s0_0 < p0_0) = true then ((getI s1 s0_0).bind fun x3 => ((getI s2 s0_0).bind fun x4 => (if decide (x3 = x4) = true then (gd (ok64 (s0_0 + 1)) ((z0av s1 s2 p0_0 kx0_0 n0) (s0_0 + 1))) else (some false)))) else (kx0_0)
def z119 (s1 : List Int) (s2 : List Int) : Option Bool := if decide ((s1.length : Int) = (s2.length : Int)) = true then (z0av s1 s2 (s1.length : Int) z15e FUEL 0) else (some false)
def z0cp : Con := ⟨199, [.v (.sl .I) false, .v (.sl .I) false], [(.B, true)], [], fun x => z119 x.1 x.2.1⟩
def z20h : Fs := ⟨[], []⟩
theorem z1rt : z20h.Ok Tryz.prog := fs0
def z1ar : Tmpl := ⟨[(0, .c (.s .I)), (1, .c (.s .I)), (12, .c .i), (13, .c .i)], []⟩
def z16x : Tmpl := ⟨[], []⟩
def z1t0 (av : AV) (x : HP z0cp.ps) (n : Nat) (v : z1ar.den) (K : Ks (CR z0cp)) : Option (CR z0cp) := z0av v.1.1 v.1.2.1 v.1.2.2.1 (z16x.at none ((), ()) (K (.exit 0))) n v.1.2.2.2.1
def z19t (av : AV) (x : HP z0cp.ps) : Hdl (CR z0cp) := hnd [] z1ar (z1t0 av x)
theorem z1u5 : LP z0cp Tryz.f199 [0] z19t := lp_ok (W := []) (H := []) (xs := [z16x]) z1rt trivial rfl (fun av x v K => by kernel_rfl) (fun av x n v K => by kernel_rfl)
theorem z20x : z0cp.Ok Tryz.prog := fn_ok (k := z0cp) (fn := Tryz.f199) (W := []) (H := [z19t]) Tryz.func199 z1rt ⟨z1u5, trivial⟩ rfl rfl (fun av x => by kernel_rfl)
def z0hc (n : Int) : Option Bool := (z053 n).bind fun x1 => (some (!x1))
def z0hx : FCon := ⟨198, .I, [], fun z c => z0hc z ⟩
def z1c3 : Fs := ⟨[z07y], []⟩
theorem z1d0 : z1c3.Ok Tryz.prog := (fsK z0d7 fs0)
theorem z1ek : z0hx.Ok Tryz.prog := FCon.ok (fn_ok (k := z0hx.con) (fn := Tryz.f198) (W := []) (H := []) Tryz.func198 z1d0 trivial rfl rfl (fun av x => by kernel_rfl))
def z03t (data : List Int) : Option Bool := if decide ((data.length : Int) = 3) = true then ((z020 data (fun z => z0hc z )).bind fun x2 => (some (!x2))) else (some false)
def z068 : Con := ⟨140, [.v (.sl .I) false], [(.B, true)], [], fun x => z03t x.1⟩
def z1mz : Fs := ⟨[z03q], [z0hx]⟩
theorem z1nz : z1mz.Ok Tryz.prog := (fsK z07x (fsF z1ek fs0))
theorem z094 : z068.Ok Tryz.prog := fn_ok (k := z068) (fn := Tryz.f140) (W := []) (H := []) Tryz.func140 z1nz trivial rfl rfl (fun av x => by kernel_rfl)
def z01y (e : GAsk) (data : List Int) : Option Bool := (z07p e).bind fun x1 => (if x1 = true then ((z03t data).bind fun x3 => (if x3 = true then (if decide (e.op = 1) = true then ((getI data e.var).bind fun x6 => (some (decide (x6 < e.k)))) else (if decide (e.op = 2) = true then ((getI data e.var).bind fun x8 => (some (decide (x8 = e.k)))) else (if decide (e.op = 3) = true then ((getI data e.var).bind fun x10 => (some (decide (e.k < x10)))) else (some true)))) else (some false))) else (some false))
def z03j : Con := ⟨166, [.v (.s .ask) false, .v (.sl .I) false], [(.B, true)], [], fun x => z01y x.1 x.2.1⟩
def z17x : Fs := ⟨[z0dh, z068], []⟩
theorem z189 : z17x.Ok Tryz.prog := (fsK z0ta (fsK z094 fs0))
theorem z077 : z03j.Ok Tryz.prog := fn_ok (k := z03j) (fn := Tryz.f166) (W := []) (H := []) Tryz.func166 z189 trivial rfl rfl (fun av x => by kernel_rfl)
def z0io  : Option Bool := some true
def z04b (list : List Int) (places : Int) (without : List Int) (p0_0 : Int) (kx0_0 : Option Bool) : Nat → Int → Int → Option Bool
  | 0, _, _ => none
  | n0 + 1, s0_0, s0_1 => if decide (s0_0 < p0_0) = true then ((getI list s0_0).bind fun x2 => (gd (ok64 (s0_1 + 1)) (gd (ok64 (places - 1)) ((z00b x2 (s0_1 + 1) (places - 1)).bind fun x5 => (if x5 = true then ((z0au without x2).bind fun x7 => (if x7 = true then (some false) else (gd (ok64 (s0_0 + 1)) ((z04b list places without p0_0 kx0_0 n0) (s0_0 + 1) x2)))) else (some false)))))) else (kx0_0)
def z09p (list : List Int) (places : Int) (without : List Int) : Option Bool := z04b list places without (list.length : Int) z0io FUEL 0 (-1)
def z038 : Con := ⟨208, [.v (.sl .I) false, .v .I false, .v (.sl .I) false], [(.B, true)], [], fun x => z09p x.1 x.2.1 x.2.2.1⟩
def z1c9 : Fs := ⟨[z025, z0dg], []⟩
theorem z0uj : z1c9.Ok Tryz.prog := (fsK z02s (fsK z0t9 fs0))
def z0nj : Tmpl := ⟨[(1, .c .i), (2, .c (.s .I)), (7, .c .i), (10, .c (.s .I)), (11, .c .i), (12, .c .i)], []⟩
def z0jj : Tmpl := ⟨[], []⟩
def z120 (av : AV) (x : HP z038.ps) (n : Nat) (v : z0nj.den) (K : Ks (CR z038)) : Option (CR z038) := z04b v.1.2.2.2.1 v.1.1 v.1.2.1 v.1.2.2.2.2.1 (z0jj.at none ((), ()) (K (.exit 0))) n v.1.2.2.2.2.2.1 v.1.2.2.1
def z0l5 (av : AV) (x : HP z038.ps) : Hdl (CR z038) := hnd [] z0nj (z120 av x)
theorem z14w : LP z038 Tryz.f208 [0] z0l5 := lp_ok (W := []) (H := []) (xs := [z0jj]) z0uj trivial rfl (fun av x v K => by kernel_rfl) (fun av x n v K => by kernel_rfl)
theorem z1eq : z038.Ok Tryz.prog := fn_ok (k := z038) (fn := Tryz.f208) (W := []) (H := [z0l5]) Tryz.func208 z0uj ⟨z14w, trivial⟩ rfl rfl (fun av x => by kernel_rfl)
def z07a (t : GTask) : Option Bool := (z00b (t.out.length : Int) 1 3).bind fun x21 => (some x21)
def z011 (t : GTask) (places : Int) (p0_0 : List GFlow) (p0_1 : Int) (kx0_0 : Option Bool) : Nat → Int → List Int → Option Bool
  | 0, _, _ => none
  | n0 + 1, s0_0, m0_1 => if decide (s0_0 < p0_1) = true then ((getI p0_0 s0_0).bind fun x2 => (if decide (t.split = 1) = true then (gd (ok64 (places - 1)) ((z00b x2.to 0 (places - 1)).bind fun x5 => (if x5 = true then (if decide (x2.to ∈ m0_1) = true then (some false) else ((z07p x2.if_).bind fun x8 => (if x8 = true then (if ((decide (x2.if_.op = 0)) == true) = true then (gd (ok64 (s0_0 + 1)) ((z011 t places p0_0 p0_1 kx0_0 n0) (s0_0 + 1) (insKey m0_1 x2.to))) else (some false)) else (some false)))) else (some false)))) else (gd (ok64 ((t.out.length : Int) - 1)) (gd (ok64 (places - 1)) ((z00b x2.to 0 (places - 1)).bind fun x14 => (if x14 = true then (if decide (x2.to ∈ m0_1) = true then (some false) else ((z07p x2.if_).bind fun x17 => (if x17 = true then (if ((decide (x2.if_.op = 0)) == (decide (s0_0 = ((t.out.length : Int) - 1)))) = true then (gd (ok64 (s0_0 + 1)) ((z011 t places p0_0 p0_1 kx0_0 n0) (s0_0 + 1) (insKey m0_1 x2.to))) else (some false)) else (some false)))) else (some false))))))) else (kx0_0)
def z06j (t : GTask) (places : Int) : Option Bool := z011 t places t.out (t.out.length : Int) (z07a t) FUEL 0 (insKey ([] : List Int) 0)
def z00v : Con := ⟨209, [.v (.s .task) false, .v .I false], [(.B, true)], [], fun x => z06j x.1 x.2.1⟩
def z0s4 : Fs := ⟨[z025, z0dh], []⟩
theorem z0dd : z0s4.Ok Tryz.prog := (fsK z02s (fsK z0ta fs0))
def z0c0 : Tmpl := ⟨[(1, .c .i), (2, .c (.bx 2 0)), (5, .c (.bx 9 0)), (12, .c (.s (.s .flow))), (13, .c .i), (14, .c .i)], [(2, .boxT (.s .task)), (9, .mp)]⟩
def z0ao : Tmpl := ⟨[(2, .c (.bx 2 0))], [(2, .boxT (.s .task))]⟩
def z0ke (av : AV) (x : HP z00v.ps) (n : Nat) (v : z0c0.den) (K : Ks (CR z00v)) : Option (CR z00v) := z011 v.2.1 v.1.1 v.1.2.2.2.1 v.1.2.2.2.2.1 (z0ao.at none (((), ()), (v.2.1, ())) (K (.exit 0))) n v.1.2.2.2.2.2.1 v.2.2.1
def z0bp (av : AV) (x : HP z00v.ps) : Hdl (CR z00v) := hnd [] z0c0 (z0ke av x)
theorem z0lz : LP z00v Tryz.f209 [0] z0bp := lp_ok (W := []) (H := []) (xs := [z0ao]) z0dd trivial rfl (fun av x v K => by kernel_rfl) (fun av x n v K => by kernel_rfl)
theorem z0td : z00v.Ok Tryz.prog := fn_ok (k := z00v) (fn := Tryz.f209) (W := []) (H := [z0bp]) Tryz.func209 z0dd ⟨z0lz, trivial⟩ rfl rfl (fun av x => by kernel_rfl)
def z08p (t : GTask) (places : Int) (tasks : Int) : Option Bool := (z0es t.join).bind fun x1 => (if x1 = true then ((z0es t.split).bind fun x3 => (if x3 = true then ((z00b (t.in_.length : Int) 1 3).bind fun x5 => (if x5 = true then ((z09p t.in_ places [1]).bind fun x7 => (if x7 = true then ((z06j t places).bind fun x9 => (if x9 = true then ((z09p t.clear places [0, 1]).bind fun x11 => (if x11 = true then ((z0bv t.role).bind fun x13 => (if x13 = true then (gd (ok64 (tasks - 1)) ((z00b t.apart (-1) (tasks - 1)).bind fun x16 => (if x16 = true then ((z00b t.all 1 3).bind fun x18 => (if x18 = true then ((z00b t.need 1 t.all).bind fun x20 => (some x20)) else (some false))) else (some false)))) else (some false))) else (some false))) else (some false))) else (some false))) else (some false))) else (some false))) else (some false))
def z0c7 : Con := ⟨163, [.v (.s .task) false, .v .I false, .v .I false], [(.B, true)], [], fun x => z08p x.1 x.2.1 x.2.2.1⟩
def z10j : Fs := ⟨[z0lo, z025, z038, z00v, z0ef], []⟩
theorem z10m : z10j.Ok Tryz.prog := (fsK z1kk (fsK z02s (fsK z1eq (fsK z0td (fsK z0zx fs0)))))
theorem z114 : z0c7.Ok Tryz.prog := fn_ok (k := z0c7) (fn := Tryz.f163) (W := []) (H := []) Tryz.func163 z10m trivial rfl rfl (fun av x => by kernel_rfl)
def z0hf (t : GTask) (n : GNet) : Option Bool := (z08p t n.places (n.tasks.length : Int)).bind fun x1 => (some (!x1))
def z0hz : FCon := ⟨162, (.s .task), [(.s .net)], fun z c => z0hf z c.1⟩
def z1c6 : Fs := ⟨[z0c7], []⟩
theorem z1d2 : z1c6.Ok Tryz.prog := (fsK z114 fs0)
theorem z1en : z0hz.Ok Tryz.prog := FCon.ok (fn_ok (k := z0hz.con) (fn := Tryz.f162) (W := []) (H := []) Tryz.func162 z1d2 trivial rfl rfl (fun av x => by kernel_rfl))
def z08x (n : GNet) : Option Bool := (z0hj n.places (n.tasks.length : Int)).bind fun x1 => (if x1 = true then ((z06e n.tasks (fun z => z0hf z n)).bind fun x3 => (some (!x3))) else (some false))
def z0as : Con := ⟨90, [.v (.s .net) false], [(.B, true)], [], fun x => z08x x.1⟩
def z1n4 : Fs := ⟨[z0h3, z08v], [z0hz]⟩
theorem z1o3 : z1n4.Ok Tryz.prog := (fsK z1es (fsK z0t8 (fsF z1en fs0)))
theorem z0hr : z0as.Ok Tryz.prog := fn_ok (k := z0as) (fn := Tryz.f90) (W := []) (H := []) Tryz.func90 z1o3 trivial rfl rfl (fun av x => by kernel_rfl)
def z05d (p : Int) (out : List Bool) : Option Bool := (getI out p).bind fun x1 => (some x1)
def z085 : FCon := ⟨234, .I, [(.sl .B)], fun z c => z05d z c.1⟩
def z0oz : Fs := ⟨[], []⟩
theorem z0p2 : z0oz.Ok Tryz.prog := fs0
theorem z0p9 : z085.Ok Tryz.prog := FCon.ok (fn_ok (k := z085.con) (fn := Tryz.f234) (W := []) (H := []) Tryz.func234 z0p2 trivial rfl rfl (fun av x => by kernel_rfl))
def z0bt (s1_0 : List GTask) (s1_1 : Int) (s1_2 : Int) (bk1 : List GTask → Int → Int → Bool → List Bool → Option (List Bool)) (s2_1 : Bool) (l2_2 : List Bool) : Option (List Bool) := gd (ok64 (s1_2 + 1)) (bk1 s1_0 s1_1 (s1_2 + 1) s2_1 l2_2)
def z00c (p2_0 : List GFlow) (p2_1 : Int) (kx2_0 : Bool → List Bool → Option (List Bool)) : Nat → Int → Bool → List Bool → Option (List Bool)
  | 0, _, _, _ => none
  | n2 + 1, s2_0, s2_1, l2_2 => if decide (s2_0 < p2_1) = true then ((getI p2_0 s2_0).bind fun x11 => (if s2_1 = true then ((getI l2_2 x11.to).bind fun x13 => (gd (ok64 (s2_0 + 1)) ((z00c p2_0 p2_1 kx2_0 n2) (s2_0 + 1) true (l2_2.set x11.to.toNat true)))) else ((getI l2_2 x11.to).bind fun x15 => ((getI l2_2 x11.to).bind fun x16 => (gd (ok64 (s2_0 + 1)) ((z00c p2_0 p2_1 kx2_0 n2) (s2_0 + 1) (!x15) (l2_2.set x11.to.toNat true))))))) else (kx2_0 s2_1 l2_2)
def z07r (bk0 : Bool → List Bool → Option (List Bool)) (s1_3 : Bool) (l1_4 : List Bool) : Option (List Bool) := bk0 s1_3 l1_4
def z009 (but : Int) (kx1_0 : Bool → List Bool → Option (List Bool)) : Nat → List GTask → Int → Int → Bool → List Bool → Option (List Bool)
  | 0, _, _, _, _, _ => none
  | n1 + 1, s1_0, s1_1, s1_2, s1_3, l1_4 => if decide (s1_2 < s1_1) = true then ((getI s1_0 s1_2).bind fun x5 => (if decide (s1_2 = but) = true then (gd (ok64 (s1_2 + 1)) ((z009 but kx1_0 n1) s1_0 s1_1 (s1_2 + 1) s1_3 l1_4)) else ((z020 x5.in_ (fun z => z05d z l1_4)).bind fun x8 => (if x8 = true then (z00c x5.out (x5.out.length : Int) (z0bt s1_0 s1_1 s1_2 (z009 but kx1_0 n1)) FUEL 0 s1_3 l1_4) else (gd (ok64 (s1_2 + 1)) ((z009 but kx1_0 n1) s1_0 s1_1 (s1_2 + 1) s1_3 l1_4)))))) else (kx1_0 s1_3 l1_4)
def z0bu (l0_1 : List Bool) : Option (List Bool) := some l0_1
def z00s (n : GNet) (but : Int) (kx0_0 : List Bool → Option (List Bool)) : Nat → Bool → List Bool → Option (List Bool)
  | 0, _, _ => none
  | n0 + 1, s0_0, l0_1 => if s0_0 = true then (z009 but (z07r (z00s n but kx0_0 n0)) FUEL n.tasks (n.tasks.length : Int) 0 false l0_1) else (kx0_0 l0_1)
def z07h (n : GNet) (place : Int) (but : Int) : Option (List Bool) := gd ((0 : Int) ≤ n.places ∧ n.places ≤ (1000000000 : Int)) ((getI (List.replicate n.places.toNat false) place).bind fun x2 => (z00s n but z0bu FUEL true ((List.replicate n.places.toNat false).set place.toNat true)))
def z003 : Con := ⟨230, [.v (.s .net) false, .v .I false, .v .I false], [((.sl .B), true)], [], fun x => z07h x.1 x.2.1 x.2.2.1⟩
def z0u0 : Fs := ⟨[z03q], [z085]⟩
theorem z07e : z0u0.Ok Tryz.prog := (fsK z07x (fsF z0p9 fs0))
def z09f : Tmpl := ⟨[(2, .c .i), (3, .c (.bx 3 0)), (7, .c (.bx 7 0)), (8, .c .b), (21, .c (.s (.s .task))), (22, .c .i), (23, .c .i), (39, .c (.s (.s .flow))), (40, .c .i), (41, .c .i)], [(3, .boxT (.s .net)), (7, .box [.ref 15]), (15, .arr .B true)]⟩
def z08g : Tmpl := ⟨[(2, .c .i), (3, .c (.bx 3 0)), (7, .c (.bx 7 0)), (8, .c .b), (21, .c (.s (.s .task))), (22, .c .i), (23, .c .i)], [(3, .boxT (.s .net)), (7, .box [.ref 15]), (15, .arr .B true)]⟩
def z0g1 (av : AV) (x : HP z003.ps) (n : Nat) (v : z09f.den) (K : Ks (CR z003)) : Option (CR z003) := z00c v.1.2.2.2.2.2.2.2.1 v.1.2.2.2.2.2.2.2.2.1 (fun s2_1 l2_2 => z08g.at none ((v.1.1, (), (), s2_1, v.1.2.2.2.2.1, v.1.2.2.2.2.2.1, v.1.2.2.2.2.2.2.1, ()), (v.2.1, ((), ()), l2_2, ())) (K (.exit 4))) n v.1.2.2.2.2.2.2.2.2.2.1 v.1.2.2.2.1 v.2.2.2.1
def z097 (av : AV) (x : HP z003.ps) : Hdl (CR z003) := hnd [] z09f (z0g1 av x)
theorem z0ga : LP z003 Tryz.f230 [0, 0, 0] z097 := lp_ok (W := []) (H := []) (xs := [z08g]) z07e trivial rfl (fun av x v K => by kernel_rfl) (fun av x n v K => by kernel_rfl)
def z0am : Tmpl := ⟨[(2, .c .i), (3, .c (.bx 3 0)), (7, .c (.bx 7 0)), (8, .c .b), (21, .c (.s (.s .task))), (22, .c .i), (23, .c .i)], [(3, .boxT (.s .net)), (7, .box [.ref 15]), (15, .arr .B true)]⟩
def z0a9 : Tmpl := ⟨[(2, .c .i), (3, .c (.bx 3 0)), (7, .c (.bx 7 0)), (8, .c .b)], [(3, .boxT (.s .net)), (7, .box [.ref 15]), (15, .arr .B true)]⟩
def z0jz (av : AV) (x : HP z003.ps) (n : Nat) (v : z0am.den) (K : Ks (CR z003)) : Option (CR z003) := z009 v.1.1 (fun s1_3 l1_4 => z0a9.at none ((v.1.1, (), (), s1_3, ()), (v.2.1, ((), ()), l1_4, ())) (K (.exit 2))) n v.1.2.2.2.2.1 v.1.2.2.2.2.2.1 v.1.2.2.2.2.2.2.1 v.1.2.2.2.1 v.2.2.2.1
def z0af (av : AV) (x : HP z003.ps) : Hdl (CR z003) := hnd [] z0am (z0jz av x)
theorem z0k9 : LP z003 Tryz.f230 [0, 0] z0af := lp_ok (W := []) (H := [z097]) (xs := [z0a9]) z07e ⟨z0ga, trivial⟩ rfl (fun av x v K => by kernel_rfl) (fun av x n v K => by kernel_rfl)
def z0cm : Tmpl := ⟨[(2, .c .i), (3, .c (.bx 3 0)), (7, .c (.bx 7 0)), (8, .c .b)], [(3, .boxT (.s .net)), (7, .box [.ref 15]), (15, .arr .B true)]⟩
def z0c2 : Tmpl := ⟨[(7, .c (.bx 7 0))], [(7, .box [.ref 15]), (15, .arr .B true)]⟩
def z0os (av : AV) (x : HP z003.ps) (n : Nat) (v : z0cm.den) (K : Ks (CR z003)) : Option (CR z003) := z00s v.2.1 v.1.1 (fun l0_1 => z0c2.at none (((), ()), (((), ()), l0_1, ())) (K (.exit 0))) n v.1.2.2.2.1 v.2.2.2.1
def z0ce (av : AV) (x : HP z003.ps) : Hdl (CR z003) := hnd [] z0cm (z0os av x)
theorem z0p4 : LP z003 Tryz.f230 [0] z0ce := lp_ok (W := []) (H := [z0af]) (xs := [z0c2]) z07e ⟨z0k9, trivial⟩ rfl (fun av x v K => by kernel_rfl) (fun av x n v K => by kernel_rfl)
theorem z0w6 : z003.Ok Tryz.prog := fn_ok (k := z003) (fn := Tryz.f230) (W := []) (H := [z0ce]) Tryz.func230 z07e ⟨z0p4, trivial⟩ rfl rfl (fun av x => by kernel_rfl)
def z079 (m : Int) : Option Bool := (z00b m 0 4).bind fun x1 => (some (!x1))
def z07c : FCon := ⟨227, .I, [], fun z c => z079 z ⟩
def z0k1 : Fs := ⟨[z025], []⟩
theorem z0k3 : z0k1.Ok Tryz.prog := (fsK z02s fs0)
theorem z0kb : z07c.Ok Tryz.prog := FCon.ok (fn_ok (k := z07c.con) (fn := Tryz.f227) (W := []) (H := []) Tryz.func227 z0k3 trivial rfl rfl (fun av x => by kernel_rfl))
def z031 (n : GNet) (marks : List Int) : Option Bool := if decide ((marks.length : Int) = n.places) = true then ((z020 marks (fun z => z079 z )).bind fun x2 => (some (!x2))) else (some false)
def z05b : Con := ⟨212, [.v (.s .net) false, .v (.sl .I) false], [(.B, true)], [], fun x => z031 x.1 x.2.1⟩
def z0oy : Fs := ⟨[z03q], [z07c]⟩
theorem z0p1 : z0oy.Ok Tryz.prog := (fsK z07x (fsF z0kb fs0))
theorem z0ck : z05b.Ok Tryz.prog := fn_ok (k := z05b) (fn := Tryz.f212) (W := []) (H := []) Tryz.func212 z0p1 trivial rfl rfl (fun av x => by kernel_rfl)
def z0ay (n : GNet) (marks : List Int) : Option Bool := (z08x n).bind fun x1 => (if x1 = true then ((z031 n marks).bind fun x3 => (some x3)) else (some false))
def z0di : Con := ⟨167, [.v (.s .net) false, .v (.sl .I) false], [(.B, true)], [], fun x => z0ay x.1 x.2.1⟩
def z1n3 : Fs := ⟨[z0as, z05b], []⟩
theorem z1o2 : z1n3.Ok Tryz.prog := (fsK z0hr (fsK z0ck fs0))
theorem z0tb : z0di.Ok Tryz.prog := fn_ok (k := z0di) (fn := Tryz.f167) (W := []) (H := []) Tryz.func167 z1o2 trivial rfl rfl (fun av x => by kernel_rfl)
def z0ag (busy : List GItem) : Option Bool := some (decide ((busy.length : Int) ≤ 6))
def z01j (n : GNet) (p0_0 : List GItem) (p0_1 : Int) (kx0_0 : Option Bool) : Nat → Int → Option Bool
  | 0, _ => none
  | n0 + 1, s0_0 => if decide (s0_0 < p0_1) = true then ((getI p0_0 s0_0).bind fun x2 => ((z00i n x2.task).bind fun x3 => (if x3 = true then ((z08c x2.who).bind fun x5 => (if x5 = true then ((getI n.tasks x2.task).bind fun x7 => (gd (ok64 (x7.need - 1)) ((z00b x2.did 0 (x7.need - 1)).bind fun x9 => (if x9 = true then (gd (ok64 (s0_0 + 1)) ((z01j n p0_0 p0_1 kx0_0 n0) (s0_0 + 1))) else (some false))))) else (some false))) else (some false)))) else (kx0_0)
def z03u (n : GNet) (busy : List GItem) : Option Bool := z01j n busy (busy.length : Int) (z0ag busy) FUEL 0
def z00l : Con := ⟨168, [.v (.s .net) false, .v (.sl (.s .item)) false], [(.B, true)], [], fun x => z03u x.1 x.2.1⟩
def z0s2 : Fs := ⟨[z01h, z0b9, z025], []⟩
theorem z0dc : z0s2.Ok Tryz.prog := (fsK z032 (fsK z0qk (fsK z02s fs0)))
def z0bz : Tmpl := ⟨[(1, .c (.s (.s .item))), (2, .c (.bx 2 0)), (7, .c (.s (.s .item))), (8, .c .i), (9, .c .i)], [(2, .boxT (.s .net))]⟩
def z0an : Tmpl := ⟨[(1, .c (.s (.s .item)))], []⟩
def z0kd (av : AV) (x : HP z00l.ps) (n : Nat) (v : z0bz.den) (K : Ks (CR z00l)) : Option (CR z00l) := z01j v.2.1 v.1.2.2.1 v.1.2.2.2.1 (z0an.at none ((v.1.1, ()), ()) (K (.exit 0))) n v.1.2.2.2.2.1
def z0bo (av : AV) (x : HP z00l.ps) : Hdl (CR z00l) := hnd [] z0bz (z0kd av x)
theorem z0ly : LP z00l Tryz.f168 [0] z0bo := lp_ok (W := []) (H := []) (xs := [z0an]) z0dc trivial rfl (fun av x v K => by kernel_rfl) (fun av x n v K => by kernel_rfl)
theorem z0dr : z00l.Ok Tryz.prog := fn_ok (k := z00l) (fn := Tryz.f168) (W := []) (H := [z0bo]) Tryz.func168 z0dc ⟨z0ly, trivial⟩ rfl rfl (fun av x => by kernel_rfl)
def z078 (q : Int) (marks : List Int) (reach : List Bool) : Option Bool := (getI marks q).bind fun x1 => (if decide (x1 = 0) = true then ((getI reach q).bind fun x3 => (some x3)) else (some false))
def z07b : FCon := ⟨231, .I, [(.sl .I), (.sl .B)], fun z c => z078 z c.1 c.2.1⟩
def z0k0 : Fs := ⟨[], []⟩
theorem z0k2 : z0k0.Ok Tryz.prog := fs0
theorem z0ka : z07b.Ok Tryz.prog := FCon.ok (fn_ok (k := z07b.con) (fn := Tryz.f231) (W := []) (H := []) Tryz.func231 z0k2 trivial rfl rfl (fun av x => by kernel_rfl))
def z03h (s1_0 : Int) (s1_1 : Int) (bk1 : Int → Int → List Int → Option Bool) (l2_1 : List Int) : Option Bool := gd (ok64 (s1_1 + 1)) (bk1 s1_0 (s1_1 + 1) l2_1)
def z01e (p2_0 : List GFlow) (p2_1 : Int) (kx2_0 : List Int → Option Bool) : Nat → Int → List Int → Option Bool
  | 0, _, _ => none
  | n2 + 1, s2_0, l2_1 => if decide (s2_0 < p2_1) = true then ((getI p2_0 s2_0).bind fun x15 => (gd (l2_1.length + [x15.to].length ≤ SMALL) (gd (ok64 (s2_0 + 1)) ((z01e p2_0 p2_1 kx2_0 n2) (s2_0 + 1) (l2_1 ++ [x15.to]))))) else (kx2_0 l2_1)
def z06h  : Option Bool := some false
def z00y (n : GNet) (t : Int) (p0_0 : List Int) (p0_2 : List Int) (l1_2 : List Int) (p3_0 : Int) (kx3_0 : Option Bool) : Nat → Int → Option Bool
  | 0, _ => none
  | n3 + 1, s3_0 => if decide (s3_0 < p3_0) = true then ((getI l1_2 s3_0).bind fun x20 => ((z07h n x20 t).bind fun x21 => ((z020 p0_0 (fun z => z078 z p0_2 x21)).bind fun x22 => (if x22 = true then (some true) else (gd (ok64 (s3_0 + 1)) ((z00y n t p0_0 p0_2 l1_2 p3_0 kx3_0 n3) (s3_0 + 1))))))) else (kx3_0)
def z01d (n : GNet) (t : Int) (p0_0 : List Int) (p0_2 : List Int) (l1_2 : List Int) : Option Bool := z00y n t p0_0 p0_2 l1_2 (l1_2.length : Int) z06h FUEL 0
def z00k (n : GNet) (busy : List GItem) (kx1_0 : List Int → Option Bool) : Nat → Int → Int → List Int → Option Bool
  | 0, _, _, _ => none
  | n1 + 1, s1_0, s1_1, l1_2 => if decide (s1_1 < s1_0) = true then ((getI busy s1_1).bind fun x12 => ((getI n.tasks x12.task).bind fun x13 => (z01e x13.out (x13.out.length : Int) (z03h s1_0 s1_1 (z00k n busy kx1_0 n1)) FUEL 0 l1_2))) else (kx1_0 l1_2)
def z03g (n : GNet) (busy : List GItem) (t : Int) (p0_0 : List Int) (p0_2 : List Int) (l0_1 : List Int) : Option Bool := z00k n busy (z01d n t p0_0 p0_2) FUEL (busy.length : Int) 0 l0_1
def z00j (marks : List Int) (p0_0 : List Int) (p0_1 : Int) (kx0_0 : List Int → Option Bool) : Nat → Int → List Int → Option Bool
  | 0, _, _ => none
  | n0 + 1, s0_0, l0_1 => if decide (s0_0 < p0_1) = true then ((getI marks s0_0).bind fun x3 => (if decide (0 < x3) = true then ((z0au p0_0 s0_0).bind fun x5 => (if x5 = true then (gd (ok64 (s0_0 + 1)) ((z00j marks p0_0 p0_1 kx0_0 n0) (s0_0 + 1) l0_1)) else (gd (l0_1.length + [s0_0].length ≤ SMALL) (gd (ok64 (s0_0 + 1)) ((z00j marks p0_0 p0_1 kx0_0 n0) (s0_0 + 1) (l0_1 ++ [s0_0])))))) else (gd (ok64 (s0_0 + 1)) ((z00j marks p0_0 p0_1 kx0_0 n0) (s0_0 + 1) l0_1)))) else (kx0_0 l0_1)
def z05c (n : GNet) (marks : List Int) (busy : List GItem) (t : Int) : Option Bool := (getI n.tasks t).bind fun x1 => (z00j marks x1.in_ (marks.length : Int) (z03g n busy t x1.in_ marks) FUEL 0 ([] : List Int))
def z000 : Con := ⟨217, [.v (.s .net) false, .v (.sl .I) false, .v (.sl (.s .item)) false, .v .I false], [(.B, true)], [], fun x => z05c x.1 x.2.1 x.2.2.1 x.2.2.2.1⟩
def z0ow : Fs := ⟨[z0dg, z003, z03q], [z07b]⟩
theorem z030 : z0ow.Ok Tryz.prog := (fsK z0t9 (fsK z0w6 (fsK z07x (fsF z0ka fs0))))
def z09e : Tmpl := ⟨[(3, .c .i), (4, .c (.bx 4 0)), (5, .c (.bx 5 0)), (9, .c (.s .I)), (10, .c (.ref 500010)), (46, .c (.s (.s .item))), (47, .c .i), (48, .c .i), (58, .c (.s (.s .flow))), (59, .c .i), (60, .c .i)], [(4, .boxT (.s .net)), (5, .box [.s .I]), (500010, .arr .I true)]⟩
def z08f : Tmpl := ⟨[(3, .c .i), (4, .c (.bx 4 0)), (5, .c (.bx 5 0)), (9, .c (.s .I)), (10, .c (.ref 500010)), (46, .c (.s (.s .item))), (47, .c .i), (48, .c .i)], [(4, .boxT (.s .net)), (5, .box [.s .I]), (500010, .arr .I true)]⟩
def z0g0 (av : AV) (x : HP z000.ps) (n : Nat) (v : z09e.den) (K : Ks (CR z000)) : Option (CR z000) := z01e v.1.2.2.2.2.2.2.2.2.1 v.1.2.2.2.2.2.2.2.2.2.1 (fun l2_1 => z08f.at none ((v.1.1, (), (), v.1.2.2.2.1, (), v.1.2.2.2.2.2.1, v.1.2.2.2.2.2.2.1, v.1.2.2.2.2.2.2.2.1, ()), (v.2.1, (v.2.2.1.1, ()), l2_1, ())) (K (.exit 4))) n v.1.2.2.2.2.2.2.2.2.2.2.1 v.2.2.2.1
def z096 (av : AV) (x : HP z000.ps) : Hdl (CR z000) := hnd [] z09e (z0g0 av x)
theorem z0g9 : LP z000 Tryz.f217 [1, 0] z096 := lp_ok (W := []) (H := []) (xs := [z08f]) z030 trivial rfl (fun av x v K => by kernel_rfl) (fun av x n v K => by kernel_rfl)
def z0aj : Tmpl := ⟨[(2, .c (.s (.s .item))), (3, .c .i), (4, .c (.bx 4 0)), (5, .c (.bx 5 0)), (9, .c (.s .I)), (10, .c (.ref 500010)), (26, .c (.s .I)), (27, .c .i), (28, .c .i)], [(4, .boxT (.s .net)), (5, .box [.s .I]), (500010, .arr .I true)]⟩
def z0a6 : Tmpl := ⟨[(2, .c (.s (.s .item))), (3, .c .i), (4, .c (.bx 4 0)), (5, .c (.bx 5 0)), (9, .c (.s .I)), (10, .c (.ref 500010))], [(4, .boxT (.s .net)), (5, .box [.s .I]), (500010, .arr .I true)]⟩
def z0jw (av : AV) (x : HP z000.ps) (n : Nat) (v : z0aj.den) (K : Ks (CR z000)) : Option (CR z000) := z00j v.1.2.2.2.2.2.2.1 v.1.2.2.2.2.1 v.1.2.2.2.2.2.2.2.1 (fun l0_1 => z0a6.at none ((v.1.1, v.1.2.1, (), (), v.1.2.2.2.2.1, (), ()), (v.2.1, (v.2.2.1.1, ()), l0_1, ())) (K (.exit 0))) n v.1.2.2.2.2.2.2.2.2.1 v.2.2.2.1
def z0ac (av : AV) (x : HP z000.ps) : Hdl (CR z000) := hnd [.e 10 500010 .I] z0aj (z0jw av x)
theorem z0k6 : LP z000 Tryz.f217 [0] z0ac := lp_ok (W := []) (H := []) (xs := [z0a6]) z030 trivial rfl (fun av x v K => by kernel_rfl) (fun av x n v K => by kernel_rfl)
def z0ak : Tmpl := ⟨[(3, .c .i), (4, .c (.bx 4 0)), (5, .c (.bx 5 0)), (9, .c (.s .I)), (10, .c (.ref 500010)), (46, .c (.s (.s .item))), (47, .c .i), (48, .c .i)], [(4, .boxT (.s .net)), (5, .box [.s .I]), (500010, .arr .I true)]⟩
def z0a7 : Tmpl := ⟨[(3, .c .i), (4, .c (.bx 4 0)), (5, .c (.bx 5 0)), (9, .c (.s .I)), (10, .c (.ref 500010))], [(4, .boxT (.s .net)), (5, .box [.s .I]), (500010, .arr .I true)]⟩
def z0jx (av : AV) (x : HP z000.ps) (n : Nat) (v : z0ak.den) (K : Ks (CR z000)) : Option (CR z000) := z00k v.2.1 v.1.2.2.2.2.2.1 (fun l1_2 => z0a7.at none ((v.1.1, (), (), v.1.2.2.2.1, (), ()), (v.2.1, (v.2.2.1.1, ()), l1_2, ())) (K (.exit 2))) n v.1.2.2.2.2.2.2.1 v.1.2.2.2.2.2.2.2.1 v.2.2.2.1
def z0ad (av : AV) (x : HP z000.ps) : Hdl (CR z000) := hnd [] z0ak (z0jx av x)
theorem z0k7 : LP z000 Tryz.f217 [1] z0ad := lp_ok (W := []) (H := [z096]) (xs := [z0a7]) z030 ⟨z0g9, trivial⟩ rfl (fun av x v K => by kernel_rfl) (fun av x n v K => by kernel_rfl)
def z0al : Tmpl := ⟨[(3, .c .i), (4, .c (.bx 4 0)), (5, .c (.bx 5 0)), (9, .c (.s .I)), (71, .c (.ref 500010)), (72, .c .i), (73, .c .i)], [(4, .boxT (.s .net)), (5, .box [.s .I]), (500010, .arr .I true)]⟩
def z0a8 : Tmpl := ⟨[], []⟩
def z0jy (av : AV) (x : HP z000.ps) (n : Nat) (v : z0al.den) (K : Ks (CR z000)) : Option (CR z000) := z00y v.2.1 v.1.1 v.1.2.2.2.1 v.2.2.1.1 v.2.2.2.1 v.1.2.2.2.2.2.1 (z0a8.at none ((), ()) (K (.exit 6))) n v.1.2.2.2.2.2.2.1
def z0ae (av : AV) (x : HP z000.ps) : Hdl (CR z000) := hnd [] z0al (z0jy av x)
theorem z0k8 : LP z000 Tryz.f217 [2] z0ae := lp_ok (W := []) (H := []) (xs := [z0a8]) z030 trivial rfl (fun av x v K => by kernel_rfl) (fun av x n v K => by kernel_rfl)
theorem z0p8 : z000.Ok Tryz.prog := fn_ok (k := z000) (fn := Tryz.f217) (W := []) (H := [z0ac, z0ad, z0ae]) Tryz.func217 z030 ⟨z0k6, z0k7, z0k8, trivial⟩ rfl rfl (fun av x => by kernel_rfl)
def z029 (n : GNet) (marks : List Int) (busy : List GItem) (t : Int) (s0_0 : Bool) (s0_2 : Bool) : Option Bool := (getI n.tasks t).bind fun x14 => (if decide (x14.join = 1) = true then (some s0_0) else (if decide (x14.join = 2) = true then (some s0_2) else (if s0_2 = true then (if s0_0 = true then (some true) else ((z05c n marks busy t).bind fun x19 => (some (!x19)))) else (some false))))
def z00m (marks : List Int) (p0_0 : List Int) (p0_1 : Int) (kx0_0 : Bool → Bool → Option Bool) : Nat → Bool → Int → Bool → Option Bool
  | 0, _, _, _ => none
  | n0 + 1, s0_0, s0_1, s0_2 => if decide (s0_1 < p0_1) = true then ((getI p0_0 s0_1).bind fun x3 => (if s0_2 = true then (if s0_0 = true then ((getI marks x3).bind fun x6 => (gd (ok64 (s0_1 + 1)) ((z00m marks p0_0 p0_1 kx0_0 n0) (decide (0 < x6)) (s0_1 + 1) true))) else (gd (ok64 (s0_1 + 1)) ((z00m marks p0_0 p0_1 kx0_0 n0) false (s0_1 + 1) true))) else ((getI marks x3).bind fun x9 => (if s0_0 = true then ((getI marks x3).bind fun x11 => (gd (ok64 (s0_1 + 1)) ((z00m marks p0_0 p0_1 kx0_0 n0) (decide (0 < x11)) (s0_1 + 1) (decide (0 < x9))))) else (gd (ok64 (s0_1 + 1)) ((z00m marks p0_0 p0_1 kx0_0 n0) false (s0_1 + 1) (decide (0 < x9)))))))) else (kx0_0 s0_0 s0_2)
def z08o (n : GNet) (marks : List Int) (busy : List GItem) (t : Int) : Option Bool := (getI n.tasks t).bind fun x1 => (z00m marks x1.in_ (x1.in_.length : Int) (z029 n marks busy t) FUEL true 0 false)
def z01q : Con := ⟨178, [.v (.s .net) false, .v (.sl .I) false, .v (.sl (.s .item)) false, .v .I false], [(.B, true)], [], fun x => z08o x.1 x.2.1 x.2.2.1 x.2.2.2.1⟩
def z10i : Fs := ⟨[z000], []⟩
theorem z0i7 : z10i.Ok Tryz.prog := (fsK z0p8 fs0)
def z0fi : Tmpl := ⟨[(1, .c (.s .I)), (2, .c (.s (.s .item))), (3, .c .i), (4, .c (.bx 4 0)), (9, .c .b), (10, .c .b), (18, .c (.s .I)), (19, .c .i), (20, .c .i)], [(4, .boxT (.s .net))]⟩
def z0e1 : Tmpl := ⟨[(1, .c (.s .I)), (2, .c (.s (.s .item))), (3, .c .i), (4, .c (.bx 4 0)), (9, .c .b), (10, .c .b)], [(4, .boxT (.s .net))]⟩
def z0to (av : AV) (x : HP z01q.ps) (n : Nat) (v : z0fi.den) (K : Ks (CR z01q)) : Option (CR z01q) := z00m v.1.1 v.1.2.2.2.2.2.2.1 v.1.2.2.2.2.2.2.2.1 (fun s0_0 s0_2 => z0e1.at none ((v.1.1, v.1.2.1, v.1.2.2.1, (), s0_2, s0_0, ()), (v.2.1, ())) (K (.exit 0))) n v.1.2.2.2.2.2.1 v.1.2.2.2.2.2.2.2.2.1 v.1.2.2.2.2.1
def z0ea (av : AV) (x : HP z01q.ps) : Hdl (CR z01q) := hnd [] z0fi (z0to av x)
theorem z0vl : LP z01q Tryz.f178 [0] z0ea := lp_ok (W := []) (H := []) (xs := [z0e1]) z0i7 trivial rfl (fun av x v K => by kernel_rfl) (fun av x n v K => by kernel_rfl)
theorem z113 : z01q.Ok Tryz.prog := fn_ok (k := z01q) (fn := Tryz.f178) (W := []) (H := [z0ea]) Tryz.func178 z0i7 ⟨z0vl, trivial⟩ rfl rfl (fun av x => by kernel_rfl)
def z0em (n : GNet) (marks : List Int) (busy : List GItem) (t : Int) : Option Bool := (z0ay n marks).bind fun x1 => (if x1 = true then ((z03u n busy).bind fun x3 => (if x3 = true then ((z00i n t).bind fun x5 => (if x5 = true then ((z08o n marks busy t).bind fun x7 => (some x7)) else (some false))) else (some false))) else (some false))
def z0li : Con := ⟨107, [.v (.s .net) false, .v (.sl .I) false, .v (.sl (.s .item)) false, .v .I false], [(.B, true)], [], fun x => z0em x.1 x.2.1 x.2.2.1 x.2.2.2.1⟩
def z1gn : Fs := ⟨[z0di, z00l, z01h, z01q], []⟩
theorem z1i1 : z1gn.Ok Tryz.prog := (fsK z0tb (fsK z0dr (fsK z032 (fsK z113 fs0))))
theorem z1kd : z0li.Ok Tryz.prog := fn_ok (k := z0li) (fn := Tryz.f107) (W := []) (H := []) Tryz.func107 z1i1 trivial rfl rfl (fun av x => by kernel_rfl)
def z0ci (l0_1 : List Int) (x4 : Int) (x7 : Int) : Option (List Int) := some (l0_1.set x4.toNat (x7 - 1))
def z0cj (l0_1 : List Int) : Option (List Int) := some l0_1
def z01i (n : GNet) (t : Int) (p0_0 : List Int) (p0_1 : Int) (kx0_0 : List Int → Int → Int → Option (List Int)) (kx0_1 : List Int → Option (List Int)) : Nat → Int → List Int → Option (List Int)
  | 0, _, _ => none
  | n0 + 1, s0_0, l0_1 => if decide (s0_0 < p0_1) = true then ((getI p0_0 s0_0).bind fun x4 => ((getI l0_1 x4).bind fun x5 => (if decide (0 < x5) = true then ((getI l0_1 x4).bind fun x7 => (gd (ok64 (x7 - 1)) ((getI l0_1 x4).bind fun x9 => ((getI n.tasks t).bind fun x10 => (if decide (x10.join = 2) = true then (kx0_0 l0_1 x4 x7) else (gd (ok64 (s0_0 + 1)) ((z01i n t p0_0 p0_1 kx0_0 kx0_1 n0) (s0_0 + 1) (l0_1.set x4.toNat (x7 - 1))))))))) else (gd (ok64 (s0_0 + 1)) ((z01i n t p0_0 p0_1 kx0_0 kx0_1 n0) (s0_0 + 1) l0_1))))) else (kx0_1 l0_1)
def z081 (n : GNet) (marks : List Int) (t : Int) : Option (List Int) := (z00f marks).bind fun x1 => ((getI n.tasks t).bind fun x2 => (z01i n t x2.in_ (x2.in_.length : Int) z0ci z0cj FUEL 0 x1))
def z01a : Con := ⟨110, [.v (.s .net) false, .v (.sl .I) false, .v .I false], [((.sl .I), true)], [], fun x => z081 x.1 x.2.1 x.2.2.1⟩
def z0x7 : Fs := ⟨[z01m], []⟩
theorem z0g5 : z0x7.Ok Tryz.prog := (fsK z02p fs0)
def z0dy : Tmpl := ⟨[(2, .c .i), (3, .c (.bx 3 0)), (7, .c (.ref 11)), (17, .c (.s .I)), (18, .c .i), (19, .c .i)], [(3, .boxT (.s .net)), (11, .arr .I true)]⟩
def z086 : Tmpl := ⟨[(7, .c (.ref 11))], [(11, .arr .I true)]⟩
def z0rv (av : AV) (x : HP z01a.ps) (n : Nat) (v : z0dy.den) (K : Ks (CR z01a)) : Option (CR z01a) := z01i v.2.1 v.1.1 v.1.2.2.2.1 v.1.2.2.2.2.1 (fun l0_1 x4 x7 => z086.at none (((), ()), ((l0_1.set x4.toNat (x7 - 1)), ())) (K (.exit 0))) (fun l0_1 => z086.at none (((), ()), (l0_1, ())) (K (.exit 0))) n v.1.2.2.2.2.2.1 v.2.2.1
def z0de (av : AV) (x : HP z01a.ps) : Hdl (CR z01a) := hnd [] z0dy (z0rv av x)
theorem z0si : LP z01a Tryz.f110 [0] z0de := lp_ok (W := []) (H := []) (xs := [z086]) z0g5 trivial rfl (fun av x v K => by kernel_rfl) (fun av x n v K => by kernel_rfl)
theorem z0y8 : z01a.Ok Tryz.prog := fn_ok (k := z01a) (fn := Tryz.f110) (W := []) (H := [z0de]) Tryz.func110 z0g5 ⟨z0si, trivial⟩ rfl rfl (fun av x => by kernel_rfl)
def z0q8 (l0_1 : List Int) : Option (List Int) := some l0_1
def z00n (t : GTask) (data : List Int) (p0_0 : List GFlow) (p0_1 : Int) (kx0_0 : List Int → Option (List Int)) : Nat → Int → List Int → Option (List Int)
  | 0, _, _ => none
  | n0 + 1, s0_0, l0_1 => if decide (s0_0 < p0_1) = true then ((getI p0_0 s0_0).bind fun x2 => ((z01y x2.if_ data).bind fun x3 => (if x3 = true then (if decide (t.split = 2) = true then (if decide (0 < (l0_1.length : Int)) = true then (gd (ok64 (s0_0 + 1)) ((z00n t data p0_0 p0_1 kx0_0 n0) (s0_0 + 1) l0_1)) else (if decide (t.split = 3) = true then (gd (ok64 ((t.out.length : Int) - 1)) (if decide (s0_0 = ((t.out.length : Int) - 1)) = true then (if decide (0 < (l0_1.length : Int)) = true then (gd (ok64 (s0_0 + 1)) ((z00n t data p0_0 p0_1 kx0_0 n0) (s0_0 + 1) l0_1)) else (gd (l0_1.length + [x2.to].length ≤ SMALL) (gd (ok64 (s0_0 + 1)) ((z00n t data p0_0 p0_1 kx0_0 n0) (s0_0 + 1) (l0_1 ++ [x2.to]))))) else (gd (l0_1.length + [x2.to].length ≤ SMALL) (gd (ok64 (s0_0 + 1)) ((z00n t data p0_0 p0_1 kx0_0 n0) (s0_0 + 1) (l0_1 ++ [x2.to])))))) else (gd (l0_1.length + [x2.to].length ≤ SMALL) (gd (ok64 (s0_0 + 1)) ((z00n t data p0_0 p0_1 kx0_0 n0) (s0_0 + 1) (l0_1 ++ [x2.to])))))) else (if decide (t.split = 3) = true then (gd (ok64 ((t.out.length : Int) - 1)) (if decide (s0_0 = ((t.out.length : Int) - 1)) = true then (if decide (0 < (l0_1.length : Int)) = true then (gd (ok64 (s0_0 + 1)) ((z00n t data p0_0 p0_1 kx0_0 n0) (s0_0 + 1) l0_1)) else (gd (l0_1.length + [x2.to].length ≤ SMALL) (gd (ok64 (s0_0 + 1)) ((z00n t data p0_0 p0_1 kx0_0 n0) (s0_0 + 1) (l0_1 ++ [x2.to]))))) else (gd (l0_1.length + [x2.to].length ≤ SMALL) (gd (ok64 (s0_0 + 1)) ((z00n t data p0_0 p0_1 kx0_0 n0) (s0_0 + 1) (l0_1 ++ [x2.to])))))) else (gd (l0_1.length + [x2.to].length ≤ SMALL) (gd (ok64 (s0_0 + 1)) ((z00n t data p0_0 p0_1 kx0_0 n0) (s0_0 + 1) (l0_1 ++ [x2.to])))))) else (gd (ok64 (s0_0 + 1)) ((z00n t data p0_0 p0_1 kx0_0 n0) (s0_0 + 1) l0_1))))) else (kx0_0 l0_1)
def z0hh (t : GTask) (data : List Int) : Option (List Int) := z00n t data t.out (t.out.length : Int) z0q8 FUEL 0 ([] : List Int)
def z06a : Con := ⟨222, [.v (.s .task) false, .v (.sl .I) false], [((.sl .I), true)], [], fun x => z0hh x.1 x.2.1⟩
def z1n7 : Fs := ⟨[z03j], []⟩
theorem z12t : z1n7.Ok Tryz.prog := (fsK z077 fs0)
def z0wo : Tmpl := ⟨[(1, .c (.s .I)), (2, .c (.bx 2 0)), (5, .c (.ref 500005)), (9, .c (.s (.s .flow))), (10, .c .i), (11, .c .i)], [(2, .boxT (.s .task)), (500005, .arr .I true)]⟩
def z0rm : Tmpl := ⟨[(5, .c (.ref 500005))], [(500005, .arr .I true)]⟩
def z1b0 (av : AV) (x : HP z06a.ps) (n : Nat) (v : z0wo.den) (K : Ks (CR z06a)) : Option (CR z06a) := z00n v.2.1 v.1.1 v.1.2.2.2.1 v.1.2.2.2.2.1 (fun l0_1 => z0rm.at none (((), ()), (l0_1, ())) (K (.exit 0))) n v.1.2.2.2.2.2.1 v.2.2.1
def z0ux (av : AV) (x : HP z06a.ps) : Hdl (CR z06a) := hnd [.e 5 500005 .I] z0wo (z1b0 av x)
theorem z1dk : LP z06a Tryz.f222 [0] z0ux := lp_ok (W := []) (H := []) (xs := [z0rm]) z12t trivial rfl (fun av x v K => by kernel_rfl) (fun av x n v K => by kernel_rfl)
theorem z1pg : z06a.Ok Tryz.prog := fn_ok (k := z06a) (fn := Tryz.f222) (W := []) (H := [z0ux]) Tryz.func222 z12t ⟨z1dk, trivial⟩ rfl rfl (fun av x => by kernel_rfl)
def z08n (n : GNet) (l1_1 : List Int) : Option ((List Int) × Bool) := (z031 n l1_1).bind fun x21 => (if x21 = true then (some (l1_1, true)) else (some ([], false)))
def z04a (x14 : (List Int)) (p1_0 : Int) (kx1_0 : List Int → Option ((List Int) × Bool)) : Nat → Int → List Int → Option ((List Int) × Bool)
  | 0, _, _ => none
  | n1 + 1, s1_0, l1_1 => if decide (s1_0 < p1_0) = true then ((getI x14 s1_0).bind fun x16 => ((getI l1_1 x16).bind fun x17 => (gd (ok64 (x17 + 1)) ((getI l1_1 x16).bind fun x19 => (gd (ok64 (s1_0 + 1)) ((z04a x14 p1_0 kx1_0 n1) (s1_0 + 1) (l1_1.set x16.toNat (x17 + 1)))))))) else (kx1_0 l1_1)
def z08m (n : GNet) (t : Int) (data : List Int) (l0_1 : List Int) : Option ((List Int) × Bool) := (getI n.tasks t).bind fun x13 => ((z0hh x13 data).bind fun x14 => (z04a x14 (x14.length : Int) (z08n n) FUEL 0 l0_1))
def z049 (p0_0 : List Int) (p0_1 : Int) (kx0_0 : List Int → Option ((List Int) × Bool)) : Nat → Int → List Int → Option ((List Int) × Bool)
  | 0, _, _ => none
  | n0 + 1, s0_0, l0_1 => if decide (s0_0 < p0_1) = true then ((getI p0_0 s0_0).bind fun x10 => ((getI l0_1 x10).bind fun x11 => (gd (ok64 (s0_0 + 1)) ((z049 p0_0 p0_1 kx0_0 n0) (s0_0 + 1) (l0_1.set x10.toNat 0))))) else (kx0_0 l0_1)
def z080 (n : GNet) (marks : List Int) (t : Int) (data : List Int) : Option ((List Int) × Bool) := (z0ay n marks).bind fun x1 => (if x1 = true then ((z00i n t).bind fun x3 => (if x3 = true then ((z03t data).bind fun x5 => (if x5 = true then ((z00f marks).bind fun x7 => ((getI n.tasks t).bind fun x8 => (z049 x8.clear (x8.clear.length : Int) (z08m n t data) FUEL 0 x7))) else (some ([], false)))) else (some ([], false)))) else (some ([], false)))
def z00u : Con := ⟨192, [.v (.s .net) false, .v (.sl .I) false, .v .I false, .v (.sl .I) false], [((.sl .I), true), (.B, true)], [], fun x => z080 x.1 x.2.1 x.2.2.1 x.2.2.2.1⟩
def z1c5 : Fs := ⟨[z0di, z01h, z068, z01m, z06a, z05b], []⟩
theorem z0gs : z1c5.Ok Tryz.prog := (fsK z0tb (fsK z032 (fsK z094 (fsK z02p (fsK z1pg (fsK z0ck fs0))))))
def z0nf : Tmpl := ⟨[(2, .c .i), (3, .c (.s .I)), (4, .c (.bx 4 0)), (10, .c (.ref 31)), (37, .c (.s .I)), (38, .c .i), (39, .c .i)], [(4, .boxT (.s .net)), (31, .arr .I true)]⟩
def z0jf : Tmpl := ⟨[(2, .c .i), (3, .c (.s .I)), (4, .c (.bx 4 0)), (10, .c (.ref 31))], [(4, .boxT (.s .net)), (31, .arr .I true)]⟩
def z11w (av : AV) (x : HP z00u.ps) (n : Nat) (v : z0nf.den) (K : Ks (CR z00u)) : Option (CR z00u) := z049 v.1.2.2.2.2.1 v.1.2.2.2.2.2.1 (fun l0_1 => z0jf.at none ((v.1.1, v.1.2.1, (), (), ()), (v.2.1, l0_1, ())) (K (.exit 0))) n v.1.2.2.2.2.2.2.1 v.2.2.1
def z0l1 (av : AV) (x : HP z00u.ps) : Hdl (CR z00u) := hnd [] z0nf (z11w av x)
theorem z14s : LP z00u Tryz.f192 [0] z0l1 := lp_ok (W := []) (H := []) (xs := [z0jf]) z0gs trivial rfl (fun av x v K => by kernel_rfl) (fun av x n v K => by kernel_rfl)
def z0ng : Tmpl := ⟨[(4, .c (.bx 4 0)), (10, .c (.ref 31)), (53, .c (.ref 53)), (54, .c .i), (55, .c .i)], [(4, .boxT (.s .net)), (31, .arr .I true), (53, .arr .I true)]⟩
def z0jg : Tmpl := ⟨[(4, .c (.bx 4 0)), (10, .c (.ref 31))], [(4, .boxT (.s .net)), (31, .arr .I true)]⟩
def z11x (av : AV) (x : HP z00u.ps) (n : Nat) (v : z0ng.den) (K : Ks (CR z00u)) : Option (CR z00u) := z04a v.2.2.2.1 v.1.2.2.2.1 (fun l1_1 => z0jg.at none (((), (), ()), (v.2.1, l1_1, ())) (K (.exit 2))) n v.1.2.2.2.2.1 v.2.2.1
def z0l2 (av : AV) (x : HP z00u.ps) : Hdl (CR z00u) := hnd [] z0ng (z11x av x)
theorem z14t : LP z00u Tryz.f192 [1] z0l2 := lp_ok (W := []) (H := []) (xs := [z0jg]) z0gs trivial rfl (fun av x v K => by kernel_rfl) (fun av x n v K => by kernel_rfl)
theorem z1em : z00u.Ok Tryz.prog := fn_ok (k := z00u) (fn := Tryz.f192) (W := []) (H := [z0l1, z0l2]) Tryz.func192 z0gs ⟨z14s, z14t, trivial⟩ rfl rfl (fun av x => by kernel_rfl)
def z0hg (n : Int) : Option Bool := (z00b n 0 7).bind fun x1 => (some (!x1))
def z0i0 : FCon := ⟨165, .I, [], fun z c => z0hg z ⟩
def z1c7 : Fs := ⟨[z025], []⟩
theorem z1d3 : z1c7.Ok Tryz.prog := (fsK z02s fs0)
theorem z1eo : z0i0.Ok Tryz.prog := FCon.ok (fn_ok (k := z0i0.con) (fn := Tryz.f165) (W := []) (H := []) Tryz.func165 z1d3 trivial rfl rfl (fun av x => by kernel_rfl))
def z0az (people : List Int) : Option Bool := (z00b (people.length : Int) 1 4).bind fun x1 => (if x1 = true then ((z020 people (fun z => z0hg z )).bind fun x3 => (some (!x3))) else (some false))
def z0dj : Con := ⟨91, [.v (.sl .I) false], [(.B, true)], [], fun x => z0az x.1⟩
def z1n5 : Fs := ⟨[z025, z03q], [z0i0]⟩
theorem z1o4 : z1n5.Ok Tryz.prog := (fsK z02s (fsK z07x (fsF z1eo fs0)))
theorem z0te : z0dj.Ok Tryz.prog := fn_ok (k := z0dj) (fn := Tryz.f91) (W := []) (H := []) Tryz.func91 z1o4 trivial rfl rfl (fun av x => by kernel_rfl)
def z0eo (people : List Int) (who : Int) (role : Int) : Option Bool := (z0az people).bind fun x1 => (if x1 = true then ((z00b who 1 (people.length : Int)).bind fun x3 => (if x3 = true then ((z0bv role).bind fun x5 => (if x5 = true then (gd (ok64 (who - 1)) ((getI people (who - 1)).bind fun x8 => (gd (ok64 (role - 1)) (gd ((0 : Int) ≤ (role - 1) ∧ (role - 1) ≤ (63 : Int)) (some (decide ((andI (shrI x8 (role - 1)) 1) = 1))))))) else (some false))) else (some false))) else (some false))
def z0lk : Con := ⟨184, [.v (.sl .I) false, .v .I false, .v .I false], [(.B, true)], [], fun x => z0eo x.1 x.2.1 x.2.2.1⟩
def z1gp : Fs := ⟨[z0dj, z025, z0ef], []⟩
theorem z1i3 : z1gp.Ok Tryz.prog := (fsK z0te (fsK z02s (fsK z0zx fs0)))
theorem z1kf : z0lk.Ok Tryz.prog := fn_ok (k := z0lk) (fn := Tryz.f184) (W := []) (H := []) Tryz.func184 z1i3 trivial rfl rfl (fun av x => by kernel_rfl)
def z0en (did : List GDid) (who : Int) (task : Int) : Option Bool := (z0fv did (GDid.mk task who)).bind fun x1 => (some x1)
def z0lj : Con := ⟨185, [.v (.sl (.s .did)) false, .v .I false, .v .I false], [(.B, true)], [], fun x => z0en x.1 x.2.1 x.2.2.1⟩
def z1go : Fs := ⟨[z0fq], []⟩
theorem z1i2 : z1go.Ok Tryz.prog := (fsK z19b fs0)
theorem z1ke : z0lj.Ok Tryz.prog := fn_ok (k := z0lj) (fn := Tryz.f185) (W := []) (H := []) Tryz.func185 z1i2 trivial rfl rfl (fun av x => by kernel_rfl)
def z0ca (l0_1 : List Int) : Option (List Int) := some l0_1
def z02w (p : Int → Option Bool) (p0_0 : Int) (kx0_0 : List Int → Option (List Int)) : Nat → Int → List Int → Option (List Int)
  | 0, _, _ => none
  | n0 + 1, s0_0, l0_1 => if decide (s0_0 < p0_0) = true then (gd (ok64 (s0_0 + 1)) ((p (s0_0 + 1)).bind fun x5 => (if x5 = true then (gd (ok64 (s0_0 + 1)) (gd (l0_1.length + [(s0_0 + 1)].length ≤ SMALL) (gd (ok64 (s0_0 + 1)) ((z02w p p0_0 kx0_0 n0) (s0_0 + 1) (l0_1 ++ [(s0_0 + 1)]))))) else (gd (ok64 (s0_0 + 1)) ((z02w p p0_0 kx0_0 n0) (s0_0 + 1) l0_1))))) else (kx0_0 l0_1)
def z0hi (people : List Int) (p : Int → Option Bool) : Option (List Int) := (z0az people).bind fun x1 => (if x1 = true then (z02w p (people.length : Int) z0ca FUEL 0 ([] : List Int)) else (some []))
def z02g : Con := ⟨180, [.v (.sl .I) false, .fn .I], [((.sl .I), true)], [], fun x => z0hi x.1 x.2.1⟩
def z1cb : Fs := ⟨[z0dj], []⟩
theorem z0uk : z1cb.Ok Tryz.prog := (fsK z0te fs0)
def z0nk : Tmpl := ⟨[(1, .c .fp), (5, .c (.ref 500005)), (11, .c .i), (12, .c .i)], [(500005, .arr .I true)]⟩
def z0jk : Tmpl := ⟨[(5, .c (.ref 500005))], [(500005, .arr .I true)]⟩
def z121 (av : AV) (x : HP z02g.ps) (n : Nat) (v : z0nk.den) (K : Ks (CR z02g)) : Option (CR z02g) := z02w x.2.1 v.1.2.2.1 (fun l0_1 => z0jk.at (fpOf z02g.ps x av) (((), ()), (l0_1, ())) (K (.exit 0))) n v.1.2.2.2.1 v.2.1
def z0l6 (av : AV) (x : HP z02g.ps) : Hdl (CR z02g) := hnd [.e 5 500005 .I] z0nk (z121 av x)
theorem z14x : LP z02g Tryz.f180 [0] z0l6 := lp_ok (W := []) (H := []) (xs := [z0jk]) z0uk trivial rfl (fun av x v K => by kernel_rfl) (fun av x n v K => by kernel_rfl)
theorem z1er : z02g.Ok Tryz.prog := fn_ok (k := z02g) (fn := Tryz.f180) (W := []) (H := [z0l6]) Tryz.func180 z0uk ⟨z14x, trivial⟩ rfl rfl (fun av x => by kernel_rfl)
def z0c8 (b : GItem) (task : GTask) (who : Int) : Option Bool := if decide (b.task = task.apart) = true then (some (decide (b.who = who))) else (some false)
def z0cb : FCon := ⟨183, (.s .item), [(.s .task), .I], fun z c => z0c8 z c.1 c.2.1⟩
def z10k : Fs := ⟨[], []⟩
theorem z10n : z10k.Ok Tryz.prog := fs0
theorem z115 : z0cb.Ok Tryz.prog := FCon.ok (fn_ok (k := z0cb.con) (fn := Tryz.f183) (W := []) (H := []) Tryz.func183 z10n trivial rfl rfl (fun av x => by kernel_rfl))
def z08b (who : Int) (busy : List GItem) (task : GTask) (people : List Int) (did : List GDid) : Option Bool := (z06d busy (fun z => z0c8 z task who)).bind fun x1 => ((z0eo people who task.role).bind fun x2 => (if x2 = true then (if x1 = true then (some false) else ((z0en did who task.apart).bind fun x5 => (some (!x5)))) else (some false)))
def z0fz : FCon := ⟨181, .I, [(.sl (.s .item)), (.s .task), (.sl .I), (.sl (.s .did))], fun z c => z08b z c.1 c.2.1 c.2.2.1 c.2.2.2.1⟩
def z17y : Fs := ⟨[z08u, z0lk, z0lj], [z0cb]⟩
theorem z18a : z17y.Ok Tryz.prog := (fsK z0t7 (fsK z1kf (fsK z1ke (fsF z115 fs0))))
theorem z19e : z0fz.Ok Tryz.prog := FCon.ok (fn_ok (k := z0fz.con) (fn := Tryz.f181) (W := []) (H := []) Tryz.func181 z18a trivial rfl rfl (fun av x => by kernel_rfl))
def z0ep (n : GNet) (people : List Int) (did : List GDid) (busy : List GItem) (t : Int) : Option (List Int) := (z08x n).bind fun x1 => (if x1 = true then ((z00i n t).bind fun x3 => (if x3 = true then ((getI n.tasks t).bind fun x5 => ((z0hi people (fun z => z08b z busy x5 people did)).bind fun x6 => (some x6))) else (some []))) else (some []))
def z0ll : Con := ⟨109, [.v (.s .net) false, .v (.sl .I) false, .v (.sl (.s .did)) false, .v (.sl (.s .item)) false, .v .I false], [((.sl .I), true)], [], fun x => z0ep x.1 x.2.1 x.2.2.1 x.2.2.2.1 x.2.2.2.2.1⟩
def z1gq : Fs := ⟨[z0as, z01h, z02g], [z0fz]⟩
theorem z1i4 : z1gq.Ok Tryz.prog := (fsK z0hr (fsK z032 (fsK z1er (fsF z19e fs0))))
theorem z1kg : z0ll.Ok Tryz.prog := fn_ok (k := z0ll) (fn := Tryz.f109) (W := []) (H := []) Tryz.func109 z1i4 trivial rfl rfl (fun av x => by kernel_rfl)
def z0bs (n : GNet) (data : List Int) : Option GCase := (z08x n).bind fun x1 => (if x1 = true then ((z03t data).bind fun x3 => (if x3 = true then (gd ((0 : Int) ≤ n.places ∧ n.places ≤ (1000000000 : Int)) ((z00f data).bind fun x6 => ((getI (List.replicate n.places.toNat (0 : Int)) 0).bind fun x7 => (some (GCase.mk 1 ((List.replicate n.places.toNat (0 : Int)).set (0 : Int).toNat 1) [] x6 []))))) else (some (GCase.mk 0 [] [] [] [])))) else (some (GCase.mk 0 [] [] [] [])))
def z0lh : Con := ⟨147, [.v (.s .net) false, .v (.sl .I) false], [((.s .kase), true)], [], fun x => z0bs x.1 x.2.1⟩
def z1gm : Fs := ⟨[z0as, z068, z01m], []⟩
theorem z1i0 : z1gm.Ok Tryz.prog := (fsK z0hr (fsK z094 (fsK z02p fs0)))
theorem z1kc : z0lh.Ok Tryz.prog := fn_ok (k := z0lh) (fn := Tryz.f147) (W := []) (H := []) Tryz.func147 z1i0 trivial rfl rfl (fun av x => by kernel_rfl)
def z0bb (c : GCase) : Option Bool := if decide (c.state = 1) = true then ((getI c.marks 1).bind fun x16 => (some (decide (x16 = 0)))) else (if decide (c.state = 2) = true then (if decide ((c.busy.length : Int) = 0) = true then ((getI c.marks 1).bind fun x19 => (some ((decide (c.state = 2)) == (decide (0 < x19))))) else (some false)) else (if decide (c.state = 3) = true then (if decide ((c.busy.length : Int) = 0) = true then ((getI c.marks 1).bind fun x22 => (some ((decide (c.state = 2)) == (decide (0 < x22))))) else (some false)) else (some false)))
def z06x (n : GNet) (p0_0 : List GDid) (p0_1 : Int) (kx0_0 : Option Bool) : Nat → Int → Option Bool
  | 0, _ => none
  | n0 + 1, s0_0 => if decide (s0_0 < p0_1) = true then ((getI p0_0 s0_0).bind fun x9 => ((z00i n x9.task).bind fun x10 => (if x10 = true then ((z08c x9.who).bind fun x12 => (if x12 = true then (gd (ok64 (s0_0 + 1)) ((z06x n p0_0 p0_1 kx0_0 n0) (s0_0 + 1))) else (some false))) else (some false)))) else (kx0_0)
def z0dm (n : GNet) (c : GCase) : Option Bool := (z0ay n c.marks).bind fun x1 => (if x1 = true then ((z03u n c.busy).bind fun x3 => (if x3 = true then ((z03t c.data).bind fun x5 => (if x5 = true then (if decide (60 < (c.did.length : Int)) = true then (some false) else (z06x n c.did (c.did.length : Int) (z0bb c) FUEL 0)) else (some false))) else (some false))) else (some false))
def z056 : Con := ⟨93, [.v (.s .net) false, .v (.s .kase) false], [(.B, true)], [], fun x => z0dm x.1 x.2.1⟩
def z1my : Fs := ⟨[z0di, z00l, z068, z01h, z0b9], []⟩
theorem z12r : z1my.Ok Tryz.prog := (fsK z0tb (fsK z0dr (fsK z094 (fsK z032 (fsK z0qk fs0)))))
def z0wk : Tmpl := ⟨[(2, .c (.bx 2 0)), (3, .c (.bx 3 0)), (32, .c (.s (.s .did))), (33, .c .i), (34, .c .i)], [(2, .boxT (.s .net)), (3, .boxT (.s .kase))]⟩
def z0ri : Tmpl := ⟨[(3, .c (.bx 3 0))], [(3, .boxT (.s .kase))]⟩
def z1aw (av : AV) (x : HP z056.ps) (n : Nat) (v : z0wk.den) (K : Ks (CR z056)) : Option (CR z056) := z06x v.2.1 v.1.2.2.1 v.1.2.2.2.1 (z0ri.at none (((), ()), (v.2.2.1, ())) (K (.exit 0))) n v.1.2.2.2.2.1
def z0ut (av : AV) (x : HP z056.ps) : Hdl (CR z056) := hnd [] z0wk (z1aw av x)
theorem z1dg : LP z056 Tryz.f93 [0] z0ut := lp_ok (W := []) (H := []) (xs := [z0ri]) z12r trivial rfl (fun av x v K => by kernel_rfl) (fun av x n v K => by kernel_rfl)
theorem z163 : z056.Ok Tryz.prog := fn_ok (k := z056) (fn := Tryz.f93) (W := []) (H := [z0ut]) Tryz.func93 z12r ⟨z1dg, trivial⟩ rfl rfl (fun av x => by kernel_rfl)
def z082 (n : GNet) (c : GCase) : Option Bool := (z0dm n c).bind fun x1 => (if x1 = true then (some (decide (c.state = 1))) else (some false))
def z09k : Con := ⟨106, [.v (.s .net) false, .v (.s .kase) false], [(.B, true)], [], fun x => z082 x.1 x.2.1⟩
def z1cc : Fs := ⟨[z056], []⟩
theorem z1d5 : z1cc.Ok Tryz.prog := (fsK z163 fs0)
theorem z0hs : z09k.Ok Tryz.prog := fn_ok (k := z09k) (fn := Tryz.f106) (W := []) (H := []) Tryz.func106 z1d5 trivial rfl rfl (fun av x => by kernel_rfl)
def z0bc (n : GNet) (people : List Int) (c : GCase) (t : Int) (who : Int) : Option (GCase × Bool) := (z007 c).bind fun x1 => ((z082 n c).bind fun x2 => (if x2 = true then (if decide ((c.busy.length : Int) = 6) = true then (some (x1, false)) else ((z0em n c.marks c.busy t).bind fun x5 => (if x5 = true then ((z0ep n people c.did c.busy t).bind fun x7 => ((z0au x7 who).bind fun x8 => (if x8 = true then ((z081 n c.marks t).bind fun x10 => (gd (x1.busy.length + [(GItem.mk t who 0)].length ≤ SMALL) ((z007 (GCase.mk x1.state x10 (x1.busy ++ [(GItem.mk t who 0)]) x1.data x1.did)).bind fun x12 => (some (x12, true))))) else (some (x1, false))))) else (some (x1, false))))) else (some (x1, false))))
def z0fr : Con := ⟨39, [.v (.s .net) false, .v (.sl .I) false, .v (.s .kase) false, .v .I false, .v .I false], [((.s .kase), true), (.B, true)], [], fun x => z0bc x.1 x.2.1 x.2.2.1 x.2.2.2.1 x.2.2.2.2.1⟩
def z17v : Fs := ⟨[z026, z09k, z0li, z0ll, z0dg, z01a], []⟩
theorem z187 : z17v.Ok Tryz.prog := (fsK z06k (fsK z0hs (fsK z1kd (fsK z1kg (fsK z0t9 (fsK z0y8 fs0))))))
theorem z19c : z0fr.Ok Tryz.prog := fn_ok (k := z0fr) (fn := Tryz.f39) (W := []) (H := []) Tryz.func39 z187 trivial rfl rfl (fun av x => by kernel_rfl)
def z0cw (n : GNet) (c : GCase) (k : Int) (v : Int) (num : Int) : Option (GCase × Bool) := (z007 c).bind fun x1 => ((z082 n c).bind fun x2 => (if x2 = true then (gd (ok64 ((c.busy.length : Int) - 1)) ((z00b k 0 ((c.busy.length : Int) - 1)).bind fun x5 => (if x5 = true then ((z00b v (-1) 2).bind fun x7 => (if x7 = true then ((z053 num).bind fun x9 => (if x9 = true then (if decide ((c.did.length : Int) = 60) = true then (some (x1, false)) else (if decide (0 ≤ v) = true then ((getI x1.data v).bind fun x13 => ((getI x1.busy k).bind fun x14 => (gd (ok64 (x14.did + 1)) ((getI n.tasks ((GItem.mk x14.task x14.who (x14.did + 1)).task)).bind fun x16 => (if decide ((GItem.mk x14.task x14.who (x14.did + 1)).did < x16.need) = true then (some ((GCase.mk x1.state x1.marks (x1.busy.set k.toNat (GItem.mk x14.task x14.who (x14.did + 1))) (x1.data.set v.toNat num) x1.did), true)) else ((z080 n c.marks ((GItem.mk x14.task x14.who (x14.did + 1)).task) (x1.data.set v.toNat num)).bind fun x18 => (if x18.2 = true then (gd (x1.did.length + [(GDid.mk ((GItem.mk x14.task x14.who (x14.did + 1)).task) ((GItem.mk x14.task x14.who (x14.did + 1)).who))].length ≤ SMALL) (gd (ok64 (k + 1)) ((z06f (x1.busy.set k.toNat (GItem.mk x14.task x14.who (x14.did + 1))) k (k + 1)).bind fun x22 => ((getI x18.1 1).bind fun x23 => (if decide (0 < x23) = true then ((z007 (GCase.mk 2 x18.1 [] (x1.data.set v.toNat num) (x1.did ++ [(GDid.mk ((GItem.mk x14.task x14.who (x14.did + 1)).task) ((GItem.mk x14.task x14.who (x14.did + 1)).who))]))).bind fun x25 => (some (x25, true))) else ((z007 (GCase.mk x1.state x18.1 x22 (x1.data.set v.toNat num) (x1.did ++ [(GDid.mk ((GItem.mk x14.task x14.who (x14.did + 1)).task) ((GItem.mk x14.task x14.who (x14.did + 1)).who))]))).bind fun x26 => (some (x26, true)))))))) else ((z007 c).bind fun x27 => (some (x27, false)))))))))) else ((getI x1.busy k).bind fun x28 => (gd (ok64 (x28.did + 1)) ((getI n.tasks ((GItem.mk x28.task x28.who (x28.did + 1)).task)).bind fun x30 => (if decide ((GItem.mk x28.task x28.who (x28.did + 1)).did < x30.need) = true then (some ((GCase.mk x1.state x1.marks (x1.busy.set k.toNat (GItem.mk x28.task x28.who (x28.did + 1))) x1.data x1.did), true)) else ((z080 n c.marks ((GItem.mk x28.task x28.who (x28.did + 1)).task) x1.data).bind fun x32 => (if x32.2 = true then (gd (x1.did.length + [(GDid.mk ((GItem.mk x28.task x28.who (x28.did + 1)).task) ((GItem.mk x28.task x28.who (x28.did + 1)).who))].length ≤ SMALL) (gd (ok64 (k + 1)) ((z06f (x1.busy.set k.toNat (GItem.mk x28.task x28.who (x28.did + 1))) k (k + 1)).bind fun x36 => ((getI x32.1 1).bind fun x37 => (if decide (0 < x37) = true then ((z007 (GCase.mk 2 x32.1 [] x1.data (x1.did ++ [(GDid.mk ((GItem.mk x28.task x28.who (x28.did + 1)).task) ((GItem.mk x28.task x28.who (x28.did + 1)).who))]))).bind fun x39 => (some (x39, true))) else ((z007 (GCase.mk x1.state x32.1 x36 x1.data (x1.did ++ [(GDid.mk ((GItem.mk x28.task x28.who (x28.did + 1)).task) ((GItem.mk x28.task x28.who (x28.did + 1)).who))]))).bind fun x40 => (some (x40, true)))))))) else ((z007 c).bind fun x41 => (some (x41, false))))))))))) else (some (x1, false)))) else (some (x1, false)))) else (some (x1, false))))) else (some (x1, false))))
def z0h2 : Con := ⟨122, [.v (.s .net) false, .v (.s .kase) false, .v .I false, .v .I false, .v .I false], [((.s .kase), true), (.B, true)], [], fun x => z0cw x.1 x.2.1 x.2.2.1 x.2.2.2.1 x.2.2.2.2.1⟩
def z1c2 : Fs := ⟨[z026, z09k, z025, z07y, z00u, z0va], []⟩
theorem z1cz : z1c2.Ok Tryz.prog := (fsK z06k (fsK z0hs (fsK z02s (fsK z0d7 (fsK z1em (fsK z1dx fs0))))))
theorem z1ej : z0h2.Ok Tryz.prog := fn_ok (k := z0h2) (fn := Tryz.f122) (W := []) (H := []) Tryz.func122 z1cz trivial rfl rfl (fun av x => by kernel_rfl)
def z0cv (n : GNet) (c : GCase) : Option (GCase × Bool) := (z007 c).bind fun x1 => ((z082 n c).bind fun x2 => (if x2 = true then (some ((GCase.mk 3 x1.marks [] x1.data x1.did), true)) else (some (x1, false))))
def z0h1 : Con := ⟨149, [.v (.s .net) false, .v (.s .kase) false], [((.s .kase), true), (.B, true)], [], fun x => z0cv x.1 x.2.1⟩
def z1c1 : Fs := ⟨[z026, z09k], []⟩
theorem z1cy : z1c1.Ok Tryz.prog := (fsK z06k (fsK z0hs fs0))
theorem z1ei : z0h1.Ok Tryz.prog := fn_ok (k := z0h1) (fn := Tryz.f149) (W := []) (H := []) Tryz.func149 z1cy trivial rfl rfl (fun av x => by kernel_rfl)
def z0q6 (s0_0 : List GNode) (s0_1 : Int) (bk0 : List GNode → Int → Int → List Int → Option Bool) (p1_0 : Int) (l1_1 : List Int) : Option Bool := gd (ok64 (p1_0 + 1)) (bk0 s0_0 s0_1 (p1_0 + 1) l1_1)
def z02h (tree : List GNode) (s0_2 : Int) (p1_1 : Int) (p1_2 : List Int) (kx1_0 : List Int → Option Bool) : Nat → Int → List Int → Option Bool
  | 0, _, _ => none
  | n1 + 1, s1_0, l1_1 => if decide (s1_0 < p1_1) = true then ((getI p1_2 s1_0).bind fun x9 => (if decide (x9 = (-1)) = true then (gd (ok64 (s1_0 + 1)) ((z02h tree s0_2 p1_1 p1_2 kx1_0 n1) (s1_0 + 1) l1_1)) else (gd (ok64 (s0_2 + 1)) (gd (ok64 ((tree.length : Int) - 1)) ((z00b x9 (s0_2 + 1) ((tree.length : Int) - 1)).bind fun x14 => (if x14 = true then ((getI l1_1 x9).bind fun x16 => (gd (ok64 (x16 + 1)) ((getI l1_1 x9).bind fun x18 => (gd (ok64 (s1_0 + 1)) ((z02h tree s0_2 p1_1 p1_2 kx1_0 n1) (s1_0 + 1) (l1_1.set x9.toNat (x16 + 1))))))) else (some false))))))) else (kx1_0 l1_1)
def z0q7 (tree : List GNode) : Option Bool := some (decide ((tree.length : Int) ≤ 12))
def z058 (l0_3 : List Int) (p2_0 : Int) (kx2_0 : Option Bool) : Nat → Int → Option Bool
  | 0, _ => none
  | n2 + 1, s2_0 => if decide (s2_0 < p2_0) = true then ((getI l0_3 s2_0).bind fun x22 => (if decide (0 < s2_0) = true then (if decide (x22 = 1) = true then (gd (ok64 (s2_0 + 1)) ((z058 l0_3 p2_0 kx2_0 n2) (s2_0 + 1))) else (some false)) else (gd (ok64 (s2_0 + 1)) ((z058 l0_3 p2_0 kx2_0 n2) (s2_0 + 1))))) else (kx2_0)
def z0be (tree : List GNode) (l0_3 : List Int) : Option Bool := z058 l0_3 (l0_3.length : Int) (z0q7 tree) FUEL 0
def z06z (tree : List GNode) (kx0_0 : List Int → Option Bool) : Nat → List GNode → Int → Int → List Int → Option Bool
  | 0, _, _, _, _ => none
  | n0 + 1, s0_0, s0_1, s0_2, l0_3 => if decide (s0_2 < s0_1) = true then ((getI s0_0 s0_2).bind fun x3 => ((z01y x3.if_ x3.stone).bind fun x4 => (if x4 = true then ((z03m x3.ans).bind fun x6 => (if x6 = true then (z02h tree s0_2 ([x3.yes, x3.no].length : Int) [x3.yes, x3.no] (z0q6 s0_0 s0_1 (z06z tree kx0_0 n0) s0_2) FUEL 0 l0_3) else (some false))) else (some false)))) else (kx0_0 l0_3)
def z08y (tree : List GNode) : Option Bool := gd ((0 : Int) ≤ (tree.length : Int) ∧ (tree.length : Int) ≤ (1000000000 : Int)) (z06z tree (z0be tree) FUEL tree (tree.length : Int) 0 (List.replicate (tree.length : Int).toNat (0 : Int)))
def z00e : Con := ⟨92, [.v (.sl (.s .node)) false], [(.B, true)], [], fun x => z08y x.1⟩
def z1n6 : Fs := ⟨[z03j, z089, z025], []⟩
theorem z0gt : z1n6.Ok Tryz.prog := (fsK z077 (fsK z0fx (fsK z02s fs0)))
def z0ni : Tmpl := ⟨[(0, .c (.s (.s .node))), (3, .c (.ref 12)), (4, .c .i), (13, .c (.s (.s .node))), (14, .c .i), (15, .c .i), (36, .c (.ref 36)), (37, .c .i), (38, .c .i)], [(12, .arr .I true), (36, .arr .I true)]⟩
def z0ji : Tmpl := ⟨[(0, .c (.s (.s .node))), (3, .c (.ref 12)), (13, .c (.s (.s .node))), (14, .c .i), (15, .c .i)], [(12, .arr .I true)]⟩
def z11z (av : AV) (x : HP z00e.ps) (n : Nat) (v : z0ni.den) (K : Ks (CR z00e)) : Option (CR z00e) := z02h v.1.1 v.1.2.2.1 v.1.2.2.2.2.2.2.2.1 v.2.2.1 (fun l1_1 => z0ji.at none ((v.1.1, (), v.1.2.2.2.1, v.1.2.2.2.2.1, v.1.2.2.2.2.2.1, ()), (l1_1, ())) (K (.exit 2))) n v.1.2.2.2.2.2.2.2.2.1 v.2.1
def z0l4 (av : AV) (x : HP z00e.ps) : Hdl (CR z00e) := hnd [] z0ni (z11z av x)
theorem z14v : LP z00e Tryz.f92 [0, 0] z0l4 := lp_ok (W := []) (H := []) (xs := [z0ji]) z0gt trivial rfl (fun av x v K => by kernel_rfl) (fun av x n v K => by kernel_rfl)
def z0wm : Tmpl := ⟨[(0, .c (.s (.s .node))), (3, .c (.ref 12)), (13, .c (.s (.s .node))), (14, .c .i), (15, .c .i)], [(12, .arr .I true)]⟩
def z0rk : Tmpl := ⟨[(0, .c (.s (.s .node))), (3, .c (.ref 12))], [(12, .arr .I true)]⟩
def z1ay (av : AV) (x : HP z00e.ps) (n : Nat) (v : z0wm.den) (K : Ks (CR z00e)) : Option (CR z00e) := z06z v.1.1 (fun l0_3 => z0rk.at none ((v.1.1, (), ()), (l0_3, ())) (K (.exit 0))) n v.1.2.2.1 v.1.2.2.2.1 v.1.2.2.2.2.1 v.2.1
def z0uv (av : AV) (x : HP z00e.ps) : Hdl (CR z00e) := hnd [] z0wm (z1ay av x)
theorem z1di : LP z00e Tryz.f92 [0] z0uv := lp_ok (W := []) (H := [z0l4]) (xs := [z0rk]) z0gt ⟨z14v, trivial⟩ rfl (fun av x v K => by kernel_rfl) (fun av x n v K => by kernel_rfl)
def z0wn : Tmpl := ⟨[(0, .c (.s (.s .node))), (60, .c (.ref 12)), (61, .c .i), (62, .c .i)], [(12, .arr .I true)]⟩
def z0rl : Tmpl := ⟨[(0, .c (.s (.s .node)))], []⟩
def z1az (av : AV) (x : HP z00e.ps) (n : Nat) (v : z0wn.den) (K : Ks (CR z00e)) : Option (CR z00e) := z058 v.2.1 v.1.2.2.1 (z0rl.at none ((v.1.1, ()), ()) (K (.exit 4))) n v.1.2.2.2.1
def z0uw (av : AV) (x : HP z00e.ps) : Hdl (CR z00e) := hnd [] z0wn (z1az av x)
theorem z1dj : LP z00e Tryz.f92 [1] z0uw := lp_ok (W := []) (H := []) (xs := [z0rl]) z0gt trivial rfl (fun av x v K => by kernel_rfl) (fun av x n v K => by kernel_rfl)
theorem z0tf : z00e.Ok Tryz.prog := fn_ok (k := z00e) (fn := Tryz.f92) (W := []) (H := [z0uv, z0uw]) Tryz.func92 z0gt ⟨z1di, z1dj, trivial⟩ rfl rfl (fun av x => by kernel_rfl)
def z064 (l0_1 : List Int) : Option (List Int) := some l0_1
def z0zt (l0_1 : List Int) : Option (List Int) := some l0_1
def z023 (tree : List GNode) (data : List Int) (kx0_0 : List Int → Option (List Int)) (kx0_1 : List Int → Option (List Int)) : Nat → Int → List Int → Option (List Int)
  | 0, _, _ => none
  | n0 + 1, s0_0, l0_1 => if decide (0 < (tree.length : Int)) = true then (if decide (s0_0 = (-1)) = true then (kx0_0 l0_1) else (gd (l0_1.length + [s0_0].length ≤ SMALL) ((getI tree s0_0).bind fun x4 => ((z01y x4.if_ data).bind fun x5 => (if x5 = true then ((getI tree s0_0).bind fun x7 => ((z023 tree data kx0_0 kx0_1 n0) x7.yes (l0_1 ++ [s0_0]))) else ((getI tree s0_0).bind fun x8 => ((z023 tree data kx0_0 kx0_1 n0) x8.no (l0_1 ++ [s0_0])))))))) else (kx0_1 l0_1)
def z0mn (tree : List GNode) (data : List Int) : Option (List Int) := z023 tree data z064 z0zt FUEL 0 ([] : List Int)
def z08a : Con := ⟨224, [.v (.sl (.s .node)) false, .v (.sl .I) false], [((.sl .I), true)], [], fun x => z0mn x.1 x.2.1⟩
def z1xe : Fs := ⟨[z03j], []⟩
theorem z1i9 : z1xe.Ok Tryz.prog := (fsK z077 fs0)
def z16t : Tmpl := ⟨[(0, .c (.s (.s .node))), (1, .c (.s .I)), (5, .c (.ref 500005)), (6, .c .i)], [(500005, .arr .I true)]⟩
def z0o8 : Tmpl := ⟨[(5, .c (.ref 500005))], [(500005, .arr .I true)]⟩
def z1lw (av : AV) (x : HP z08a.ps) (n : Nat) (v : z16t.den) (K : Ks (CR z08a)) : Option (CR z08a) := z023 v.1.1 v.1.2.1 (fun l0_1 => z0o8.at none (((), ()), (l0_1, ())) (K (.exit 0))) (fun l0_1 => z0o8.at none (((), ()), (l0_1, ())) (K (.exit 0))) n v.1.2.2.2.1 v.2.1
def z138 (av : AV) (x : HP z08a.ps) : Hdl (CR z08a) := hnd [.e 5 500005 .I] z16t (z1lw av x)
theorem z1op : LP z08a Tryz.f224 [0] z138 := lp_ok (W := []) (H := []) (xs := [z0o8]) z1i9 trivial rfl (fun av x v K => by kernel_rfl) (fun av x n v K => by kernel_rfl)
theorem z1kl : z08a.Ok Tryz.prog := fn_ok (k := z08a) (fn := Tryz.f224) (W := []) (H := [z138]) Tryz.func224 z1i9 ⟨z1op, trivial⟩ rfl rfl (fun av x => by kernel_rfl)
def z0mm (tree : List GNode) (data : List Int) : Option (List Int) := (z08y tree).bind fun x1 => (if x1 = true then ((z03t data).bind fun x3 => (if x3 = true then ((z0mn tree data).bind fun x5 => (some x5)) else (some []))) else (some []))
def z0ln : Con := ⟨223, [.v (.sl (.s .node)) false, .v (.sl .I) false], [((.sl .I), true)], [], fun x => z0mm x.1 x.2.1⟩
def z1gt : Fs := ⟨[z00e, z068, z08a], []⟩
theorem z1i6 : z1gt.Ok Tryz.prog := (fsK z0tf (fsK z094 (fsK z1kl fs0)))
theorem z1kj : z0ln.Ok Tryz.prog := fn_ok (k := z0ln) (fn := Tryz.f223) (W := []) (H := []) Tryz.func223 z1i6 trivial rfl rfl (fun av x => by kernel_rfl)
def z0c9 (s0_1 : Int) : Option Int := some s0_1
def z01r (tree : List GNode) (data : List Int) (x1 : (List Int)) (p0_0 : Int) (kx0_0 : Int → Option Int) : Nat → Int → Int → Option Int
  | 0, _, _ => none
  | n0 + 1, s0_0, s0_1 => if decide (s0_0 < p0_0) = true then ((getI x1 s0_0).bind fun x3 => ((getI tree x3).bind fun x4 => ((z01y x4.if_ data).bind fun x5 => (if x5 = true then (gd (ok64 (s0_0 + 1)) ((z01r tree data x1 p0_0 kx0_0 n0) (s0_0 + 1) x3)) else (gd (ok64 (s0_0 + 1)) ((z01r tree data x1 p0_0 kx0_0 n0) (s0_0 + 1) s0_1)))))) else (kx0_0 s0_1)
def z0cx (tree : List GNode) (data : List Int) : Option Int := (z0mm tree data).bind fun x1 => (z01r tree data x1 (x1.length : Int) z0c9 FUEL 0 (-1))
def z037 : Con := ⟨201, [.v (.sl (.s .node)) false, .v (.sl .I) false], [(.I, true)], [], fun x => z0cx x.1 x.2.1⟩
def z1c8 : Fs := ⟨[z0ln, z03j], []⟩
theorem z0ui : z1c8.Ok Tryz.prog := (fsK z1kj (fsK z077 fs0))
def z0nh : Tmpl := ⟨[(0, .c (.s (.s .node))), (1, .c (.s .I)), (5, .c .i), (10, .c (.ref 10)), (11, .c .i), (12, .c .i)], [(10, .arr .I true)]⟩
def z0jh : Tmpl := ⟨[(5, .c .i)], []⟩
def z11y (av : AV) (x : HP z037.ps) (n : Nat) (v : z0nh.den) (K : Ks (CR z037)) : Option (CR z037) := z01r v.1.1 v.1.2.1 v.2.1 v.1.2.2.2.2.1 (fun s0_1 => z0jh.at none ((s0_1, ()), ()) (K (.exit 0))) n v.1.2.2.2.2.2.1 v.1.2.2.1
def z0l3 (av : AV) (x : HP z037.ps) : Hdl (CR z037) := hnd [] z0nh (z11y av x)
theorem z14u : LP z037 Tryz.f201 [0] z0l3 := lp_ok (W := []) (H := []) (xs := [z0jh]) z0ui trivial rfl (fun av x v K => by kernel_rfl) (fun av x n v K => by kernel_rfl)
theorem z1ep : z037.Ok Tryz.prog := fn_ok (k := z037) (fn := Tryz.f201) (W := []) (H := [z0l3]) Tryz.func201 z0ui ⟨z14u, trivial⟩ rfl rfl (fun av x => by kernel_rfl)
def z0er (tree : List GNode) (data : List Int) : Option Int := (z0cx tree data).bind fun x1 => (if decide (x1 = (-1)) = true then (some 0) else ((getI tree x1).bind fun x3 => (some x3.ans)))
def z0lm : Con := ⟨146, [.v (.sl (.s .node)) false, .v (.sl .I) false], [(.I, true)], [], fun x => z0er x.1 x.2.1⟩
def z1gs : Fs := ⟨[z037], []⟩
theorem z1i5 : z1gs.Ok Tryz.prog := (fsK z1ep fs0)
theorem z1ki : z0lm.Ok Tryz.prog := fn_ok (k := z0lm) (fn := Tryz.f146) (W := []) (H := []) Tryz.func146 z1i5 trivial rfl rfl (fun av x => by kernel_rfl)
def z0gb (tree : List GNode) (data : List Int) : Option (Int × Bool) := (z0mn tree data).bind fun x1 => (gd (ok64 ((x1.length : Int) - 1)) ((getI x1 ((x1.length : Int) - 1)).bind fun x3 => ((getI tree x3).bind fun x4 => ((z01y x4.if_ data).bind fun x5 => (some (x3, x5))))))
def z0xc : Con := ⟨202, [.v (.sl (.s .node)) false, .v (.sl .I) false], [(.I, true), (.B, true)], [], fun x => z0gb x.1 x.2.1⟩
def z1tr : Fs := ⟨[z08a, z03j], []⟩
theorem z1tu : z1tr.Ok Tryz.prog := (fsK z1kl (fsK z077 fs0))
theorem z1ug : z0xc.Ok Tryz.prog := fn_ok (k := z0xc) (fn := Tryz.f202) (W := []) (H := []) Tryz.func202 z1tu trivial rfl rfl (fun av x => by kernel_rfl)
def z09o (tree : List GNode) (data : List Int) (e : GAsk) (ans : Int) (x1 : (List GNode)) (p0_0 : Int) (p0_1 : Bool) : Option ((List GNode) × Bool) := if p0_1 = true then ((getI x1 p0_0).bind fun x24 => ((z00f data).bind fun x25 => (gd ((x1.set p0_0.toNat (GNode.mk x24.if_ (tree.length : Int) x24.no x24.ans x24.stone)).length + [(GNode.mk e (-1) (-1) ans x25)].length ≤ SMALL) (some (((x1.set p0_0.toNat (GNode.mk x24.if_ (tree.length : Int) x24.no x24.ans x24.stone)) ++ [(GNode.mk e (-1) (-1) ans x25)]), true))))) else ((getI x1 p0_0).bind fun x27 => ((z00f data).bind fun x28 => (gd ((x1.set p0_0.toNat (GNode.mk x27.if_ x27.yes (tree.length : Int) x27.ans x27.stone)).length + [(GNode.mk e (-1) (-1) ans x28)].length ≤ SMALL) (some (((x1.set p0_0.toNat (GNode.mk x27.if_ x27.yes (tree.length : Int) x27.ans x27.stone)) ++ [(GNode.mk e (-1) (-1) ans x28)]), true)))))
def z02l (tree : List GNode) (e : GAsk) (x1 : (List GNode)) (p0_0 : Int) (p0_1 : Bool) (p0_2 : List GNode) (p0_3 : Int) (kx0_0 : Option ((List GNode) × Bool)) : Nat → Int → Option ((List GNode) × Bool)
  | 0, _ => none
  | n0 + 1, s0_0 => if decide (s0_0 < p0_3) = true then ((getI p0_2 s0_0).bind fun x14 => ((z0gb tree x14.stone).bind fun x15 => (if decide (x15.1 = p0_0) = true then (if (x15.2 == p0_1) = true then ((z01y e x14.stone).bind fun x18 => (if x18 = true then (some (x1, false)) else (gd (ok64 (s0_0 + 1)) ((z02l tree e x1 p0_0 p0_1 p0_2 p0_3 kx0_0 n0) (s0_0 + 1))))) else (gd (ok64 (s0_0 + 1)) ((z02l tree e x1 p0_0 p0_1 p0_2 p0_3 kx0_0 n0) (s0_0 + 1)))) else (gd (ok64 (s0_0 + 1)) ((z02l tree e x1 p0_0 p0_1 p0_2 p0_3 kx0_0 n0) (s0_0 + 1)))))) else (kx0_0)
def z0eq (tree : List GNode) (data : List Int) (e : GAsk) (ans : Int) : Option ((List GNode) × Bool) := (z06r tree).bind fun x1 => ((z08y tree).bind fun x2 => (if x2 = true then ((z03t data).bind fun x4 => (if x4 = true then ((z03m ans).bind fun x6 => (if x6 = true then ((z01y e data).bind fun x8 => (if x8 = true then (if decide ((tree.length : Int) = 12) = true then (some (x1, false)) else (if decide (0 < (tree.length : Int)) = true then ((z0gb tree data).bind fun x12 => (z02l tree e x1 x12.1 x12.2 tree (tree.length : Int) (z09o tree data e ans x1 x12.1 x12.2) FUEL 0)) else ((z00f data).bind fun x30 => (gd (x1.length + [(GNode.mk e (-1) (-1) ans x30)].length ≤ SMALL) (some ((x1 ++ [(GNode.mk e (-1) (-1) ans x30)]), true)))))) else (some (x1, false)))) else (some (x1, false)))) else (some (x1, false)))) else (some (x1, false))))
def z04s : Con := ⟨148, [.v (.sl (.s .node)) false, .v (.sl .I) false, .v (.s .ask) false, .v .I false], [((.sl (.s .node)), true), (.B, true)], [], fun x => z0eq x.1 x.2.1 x.2.2.1 x.2.2.2.1⟩
def z1gr : Fs := ⟨[z019, z00e, z068, z089, z03j, z0xc, z01m], []⟩
theorem z0yo : z1gr.Ok Tryz.prog := (fsK z0iv (fsK z0tf (fsK z094 (fsK z0fx (fsK z077 (fsK z1ug (fsK z02p fs0)))))))
def z0r0 : Tmpl := ⟨[(0, .c (.s (.s .node))), (1, .c (.s .I)), (3, .c .i), (6, .c (.bx 6 0)), (10, .c (.ref 18)), (11, .c .i), (12, .c .b), (53, .c (.s (.s .node))), (54, .c .i), (55, .c .i)], [(6, .boxT (.s .ask)), (18, .arr (.s .node) true)]⟩
def z0o7 : Tmpl := ⟨[(0, .c (.s (.s .node))), (1, .c (.s .I)), (3, .c .i), (6, .c (.bx 6 0)), (10, .c (.ref 18)), (11, .c .i), (12, .c .b)], [(6, .boxT (.s .ask)), (18, .arr (.s .node) true)]⟩
def z17d (av : AV) (x : HP z04s.ps) (n : Nat) (v : z0r0.den) (K : Ks (CR z04s)) : Option (CR z04s) := z02l v.1.1 v.2.1 v.2.2.1 v.1.2.2.2.2.2.1 v.1.2.2.2.2.2.2.1 v.1.2.2.2.2.2.2.2.1 v.1.2.2.2.2.2.2.2.2.1 (z0o7.at none ((v.1.1, v.1.2.1, v.1.2.2.1, (), (), v.1.2.2.2.2.2.1, v.1.2.2.2.2.2.2.1, ()), (v.2.1, v.2.2.1, ())) (K (.exit 0))) n v.1.2.2.2.2.2.2.2.2.2.1
def z0pn (av : AV) (x : HP z04s.ps) : Hdl (CR z04s) := hnd [] z0r0 (z17d av x)
theorem z18t : LP z04s Tryz.f148 [0] z0pn := lp_ok (W := []) (H := []) (xs := [z0o7]) z0yo trivial rfl (fun av x v K => by kernel_rfl) (fun av x n v K => by kernel_rfl)
theorem z1kh : z04s.Ok Tryz.prog := fn_ok (k := z04s) (fn := Tryz.f148) (W := []) (H := [z0pn]) Tryz.func148 z0yo ⟨z18t, trivial⟩ rfl rfl (fun av x => by kernel_rfl)
def z0he (n : GNet) : Option Bool := (z08x n).bind fun x1 => (some (!x1))
def z0hy : FCon := ⟨89, (.s .net), [], fun z c => z0he z ⟩
def z1c4 : Fs := ⟨[z0as], []⟩
theorem z1d1 : z1c4.Ok Tryz.prog := (fsK z0hr fs0)
theorem z1el : z0hy.Ok Tryz.prog := FCon.ok (fn_ok (k := z0hy.con) (fn := Tryz.f89) (W := []) (H := []) Tryz.func89 z1d1 trivial rfl rfl (fun av x => by kernel_rfl))
def z0q5  : Option Bool := some true
def z06y (h : GHouse) (p0_0 : List GRun) (p0_1 : Int) (kx0_0 : Option Bool) : Nat → Int → Option Bool
  | 0, _ => none
  | n0 + 1, s0_0 => if decide (s0_0 < p0_1) = true then ((getI p0_0 s0_0).bind fun x11 => (gd (ok64 ((h.nets.length : Int) - 1)) ((z00b x11.net 0 ((h.nets.length : Int) - 1)).bind fun x13 => (if x13 = true then ((getI h.nets x11.net).bind fun x15 => ((z0dm x15 x11.case).bind fun x16 => (if x16 = true then (gd (ok64 (s0_0 + 1)) ((z06y h p0_0 p0_1 kx0_0 n0) (s0_0 + 1))) else (some false)))) else (some false))))) else (kx0_0)
def z0hd (h : GHouse) : Option Bool := (z00b (h.nets.length : Int) 1 3).bind fun x1 => (if x1 = true then ((z07f h.nets (fun z => z0he z )).bind fun x3 => (if x3 = true then (some false) else ((z0az h.people).bind fun x5 => (if x5 = true then ((z08y h.tree).bind fun x7 => (if x7 = true then (if decide (5 < (h.runs.length : Int)) = true then (some false) else (z06y h h.runs (h.runs.length : Int) z0q5 FUEL 0)) else (some false))) else (some false))))) else (some false))
def z069 : Con := ⟨32, [.v (.s .house) false], [(.B, true)], [], fun x => z0hd x.1⟩
def z1n1 : Fs := ⟨[z025, z09i, z0dj, z00e, z056], [z0hy]⟩
theorem z12s : z1n1.Ok Tryz.prog := (fsK z02s (fsK z0w2 (fsK z0te (fsK z0tf (fsK z163 (fsF z1el fs0))))))
def z0wl : Tmpl := ⟨[(1, .c (.bx 1 0)), (34, .c (.s (.s .run))), (35, .c .i), (36, .c .i)], [(1, .boxT (.s .house))]⟩
def z0rj : Tmpl := ⟨[], []⟩
def z1ax (av : AV) (x : HP z069.ps) (n : Nat) (v : z0wl.den) (K : Ks (CR z069)) : Option (CR z069) := z06y v.2.1 v.1.2.1 v.1.2.2.1 (z0rj.at none ((), ()) (K (.exit 0))) n v.1.2.2.2.1
def z0uu (av : AV) (x : HP z069.ps) : Hdl (CR z069) := hnd [] z0wl (z1ax av x)
theorem z1dh : LP z069 Tryz.f32 [0] z0uu := lp_ok (W := []) (H := []) (xs := [z0rj]) z12s trivial rfl (fun av x v K => by kernel_rfl) (fun av x n v K => by kernel_rfl)
theorem z1pf : z069.Ok Tryz.prog := fn_ok (k := z069) (fn := Tryz.f32) (W := []) (H := [z0uu]) Tryz.func32 z12s ⟨z1dh, trivial⟩ rfl rfl (fun av x => by kernel_rfl)
def z05p (r : GReq) (s : GReq) : Option Bool := if decide (r.kind = s.kind) = true then (if decide (r.who = s.who) = true then (if decide (r.case = s.case) = true then (if decide (r.task = s.task) = true then (if decide (r.var = s.var) = true then (if decide (r.num = s.num) = true then (if decide ([r.if_.op, r.if_.var, r.if_.k] = [s.if_.op, s.if_.var, s.if_.k]) = true then (if decide (r.ans = s.ans) = true then ((z119 r.data s.data).bind fun x9 => (some x9)) else (some false)) else (some false)) else (some false)) else (some false)) else (some false)) else (some false)) else (some false)) else (some false)
def z0ar : Con := ⟨141, [.v (.s .req) false, .v (.s .req) false], [(.B, true)], [], fun x => z05p x.1 x.2.1⟩
def z0x6 : Fs := ⟨[z0cp], []⟩
theorem z0xa : z0x6.Ok Tryz.prog := (fsK z20x fs0)
theorem z0y7 : z0ar.Ok Tryz.prog := fn_ok (k := z0ar) (fn := Tryz.f141) (W := []) (H := []) Tryz.func141 z0xa trivial rfl rfl (fun av x => by kernel_rfl)
def z052 (r : GReq) : Option GReq := if decide (r.kind = 1) = true then (some (GReq.mk r.kind 0 0 0 0 0 r.data (GAsk.mk 0 0 0) 0)) else (if decide (r.kind = 2) = true then (some (GReq.mk r.kind r.who r.case r.task 0 0 [] (GAsk.mk 0 0 0) 0)) else (if decide (r.kind = 3) = true then (some (GReq.mk r.kind 0 r.case r.task r.var r.num [] (GAsk.mk 0 0 0) 0)) else (if decide (r.kind = 4) = true then (some (GReq.mk r.kind 0 r.case 0 0 0 [] (GAsk.mk 0 0 0) 0)) else (some (GReq.mk r.kind 0 0 0 0 0 r.data r.if_ r.ans)))))
def z09j : Con := ⟨142, [.v (.s .req) false], [((.s .req), false)], [], fun x => z052 x.1⟩
def z0ty : Fs := ⟨[], []⟩
theorem z0uh : z0ty.Ok Tryz.prog := fs0
theorem z0w4 : z09j.Ok Tryz.prog := fn_ok (k := z09j) (fn := Tryz.f142) (W := []) (H := []) Tryz.func142 z0uh trivial rfl rfl (fun av x => by kernel_rfl)
def z0bd (r : GReq) : Option Bool := if decide (r.kind = 1) = true then ((z00b r.kind 1 5).bind fun x2 => (if x2 = true then ((z00b r.who 0 4).bind fun x4 => (if x4 = true then ((z00b r.case 0 4).bind fun x6 => (if x6 = true then ((z00b r.task 0 5).bind fun x8 => (if x8 = true then ((z00b r.var (-1) 2).bind fun x10 => (if x10 = true then ((z053 r.num).bind fun x12 => (if x12 = true then ((z07p r.if_).bind fun x14 => (if x14 = true then ((z03m r.ans).bind fun x16 => (if x16 = true then ((z03t r.data).bind fun x18 => (if (x18 == true) = true then ((z052 r).bind fun x20 => ((z05p r x20).bind fun x21 => (some x21))) else (some false))) else (some false))) else (some false))) else (some false))) else (some false))) else (some false))) else (some false))) else (some false))) else (some false))) else ((z00b r.kind 1 5).bind fun x22 => (if x22 = true then ((z00b r.who 0 4).bind fun x24 => (if x24 = true then ((z00b r.case 0 4).bind fun x26 => (if x26 = true then ((z00b r.task 0 5).bind fun x28 => (if x28 = true then ((z00b r.var (-1) 2).bind fun x30 => (if x30 = true then ((z053 r.num).bind fun x32 => (if x32 = true then ((z07p r.if_).bind fun x34 => (if x34 = true then ((z03m r.ans).bind fun x36 => (if x36 = true then ((z03t r.data).bind fun x38 => (if (x38 == (decide (r.kind = 5))) = true then ((z052 r).bind fun x40 => ((z05p r x40).bind fun x41 => (some x41))) else (some false))) else (some false))) else (some false))) else (some false))) else (some false))) else (some false))) else (some false))) else (some false))) else (some false)))
def z0fs : Con := ⟨66, [.v (.s .req) false], [(.B, true)], [], fun x => z0bd x.1⟩
def z17w : Fs := ⟨[z025, z07y, z0dh, z089, z068, z09j, z0ar], []⟩
theorem z188 : z17w.Ok Tryz.prog := (fsK z02s (fsK z0d7 (fsK z0ta (fsK z0fx (fsK z094 (fsK z0w4 (fsK z0y7 fs0)))))))
theorem z19d : z0fs.Ok Tryz.prog := fn_ok (k := z0fs) (fn := Tryz.f66) (W := []) (H := []) Tryz.func66 z188 trivial rfl rfl (fun av x => by kernel_rfl)
def z07z (h : GHouse) (r : GReq) : Option (Int × GHouse) := if decide (r.kind = 1) = true then (if decide ((h.runs.length : Int) = 5) = true then (some (4, h)) else ((z0er h.tree r.data).bind fun x3 => (if decide ((h.nets.length : Int) ≤ x3) = true then ((getI h.nets 0).bind fun x5 => ((z0bs x5 r.data).bind fun x6 => (gd (h.runs.length + [(GRun.mk 0 x6)].length ≤ SMALL) (some (1, (GHouse.mk h.nets h.people h.tree (h.runs ++ [(GRun.mk 0 x6)]))))))) else ((getI h.nets x3).bind fun x8 => ((z0bs x8 r.data).bind fun x9 => (gd (h.runs.length + [(GRun.mk x3 x9)].length ≤ SMALL) (some (1, (GHouse.mk h.nets h.people h.tree (h.runs ++ [(GRun.mk x3 x9)])))))))))) else (if decide (r.kind = 5) = true then ((z0eq h.tree r.data r.if_ r.ans).bind fun x12 => (if x12.2 = true then (some (1, (GHouse.mk h.nets h.people x12.1 h.runs))) else (some (3, h)))) else (if decide ((h.runs.length : Int) ≤ r.case) = true then (some (2, h)) else ((getI h.runs r.case).bind fun x15 => ((getI h.nets x15.net).bind fun x16 => (if decide (r.kind = 2) = true then ((z0bc x16 h.people x15.case r.task r.who).bind fun x18 => (if x18.2 = true then (some (1, (GHouse.mk h.nets h.people h.tree (h.runs.set r.case.toNat (GRun.mk x15.net x18.1))))) else (some (3, h)))) else (if decide (r.kind = 3) = true then ((z0cw x16 x15.case r.task r.var r.num).bind fun x21 => (if x21.2 = true then (some (1, (GHouse.mk h.nets h.people h.tree (h.runs.set r.case.toNat (GRun.mk x15.net x21.1))))) else (some (3, h)))) else ((z0cv x16 x15.case).bind fun x23 => (if x23.2 = true then (some (1, (GHouse.mk h.nets h.people h.tree (h.runs.set r.case.toNat (GRun.mk x15.net x23.1))))) else (some (3, h))))))))))
def z0aq : Con := ⟨68, [.ptr (.s .house) true, .v (.s .req) false], [(.I, true)], [(0, .ptr (.s .house) true)], fun x => z07z x.1 x.2.1⟩
def z0x5 : Fs := ⟨[z0lm, z0lh, z04s, z0fr, z0h2, z0h1], []⟩
theorem z0x9 : z0x5.Ok Tryz.prog := (fsK z1ki (fsK z1kc (fsK z1kh (fsK z19c (fsK z1ej (fsK z1ei fs0))))))
theorem z0y6 : z0aq.Ok Tryz.prog := fn_ok (k := z0aq) (fn := Tryz.f68) (W := []) (H := []) Tryz.func68 z0x9 trivial rfl rfl (fun av x => by kernel_rfl)
def z0dn (h : GHouse) (r : GReq) : Option (GHouse × Int) := (z0hd h).bind fun x1 => (if x1 = true then ((z0bd r).bind fun x3 => (if x3 = true then ((z022 h).bind fun x5 => ((z07z x5 r).bind fun x6 => ((z022 x6.2).bind fun x7 => (some (x7, x6.1))))) else (some ((GHouse.mk [] [] [] []), 0)))) else (some ((GHouse.mk [] [] [] []), 0)))
def z0se : Con := ⟨16, [.v (.s .house) false, .v (.s .req) false], [((.s .house), true), (.I, true)], [], fun x => z0dn x.1 x.2.1⟩
def z1n0 : Fs := ⟨[z069, z0fs, z008, z0aq], []⟩
theorem z1o0 : z1n0.Ok Tryz.prog := (fsK z1pf (fsK z19d (fsK z0p7 (fsK z0y6 fs0))))
theorem z1pe : z0se.Ok Tryz.prog := fn_ok (k := z0se) (fn := Tryz.f16) (W := []) (H := []) Tryz.func16 z1o0 trivial rfl rfl (fun av x => by kernel_rfl)
def z0zu (s0_0 : Int) (l0_2 : List Int) : Option (Int × (List Int)) := some (s0_0, l0_2)
def z09d (kx0_0 : Int → List Int → Option (Int × (List Int))) : Nat → Int → Int → List Int → Option (Int × (List Int))
  | 0, _, _, _ => none
  | n0 + 1, s0_0, s0_1, l0_2 => if decide (s0_1 < (l0_2.length : Int)) = true then ((getI l0_2 s0_1).bind fun x2 => (gd (ok64 (s0_0 + 1)) (gd (ok64 (s0_1 + 1)) ((z09d kx0_0 n0) (s0_0 + 1) (s0_1 + 1) (l0_2.set s0_1.toNat s0_0))))) else (kx0_0 s0_0 l0_2)
def z08d (a : List Int) (k : Int) : Option (Int × (List Int)) := z09d z0zu FUEL k 0 a
def z05f : Con := ⟨44, [.v (.sl .I) true, .v .I false], [(.I, true)], [(0, .v (.sl .I) true)], fun x => z08d x.1 x.2.1⟩
def z1xf : Fs := ⟨[], []⟩
theorem z1ia : z1xf.Ok Tryz.prog := fs0
def z16u : Tmpl := ⟨[(0, .c (.ref 1000000)), (1, .c .i), (5, .c .i)], [(1000000, .arr .I true)]⟩
def z109 : Tmpl := ⟨[(1, .c .i)], [(1000000, .arr .I true)]⟩
def z1lx (av : AV) (x : HP z05f.ps) (n : Nat) (v : z16u.den) (K : Ks (CR z05f)) : Option (CR z05f) := z09d (fun s0_0 l0_2 => z109.at none ((s0_0, ()), (l0_2, ())) (K (.exit 0))) n v.1.2.1 v.1.2.2.1 v.2.1
def z139 (av : AV) (x : HP z05f.ps) : Hdl (CR z05f) := hnd [] z16u (z1lx av x)
theorem z1oq : LP z05f Tryz.f44 [0] z139 := lp_ok (W := []) (H := []) (xs := [z109]) z1ia trivial rfl (fun av x v K => by kernel_rfl) (fun av x n v K => by kernel_rfl)
theorem z0mz : z05f.Ok Tryz.prog := fn_ok (k := z05f) (fn := Tryz.f44) (W := []) (H := [z139]) Tryz.func44 z1ia ⟨z1oq, trivial⟩ rfl rfl (fun av x => by kernel_rfl)
def z0zs (s0_0 : Int) : Option Int := some s0_0
def z09c (a : List Int) (kx0_0 : Int → Option Int) : Nat → Int → Int → Option Int
  | 0, _, _ => none
  | n0 + 1, s0_0, s0_1 => if decide (s0_1 < (a.length : Int)) = true then ((getI a s0_1).bind fun x2 => (if decide (x2 = s0_0) = true then (gd (ok64 (s0_0 + 1)) (gd (ok64 (s0_1 + 1)) ((z09c a kx0_0 n0) (s0_0 + 1) (s0_1 + 1)))) else (some (-1)))) else (kx0_0 s0_0)
def z09n (a : List Int) (k : Int) : Option Int := z09c a z0zs FUEL k 0
def z06m : Con := ⟨75, [.v (.sl .I) false, .v .I false], [(.I, true)], [], fun x => z09n x.1 x.2.1⟩
def z1xd : Fs := ⟨[], []⟩
theorem z1hz : z1xd.Ok Tryz.prog := fs0
def z16s : Tmpl := ⟨[(0, .c (.s .I)), (1, .c .i), (5, .c .i)], []⟩
def z108 : Tmpl := ⟨[(1, .c .i)], []⟩
def z1lv (av : AV) (x : HP z06m.ps) (n : Nat) (v : z16s.den) (K : Ks (CR z06m)) : Option (CR z06m) := z09c v.1.1 (fun s0_0 => z108.at none ((s0_0, ()), ()) (K (.exit 0))) n v.1.2.1 v.1.2.2.1
def z137 (av : AV) (x : HP z06m.ps) : Hdl (CR z06m) := hnd [] z16s (z1lv av x)
theorem z1oo : LP z06m Tryz.f75 [0] z137 := lp_ok (W := []) (H := []) (xs := [z108]) z1hz trivial rfl (fun av x v K => by kernel_rfl) (fun av x n v K => by kernel_rfl)
theorem z0w3 : z06m.Ok Tryz.prog := fn_ok (k := z06m) (fn := Tryz.f75) (W := []) (H := [z137]) Tryz.func75 z1hz ⟨z1oo, trivial⟩ rfl rfl (fun av x => by kernel_rfl)
def z10y (s0_0 : Int) (l0_2 : List GFlow) : Option (Int × (List GFlow)) := some (s0_0, l0_2)
def z06t (kx0_0 : Int → List GFlow → Option (Int × (List GFlow))) : Nat → Int → Int → List GFlow → Option (Int × (List GFlow))
  | 0, _, _, _ => none
  | n0 + 1, s0_0, s0_1, l0_2 => if decide (s0_1 < (l0_2.length : Int)) = true then ((getI l0_2 s0_1).bind fun x2 => (gd (ok64 (s0_0 + 1)) ((getI (l0_2.set s0_1.toNat (GFlow.mk s0_0 x2.if_)) s0_1).bind fun x4 => (gd (ok64 ((s0_0 + 1) + 1)) ((getI ((l0_2.set s0_1.toNat (GFlow.mk s0_0 x2.if_)).set s0_1.toNat (GFlow.mk x4.to (GAsk.mk (s0_0 + 1) x4.if_.var x4.if_.k))) s0_1).bind fun x6 => (gd (ok64 (((s0_0 + 1) + 1) + 1)) ((getI (((l0_2.set s0_1.toNat (GFlow.mk s0_0 x2.if_)).set s0_1.toNat (GFlow.mk x4.to (GAsk.mk (s0_0 + 1) x4.if_.var x4.if_.k))).set s0_1.toNat (GFlow.mk x6.to (GAsk.mk x6.if_.op ((s0_0 + 1) + 1) x6.if_.k))) s0_1).bind fun x8 => (gd (ok64 ((((s0_0 + 1) + 1) + 1) + 1)) (gd (ok64 (s0_1 + 1)) ((z06t kx0_0 n0) ((((s0_0 + 1) + 1) + 1) + 1) (s0_1 + 1) ((((l0_2.set s0_1.toNat (GFlow.mk s0_0 x2.if_)).set s0_1.toNat (GFlow.mk x4.to (GAsk.mk (s0_0 + 1) x4.if_.var x4.if_.k))).set s0_1.toNat (GFlow.mk x6.to (GAsk.mk x6.if_.op ((s0_0 + 1) + 1) x6.if_.k))).set s0_1.toNat (GFlow.mk x8.to (GAsk.mk x8.if_.op x8.if_.var (((s0_0 + 1) + 1) + 1)))))))))))))) else (kx0_0 s0_0 l0_2)
def z0cz (a : List GFlow) (k : Int) : Option (Int × (List GFlow)) := z06t z10y FUEL k 0 a
def z03a : Con := ⟨189, [.v (.sl (.s .flow)) true, .v .I false], [(.I, true)], [(0, .v (.sl (.s .flow)) true)], fun x => z0cz x.1 x.2.1⟩
def z1cg : Fs := ⟨[], []⟩
theorem z0un : z1cg.Ok Tryz.prog := fs0
def z0nm : Tmpl := ⟨[(0, .c (.ref 1000000)), (1, .c .i), (5, .c .i)], [(1000000, .arr (.s .flow) true)]⟩
def z0jm : Tmpl := ⟨[(1, .c .i)], [(1000000, .arr (.s .flow) true)]⟩
def z123 (av : AV) (x : HP z03a.ps) (n : Nat) (v : z0nm.den) (K : Ks (CR z03a)) : Option (CR z03a) := z06t (fun s0_0 l0_2 => z0jm.at none ((s0_0, ()), (l0_2, ())) (K (.exit 0))) n v.1.2.1 v.1.2.2.1 v.2.1
def z0l8 (av : AV) (x : HP z03a.ps) : Hdl (CR z03a) := hnd [] z0nm (z123 av x)
theorem z14z : LP z03a Tryz.f189 [0] z0l8 := lp_ok (W := []) (H := []) (xs := [z0jm]) z0un trivial rfl (fun av x v K => by kernel_rfl) (fun av x n v K => by kernel_rfl)
theorem z1ev : z03a.Ok Tryz.prog := fn_ok (k := z03a) (fn := Tryz.f189) (W := []) (H := [z0l8]) Tryz.func189 z0un ⟨z14z, trivial⟩ rfl rfl (fun av x => by kernel_rfl)
def z10u (s0_0 : Int) : Option Int := some s0_0
def z06o (a : List GFlow) (kx0_0 : Int → Option Int) : Nat → Int → Int → Option Int
  | 0, _, _ => none
  | n0 + 1, s0_0, s0_1 => if decide (s0_1 < (a.length : Int)) = true then ((getI a s0_1).bind fun x2 => (if decide (x2.to = s0_0) = true then (gd (ok64 (s0_0 + 1)) ((getI a s0_1).bind fun x5 => (if decide (x5.if_.op = (s0_0 + 1)) = true then (gd (ok64 ((s0_0 + 1) + 1)) ((getI a s0_1).bind fun x8 => (if decide (x8.if_.var = ((s0_0 + 1) + 1)) = true then (gd (ok64 (((s0_0 + 1) + 1) + 1)) ((getI a s0_1).bind fun x11 => (if decide (x11.if_.k = (((s0_0 + 1) + 1) + 1)) = true then (gd (ok64 ((((s0_0 + 1) + 1) + 1) + 1)) (gd (ok64 (s0_1 + 1)) ((z06o a kx0_0 n0) ((((s0_0 + 1) + 1) + 1) + 1) (s0_1 + 1)))) else (some (-1))))) else (some (-1))))) else (some (-1))))) else (some (-1)))) else (kx0_0 s0_0)
def z0cs (a : List GFlow) (k : Int) : Option Int := z06o a z10u FUEL k 0
def z034 : Con := ⟨203, [.v (.sl (.s .flow)) false, .v .I false], [(.I, true)], [], fun x => z0cs x.1 x.2.1⟩
def z1by : Fs := ⟨[], []⟩
theorem z0ue : z1by.Ok Tryz.prog := fs0
def z0nc : Tmpl := ⟨[(0, .c (.s (.s .flow))), (1, .c .i), (5, .c .i)], []⟩
def z0jc : Tmpl := ⟨[(1, .c .i)], []⟩
def z11t (av : AV) (x : HP z034.ps) (n : Nat) (v : z0nc.den) (K : Ks (CR z034)) : Option (CR z034) := z06o v.1.1 (fun s0_0 => z0jc.at none ((s0_0, ()), ()) (K (.exit 0))) n v.1.2.1 v.1.2.2.1
def z0ky (av : AV) (x : HP z034.ps) : Hdl (CR z034) := hnd [] z0nc (z11t av x)
theorem z14p : LP z034 Tryz.f203 [0] z0ky := lp_ok (W := []) (H := []) (xs := [z0jc]) z0ue trivial rfl (fun av x v K => by kernel_rfl) (fun av x n v K => by kernel_rfl)
theorem z1ef : z034.Ok Tryz.prog := fn_ok (k := z034) (fn := Tryz.f203) (W := []) (H := [z0ky]) Tryz.func203 z0ue ⟨z14p, trivial⟩ rfl rfl (fun av x => by kernel_rfl)
def z10z (s0_0 : Int) (l0_2 : List GTask) : Option (Int × (List GTask)) := some (s0_0, l0_2)
def z06u (kx0_0 : Int → List GTask → Option (Int × (List GTask))) : Nat → Int → Int → List GTask → Option (Int × (List GTask))
  | 0, _, _, _ => none
  | n0 + 1, s0_0, s0_1, l0_2 => if decide (s0_1 < (l0_2.length : Int)) = true then ((getI l0_2 s0_1).bind fun x2 => (gd (ok64 (s0_0 + 1)) ((getI (l0_2.set s0_1.toNat (GTask.mk s0_0 x2.split x2.in_ x2.out x2.clear x2.role x2.apart x2.all x2.need)) s0_1).bind fun x4 => (gd (ok64 ((s0_0 + 1) + 1)) ((getI ((l0_2.set s0_1.toNat (GTask.mk s0_0 x2.split x2.in_ x2.out x2.clear x2.role x2.apart x2.all x2.need)).set s0_1.toNat (GTask.mk x4.join (s0_0 + 1) x4.in_ x4.out x4.clear x4.role x4.apart x4.all x4.need)) s0_1).bind fun x6 => ((z08d x6.in_ ((s0_0 + 1) + 1)).bind fun x7 => ((getI (((l0_2.set s0_1.toNat (GTask.mk s0_0 x2.split x2.in_ x2.out x2.clear x2.role x2.apart x2.all x2.need)).set s0_1.toNat (GTask.mk x4.join (s0_0 + 1) x4.in_ x4.out x4.clear x4.role x4.apart x4.all x4.need)).set s0_1.toNat (GTask.mk x6.join x6.split x7.2 x6.out x6.clear x6.role x6.apart x6.all x6.need)) s0_1).bind fun x8 => ((z0cz x8.out x7.1).bind fun x9 => ((getI ((((l0_2.set s0_1.toNat (GTask.mk s0_0 x2.split x2.in_ x2.out x2.clear x2.role x2.apart x2.all x2.need)).set s0_1.toNat (GTask.mk x4.join (s0_0 + 1) x4.in_ x4.out x4.clear x4.role x4.apart x4.all x4.need)).set s0_1.toNat (GTask.mk x6.join x6.split x7.2 x6.out x6.clear x6.role x6.apart x6.all x6.need)).set s0_1.toNat (GTask.mk x8.join x8.split x8.in_ x9.2 x8.clear x8.role x8.apart x8.all x8.need)) s0_1).bind fun x10 => ((z08d x10.clear x9.1).bind fun x11 => ((getI (((((l0_2.set s0_1.toNat (GTask.mk s0_0 x2.split x2.in_ x2.out x2.clear x2.role x2.apart x2.all x2.need)).set s0_1.toNat (GTask.mk x4.join (s0_0 + 1) x4.in_ x4.out x4.clear x4.role x4.apart x4.all x4.need)).set s0_1.toNat (GTask.mk x6.join x6.split x7.2 x6.out x6.clear x6.role x6.apart x6.all x6.need)).set s0_1.toNat (GTask.mk x8.join x8.split x8.in_ x9.2 x8.clear x8.role x8.apart x8.all x8.need)).set s0_1.toNat (GTask.mk x10.join x10.split x10.in_ x10.out x11.2 x10.role x10.apart x10.all x10.need)) s0_1).bind fun x12 => (gd (ok64 (x11.1 + 1)) ((getI ((((((l0_2.set s0_1.toNat (GTask.mk s0_0 x2.split x2.in_ x2.out x2.clear x2.role x2.apart x2.all x2.need)).set s0_1.toNat (GTask.mk x4.join (s0_0 + 1) x4.in_ x4.out x4.clear x4.role x4.apart x4.all x4.need)).set s0_1.toNat (GTask.mk x6.join x6.split x7.2 x6.out x6.clear x6.role x6.apart x6.all x6.need)).set s0_1.toNat (GTask.mk x8.join x8.split x8.in_ x9.2 x8.clear x8.role x8.apart x8.all x8.need)).set s0_1.toNat (GTask.mk x10.join x10.split x10.in_ x10.out x11.2 x10.role x10.apart x10.all x10.need)).set s0_1.toNat (GTask.mk x12.join x12.split x12.in_ x12.out x12.clear x11.1 x12.apart x12.all x12.need)) s0_1).bind fun x14 => (gd (ok64 ((x11.1 + 1) + 1)) ((getI (((((((l0_2.set s0_1.toNat (GTask.mk s0_0 x2.split x2.in_ x2.out x2.clear x2.role x2.apart x2.all x2.need)).set s0_1.toNat (GTask.mk x4.join (s0_0 + 1) x4.in_ x4.out x4.clear x4.role x4.apart x4.all x4.need)).set s0_1.toNat (GTask.mk x6.join x6.split x7.2 x6.out x6.clear x6.role x6.apart x6.all x6.need)).set s0_1.toNat (GTask.mk x8.join x8.split x8.in_ x9.2 x8.clear x8.role x8.apart x8.all x8.need)).set s0_1.toNat (GTask.mk x10.join x10.split x10.in_ x10.out x11.2 x10.role x10.apart x10.all x10.need)).set s0_1.toNat (GTask.mk x12.join x12.split x12.in_ x12.out x12.clear x11.1 x12.apart x12.all x12.need)).set s0_1.toNat (GTask.mk x14.join x14.split x14.in_ x14.out x14.clear x14.role (x11.1 + 1) x14.all x14.need)) s0_1).bind fun x16 => (gd (ok64 (((x11.1 + 1) + 1) + 1)) ((getI ((((((((l0_2.set s0_1.toNat (GTask.mk s0_0 x2.split x2.in_ x2.out x2.clear x2.role x2.apart x2.all x2.need)).set s0_1.toNat (GTask.mk x4.join (s0_0 + 1) x4.in_ x4.out x4.clear x4.role x4.apart x4.all x4.need)).set s0_1.toNat (GTask.mk x6.join x6.split x7.2 x6.out x6.clear x6.role x6.apart x6.all x6.need)).set s0_1.toNat (GTask.mk x8.join x8.split x8.in_ x9.2 x8.clear x8.role x8.apart x8.all x8.need)).set s0_1.toNat (GTask.mk x10.join x10.split x10.in_ x10.out x11.2 x10.role x10.apart x10.all x10.need)).set s0_1.toNat (GTask.mk x12.join x12.split x12.in_ x12.out x12.clear x11.1 x12.apart x12.all x12.need)).set s0_1.toNat (GTask.mk x14.join x14.split x14.in_ x14.out x14.clear x14.role (x11.1 + 1) x14.all x14.need)).set s0_1.toNat (GTask.mk x16.join x16.split x16.in_ x16.out x16.clear x16.role x16.apart ((x11.1 + 1) + 1) x16.need)) s0_1).bind fun x18 => (gd (ok64 ((((x11.1 + 1) + 1) + 1) + 1)) (gd (ok64 (s0_1 + 1)) ((z06u kx0_0 n0) ((((x11.1 + 1) + 1) + 1) + 1) (s0_1 + 1) (((((((((l0_2.set s0_1.toNat (GTask.mk s0_0 x2.split x2.in_ x2.out x2.clear x2.role x2.apart x2.all x2.need)).set s0_1.toNat (GTask.mk x4.join (s0_0 + 1) x4.in_ x4.out x4.clear x4.role x4.apart x4.all x4.need)).set s0_1.toNat (GTask.mk x6.join x6.split x7.2 x6.out x6.clear x6.role x6.apart x6.all x6.need)).set s0_1.toNat (GTask.mk x8.join x8.split x8.in_ x9.2 x8.clear x8.role x8.apart x8.all x8.need)).set s0_1.toNat (GTask.mk x10.join x10.split x10.in_ x10.out x11.2 x10.role x10.apart x10.all x10.need)).set s0_1.toNat (GTask.mk x12.join x12.split x12.in_ x12.out x12.clear x11.1 x12.apart x12.all x12.need)).set s0_1.toNat (GTask.mk x14.join x14.split x14.in_ x14.out x14.clear x14.role (x11.1 + 1) x14.all x14.need)).set s0_1.toNat (GTask.mk x16.join x16.split x16.in_ x16.out x16.clear x16.role x16.apart ((x11.1 + 1) + 1) x16.need)).set s0_1.toNat (GTask.mk x18.join x18.split x18.in_ x18.out x18.clear x18.role x18.apart x18.all (((x11.1 + 1) + 1) + 1))))))))))))))))))))))) else (kx0_0 s0_0 l0_2)
def z0d0 (a : List GTask) (k : Int) : Option (Int × (List GTask)) := z06u z10z FUEL k 0 a
def z03b : Con := ⟨114, [.v (.sl (.s .task)) true, .v .I false], [(.I, true)], [(0, .v (.sl (.s .task)) true)], fun x => z0d0 x.1 x.2.1⟩
def z1ch : Fs := ⟨[z05f, z03a], []⟩
theorem z0uo : z1ch.Ok Tryz.prog := (fsK z0mz (fsK z1ev fs0))
def z0nn : Tmpl := ⟨[(0, .c (.ref 1000000)), (1, .c .i), (5, .c .i)], [(1000000, .arr (.s .task) true)]⟩
def z0jn : Tmpl := ⟨[(1, .c .i)], [(1000000, .arr (.s .task) true)]⟩
def z124 (av : AV) (x : HP z03b.ps) (n : Nat) (v : z0nn.den) (K : Ks (CR z03b)) : Option (CR z03b) := z06u (fun s0_0 l0_2 => z0jn.at none ((s0_0, ()), (l0_2, ())) (K (.exit 0))) n v.1.2.1 v.1.2.2.1 v.2.1
def z0l9 (av : AV) (x : HP z03b.ps) : Hdl (CR z03b) := hnd [] z0nn (z124 av x)
theorem z150 : LP z03b Tryz.f114 [0] z0l9 := lp_ok (W := []) (H := []) (xs := [z0jn]) z0uo trivial rfl (fun av x v K => by kernel_rfl) (fun av x n v K => by kernel_rfl)
theorem z1ew : z03b.Ok Tryz.prog := fn_ok (k := z03b) (fn := Tryz.f114) (W := []) (H := [z0l9]) Tryz.func114 z0uo ⟨z150, trivial⟩ rfl rfl (fun av x => by kernel_rfl)
def z10v (s0_0 : Int) : Option Int := some s0_0
def z06p (a : List GTask) (kx0_0 : Int → Option Int) : Nat → Int → Int → Option Int
  | 0, _, _ => none
  | n0 + 1, s0_0, s0_1 => if decide (s0_1 < (a.length : Int)) = true then ((getI a s0_1).bind fun x2 => (if decide (x2.join = s0_0) = true then (gd (ok64 (s0_0 + 1)) ((getI a s0_1).bind fun x5 => (if decide (x5.split = (s0_0 + 1)) = true then (gd (ok64 ((s0_0 + 1) + 1)) ((getI a s0_1).bind fun x8 => ((z09n x8.in_ ((s0_0 + 1) + 1)).bind fun x9 => (if decide (x9 < 0) = true then (some (-1)) else ((getI a s0_1).bind fun x11 => ((z0cs x11.out x9).bind fun x12 => (if decide (x12 < 0) = true then (some (-1)) else ((getI a s0_1).bind fun x14 => ((z09n x14.clear x12).bind fun x15 => (if decide (x15 < 0) = true then (some (-1)) else ((getI a s0_1).bind fun x17 => (if decide (x17.role = x15) = true then (gd (ok64 (x15 + 1)) ((getI a s0_1).bind fun x20 => (if decide (x20.apart = (x15 + 1)) = true then (gd (ok64 ((x15 + 1) + 1)) ((getI a s0_1).bind fun x23 => (if decide (x23.all = ((x15 + 1) + 1)) = true then (gd (ok64 (((x15 + 1) + 1) + 1)) ((getI a s0_1).bind fun x26 => (if decide (x26.need = (((x15 + 1) + 1) + 1)) = true then (gd (ok64 ((((x15 + 1) + 1) + 1) + 1)) (gd (ok64 (s0_1 + 1)) ((z06p a kx0_0 n0) ((((x15 + 1) + 1) + 1) + 1) (s0_1 + 1)))) else (some (-1))))) else (some (-1))))) else (some (-1))))) else (some (-1)))))))))))))) else (some (-1))))) else (some (-1)))) else (kx0_0 s0_0)
def z0ct (a : List GTask) (k : Int) : Option Int := z06p a z10v FUEL k 0
def z035 : Con := ⟨152, [.v (.sl (.s .task)) false, .v .I false], [(.I, true)], [], fun x => z0ct x.1 x.2.1⟩
def z1bz : Fs := ⟨[z06m, z034], []⟩
theorem z0uf : z1bz.Ok Tryz.prog := (fsK z0w3 (fsK z1ef fs0))
def z0nd : Tmpl := ⟨[(0, .c (.s (.s .task))), (1, .c .i), (5, .c .i)], []⟩
def z0jd : Tmpl := ⟨[(1, .c .i)], []⟩
def z11u (av : AV) (x : HP z035.ps) (n : Nat) (v : z0nd.den) (K : Ks (CR z035)) : Option (CR z035) := z06p v.1.1 (fun s0_0 => z0jd.at none ((s0_0, ()), ()) (K (.exit 0))) n v.1.2.1 v.1.2.2.1
def z0kz (av : AV) (x : HP z035.ps) : Hdl (CR z035) := hnd [] z0nd (z11u av x)
theorem z14q : LP z035 Tryz.f152 [0] z0kz := lp_ok (W := []) (H := []) (xs := [z0jd]) z0uf trivial rfl (fun av x v K => by kernel_rfl) (fun av x n v K => by kernel_rfl)
theorem z1eg : z035.Ok Tryz.prog := fn_ok (k := z035) (fn := Tryz.f152) (W := []) (H := [z0kz]) Tryz.func152 z0uf ⟨z14q, trivial⟩ rfl rfl (fun av x => by kernel_rfl)
def z15r (s0_0 : Int) (l0_2 : List GNet) : Option (Int × (List GNet)) := some (s0_0, l0_2)
def z07u (kx0_0 : Int → List GNet → Option (Int × (List GNet))) : Nat → Int → Int → List GNet → Option (Int × (List GNet))
  | 0, _, _, _ => none
  | n0 + 1, s0_0, s0_1, l0_2 => if decide (s0_1 < (l0_2.length : Int)) = true then ((getI l0_2 s0_1).bind fun x2 => (gd (ok64 (s0_0 + 1)) ((getI (l0_2.set s0_1.toNat (GNet.mk s0_0 x2.tasks)) s0_1).bind fun x4 => ((z0d0 x4.tasks (s0_0 + 1)).bind fun x5 => (gd (ok64 (s0_1 + 1)) ((z07u kx0_0 n0) x5.1 (s0_1 + 1) ((l0_2.set s0_1.toNat (GNet.mk s0_0 x2.tasks)).set s0_1.toNat (GNet.mk x4.places x5.2)))))))) else (kx0_0 s0_0 l0_2)
def z0ev (a : List GNet) (k : Int) : Option (Int × (List GNet)) := z07u z15r FUEL k 0 a
def z04v : Con := ⟨52, [.v (.sl (.s .net)) true, .v .I false], [(.I, true)], [(0, .v (.sl (.s .net)) true)], fun x => z0ev x.1 x.2.1⟩
def z1gy : Fs := ⟨[z03b], []⟩
theorem z0yr : z1gy.Ok Tryz.prog := (fsK z1ew fs0)
def z0r3 : Tmpl := ⟨[(0, .c (.ref 1000000)), (1, .c .i), (5, .c .i)], [(1000000, .arr (.s .net) true)]⟩
def z0ob : Tmpl := ⟨[(1, .c .i)], [(1000000, .arr (.s .net) true)]⟩
def z17g (av : AV) (x : HP z04v.ps) (n : Nat) (v : z0r3.den) (K : Ks (CR z04v)) : Option (CR z04v) := z07u (fun s0_0 l0_2 => z0ob.at none ((s0_0, ()), (l0_2, ())) (K (.exit 0))) n v.1.2.1 v.1.2.2.1 v.2.1
def z0pq (av : AV) (x : HP z04v.ps) : Hdl (CR z04v) := hnd [] z0r3 (z17g av x)
theorem z18w : LP z04v Tryz.f52 [0] z0pq := lp_ok (W := []) (H := []) (xs := [z0ob]) z0yr trivial rfl (fun av x v K => by kernel_rfl) (fun av x n v K => by kernel_rfl)
theorem z1ko : z04v.Ok Tryz.prog := fn_ok (k := z04v) (fn := Tryz.f52) (W := []) (H := [z0pq]) Tryz.func52 z0yr ⟨z18w, trivial⟩ rfl rfl (fun av x => by kernel_rfl)
def z15o (s0_0 : Int) : Option Int := some s0_0
def z07o (a : List GNet) (kx0_0 : Int → Option Int) : Nat → Int → Int → Option Int
  | 0, _, _ => none
  | n0 + 1, s0_0, s0_1 => if decide (s0_1 < (a.length : Int)) = true then ((getI a s0_1).bind fun x2 => (if decide (x2.places = s0_0) = true then (gd (ok64 (s0_0 + 1)) ((getI a s0_1).bind fun x5 => ((z0ct x5.tasks (s0_0 + 1)).bind fun x6 => (if decide (x6 < 0) = true then (some (-1)) else (gd (ok64 (s0_1 + 1)) ((z07o a kx0_0 n0) x6 (s0_1 + 1))))))) else (some (-1)))) else (kx0_0 s0_0)
def z0el (a : List GNet) (k : Int) : Option Int := z07o a z15o FUEL k 0
def z04r : Con := ⟨74, [.v (.sl (.s .net)) false, .v .I false], [(.I, true)], [], fun x => z0el x.1 x.2.1⟩
def z1gl : Fs := ⟨[z035], []⟩
theorem z0yn : z1gl.Ok Tryz.prog := (fsK z1eg fs0)
def z0qz : Tmpl := ⟨[(0, .c (.s (.s .net))), (1, .c .i), (5, .c .i)], []⟩
def z0o6 : Tmpl := ⟨[(1, .c .i)], []⟩
def z17c (av : AV) (x : HP z04r.ps) (n : Nat) (v : z0qz.den) (K : Ks (CR z04r)) : Option (CR z04r) := z07o v.1.1 (fun s0_0 => z0o6.at none ((s0_0, ()), ()) (K (.exit 0))) n v.1.2.1 v.1.2.2.1
def z0pm (av : AV) (x : HP z04r.ps) : Hdl (CR z04r) := hnd [] z0qz (z17c av x)
theorem z18s : LP z04r Tryz.f74 [0] z0pm := lp_ok (W := []) (H := []) (xs := [z0o6]) z0yn trivial rfl (fun av x v K => by kernel_rfl) (fun av x n v K => by kernel_rfl)
theorem z1kb : z04r.Ok Tryz.prog := fn_ok (k := z04r) (fn := Tryz.f74) (W := []) (H := [z0pm]) Tryz.func74 z0yn ⟨z18s, trivial⟩ rfl rfl (fun av x => by kernel_rfl)
def z110 (s0_0 : Int) (l0_2 : List GNode) : Option (Int × (List GNode)) := some (s0_0, l0_2)
def z06v (kx0_0 : Int → List GNode → Option (Int × (List GNode))) : Nat → Int → Int → List GNode → Option (Int × (List GNode))
  | 0, _, _, _ => none
  | n0 + 1, s0_0, s0_1, l0_2 => if decide (s0_1 < (l0_2.length : Int)) = true then ((getI l0_2 s0_1).bind fun x2 => (gd (ok64 (s0_0 + 1)) ((getI (l0_2.set s0_1.toNat (GNode.mk (GAsk.mk s0_0 x2.if_.var x2.if_.k) x2.yes x2.no x2.ans x2.stone)) s0_1).bind fun x4 => (gd (ok64 ((s0_0 + 1) + 1)) ((getI ((l0_2.set s0_1.toNat (GNode.mk (GAsk.mk s0_0 x2.if_.var x2.if_.k) x2.yes x2.no x2.ans x2.stone)).set s0_1.toNat (GNode.mk (GAsk.mk x4.if_.op (s0_0 + 1) x4.if_.k) x4.yes x4.no x4.ans x4.stone)) s0_1).bind fun x6 => (gd (ok64 (((s0_0 + 1) + 1) + 1)) ((getI (((l0_2.set s0_1.toNat (GNode.mk (GAsk.mk s0_0 x2.if_.var x2.if_.k) x2.yes x2.no x2.ans x2.stone)).set s0_1.toNat (GNode.mk (GAsk.mk x4.if_.op (s0_0 + 1) x4.if_.k) x4.yes x4.no x4.ans x4.stone)).set s0_1.toNat (GNode.mk (GAsk.mk x6.if_.op x6.if_.var ((s0_0 + 1) + 1)) x6.yes x6.no x6.ans x6.stone)) s0_1).bind fun x8 => (gd (ok64 ((((s0_0 + 1) + 1) + 1) + 1)) ((getI ((((l0_2.set s0_1.toNat (GNode.mk (GAsk.mk s0_0 x2.if_.var x2.if_.k) x2.yes x2.no x2.ans x2.stone)).set s0_1.toNat (GNode.mk (GAsk.mk x4.if_.op (s0_0 + 1) x4.if_.k) x4.yes x4.no x4.ans x4.stone)).set s0_1.toNat (GNode.mk (GAsk.mk x6.if_.op x6.if_.var ((s0_0 + 1) + 1)) x6.yes x6.no x6.ans x6.stone)).set s0_1.toNat (GNode.mk x8.if_ (((s0_0 + 1) + 1) + 1) x8.no x8.ans x8.stone)) s0_1).bind fun x10 => (gd (ok64 (((((s0_0 + 1) + 1) + 1) + 1) + 1)) ((getI (((((l0_2.set s0_1.toNat (GNode.mk (GAsk.mk s0_0 x2.if_.var x2.if_.k) x2.yes x2.no x2.ans x2.stone)).set s0_1.toNat (GNode.mk (GAsk.mk x4.if_.op (s0_0 + 1) x4.if_.k) x4.yes x4.no x4.ans x4.stone)).set s0_1.toNat (GNode.mk (GAsk.mk x6.if_.op x6.if_.var ((s0_0 + 1) + 1)) x6.yes x6.no x6.ans x6.stone)).set s0_1.toNat (GNode.mk x8.if_ (((s0_0 + 1) + 1) + 1) x8.no x8.ans x8.stone)).set s0_1.toNat (GNode.mk x10.if_ x10.yes ((((s0_0 + 1) + 1) + 1) + 1) x10.ans x10.stone)) s0_1).bind fun x12 => (gd (ok64 ((((((s0_0 + 1) + 1) + 1) + 1) + 1) + 1)) ((getI ((((((l0_2.set s0_1.toNat (GNode.mk (GAsk.mk s0_0 x2.if_.var x2.if_.k) x2.yes x2.no x2.ans x2.stone)).set s0_1.toNat (GNode.mk (GAsk.mk x4.if_.op (s0_0 + 1) x4.if_.k) x4.yes x4.no x4.ans x4.stone)).set s0_1.toNat (GNode.mk (GAsk.mk x6.if_.op x6.if_.var ((s0_0 + 1) + 1)) x6.yes x6.no x6.ans x6.stone)).set s0_1.toNat (GNode.mk x8.if_ (((s0_0 + 1) + 1) + 1) x8.no x8.ans x8.stone)).set s0_1.toNat (GNode.mk x10.if_ x10.yes ((((s0_0 + 1) + 1) + 1) + 1) x10.ans x10.stone)).set s0_1.toNat (GNode.mk x12.if_ x12.yes x12.no (((((s0_0 + 1) + 1) + 1) + 1) + 1) x12.stone)) s0_1).bind fun x14 => ((z08d x14.stone ((((((s0_0 + 1) + 1) + 1) + 1) + 1) + 1)).bind fun x15 => (gd (ok64 (s0_1 + 1)) ((z06v kx0_0 n0) x15.1 (s0_1 + 1) (((((((l0_2.set s0_1.toNat (GNode.mk (GAsk.mk s0_0 x2.if_.var x2.if_.k) x2.yes x2.no x2.ans x2.stone)).set s0_1.toNat (GNode.mk (GAsk.mk x4.if_.op (s0_0 + 1) x4.if_.k) x4.yes x4.no x4.ans x4.stone)).set s0_1.toNat (GNode.mk (GAsk.mk x6.if_.op x6.if_.var ((s0_0 + 1) + 1)) x6.yes x6.no x6.ans x6.stone)).set s0_1.toNat (GNode.mk x8.if_ (((s0_0 + 1) + 1) + 1) x8.no x8.ans x8.stone)).set s0_1.toNat (GNode.mk x10.if_ x10.yes ((((s0_0 + 1) + 1) + 1) + 1) x10.ans x10.stone)).set s0_1.toNat (GNode.mk x12.if_ x12.yes x12.no (((((s0_0 + 1) + 1) + 1) + 1) + 1) x12.stone)).set s0_1.toNat (GNode.mk x14.if_ x14.yes x14.no x14.ans x15.2)))))))))))))))))) else (kx0_0 s0_0 l0_2)
def z0d1 (a : List GNode) (k : Int) : Option (Int × (List GNode)) := z06v z110 FUEL k 0 a
def z03c : Con := ⟨72, [.v (.sl (.s .node)) true, .v .I false], [(.I, true)], [(0, .v (.sl (.s .node)) true)], fun x => z0d1 x.1 x.2.1⟩
def z1ci : Fs := ⟨[z05f], []⟩
theorem z0up : z1ci.Ok Tryz.prog := (fsK z0mz fs0)
def z0no : Tmpl := ⟨[(0, .c (.ref 1000000)), (1, .c .i), (5, .c .i)], [(1000000, .arr (.s .node) true)]⟩
def z0jo : Tmpl := ⟨[(1, .c .i)], [(1000000, .arr (.s .node) true)]⟩
def z125 (av : AV) (x : HP z03c.ps) (n : Nat) (v : z0no.den) (K : Ks (CR z03c)) : Option (CR z03c) := z06v (fun s0_0 l0_2 => z0jo.at none ((s0_0, ()), (l0_2, ())) (K (.exit 0))) n v.1.2.1 v.1.2.2.1 v.2.1
def z0la (av : AV) (x : HP z03c.ps) : Hdl (CR z03c) := hnd [] z0no (z125 av x)
theorem z151 : LP z03c Tryz.f72 [0] z0la := lp_ok (W := []) (H := []) (xs := [z0jo]) z0up trivial rfl (fun av x v K => by kernel_rfl) (fun av x n v K => by kernel_rfl)
theorem z1ex : z03c.Ok Tryz.prog := fn_ok (k := z03c) (fn := Tryz.f72) (W := []) (H := [z0la]) Tryz.func72 z0up ⟨z151, trivial⟩ rfl rfl (fun av x => by kernel_rfl)
def z10w (s0_0 : Int) : Option Int := some s0_0
def z06q (a : List GNode) (kx0_0 : Int → Option Int) : Nat → Int → Int → Option Int
  | 0, _, _ => none
  | n0 + 1, s0_0, s0_1 => if decide (s0_1 < (a.length : Int)) = true then ((getI a s0_1).bind fun x2 => (if decide (x2.if_.op = s0_0) = true then (gd (ok64 (s0_0 + 1)) ((getI a s0_1).bind fun x5 => (if decide (x5.if_.var = (s0_0 + 1)) = true then (gd (ok64 ((s0_0 + 1) + 1)) ((getI a s0_1).bind fun x8 => (if decide (x8.if_.k = ((s0_0 + 1) + 1)) = true then (gd (ok64 (((s0_0 + 1) + 1) + 1)) ((getI a s0_1).bind fun x11 => (if decide (x11.yes = (((s0_0 + 1) + 1) + 1)) = true then (gd (ok64 ((((s0_0 + 1) + 1) + 1) + 1)) ((getI a s0_1).bind fun x14 => (if decide (x14.no = ((((s0_0 + 1) + 1) + 1) + 1)) = true then (gd (ok64 (((((s0_0 + 1) + 1) + 1) + 1) + 1)) ((getI a s0_1).bind fun x17 => (if decide (x17.ans = (((((s0_0 + 1) + 1) + 1) + 1) + 1)) = true then (gd (ok64 ((((((s0_0 + 1) + 1) + 1) + 1) + 1) + 1)) ((getI a s0_1).bind fun x20 => ((z09n x20.stone ((((((s0_0 + 1) + 1) + 1) + 1) + 1) + 1)).bind fun x21 => (if decide (x21 < 0) = true then (some (-1)) else (gd (ok64 (s0_1 + 1)) ((z06q a kx0_0 n0) x21 (s0_1 + 1))))))) else (some (-1))))) else (some (-1))))) else (some (-1))))) else (some (-1))))) else (some (-1))))) else (some (-1)))) else (kx0_0 s0_0)
def z0cu (a : List GNode) (k : Int) : Option Int := z06q a z10w FUEL k 0
def z036 : Con := ⟨76, [.v (.sl (.s .node)) false, .v .I false], [(.I, true)], [], fun x => z0cu x.1 x.2.1⟩
def z1c0 : Fs := ⟨[z06m], []⟩
theorem z0ug : z1c0.Ok Tryz.prog := (fsK z0w3 fs0)
def z0ne : Tmpl := ⟨[(0, .c (.s (.s .node))), (1, .c .i), (5, .c .i)], []⟩
def z0je : Tmpl := ⟨[(1, .c .i)], []⟩
def z11v (av : AV) (x : HP z036.ps) (n : Nat) (v : z0ne.den) (K : Ks (CR z036)) : Option (CR z036) := z06q v.1.1 (fun s0_0 => z0je.at none ((s0_0, ()), ()) (K (.exit 0))) n v.1.2.1 v.1.2.2.1
def z0l0 (av : AV) (x : HP z036.ps) : Hdl (CR z036) := hnd [] z0ne (z11v av x)
theorem z14r : LP z036 Tryz.f76 [0] z0l0 := lp_ok (W := []) (H := []) (xs := [z0je]) z0ug trivial rfl (fun av x v K => by kernel_rfl) (fun av x n v K => by kernel_rfl)
theorem z1eh : z036.Ok Tryz.prog := fn_ok (k := z036) (fn := Tryz.f76) (W := []) (H := [z0l0]) Tryz.func76 z0ug ⟨z14r, trivial⟩ rfl rfl (fun av x => by kernel_rfl)
def z10x (s0_0 : Int) (l0_2 : List GItem) : Option (Int × (List GItem)) := some (s0_0, l0_2)
def z06s (kx0_0 : Int → List GItem → Option (Int × (List GItem))) : Nat → Int → Int → List GItem → Option (Int × (List GItem))
  | 0, _, _, _ => none
  | n0 + 1, s0_0, s0_1, l0_2 => if decide (s0_1 < (l0_2.length : Int)) = true then ((getI l0_2 s0_1).bind fun x2 => (gd (ok64 (s0_0 + 1)) ((getI (l0_2.set s0_1.toNat (GItem.mk s0_0 x2.who x2.did)) s0_1).bind fun x4 => (gd (ok64 ((s0_0 + 1) + 1)) ((getI ((l0_2.set s0_1.toNat (GItem.mk s0_0 x2.who x2.did)).set s0_1.toNat (GItem.mk x4.task (s0_0 + 1) x4.did)) s0_1).bind fun x6 => (gd (ok64 (((s0_0 + 1) + 1) + 1)) (gd (ok64 (s0_1 + 1)) ((z06s kx0_0 n0) (((s0_0 + 1) + 1) + 1) (s0_1 + 1) (((l0_2.set s0_1.toNat (GItem.mk s0_0 x2.who x2.did)).set s0_1.toNat (GItem.mk x4.task (s0_0 + 1) x4.did)).set s0_1.toNat (GItem.mk x6.task x6.who ((s0_0 + 1) + 1))))))))))) else (kx0_0 s0_0 l0_2)
def z0cy (a : List GItem) (k : Int) : Option (Int × (List GItem)) := z06s z10x FUEL k 0 a
def z039 : Con := ⟨115, [.v (.sl (.s .item)) true, .v .I false], [(.I, true)], [(0, .v (.sl (.s .item)) true)], fun x => z0cy x.1 x.2.1⟩
def z1ce : Fs := ⟨[], []⟩
theorem z0um : z1ce.Ok Tryz.prog := fs0
def z0nl : Tmpl := ⟨[(0, .c (.ref 1000000)), (1, .c .i), (5, .c .i)], [(1000000, .arr (.s .item) true)]⟩
def z0jl : Tmpl := ⟨[(1, .c .i)], [(1000000, .arr (.s .item) true)]⟩
def z122 (av : AV) (x : HP z039.ps) (n : Nat) (v : z0nl.den) (K : Ks (CR z039)) : Option (CR z039) := z06s (fun s0_0 l0_2 => z0jl.at none ((s0_0, ()), (l0_2, ())) (K (.exit 0))) n v.1.2.1 v.1.2.2.1 v.2.1
def z0l7 (av : AV) (x : HP z039.ps) : Hdl (CR z039) := hnd [] z0nl (z122 av x)
theorem z14y : LP z039 Tryz.f115 [0] z0l7 := lp_ok (W := []) (H := []) (xs := [z0jl]) z0um trivial rfl (fun av x v K => by kernel_rfl) (fun av x n v K => by kernel_rfl)
theorem z1et : z039.Ok Tryz.prog := fn_ok (k := z039) (fn := Tryz.f115) (W := []) (H := [z0l7]) Tryz.func115 z0um ⟨z14y, trivial⟩ rfl rfl (fun av x => by kernel_rfl)
def z10t (s0_0 : Int) : Option Int := some s0_0
def z06n (a : List GItem) (kx0_0 : Int → Option Int) : Nat → Int → Int → Option Int
  | 0, _, _ => none
  | n0 + 1, s0_0, s0_1 => if decide (s0_1 < (a.length : Int)) = true then ((getI a s0_1).bind fun x2 => (if decide (x2.task = s0_0) = true then (gd (ok64 (s0_0 + 1)) ((getI a s0_1).bind fun x5 => (if decide (x5.who = (s0_0 + 1)) = true then (gd (ok64 ((s0_0 + 1) + 1)) ((getI a s0_1).bind fun x8 => (if decide (x8.did = ((s0_0 + 1) + 1)) = true then (gd (ok64 (((s0_0 + 1) + 1) + 1)) (gd (ok64 (s0_1 + 1)) ((z06n a kx0_0 n0) (((s0_0 + 1) + 1) + 1) (s0_1 + 1)))) else (some (-1))))) else (some (-1))))) else (some (-1)))) else (kx0_0 s0_0)
def z0cr (a : List GItem) (k : Int) : Option Int := z06n a z10t FUEL k 0
def z033 : Con := ⟨117, [.v (.sl (.s .item)) false, .v .I false], [(.I, true)], [], fun x => z0cr x.1 x.2.1⟩
def z1bw : Fs := ⟨[], []⟩
theorem z0ud : z1bw.Ok Tryz.prog := fs0
def z0nb : Tmpl := ⟨[(0, .c (.s (.s .item))), (1, .c .i), (5, .c .i)], []⟩
def z0jb : Tmpl := ⟨[(1, .c .i)], []⟩
def z11s (av : AV) (x : HP z033.ps) (n : Nat) (v : z0nb.den) (K : Ks (CR z033)) : Option (CR z033) := z06n v.1.1 (fun s0_0 => z0jb.at none ((s0_0, ()), ()) (K (.exit 0))) n v.1.2.1 v.1.2.2.1
def z0kx (av : AV) (x : HP z033.ps) : Hdl (CR z033) := hnd [] z0nb (z11s av x)
theorem z14o : LP z033 Tryz.f117 [0] z0kx := lp_ok (W := []) (H := []) (xs := [z0jb]) z0ud trivial rfl (fun av x v K => by kernel_rfl) (fun av x n v K => by kernel_rfl)
theorem z1ed : z033.Ok Tryz.prog := fn_ok (k := z033) (fn := Tryz.f117) (W := []) (H := [z0kx]) Tryz.func117 z0ud ⟨z14o, trivial⟩ rfl rfl (fun av x => by kernel_rfl)
def z15p (s0_0 : Int) (l0_2 : List GDid) : Option (Int × (List GDid)) := some (s0_0, l0_2)
def z07s (kx0_0 : Int → List GDid → Option (Int × (List GDid))) : Nat → Int → Int → List GDid → Option (Int × (List GDid))
  | 0, _, _, _ => none
  | n0 + 1, s0_0, s0_1, l0_2 => if decide (s0_1 < (l0_2.length : Int)) = true then ((getI l0_2 s0_1).bind fun x2 => (gd (ok64 (s0_0 + 1)) ((getI (l0_2.set s0_1.toNat (GDid.mk s0_0 x2.who)) s0_1).bind fun x4 => (gd (ok64 ((s0_0 + 1) + 1)) (gd (ok64 (s0_1 + 1)) ((z07s kx0_0 n0) ((s0_0 + 1) + 1) (s0_1 + 1) ((l0_2.set s0_1.toNat (GDid.mk s0_0 x2.who)).set s0_1.toNat (GDid.mk x4.task (s0_0 + 1))))))))) else (kx0_0 s0_0 l0_2)
def z0et (a : List GDid) (k : Int) : Option (Int × (List GDid)) := z07s z15p FUEL k 0 a
def z04t : Con := ⟨116, [.v (.sl (.s .did)) true, .v .I false], [(.I, true)], [(0, .v (.sl (.s .did)) true)], fun x => z0et x.1 x.2.1⟩
def z1gw : Fs := ⟨[], []⟩
theorem z0yp : z1gw.Ok Tryz.prog := fs0
def z0r1 : Tmpl := ⟨[(0, .c (.ref 1000000)), (1, .c .i), (5, .c .i)], [(1000000, .arr (.s .did) true)]⟩
def z0o9 : Tmpl := ⟨[(1, .c .i)], [(1000000, .arr (.s .did) true)]⟩
def z17e (av : AV) (x : HP z04t.ps) (n : Nat) (v : z0r1.den) (K : Ks (CR z04t)) : Option (CR z04t) := z07s (fun s0_0 l0_2 => z0o9.at none ((s0_0, ()), (l0_2, ())) (K (.exit 0))) n v.1.2.1 v.1.2.2.1 v.2.1
def z0po (av : AV) (x : HP z04t.ps) : Hdl (CR z04t) := hnd [] z0r1 (z17e av x)
theorem z18u : LP z04t Tryz.f116 [0] z0po := lp_ok (W := []) (H := []) (xs := [z0o9]) z0yp trivial rfl (fun av x v K => by kernel_rfl) (fun av x n v K => by kernel_rfl)
theorem z1km : z04t.Ok Tryz.prog := fn_ok (k := z04t) (fn := Tryz.f116) (W := []) (H := [z0po]) Tryz.func116 z0yp ⟨z18u, trivial⟩ rfl rfl (fun av x => by kernel_rfl)
def z15m (s0_0 : Int) : Option Int := some s0_0
def z07m (a : List GDid) (kx0_0 : Int → Option Int) : Nat → Int → Int → Option Int
  | 0, _, _ => none
  | n0 + 1, s0_0, s0_1 => if decide (s0_1 < (a.length : Int)) = true then ((getI a s0_1).bind fun x2 => (if decide (x2.task = s0_0) = true then (gd (ok64 (s0_0 + 1)) ((getI a s0_1).bind fun x5 => (if decide (x5.who = (s0_0 + 1)) = true then (gd (ok64 ((s0_0 + 1) + 1)) (gd (ok64 (s0_1 + 1)) ((z07m a kx0_0 n0) ((s0_0 + 1) + 1) (s0_1 + 1)))) else (some (-1))))) else (some (-1)))) else (kx0_0 s0_0)
def z0ej (a : List GDid) (k : Int) : Option Int := z07m a z15m FUEL k 0
def z04p : Con := ⟨118, [.v (.sl (.s .did)) false, .v .I false], [(.I, true)], [], fun x => z0ej x.1 x.2.1⟩
def z1gj : Fs := ⟨[], []⟩
theorem z0yl : z1gj.Ok Tryz.prog := fs0
def z0qx : Tmpl := ⟨[(0, .c (.s (.s .did))), (1, .c .i), (5, .c .i)], []⟩
def z0o4 : Tmpl := ⟨[(1, .c .i)], []⟩
def z17a (av : AV) (x : HP z04p.ps) (n : Nat) (v : z0qx.den) (K : Ks (CR z04p)) : Option (CR z04p) := z07m v.1.1 (fun s0_0 => z0o4.at none ((s0_0, ()), ()) (K (.exit 0))) n v.1.2.1 v.1.2.2.1
def z0pk (av : AV) (x : HP z04p.ps) : Hdl (CR z04p) := hnd [] z0qx (z17a av x)
theorem z18q : LP z04p Tryz.f118 [0] z0pk := lp_ok (W := []) (H := []) (xs := [z0o4]) z0yl trivial rfl (fun av x v K => by kernel_rfl) (fun av x n v K => by kernel_rfl)
theorem z1k9 : z04p.Ok Tryz.prog := fn_ok (k := z04p) (fn := Tryz.f118) (W := []) (H := [z0pk]) Tryz.func118 z0yl ⟨z18q, trivial⟩ rfl rfl (fun av x => by kernel_rfl)
def z15q (s0_0 : Int) (l0_2 : List GRun) : Option (Int × (List GRun)) := some (s0_0, l0_2)
def z07t (kx0_0 : Int → List GRun → Option (Int × (List GRun))) : Nat → Int → Int → List GRun → Option (Int × (List GRun))
  | 0, _, _, _ => none
  | n0 + 1, s0_0, s0_1, l0_2 => if decide (s0_1 < (l0_2.length : Int)) = true then ((getI l0_2 s0_1).bind fun x2 => (gd (ok64 (s0_0 + 1)) ((getI (l0_2.set s0_1.toNat (GRun.mk s0_0 x2.case)) s0_1).bind fun x4 => (gd (ok64 ((s0_0 + 1) + 1)) ((getI ((l0_2.set s0_1.toNat (GRun.mk s0_0 x2.case)).set s0_1.toNat (GRun.mk x4.net (GCase.mk (s0_0 + 1) x4.case.marks x4.case.busy x4.case.data x4.case.did))) s0_1).bind fun x6 => ((z08d x6.case.marks ((s0_0 + 1) + 1)).bind fun x7 => ((getI (((l0_2.set s0_1.toNat (GRun.mk s0_0 x2.case)).set s0_1.toNat (GRun.mk x4.net (GCase.mk (s0_0 + 1) x4.case.marks x4.case.busy x4.case.data x4.case.did))).set s0_1.toNat (GRun.mk x6.net (GCase.mk x6.case.state x7.2 x6.case.busy x6.case.data x6.case.did))) s0_1).bind fun x8 => ((z0cy x8.case.busy x7.1).bind fun x9 => ((getI ((((l0_2.set s0_1.toNat (GRun.mk s0_0 x2.case)).set s0_1.toNat (GRun.mk x4.net (GCase.mk (s0_0 + 1) x4.case.marks x4.case.busy x4.case.data x4.case.did))).set s0_1.toNat (GRun.mk x6.net (GCase.mk x6.case.state x7.2 x6.case.busy x6.case.data x6.case.did))).set s0_1.toNat (GRun.mk x8.net (GCase.mk x8.case.state x8.case.marks x9.2 x8.case.data x8.case.did))) s0_1).bind fun x10 => ((z08d x10.case.data x9.1).bind fun x11 => ((getI (((((l0_2.set s0_1.toNat (GRun.mk s0_0 x2.case)).set s0_1.toNat (GRun.mk x4.net (GCase.mk (s0_0 + 1) x4.case.marks x4.case.busy x4.case.data x4.case.did))).set s0_1.toNat (GRun.mk x6.net (GCase.mk x6.case.state x7.2 x6.case.busy x6.case.data x6.case.did))).set s0_1.toNat (GRun.mk x8.net (GCase.mk x8.case.state x8.case.marks x9.2 x8.case.data x8.case.did))).set s0_1.toNat (GRun.mk x10.net (GCase.mk x10.case.state x10.case.marks x10.case.busy x11.2 x10.case.did))) s0_1).bind fun x12 => ((z0et x12.case.did x11.1).bind fun x13 => (gd (ok64 (s0_1 + 1)) ((z07t kx0_0 n0) x13.1 (s0_1 + 1) ((((((l0_2.set s0_1.toNat (GRun.mk s0_0 x2.case)).set s0_1.toNat (GRun.mk x4.net (GCase.mk (s0_0 + 1) x4.case.marks x4.case.busy x4.case.data x4.case.did))).set s0_1.toNat (GRun.mk x6.net (GCase.mk x6.case.state x7.2 x6.case.busy x6.case.data x6.case.did))).set s0_1.toNat (GRun.mk x8.net (GCase.mk x8.case.state x8.case.marks x9.2 x8.case.data x8.case.did))).set s0_1.toNat (GRun.mk x10.net (GCase.mk x10.case.state x10.case.marks x10.case.busy x11.2 x10.case.did))).set s0_1.toNat (GRun.mk x12.net (GCase.mk x12.case.state x12.case.marks x12.case.busy x12.case.data x13.2))))))))))))))))) else (kx0_0 s0_0 l0_2)
def z0eu (a : List GRun) (k : Int) : Option (Int × (List GRun)) := z07t z15q FUEL k 0 a
def z04u : Con := ⟨73, [.v (.sl (.s .run)) true, .v .I false], [(.I, true)], [(0, .v (.sl (.s .run)) true)], fun x => z0eu x.1 x.2.1⟩
def z1gx : Fs := ⟨[z05f, z039, z04t], []⟩
theorem z0yq : z1gx.Ok Tryz.prog := (fsK z0mz (fsK z1et (fsK z1km fs0)))
def z0r2 : Tmpl := ⟨[(0, .c (.ref 1000000)), (1, .c .i), (5, .c .i)], [(1000000, .arr (.s .run) true)]⟩
def z0oa : Tmpl := ⟨[(1, .c .i)], [(1000000, .arr (.s .run) true)]⟩
def z17f (av : AV) (x : HP z04u.ps) (n : Nat) (v : z0r2.den) (K : Ks (CR z04u)) : Option (CR z04u) := z07t (fun s0_0 l0_2 => z0oa.at none ((s0_0, ()), (l0_2, ())) (K (.exit 0))) n v.1.2.1 v.1.2.2.1 v.2.1
def z0pp (av : AV) (x : HP z04u.ps) : Hdl (CR z04u) := hnd [] z0r2 (z17f av x)
theorem z18v : LP z04u Tryz.f73 [0] z0pp := lp_ok (W := []) (H := []) (xs := [z0oa]) z0yq trivial rfl (fun av x v K => by kernel_rfl) (fun av x n v K => by kernel_rfl)
theorem z1kn : z04u.Ok Tryz.prog := fn_ok (k := z04u) (fn := Tryz.f73) (W := []) (H := [z0pp]) Tryz.func73 z0yq ⟨z18v, trivial⟩ rfl rfl (fun av x => by kernel_rfl)
def z15n (s0_0 : Int) : Option Int := some s0_0
def z07n (a : List GRun) (kx0_0 : Int → Option Int) : Nat → Int → Int → Option Int
  | 0, _, _ => none
  | n0 + 1, s0_0, s0_1 => if decide (s0_1 < (a.length : Int)) = true then ((getI a s0_1).bind fun x2 => (if decide (x2.net = s0_0) = true then (gd (ok64 (s0_0 + 1)) ((getI a s0_1).bind fun x5 => (if decide (x5.case.state = (s0_0 + 1)) = true then (gd (ok64 ((s0_0 + 1) + 1)) ((getI a s0_1).bind fun x8 => ((z09n x8.case.marks ((s0_0 + 1) + 1)).bind fun x9 => (if decide (x9 < 0) = true then (some (-1)) else ((getI a s0_1).bind fun x11 => ((z0cr x11.case.busy x9).bind fun x12 => (if decide (x12 < 0) = true then (some (-1)) else ((getI a s0_1).bind fun x14 => ((z09n x14.case.data x12).bind fun x15 => (if decide (x15 < 0) = true then (some (-1)) else ((getI a s0_1).bind fun x17 => ((z0ej x17.case.did x15).bind fun x18 => (if decide (x18 < 0) = true then (some (-1)) else (gd (ok64 (s0_1 + 1)) ((z07n a kx0_0 n0) x18 (s0_1 + 1)))))))))))))))) else (some (-1))))) else (some (-1)))) else (kx0_0 s0_0)
def z0ek (a : List GRun) (k : Int) : Option Int := z07n a z15n FUEL k 0
def z04q : Con := ⟨77, [.v (.sl (.s .run)) false, .v .I false], [(.I, true)], [], fun x => z0ek x.1 x.2.1⟩
def z1gk : Fs := ⟨[z06m, z033, z04p], []⟩
theorem z0ym : z1gk.Ok Tryz.prog := (fsK z0w3 (fsK z1ed (fsK z1k9 fs0)))
def z0qy : Tmpl := ⟨[(0, .c (.s (.s .run))), (1, .c .i), (5, .c .i)], []⟩
def z0o5 : Tmpl := ⟨[(1, .c .i)], []⟩
def z17b (av : AV) (x : HP z04q.ps) (n : Nat) (v : z0qy.den) (K : Ks (CR z04q)) : Option (CR z04q) := z07n v.1.1 (fun s0_0 => z0o5.at none ((s0_0, ()), ()) (K (.exit 0))) n v.1.2.1 v.1.2.2.1
def z0pl (av : AV) (x : HP z04q.ps) : Hdl (CR z04q) := hnd [] z0qy (z17b av x)
theorem z18r : LP z04q Tryz.f77 [0] z0pl := lp_ok (W := []) (H := []) (xs := [z0o5]) z0ym trivial rfl (fun av x v K => by kernel_rfl) (fun av x n v K => by kernel_rfl)
theorem z1ka : z04q.Ok Tryz.prog := fn_ok (k := z04q) (fn := Tryz.f77) (W := []) (H := [z0pl]) Tryz.func77 z0ym ⟨z18r, trivial⟩ rfl rfl (fun av x => by kernel_rfl)
def z09r (a : GHouse) (k : Int) : Option (Int × GHouse) := (z0ev a.nets k).bind fun x1 => ((z08d a.people x1.1).bind fun x2 => ((z0d1 a.tree x2.1).bind fun x3 => ((z0eu a.runs x3.1).bind fun x4 => (some (x4.1, (GHouse.mk x1.2 x2.2 x3.2 x4.2))))))
def z0h4 : Con := ⟨19, [.v (.s .house) true, .v .I false], [(.I, true)], [(0, .v (.s .house) true)], fun x => z09r x.1 x.2.1⟩
def z1cf : Fs := ⟨[z04v, z05f, z03c, z04u], []⟩
theorem z1d7 : z1cf.Ok Tryz.prog := (fsK z1ko (fsK z0mz (fsK z1ex (fsK z1kn fs0))))
theorem z1eu : z0h4.Ok Tryz.prog := fn_ok (k := z0h4) (fn := Tryz.f19) (W := []) (H := []) Tryz.func19 z1d7 trivial rfl rfl (fun av x => by kernel_rfl)
def z09m (a : GHouse) (k : Int) : Option Int := (z0el a.nets k).bind fun x1 => (if decide (x1 < 0) = true then (some (-1)) else ((z09n a.people x1).bind fun x3 => (if decide (x3 < 0) = true then (some (-1)) else ((z0cu a.tree x3).bind fun x5 => (if decide (x5 < 0) = true then (some (-1)) else ((z0ek a.runs x5).bind fun x7 => (if decide (x7 < 0) = true then (some (-1)) else (some x7))))))))
def z0h0 : Con := ⟨21, [.v (.s .house) false, .v .I false], [(.I, true)], [], fun x => z09m x.1 x.2.1⟩
def z1bx : Fs := ⟨[z04r, z06m, z036, z04q], []⟩
theorem z1cx : z1bx.Ok Tryz.prog := (fsK z1kb (fsK z0w3 (fsK z1eh (fsK z1ka fs0))))
theorem z1ee : z0h0.Ok Tryz.prog := fn_ok (k := z0h0) (fn := Tryz.f21) (W := []) (H := []) Tryz.func21 z1cx trivial rfl rfl (fun av x => by kernel_rfl)
def z0hk (a : GReq) (k : Int) : Option (Int × GReq) := (z08d a.data k).bind fun x1 => (some (x1.1, (GReq.mk a.kind a.who a.case a.task a.var a.num x1.2 a.if_ a.ans)))
def z0sf : Con := ⟨20, [.v (.s .req) true, .v .I false], [(.I, true)], [(0, .v (.s .req) true)], fun x => z0hk x.1 x.2.1⟩
def z1n8 : Fs := ⟨[z05f], []⟩
theorem z1o5 : z1n8.Ok Tryz.prog := (fsK z0mz fs0)
theorem z1pi : z0sf.Ok Tryz.prog := fn_ok (k := z0sf) (fn := Tryz.f20) (W := []) (H := []) Tryz.func20 z1o5 trivial rfl rfl (fun av x => by kernel_rfl)
def z09q (aH : GHouse) (aR : GReq) : Option Bool := (z0sz aH 1048576).bind fun x1 => (if decide (x1 < 0) = true then (some true) else ((z15s aR x1).bind fun x3 => (if decide (x3 < 0) = true then (some true) else ((z0b6 aH).bind fun x5 => ((z0gf aR).bind fun x6 => ((z0hl x5 x6).bind fun x7 => ((z0b6 aH).bind fun x8 => ((z0gf aR).bind fun x9 => ((z0dn x8 x9).bind fun x10 => ((z0ax x10.1 x7.1).bind fun x11 => (if x11 = true then (if decide (x10.2 = x7.2) = true then ((z0b6 aH).bind fun x14 => ((z0ax x8 x14).bind fun x15 => (if x15 = true then ((z0gf aR).bind fun x17 => ((z15j x9 x17).bind fun x18 => (if x18 = true then ((z09r x8 1).bind fun x20 => ((z0hk x9 x20.1).bind fun x21 => (if decide (x21.1 < 0) = true then (some false) else ((z0ax x10.1 x7.1).bind fun x23 => (if x23 = true then (if decide (x10.2 = x7.2) = true then ((z09r x10.1 1).bind fun x26 => ((z09m x26.2 1).bind fun x27 => (if decide (x27 < 0) = true then (some false) else (if decide (x27 = x26.1) = true then ((z0b6 aH).bind fun x30 => ((z0gf aR).bind fun x31 => ((z0dn x30 x31).bind fun x32 => ((z0ax x32.1 x7.1).bind fun x33 => (if x33 = true then (if decide (x32.2 = x7.2) = true then ((z09m x26.2 1).bind fun x36 => (if decide (x36 < 0) = true then (some false) else (if decide (x36 = x26.1) = true then (some true) else (some false)))) else (some false)) else (some false)))))) else (some false))))) else (some false)) else (some false)))))) else (some false)))) else (some false)))) else (some false)) else (some false))))))))))))
def z0eg : Con := ⟨3, [.v (.s .house) false, .v (.s .req) false], [(.B, true)], [], fun x => z09q x.1 x.2.1⟩
def z0u1 : Fs := ⟨[z144, z1j4, z149, z1j8, z0sg, z0se, z13z, z1j1, z0h4, z0sf, z0h0], []⟩
theorem z0ul : z0u1.Ok Tryz.prog := (fsK z1po (fsK z1y6 (fsK z1pt (fsK z1ya (fsK z1pj (fsK z1pe (fsK z1pa (fsK z1y3 (fsK z1eu (fsK z1pi (fsK z1ee fs0)))))))))))
theorem z0w7 : z0eg.Ok Tryz.prog := fn_ok (k := z0eg) (fn := Tryz.f3) (W := []) (H := []) Tryz.func3 z0ul trivial rfl rfl (fun av x => by kernel_rfl)
end
end Go.Am
