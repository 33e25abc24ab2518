/- Mirrors and contracts, printed. Own work. -/
import Derived.Test.YtgolgnbgomhknaaLoC1
set_option maxRecDepth 100000
set_option maxHeartbeats 4000000
set_option linter.unusedVariables false
set_option linter.unusedSimpArgs false
namespace Go.Am
noncomputable section
open Go Go.Proofs
def z4t (r : GRd) (n : Int) : Option ((List Int) × GRd) := (z05 r 5).bind fun x1 => ((getI [[7], [7, 7], [1, 2, 4], [3, 5, 6, 7], [7, 3, 4]] x1.1).bind fun x2 => (gd (([] : List Int).length + x2.length ≤ SMALL) ((z05 x1.2 n).bind fun x4 => (if decide (x4.1 = 0) = true then ((z05 x4.2 3).bind fun x6 => (if decide (x6.1 = 0) = true then (some (([] : List Int), x6.2)) else (if decide (x6.1 = 1) = true then ((z05 x6.2 3).bind fun x9 => ((getI [(-1), 8, 0] x9.1).bind fun x10 => ((getI (([] : List Int) ++ x2) 0).bind fun x11 => (some (((([] : List Int) ++ x2).set (0 : Int).toNat x10), x9.2))))) else (some ([1, 1, 1, 1, 1], x6.2))))) else (some ((([] : List Int) ++ x2), x4.2))))))
def z6x : Con := ⟨99, [.ptr (.s .rd) false, .v .I false], [((.sl .I), true)], [(0, .ptr (.s .rd) false)], fun x => z4t x.1 x.2.1⟩
def y2n : Fs := ⟨[zg4], [], []⟩
theorem y2r : y2n.Ok Try.prog := (fsK zt6 fs0)
theorem y34 : z6x.Ok Try.prog := fn_ok (k := z6x) (fn := Try.f99) (W := []) (H := []) Try.func99 y2r trivial rfl rfl (fun av x => by kernel_rfl)
def z6i (data : List Int) (e : GAsk) : Option (List Int) := (z39 e).bind fun x1 => (if x1 = true then (if decide (e.op = 0) = true then (some data) else ((getI [0, (-1), 0, 1] e.op).bind fun x4 => (gd (ok64 (e.k + x4)) ((z3s data e.var (e.k + x4)).bind fun x6 => (some x6))))) else (some data))
def z9a : Con := ⟨159, [.v (.sl .I) false, .v (.s .ask) false], [((.sl .I), false)], [], fun x => z6i x.1 x.2.1⟩
def y6n : Fs := ⟨[z44, z7b], [], []⟩
theorem y6y : y6n.Ok Try.prog := (fsK z6r (fsK y04 fs0))
theorem y7h : z9a.Ok Try.prog := fn_ok (k := z9a) (fn := Try.f159) (W := []) (H := []) Try.func159 y6y trivial rfl rfl (fun av x => by kernel_rfl)
def z6k (r : GRd) (h : GHouse) : Option (GReq × GRd) := if decide ((h.runs.length : Int) = 0) = true then ((z3g r 99999).bind fun x2 => (some ((GReq.mk 1 0 0 0 0 0 x2.1 (GAsk.mk 0 0 0) 0), x2.2))) else ((z05 r 10).bind fun x3 => (if decide (x3.1 = 0) = true then ((z3g x3.2 99999).bind fun x5 => (some ((GReq.mk 1 0 0 0 0 0 x5.1 (GAsk.mk 0 0 0) 0), x5.2))) else ((z05 x3.2 10).bind fun x6 => (if decide (x6.1 = 0) = true then ((z7k x6.2 99999).bind fun x8 => ((z3g x8.2 99999).bind fun x9 => ((z6i x9.1 x8.1).bind fun x10 => ((z05 x9.2 3).bind fun x11 => (some ((GReq.mk 5 0 0 0 0 0 x10 x8.1 x11.1), x11.2)))))) else ((z05 x6.2 30).bind fun x12 => (if decide (x12.1 = 0) = true then ((z05 x12.2 5).bind fun x14 => (some ((GReq.mk 4 0 x14.1 0 0 0 [] (GAsk.mk 0 0 0) 0), x14.2))) else ((z05 x12.2 (h.runs.length : Int)).bind fun x15 => ((getI h.runs x15.1).bind fun x16 => ((getI h.runs x15.1).bind fun x17 => ((getI h.nets x17.net).bind fun x18 => (if decide (0 < (x16.case.busy.length : Int)) = true then ((z05 x15.2 3).bind fun x20 => (if decide (0 < x20.1) = true then ((z05 x20.2 (x16.case.busy.length : Int)).bind fun x22 => ((z05 x22.2 4).bind fun x23 => (gd (ok64 (x23.1 - 1)) ((z05 x23.2 7).bind fun x25 => (gd (ok64 (x25.1 - 2)) (some ((GReq.mk 3 0 x15.1 x22.1 (x23.1 - 1) (x25.1 - 2) [] (GAsk.mk 0 0 0) 0), x25.2))))))) else ((z05 x20.2 6).bind fun x27 => ((z47 x18 x16.case.marks x16.case.busy).bind fun x28 => (if decide (0 < (x28.length : Int)) = true then ((z05 x27.2 8).bind fun x30 => (if decide (0 < x30.1) = true then ((z05 x30.2 (x28.length : Int)).bind fun x32 => ((getI x28 x32.1).bind fun x33 => ((z05 x32.2 5).bind fun x34 => (some ((GReq.mk 2 x34.1 x15.1 x33 0 0 [] (GAsk.mk 0 0 0) 0), x34.2))))) else ((z05 x30.2 5).bind fun x35 => (some ((GReq.mk 2 x35.1 x15.1 x27.1 0 0 [] (GAsk.mk 0 0 0) 0), x35.2))))) else ((z05 x27.2 5).bind fun x36 => (some ((GReq.mk 2 x36.1 x15.1 x27.1 0 0 [] (GAsk.mk 0 0 0) 0), x36.2)))))))) else ((z05 x15.2 6).bind fun x37 => ((z47 x18 x16.case.marks x16.case.busy).bind fun x38 => (if decide (0 < (x38.length : Int)) = true then ((z05 x37.2 8).bind fun x40 => (if decide (0 < x40.1) = true then ((z05 x40.2 (x38.length : Int)).bind fun x42 => ((getI x38 x42.1).bind fun x43 => ((z05 x42.2 5).bind fun x44 => (some ((GReq.mk 2 x44.1 x15.1 x43 0 0 [] (GAsk.mk 0 0 0) 0), x44.2))))) else ((z05 x40.2 5).bind fun x45 => (some ((GReq.mk 2 x45.1 x15.1 x37.1 0 0 [] (GAsk.mk 0 0 0) 0), x45.2))))) else ((z05 x37.2 5).bind fun x46 => (some ((GReq.mk 2 x46.1 x15.1 x37.1 0 0 [] (GAsk.mk 0 0 0) 0), x46.2)))))))))))))))))
def z9b : Con := ⟨153, [.ptr (.s .rd) false, .v (.s .house) false], [((.s .req), false)], [(0, .ptr (.s .rd) false)], fun x => z6k x.1 x.2.1⟩
def y6q : Fs := ⟨[z1a, zg4, zd7, z9a, z1c], [], []⟩
theorem y70 : y6q.Ok Try.prog := (fsK zt7 (fsK zt6 (fsK ya1 (fsK y7h (fsK y59 fs0)))))
theorem y7k : z9b.Ok Try.prog := fn_ok (k := z9b) (fn := Try.f153) (W := []) (H := []) Try.func153 y70 trivial rfl rfl (fun av x => by kernel_rfl)
def z4h (r : GRd) (h : GHouse) (n : Int) : Option (GReq × GRd) := (z6k r h).bind fun x1 => ((z05 x1.2 n).bind fun x2 => (if decide (0 < x2.1) = true then (some (x1.1, x2.2)) else ((z05 x2.2 8).bind fun x4 => (if decide (x4.1 = 0) = true then ((z05 x4.2 3).bind fun x6 => ((getI [0, 6, 1] x6.1).bind fun x7 => (some ((GReq.mk x7 x1.1.who x1.1.case x1.1.task x1.1.var x1.1.num x1.1.data x1.1.if_ x1.1.ans), x6.2)))) else (if decide (x4.1 = 1) = true then ((z05 x4.2 3).bind fun x9 => ((getI [(-1), 5, 1] x9.1).bind fun x10 => (some ((GReq.mk x1.1.kind x10 x1.1.case x1.1.task x1.1.var x1.1.num x1.1.data x1.1.if_ x1.1.ans), x9.2)))) else (if decide (x4.1 = 2) = true then ((z05 x4.2 3).bind fun x12 => ((getI [(-1), 5, 4] x12.1).bind fun x13 => (some ((GReq.mk x1.1.kind x1.1.who x13 x1.1.task x1.1.var x1.1.num x1.1.data x1.1.if_ x1.1.ans), x12.2)))) else (if decide (x4.1 = 3) = true then ((z05 x4.2 3).bind fun x15 => ((getI [(-1), 6, 5] x15.1).bind fun x16 => (some ((GReq.mk x1.1.kind x1.1.who x1.1.case x16 x1.1.var x1.1.num x1.1.data x1.1.if_ x1.1.ans), x15.2)))) else (if decide (x4.1 = 4) = true then ((z05 x4.2 3).bind fun x18 => ((getI [(-2), 3, 1] x18.1).bind fun x19 => (some ((GReq.mk x1.1.kind x1.1.who x1.1.case x1.1.task x19 x1.1.num x1.1.data x1.1.if_ x1.1.ans), x18.2)))) else (if decide (x4.1 = 5) = true then ((z05 x4.2 2).bind fun x21 => ((getI [100, 1] x21.1).bind fun x22 => (some ((GReq.mk x1.1.kind x1.1.who x1.1.case x1.1.task x1.1.var x22 x1.1.data x1.1.if_ x1.1.ans), x21.2)))) else (if decide (x4.1 = 6) = true then ((z3g x4.2 2).bind fun x24 => (some ((GReq.mk x1.1.kind x1.1.who x1.1.case x1.1.task x1.1.var x1.1.num x24.1 x1.1.if_ x1.1.ans), x24.2))) else ((z05 x4.2 3).bind fun x25 => ((getI [(-1), 3, 1] x25.1).bind fun x26 => (some ((GReq.mk x1.1.kind x1.1.who x1.1.case x1.1.task x1.1.var x1.1.num x1.1.data x1.1.if_ x26), x25.2))))))))))))))
def z6c : Con := ⟨125, [.ptr (.s .rd) false, .v (.s .house) false, .v .I false], [((.s .req), false)], [(0, .ptr (.s .rd) false)], fun x => z4h x.1 x.2.1 x.2.2.1⟩
def y10 : Fs := ⟨[z9b, zg4, z1a], [], []⟩
theorem y14 : y10.Ok Try.prog := (fsK y7k (fsK zt6 (fsK zt7 fs0)))
theorem y1g : z6c.Ok Try.prog := fn_ok (k := z6c) (fn := Try.f125) (W := []) (H := []) Try.func125 y14 trivial rfl rfl (fun av x => by kernel_rfl)
def z50 (s0_0 : List Int) (s0_1 : Int) (l0_3 : List GNet) : Option (GHouse × GRd) := (z4t (GRd.mk s0_0 s0_1) 99999).bind fun x7 => ((z7e l0_3 x7.1).bind fun x8 => (some (x8, x7.2)))
def z2t (kx0_0 : List Int → Int → List GNet → Option (GHouse × GRd)) : Nat → List Int → Int → Int → List GNet → Option (GHouse × GRd)
  | 0, _, _, _, _ => none
  | n0 + 1, s0_0, s0_1, s0_2, l0_3 => if decide (0 < s0_2) = true then ((z5p (GRd.mk s0_0 s0_1)).bind fun x4 => (gd (l0_3.length + [x4.1].length ≤ SMALL) (gd (ok64 (s0_2 - 1)) ((z2t kx0_0 n0) x4.2.b x4.2.p (s0_2 - 1) (l0_3 ++ [x4.1]))))) else (kx0_0 s0_0 s0_1 l0_3)
def z4u (r : GRd) : Option (GHouse × GRd) := (z5p r).bind fun x1 => ((z05 x1.2 3).bind fun x2 => (z2t z50 FUEL x2.2.b x2.2.p x2.1 [x1.1]))
def z13 : Con := ⟨82, [.ptr (.s .rd) false], [((.s .house), false)], [(0, .ptr (.s .rd) false)], fun x => z4u x.1⟩
def y2o : Fs := ⟨[zd8, zg4, z6x, z2f], [], []⟩
theorem zf3 : y2o.Ok Try.prog := (fsK ya2 (fsK zt6 (fsK y34 (fsK y9v fs0))))
def z8w : Tmpl := ⟨[(0, .c (.bx 1000000 0)), (2, .c (.bx 2 0)), (3, .c (.ref 7)), (4, .c .i)], [(1000000, .box [.s .Y, .i]), (2, .box [.nl, .nl, .nl, .nl]), (7, .arr (.s .net) true)]⟩
def z8c : Tmpl := ⟨[(0, .c (.bx 1000000 0)), (2, .c (.bx 2 0)), (3, .c (.ref 7))], [(1000000, .box [.s .Y, .i]), (2, .box [.nl, .nl, .nl, .nl]), (7, .arr (.s .net) true)]⟩
def zw8 (av : AV) (x : HP z13.ps) (n : Nat) (v : z8w.den) (K : Ks (CR z13)) : Option (CR z13) := z2t (fun s0_0 s0_1 l0_3 => z8c.at none (((), (), (), ()), ((s0_0, s0_1, ()), ((), (), (), (), ()), l0_3, ())) (K (.exit 0))) n v.2.1.1 v.2.1.2.1 v.1.2.2.2.1 v.2.2.2.1
def z8i (av : AV) (x : HP z13.ps) : Hdl (CR z13) := hnd [] z8w (zw8 av x)
theorem zz6 : LP z13 Try.f82 [0] z8i := lp_ok (W := []) (H := []) (xs := [z8c]) zf3 trivial rfl (fun av x v K => by kernel_rfl) (fun av x n v K => by kernel_rfl)
theorem y35 : z13.Ok Try.prog := fn_ok (k := z13) (fn := Try.f82) (W := []) (H := [z8i]) Try.func82 zf3 ⟨zz6, trivial⟩ rfl rfl (fun av x => by kernel_rfl)
def z5s (s0_0 : List Int) (s0_1 : Int) (l0_3 : List GReq) : Option ((List GReq) × GRd) := some (l0_3, (GRd.mk s0_0 s0_1))
def z5t (s0_0 : List Int) (s0_1 : Int) (l0_3 : List GReq) : Option ((List GReq) × GRd) := some (l0_3, (GRd.mk s0_0 s0_1))
def z1i (n : Int) (kx0_0 : List Int → Int → List GReq → Option ((List GReq) × GRd)) (kx0_1 : List Int → Int → List GReq → Option ((List GReq) × GRd)) : Nat → List Int → Int → Int → List GReq → GHouse → Option ((List GReq) × GRd)
  | 0, _, _, _, _, _ => none
  | n0 + 1, s0_0, s0_1, s0_2, l0_3, t0_4 => if decide (s0_2 < n) = true then (if decide (0 < (t0_4.nets.length : Int)) = true then ((z4h (GRd.mk s0_0 s0_1) t0_4 40).bind fun x3 => (gd (l0_3.length + [x3.1].length ≤ SMALL) ((z48 x3.1).bind fun x5 => (if x5 = true then ((z7p t0_4).bind fun x7 => ((ze4 x7 x3.1).bind fun x8 => (gd (ok64 (s0_2 + 1)) ((z1i n kx0_0 kx0_1 n0) x3.2.b x3.2.p (s0_2 + 1) (l0_3 ++ [x3.1]) x8.1)))) else (gd (ok64 (s0_2 + 1)) ((z1i n kx0_0 kx0_1 n0) x3.2.b x3.2.p (s0_2 + 1) (l0_3 ++ [x3.1]) t0_4)))))) else (kx0_0 s0_0 s0_1 l0_3)) else (kx0_1 s0_0 s0_1 l0_3)
def z5r (r : GRd) (h : GHouse) (n : Int) : Option ((List GReq) × GRd) := z1i n z5s z5t FUEL r.b r.p 0 ([] : List GReq) h
def z1e : Con := ⟨81, [.ptr (.s .rd) false, .v (.s .house) false, .v .I false], [((.mx (.s .req)), false)], [(0, .ptr (.s .rd) false)], fun x => z5r x.1 x.2.1 x.2.2.1⟩
def y4e : Fs := ⟨[z6c, z5f, z0k, zv7], [], []⟩
theorem zk5 : y4e.Ok Try.prog := (fsK y1g (fsK zo2 (fsK ya7 (fsK yp2 fs0))))
def zb9 : Tmpl := ⟨[(0, .c (.bx 1000000 0)), (2, .c .i), (4, .c (.bx 4 0)), (7, .c (.ref 10)), (8, .c .i)], [(1000000, .box [.s .Y, .i]), (4, .boxT (.s .house)), (10, .arr (.s .req) false)]⟩
def z65 : Tmpl := ⟨[(7, .c (.ref 10))], [(1000000, .box [.s .Y, .i]), (10, .arr (.s .req) false)]⟩
def y0u (av : AV) (x : HP z1e.ps) (n : Nat) (v : zb9.den) (K : Ks (CR z1e)) : Option (CR z1e) := z1i v.1.2.1 (fun s0_0 s0_1 l0_3 => z65.at none (((), ()), ((s0_0, s0_1, ()), l0_3, ())) (K (.exit 0))) (fun s0_0 s0_1 l0_3 => z65.at none (((), ()), ((s0_0, s0_1, ()), l0_3, ())) (K (.exit 0))) n v.2.1.1 v.2.1.2.1 v.1.2.2.2.2.1 v.2.2.2.1 v.2.2.1
def z9u (av : AV) (x : HP z1e.ps) : Hdl (CR z1e) := hnd [] zb9 (y0u av x)
theorem y1a : LP z1e Try.f81 [0] z9u := lp_ok (W := [(1000002, [.share 10]), (1000004, [.froz 35, .froz 10035, .froz 20035, .froz 30035])]) (H := []) (xs := [z65]) zk5 trivial rfl (fun av x v K => by kernel_rfl) (fun av x n v K => by kernel_rfl)
theorem y5b : z1e.Ok Try.prog := fn_ok (k := z1e) (fn := Try.f81) (W := [(1000002, [.share 10]), (1000004, [.froz 35, .froz 10035, .froz 20035, .froz 30035])]) (H := [z9u]) Try.func81 zk5 ⟨y1a, trivial⟩ rfl rfl (fun av x => by kernel_rfl)
def z83 (l0_0 : List GReq) : Option (List GReq) := some l0_0
def z2s (kx0_0 : List GReq → Option (List GReq)) : Nat → List GReq → Option (List GReq)
  | 0, _ => none
  | n0 + 1, l0_0 => if decide ((l0_0.length : Int) ≤ 150) = true then (gd (l0_0.length + [(GReq.mk 4 0 0 0 0 0 [] (GAsk.mk 0 0 0) 0)].length ≤ SMALL) ((z2s kx0_0 n0) (l0_0 ++ [(GReq.mk 4 0 0 0 0 0 [] (GAsk.mk 0 0 0) 0)]))) else (kx0_0 l0_0)
def z4r (code : List Int) : Option (List GReq) := (z6j code).bind fun x1 => ((z4u x1).bind fun x2 => ((z05 x2.2 12).bind fun x3 => ((z5r x3.2 x2.1 x3.1).bind fun x4 => ((z05 x4.2 20).bind fun x5 => (if decide (x5.1 = 0) = true then (z2s z83 FUEL x4.1) else (some x4.1))))))
def z12 : Con := ⟨36, [.v (.sl .Y) false], [((.sl (.s .req)), false)], [], fun x => z4r x.1⟩
def y2m : Fs := ⟨[z13, zg4, z1e], [], [zt4]⟩
theorem zf2 : y2m.Ok Try.prog := (fsK y35 (fsK zt6 (fsK y5b (fsB y7i fs0))))
def z8v : Tmpl := ⟨[(4, .c (.ref 12))], [(12, .arr (.s .req) false)]⟩
def z8b : Tmpl := ⟨[(4, .c (.ref 12))], [(12, .arr (.s .req) false)]⟩
def zw7 (av : AV) (x : HP z12.ps) (n : Nat) (v : z8v.den) (K : Ks (CR z12)) : Option (CR z12) := z2s (fun l0_0 => z8b.at none (((), ()), (l0_0, ())) (K (.exit 0))) n v.2.1
def z8h (av : AV) (x : HP z12.ps) : Hdl (CR z12) := hnd [] z8v (zw7 av x)
theorem zz5 : LP z12 Try.f36 [0] z8h := lp_ok (W := []) (H := []) (xs := [z8b]) zf2 trivial rfl (fun av x v K => by kernel_rfl) (fun av x n v K => by kernel_rfl)
theorem y33 : z12.Ok Try.prog := fn_ok (k := z12) (fn := Try.f36) (W := []) (H := [z8h]) Try.func36 zf2 ⟨zz5, trivial⟩ rfl rfl (fun av x => by kernel_rfl)
def za1 (x2 : (List GReq)) (s0_0 : Bool) : Option Bool := (z38 x2).bind fun x9 => (if (x9 == s0_0) = true then ((z38 x2).bind fun x11 => ((z8l x2).bind fun x12 => (if (x11 == x12) = true then (if s0_0 = true then (gd ((2 : Int) ≠ 0 ∧ ok64 (Int.tdiv (x2.length : Int) 2)) (gd ((0 : Int) ≤ (Int.tdiv (x2.length : Int) 2) ∧ (Int.tdiv (x2.length : Int) 2) ≤ (x2.length : Int)) ((z38 (x2.take (Int.tdiv (x2.length : Int) 2).toNat)).bind fun x17 => (if x17 = true then ((z38 ([] : List GReq)).bind fun x19 => (some x19)) else (some false))))) else ((z38 ([] : List GReq)).bind fun x20 => (some x20))) else (some false)))) else (some false))
def z0l (x2 : (List GReq)) (kx0_0 : Bool → Option Bool) : Nat → Bool → Int → Option Bool
  | 0, _, _ => none
  | n0 + 1, s0_0, s0_1 => if decide (s0_1 < (x2.length : Int)) = true then (if s0_0 = true then ((getI x2 s0_1).bind fun x5 => ((z46 x5).bind fun x6 => (gd (ok64 (s0_1 + 1)) ((z0l x2 kx0_0 n0) x6 (s0_1 + 1))))) else (gd (ok64 (s0_1 + 1)) ((z0l x2 kx0_0 n0) false (s0_1 + 1)))) else (kx0_0 s0_0)
def z9e (code : List Int) : Option Bool := if decide (1048576 < (code.length : Int)) = true then (some true) else ((z4r code).bind fun x2 => (z0l x2 (za1 x2) FUEL (decide ((x2.length : Int) ≤ 150)) 0))
def z2m : Con := ⟨9, [.v (.sl .Y) false], [(.B, true)], [], fun x => z9e x.1⟩
def y6h : Fs := ⟨[z12, z5d, zm3, z35], [], []⟩
theorem zs0 : y6h.Ok Try.prog := (fsK y33 (fsK zo0 (fsK yj3 (fsK yj4 fs0))))
def zh5 : Tmpl := ⟨[(3, .c (.s (.s .req))), (4, .c .b), (5, .c .i)], []⟩
def zc4 : Tmpl := ⟨[(3, .c (.s (.s .req))), (4, .c .b)], []⟩
def y2a (av : AV) (x : HP z2m.ps) (n : Nat) (v : zh5.den) (K : Ks (CR z2m)) : Option (CR z2m) := z0l v.1.1 (fun s0_0 => zc4.at none ((v.1.1, s0_0, ()), ()) (K (.exit 0))) n v.1.2.1 v.1.2.2.1
def zf5 (av : AV) (x : HP z2m.ps) : Hdl (CR z2m) := hnd [] zh5 (y2a av x)
theorem y2s : LP z2m Try.f9 [0] zf5 := lp_ok (W := []) (H := []) (xs := [zc4]) zs0 trivial rfl (fun av x v K => by kernel_rfl) (fun av x n v K => by kernel_rfl)
theorem y7c : z2m.Ok Try.prog := fn_ok (k := z2m) (fn := Try.f9) (W := []) (H := [zf5]) Try.func9 zs0 ⟨y2s, trivial⟩ rfl rfl (fun av x => by kernel_rfl)
end
end Go.Am
