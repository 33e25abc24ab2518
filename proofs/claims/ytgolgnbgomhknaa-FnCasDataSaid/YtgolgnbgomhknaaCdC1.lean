/- Mirrors and contracts, printed. Own work. -/
import Derived.Test.YtgolgnbgomhknaaCdD1
set_option linter.unusedSimpArgs false
set_option maxRecDepth 100000
set_option maxHeartbeats 4000000
set_option linter.unusedVariables false
namespace Go.Am
noncomputable section
open Go Go.Proofs
def z003 (n : Int) (low : Int) (high : Int) : Option Bool := if decide (low ≤ n) = true then (some (decide (n ≤ high))) else (some false)
def z00p : Con := ⟨56, [.v .I false, .v .I false, .v .I false], [(.B, true)], [], fun x => z003 x.1 x.2.1 x.2.2.1⟩
def z0vo : Fs := ⟨[], [], []⟩
theorem z0vq : z0vo.Ok Try.prog := fs0
theorem z012 : z00p.Ok Try.prog := fn_ok (k := z00p) (fn := Try.f56) (W := []) (H := []) Try.func56 z0vq trivial rfl rfl (fun av x => by kernel_rfl)
def z0du  : Option Bool := some true
def z03l (data : List Int) (kx0_0 : Option Bool) : Nat → Int → Option Bool
  | 0, _ => none
  | n0 + 1, s0_0 => if decide (s0_0 < (data.length : Int)) = true then ((getI data s0_0).bind fun x3 => ((z003 x3 (-99) 99).bind fun x4 => (if x4 = true then (gd (ok64 (s0_0 + 1)) ((z03l data kx0_0 n0) (s0_0 + 1))) else (some false)))) else (kx0_0)
def z03w (data : List Int) : Option Bool := if decide ((data.length : Int) = 3) = true then (z03l data z0du FUEL 0) else (some false)
def z01a : Con := ⟨55, [.v (.sl .I) false], [(.B, true)], [], fun x => z03w x.1⟩
def z0sf : Fs := ⟨[z00p], [], []⟩
theorem z0jj : z0sf.Ok Try.prog := (fsK z012 fs0)
def z0gl : Tmpl := ⟨[(0, .c (.s .I)), (3, .c .i)], []⟩
def z0eg : Tmpl := ⟨[], []⟩
def z0n0 (av : AV) (x : HP z01a.ps) (n : Nat) (v : z0gl.den) (K : Ks (CR z01a)) : Option (CR z01a) := z03l v.1.1 (z0eg.at none ((), ()) (K (.exit 0))) n v.1.2.1
def z0fs (av : AV) (x : HP z01a.ps) : Hdl (CR z01a) := hnd [] z0gl (z0n0 av x)
theorem z0og : LP z01a Try.f55 [0] z0fs := lp_ok (W := []) (H := []) (xs := [z0eg]) z0jj trivial rfl (fun av x v K => by kernel_rfl) (fun av x n v K => by kernel_rfl)
theorem z07f : z01a.Ok Try.prog := fn_ok (k := z01a) (fn := Try.f55) (W := []) (H := [z0fs]) Try.func55 z0jj ⟨z0og, trivial⟩ rfl rfl (fun av x => by kernel_rfl)
def z081 (data : List Int) (k : Int) (n : Int) : Option (List Int) := (z03w data).bind fun x1 => (if x1 = true then ((z003 k 0 2).bind fun x3 => (if x3 = true then ((z003 n (-99) 99).bind fun x5 => (if x5 = true then (gd (([] : List Int).length + data.length ≤ SMALL) ((getI (([] : List Int) ++ data) k).bind fun x8 => (some ((([] : List Int) ++ data).set k.toNat n)))) else (gd (([] : List Int).length + data.length ≤ SMALL) (some (([] : List Int) ++ data))))) else (gd (([] : List Int).length + data.length ≤ SMALL) (some (([] : List Int) ++ data))))) else (gd (([] : List Int).length + data.length ≤ SMALL) (some (([] : List Int) ++ data))))
def z0bx : Con := ⟨70, [.v (.sl .I) false, .v .I false, .v .I false], [((.sl .I), true)], [], fun x => z081 x.1 x.2.1 x.2.2.1⟩
def z0q3 : Fs := ⟨[z01a, z00p], [], []⟩
theorem z0qk : z0q3.Ok Try.prog := (fsK z07f (fsK z012 fs0))
theorem z0r7 : z0bx.Ok Try.prog := fn_ok (k := z0bx) (fn := Try.f70) (W := []) (H := []) Try.func70 z0qk trivial rfl rfl (fun av x => by kernel_rfl)
def z05j (e : GAsk) : Option Bool := if decide (e.op = 0) = true then (some (decide ([e.op, e.var, e.k] = [0, 0, 0]))) else ((z003 e.op 1 3).bind fun x2 => (if x2 = true then ((z003 e.var 0 2).bind fun x4 => (if x4 = true then ((z003 e.k (-99) 99).bind fun x6 => (some x6)) else (some false))) else (some false)))
def z09e : Con := ⟨133, [.v (.s .ask) false], [(.B, true)], [], fun x => z05j x.1⟩
def z0sg : Fs := ⟨[z00p], [], []⟩
theorem z0st : z0sg.Ok Try.prog := (fsK z012 fs0)
theorem z0kk : z09e.Ok Try.prog := fn_ok (k := z09e) (fn := Try.f133) (W := []) (H := []) Try.func133 z0st trivial rfl rfl (fun av x => by kernel_rfl)
def z05w (e : GAsk) (data : List Int) : Option Bool := (z05j e).bind fun x1 => (if x1 = true then ((z03w data).bind fun x3 => (if x3 = true then (if decide (e.op = 1) = true then ((getI data e.var).bind fun x6 => (some (decide (x6 < e.k)))) else (if decide (e.op = 2) = true then ((getI data e.var).bind fun x8 => (some (decide (x8 = e.k)))) else (if decide (e.op = 3) = true then ((getI data e.var).bind fun x10 => (some (decide (e.k < x10)))) else (some true)))) else (some false))) else (some false))
def z08g : Con := ⟨136, [.v (.s .ask) false, .v (.sl .I) false], [(.B, true)], [], fun x => z05w x.1 x.2.1⟩
def z0lk : Fs := ⟨[z09e, z01a], [], []⟩
theorem z0lt : z0lk.Ok Try.prog := (fsK z0kk (fsK z07f fs0))
theorem z0m7 : z08g.Ok Try.prog := fn_ok (k := z08g) (fn := Try.f136) (W := []) (H := []) Try.func136 z0lt trivial rfl rfl (fun av x => by kernel_rfl)
def z013 (n : Int) (low : Int) (high : Int) : Option Bool := if decide (low ≤ n) = true then (some (decide (n ≤ high))) else (some false)
def z03a : Con := ⟨67, [.v .I false, .v .I false, .v .I false], [(.B, true)], [], fun x => z013 x.1 x.2.1 x.2.2.1⟩
def z0zk : Fs := ⟨[], [], []⟩
theorem z0zp : z0zk.Ok Try.prog := fs0
theorem z044 : z03a.Ok Try.prog := fn_ok (k := z03a) (fn := Try.f67) (W := []) (H := []) Try.func67 z0zp trivial rfl rfl (fun av x => by kernel_rfl)
def z040 (n : Int) : Option Bool := (z013 n (-99) 99).bind fun x1 => (some x1)
def z04w : Con := ⟨64, [.v .I false], [(.B, true)], [], fun x => z040 x.1⟩
def z0ni : Fs := ⟨[z03a], [], []⟩
theorem z0o3 : z0ni.Ok Try.prog := (fsK z044 fs0)
theorem z09r : z04w.Ok Try.prog := fn_ok (k := z04w) (fn := Try.f64) (W := []) (H := []) Try.func64 z0o3 trivial rfl rfl (fun av x => by kernel_rfl)
def z02z (list : List Int) : Option (List Int) := gd (([] : List Int).length + list.length ≤ SMALL) (some (([] : List Int) ++ list))
def z04v : Con := ⟨72, [.v (.sl .I) false], [((.sl .I), true)], [], fun x => z02z x.1⟩
def z0j5 : Fs := ⟨[], [], []⟩
theorem z0jg : z0j5.Ok Try.prog := fs0
theorem z0cd : z04v.Ok Try.prog := fn_ok (k := z04v) (fn := Try.f72) (W := []) (H := []) Try.func72 z0jg trivial rfl rfl (fun av x => by kernel_rfl)
def z05f (e : GAsk) : Option Bool := if decide (e.op = 0) = true then (if decide (e.var = 0) = true then (some (decide (e.k = 0))) else (some false)) else ((z013 e.op 1 3).bind fun x3 => (if x3 = true then ((z013 e.var 0 2).bind fun x5 => (if x5 = true then ((z040 e.k).bind fun x7 => (some x7)) else (some false))) else (some false)))
def z09b : Con := ⟨83, [.v (.s .ask) false], [(.B, true)], [], fun x => z05f x.1⟩
def z0s9 : Fs := ⟨[z03a, z04w], [], []⟩
theorem z0sq : z0s9.Ok Try.prog := (fsK z044 (fsK z09r fs0))
theorem z0kh : z09b.Ok Try.prog := fn_ok (k := z09b) (fn := Try.f83) (W := []) (H := []) Try.func83 z0sq trivial rfl rfl (fun av x => by kernel_rfl)
def z0aj  : Option Bool := some true
def z01o (list : List Int) (low : Int) (high : Int) (kx0_0 : Option Bool) : Nat → Int → Option Bool
  | 0, _ => none
  | n0 + 1, s0_0 => if decide (s0_0 < (list.length : Int)) = true then ((getI list s0_0).bind fun x4 => ((z003 x4 low high).bind fun x5 => (if x5 = true then (if decide (0 < s0_0) = true then (gd (ok64 (s0_0 - 1)) ((getI list (s0_0 - 1)).bind fun x9 => ((getI list s0_0).bind fun x10 => (if decide (x10 ≤ x9) = true then (some false) else (gd (ok64 (s0_0 + 1)) ((z01o list low high kx0_0 n0) (s0_0 + 1))))))) else (gd (ok64 (s0_0 + 1)) ((z01o list low high kx0_0 n0) (s0_0 + 1)))) else (some false)))) else (kx0_0)
def z054 (list : List Int) (least : Int) (most : Int) (low : Int) (high : Int) : Option Bool := (z003 (list.length : Int) least most).bind fun x1 => (if x1 = true then (z01o list low high z0aj FUEL 0) else (some false))
def z01z : Con := ⟨161, [.v (.sl .I) false, .v .I false, .v .I false, .v .I false, .v .I false], [(.B, true)], [], fun x => z054 x.1 x.2.1 x.2.2.1 x.2.2.2.1 x.2.2.2.2.1⟩
def z0nv : Fs := ⟨[z00p], [], []⟩
theorem z0fn : z0nv.Ok Try.prog := (fsK z012 fs0)
def z0cu : Tmpl := ⟨[(0, .c (.s .I)), (3, .c .i), (4, .c .i), (11, .c .i)], []⟩
def z0b3 : Tmpl := ⟨[], []⟩
def z0iy (av : AV) (x : HP z01z.ps) (n : Nat) (v : z0cu.den) (K : Ks (CR z01z)) : Option (CR z01z) := z01o v.1.1 v.1.2.1 v.1.2.2.1 (z0b3.at none ((), ()) (K (.exit 0))) n v.1.2.2.2.1
def z0br (av : AV) (x : HP z01z.ps) : Hdl (CR z01z) := hnd [] z0cu (z0iy av x)
theorem z0kb : LP z01z Try.f161 [0] z0br := lp_ok (W := []) (H := []) (xs := [z0b3]) z0fn trivial rfl (fun av x v K => by kernel_rfl) (fun av x n v K => by kernel_rfl)
theorem z0p4 : z01z.Ok Try.prog := fn_ok (k := z01z) (fn := Try.f161) (W := []) (H := [z0br]) Try.func161 z0fn ⟨z0kb, trivial⟩ rfl rfl (fun av x => by kernel_rfl)
def z0dy  : Option Bool := some false
def z03p (list : List Int) (n : Int) (kx0_0 : Option Bool) : Nat → Int → Option Bool
  | 0, _ => none
  | n0 + 1, s0_0 => if decide (s0_0 < (list.length : Int)) = true then ((getI list s0_0).bind fun x2 => (if decide (x2 = n) = true then (some true) else (gd (ok64 (s0_0 + 1)) ((z03p list n kx0_0 n0) (s0_0 + 1))))) else (kx0_0)
def z05k (list : List Int) (n : Int) : Option Bool := z03p list n z0dy FUEL 0
def z02b : Con := ⟨146, [.v (.sl .I) false, .v .I false], [(.B, true)], [], fun x => z05k x.1 x.2.1⟩
def z0sl : Fs := ⟨[], [], []⟩
theorem z0jq : z0sl.Ok Try.prog := fs0
def z0gq : Tmpl := ⟨[(0, .c (.s .I)), (1, .c .i), (5, .c .i)], []⟩
def z0ek : Tmpl := ⟨[], []⟩
def z0n5 (av : AV) (x : HP z02b.ps) (n : Nat) (v : z0gq.den) (K : Ks (CR z02b)) : Option (CR z02b) := z03p v.1.1 v.1.2.1 (z0ek.at none ((), ()) (K (.exit 0))) n v.1.2.2.1
def z0fx (av : AV) (x : HP z02b.ps) : Hdl (CR z02b) := hnd [] z0gq (z0n5 av x)
theorem z0ol : LP z02b Try.f146 [0] z0fx := lp_ok (W := []) (H := []) (xs := [z0ek]) z0jq trivial rfl (fun av x v K => by kernel_rfl) (fun av x n v K => by kernel_rfl)
theorem z0f4 : z02b.Ok Try.prog := fn_ok (k := z02b) (fn := Try.f146) (W := []) (H := [z0fx]) Try.func146 z0jq ⟨z0ol, trivial⟩ rfl rfl (fun av x => by kernel_rfl)
def z0ag (s0_0 : Int) (bk0 : Int → Option Bool) : Option Bool := gd (ok64 (s0_0 + 1)) (bk0 (s0_0 + 1))
def z019 (t : GTask) (s0_0 : Int) (x4 : GFlow) (kx1_0 : Option Bool) : Nat → Int → Option Bool
  | 0, _ => none
  | n1 + 1, s1_0 => if decide (s1_0 < s0_0) = true then ((getI t.out s1_0).bind fun x14 => (if decide (x14.to = x4.to) = true then (some false) else (gd (ok64 (s1_0 + 1)) ((z019 t s0_0 x4 kx1_0 n1) (s1_0 + 1))))) else (kx1_0)
def z0ah (s0_0 : Int) (bk0 : Int → Option Bool) : Option Bool := gd (ok64 (s0_0 + 1)) (bk0 (s0_0 + 1))
def z0ai  : Option Bool := some true
def z01n (t : GTask) (places : Int) (kx0_0 : Option Bool) : Nat → Int → Option Bool
  | 0, _ => none
  | n0 + 1, s0_0 => if decide (s0_0 < (t.out.length : Int)) = true then ((getI t.out s0_0).bind fun x4 => (gd (ok64 ((t.out.length : Int) - 1)) (if decide (s0_0 = ((t.out.length : Int) - 1)) = true then (gd (ok64 (places - 1)) ((z003 x4.to 1 (places - 1)).bind fun x8 => (if x8 = true then ((z05j x4.if_).bind fun x10 => (if x10 = true then (if (true == (decide (x4.if_.op = 0))) = true then (z019 t s0_0 x4 (z0ag s0_0 (z01n t places kx0_0 n0)) FUEL 0) else (some false)) else (some false))) else (some false)))) else (gd (ok64 (places - 1)) ((z003 x4.to 1 (places - 1)).bind fun x19 => (if x19 = true then ((z05j x4.if_).bind fun x21 => (if x21 = true then (if ((decide (t.split = 1)) == (decide (x4.if_.op = 0))) = true then (z019 t s0_0 x4 (z0ah s0_0 (z01n t places kx0_0 n0)) FUEL 0) else (some false)) else (some false))) else (some false))))))) else (kx0_0)
def z06x (t : GTask) (places : Int) : Option Bool := (z003 (t.out.length : Int) 1 3).bind fun x1 => (if x1 = true then (z01n t places z0ai FUEL 0) else (some false))
def z00h : Con := ⟨162, [.v (.s .task) false, .v .I false], [(.B, true)], [], fun x => z06x x.1 x.2.1⟩
def z0nu : Fs := ⟨[z00p, z09e], [], []⟩
theorem z095 : z0nu.Ok Try.prog := (fsK z012 (fsK z0kk fs0))
def z08s : Tmpl := ⟨[(1, .c .i), (2, .c (.bx 2 0)), (5, .c .i), (6, .c (.bx 6 0)), (8, .c .i)], [(2, .boxT (.s .task)), (6, .boxT (.s .flow))]⟩
def z08e : Tmpl := ⟨[(1, .c .i), (2, .c (.bx 2 0)), (5, .c .i)], [(2, .boxT (.s .task))]⟩
def z0gt (av : AV) (x : HP z00h.ps) (n : Nat) (v : z08s.den) (K : Ks (CR z00h)) : Option (CR z00h) := z019 v.2.1 v.1.2.2.1 v.2.2.1 (z08e.at none ((v.1.1, (), v.1.2.2.1, ()), (v.2.1, ())) (K (.exit 2))) n v.1.2.2.2.2.1
def z08n (av : AV) (x : HP z00h.ps) : Hdl (CR z00h) := hnd [] z08s (z0gt av x)
theorem z0h0 : LP z00h Try.f162 [0, 0] z08n := lp_ok (W := []) (H := []) (xs := [z08e]) z095 trivial rfl (fun av x v K => by kernel_rfl) (fun av x n v K => by kernel_rfl)
def z0ct : Tmpl := ⟨[(1, .c .i), (2, .c (.bx 2 0)), (5, .c .i)], [(2, .boxT (.s .task))]⟩
def z0b2 : Tmpl := ⟨[], []⟩
def z0ix (av : AV) (x : HP z00h.ps) (n : Nat) (v : z0ct.den) (K : Ks (CR z00h)) : Option (CR z00h) := z01n v.2.1 v.1.1 (z0b2.at none ((), ()) (K (.exit 0))) n v.1.2.2.1
def z0bq (av : AV) (x : HP z00h.ps) : Hdl (CR z00h) := hnd [] z0ct (z0ix av x)
theorem z0ka : LP z00h Try.f162 [0] z0bq := lp_ok (W := []) (H := [z08n]) (xs := [z0b2]) z095 ⟨z0h0, trivial⟩ rfl (fun av x v K => by kernel_rfl) (fun av x n v K => by kernel_rfl)
theorem z0p3 : z00h.Ok Try.prog := fn_ok (k := z00h) (fn := Try.f162) (W := []) (H := [z0bq]) Try.func162 z095 ⟨z0ka, trivial⟩ rfl rfl (fun av x => by kernel_rfl)
def z085 (t : GTask) (places : Int) (tasks : Int) : Option Bool := (z003 t.join 1 3).bind fun x1 => (if x1 = true then ((z003 t.split 1 3).bind fun x3 => (if x3 = true then (gd (ok64 (places - 1)) ((z054 t.in_ 1 3 0 (places - 1)).bind fun x6 => (if x6 = true then ((z05k t.in_ 1).bind fun x8 => (if x8 = true then (some false) else ((z06x t places).bind fun x10 => (if x10 = true then (gd (ok64 (places - 1)) ((z054 t.clear 0 places 2 (places - 1)).bind fun x13 => (if x13 = true then ((z003 t.role 1 3).bind fun x15 => (if x15 = true then (gd (ok64 (tasks - 1)) ((z003 t.apart (-1) (tasks - 1)).bind fun x18 => (if x18 = true then ((z003 t.all 1 3).bind fun x20 => (if x20 = true then ((z003 t.need 1 t.all).bind fun x22 => (some x22)) else (some false))) else (some false)))) else (some false))) else (some false)))) else (some false))))) else (some false)))) else (some false))) else (some false))
def z0bz : Con := ⟨140, [.v (.s .task) false, .v .I false, .v .I false], [(.B, true)], [], fun x => z085 x.1 x.2.1 x.2.2.1⟩
def z0qa : Fs := ⟨[z00p, z01z, z02b, z00h], [], []⟩
theorem z0qo : z0qa.Ok Try.prog := (fsK z012 (fsK z0p4 (fsK z0f4 (fsK z0p3 fs0))))
theorem z0rb : z0bz.Ok Try.prog := fn_ok (k := z0bz) (fn := Try.f140) (W := []) (H := []) Try.func140 z0qo trivial rfl rfl (fun av x => by kernel_rfl)
def z0dw  : Option Bool := some true
def z03n (n : GNet) (kx0_0 : Option Bool) : Nat → Int → Option Bool
  | 0, _ => none
  | n0 + 1, s0_0 => if decide (s0_0 < (n.tasks.length : Int)) = true then ((getI n.tasks s0_0).bind fun x6 => ((z085 x6 n.places (n.tasks.length : Int)).bind fun x7 => (if x7 = true then (gd (ok64 (s0_0 + 1)) ((z03n n kx0_0 n0) (s0_0 + 1))) else (some false)))) else (kx0_0)
def z02c (n : GNet) : Option Bool := (z003 n.places 2 8).bind fun x1 => (if x1 = true then ((z003 (n.tasks.length : Int) 1 6).bind fun x3 => (if x3 = true then (z03n n z0dw FUEL 0) else (some false))) else (some false))
def z01j : Con := ⟨105, [.v (.s .net) false], [(.B, true)], [], fun x => z02c x.1⟩
def z0si : Fs := ⟨[z00p, z0bz], [], []⟩
theorem z0jl : z0si.Ok Try.prog := (fsK z012 (fsK z0rb fs0))
def z0gn : Tmpl := ⟨[(1, .c (.bx 1 0)), (3, .c .i)], [(1, .boxT (.s .net))]⟩
def z0ei : Tmpl := ⟨[], []⟩
def z0n2 (av : AV) (x : HP z01j.ps) (n : Nat) (v : z0gn.den) (K : Ks (CR z01j)) : Option (CR z01j) := z03n v.2.1 (z0ei.at none ((), ()) (K (.exit 0))) n v.1.2.1
def z0fu (av : AV) (x : HP z01j.ps) : Hdl (CR z01j) := hnd [] z0gn (z0n2 av x)
theorem z0oi : LP z01j Try.f105 [0] z0fu := lp_ok (W := []) (H := []) (xs := [z0ei]) z0jl trivial rfl (fun av x v K => by kernel_rfl) (fun av x n v K => by kernel_rfl)
theorem z09u : z01j.Ok Try.prog := fn_ok (k := z01j) (fn := Try.f105) (W := []) (H := [z0fu]) Try.func105 z0jl ⟨z0oi, trivial⟩ rfl rfl (fun av x => by kernel_rfl)
def z05l (s1_0 : Int) (bk1 : Int → List Bool → Option (List Bool)) (l3_1 : List Bool) : Option (List Bool) := gd (ok64 (s1_0 + 1)) (bk1 (s1_0 + 1) l3_1)
def z05m (s1_0 : Int) (bk1 : Int → List Bool → Option (List Bool)) (l3_1 : List Bool) : Option (List Bool) := gd (ok64 (s1_0 + 1)) (bk1 (s1_0 + 1) l3_1)
def z05n (s1_0 : Int) (bk1 : Int → List Bool → Option (List Bool)) (l3_1 : List Bool) : Option (List Bool) := gd (ok64 (s1_0 + 1)) (bk1 (s1_0 + 1) l3_1)
def z00r (n : GNet) (but : Int) (s1_0 : Int) (s2_0 : Bool) (kx3_0 : List Bool → Option (List Bool)) (kx3_1 : List Bool → Option (List Bool)) (kx3_2 : List Bool → Option (List Bool)) : Nat → Int → List Bool → Option (List Bool)
  | 0, _, _ => none
  | n3 + 1, s3_0, l3_1 => (getI n.tasks s1_0).bind fun x12 => (if decide (s3_0 < (x12.out.length : Int)) = true then (if s2_0 = true then (if decide (s1_0 = but) = true then (kx3_0 l3_1) else ((getI n.tasks s1_0).bind fun x17 => ((getI x17.out s3_0).bind fun x18 => ((getI l3_1 x18.to).bind fun x19 => (gd (ok64 (s3_0 + 1)) ((z00r n but s1_0 s2_0 kx3_0 kx3_1 kx3_2 n3) (s3_0 + 1) (l3_1.set x18.to.toNat true))))))) else (kx3_1 l3_1)) else (kx3_2 l3_1))
def z08o (n : GNet) (but : Int) (s1_0 : Int) (l1_1 : List Bool) (bk1 : Int → List Bool → Option (List Bool)) (s2_0 : Bool) : Option (List Bool) := z00r n but s1_0 s2_0 (z05l s1_0 bk1) (z05m s1_0 bk1) (z05n s1_0 bk1) FUEL 0 l1_1
def z00y (n : GNet) (s1_0 : Int) (l1_1 : List Bool) (kx2_0 : Bool → Option (List Bool)) : Nat → Bool → Int → Option (List Bool)
  | 0, _, _ => none
  | n2 + 1, s2_0, s2_1 => (getI n.tasks s1_0).bind fun x4 => (if decide (s2_1 < (x4.in_.length : Int)) = true then (if s2_0 = true then (gd (ok64 (s2_1 + 1)) ((z00y n s1_0 l1_1 kx2_0 n2) true (s2_1 + 1))) else ((getI n.tasks s1_0).bind fun x8 => ((getI x8.in_ s2_1).bind fun x9 => ((getI l1_1 x9).bind fun x10 => (gd (ok64 (s2_1 + 1)) ((z00y n s1_0 l1_1 kx2_0 n2) x10 (s2_1 + 1))))))) else (kx2_0 s2_0))
def z08p (s0_0 : Int) (bk0 : Int → List Bool → Option (List Bool)) (l1_1 : List Bool) : Option (List Bool) := gd (ok64 (s0_0 + 1)) (bk0 (s0_0 + 1) l1_1)
def z008 (n : GNet) (but : Int) (kx1_0 : List Bool → Option (List Bool)) : Nat → Int → List Bool → Option (List Bool)
  | 0, _, _ => none
  | n1 + 1, s1_0, l1_1 => if decide (s1_0 < (n.tasks.length : Int)) = true then (z00y n s1_0 l1_1 (z08o n but s1_0 l1_1 (z008 n but kx1_0 n1)) FUEL false 0) else (kx1_0 l1_1)
def z08q (l0_1 : List Bool) : Option (List Bool) := some l0_1
def z024 (n : GNet) (but : Int) (kx0_0 : List Bool → Option (List Bool)) : Nat → Int → List Bool → Option (List Bool)
  | 0, _, _ => none
  | n0 + 1, s0_0, l0_1 => if decide (s0_0 < n.places) = true then (z008 n but (z08p s0_0 (z024 n but kx0_0 n0)) FUEL 0 l0_1) else (kx0_0 l0_1)
def z063 (n : GNet) (marked : List Bool) (but : Int) : Option (List Bool) := gd (([] : List Bool).length + marked.length ≤ SMALL) (z024 n but z08q FUEL 0 (([] : List Bool) ++ marked))
def z001 : Con := ⟨173, [.v (.s .net) false, .v (.sl .B) false, .v .I false], [((.sl .B), true)], [], fun x => z063 x.1 x.2.1 x.2.2.1⟩
def z0lo : Fs := ⟨[], [], []⟩
theorem z049 : z0lo.Ok Try.prog := fs0
def z06l : Tmpl := ⟨[(2, .c .i), (3, .c (.bx 3 0)), (7, .c (.ref 15)), (8, .c .i), (9, .c .i), (10, .c .b), (11, .c .i)], [(3, .boxT (.s .net)), (15, .arr .B true)]⟩
def z06c : Tmpl := ⟨[(2, .c .i), (3, .c (.bx 3 0)), (7, .c (.ref 15)), (8, .c .i), (9, .c .i), (10, .c .b)], [(3, .boxT (.s .net)), (15, .arr .B true)]⟩
def z0d8 (av : AV) (x : HP z001.ps) (n : Nat) (v : z06l.den) (K : Ks (CR z001)) : Option (CR z001) := z00y v.2.1 v.1.2.2.2.2.1 v.2.2.1 (fun s2_0 => z06c.at none ((v.1.1, (), (), v.1.2.2.2.1, v.1.2.2.2.2.1, s2_0, ()), (v.2.1, v.2.2.1, ())) (K (.exit 4))) n v.1.2.2.2.2.2.1 v.1.2.2.2.2.2.2.1
def z06h (av : AV) (x : HP z001.ps) : Hdl (CR z001) := hnd [] z06l (z0d8 av x)
theorem z0de : LP z001 Try.f173 [0, 0, 0] z06h := lp_ok (W := []) (H := []) (xs := [z06c]) z049 trivial rfl (fun av x v K => by kernel_rfl) (fun av x n v K => by kernel_rfl)
def z06m : Tmpl := ⟨[(2, .c .i), (3, .c (.bx 3 0)), (7, .c (.ref 15)), (8, .c .i), (9, .c .i), (10, .c .b), (12, .c .i)], [(3, .boxT (.s .net)), (15, .arr .B true)]⟩
def z02r : Tmpl := ⟨[(2, .c .i), (3, .c (.bx 3 0)), (7, .c (.ref 15)), (8, .c .i), (9, .c .i)], [(3, .boxT (.s .net)), (15, .arr .B true)]⟩
def z0d9 (av : AV) (x : HP z001.ps) (n : Nat) (v : z06m.den) (K : Ks (CR z001)) : Option (CR z001) := z00r v.2.1 v.1.1 v.1.2.2.2.2.1 v.1.2.2.2.2.2.1 (fun l3_1 => z02r.at none ((v.1.1, (), (), v.1.2.2.2.1, v.1.2.2.2.2.1, ()), (v.2.1, l3_1, ())) (K (.exit 6))) (fun l3_1 => z02r.at none ((v.1.1, (), (), v.1.2.2.2.1, v.1.2.2.2.2.1, ()), (v.2.1, l3_1, ())) (K (.exit 6))) (fun l3_1 => z02r.at none ((v.1.1, (), (), v.1.2.2.2.1, v.1.2.2.2.2.1, ()), (v.2.1, l3_1, ())) (K (.exit 6))) n v.1.2.2.2.2.2.2.1 v.2.2.1
def z06i (av : AV) (x : HP z001.ps) : Hdl (CR z001) := hnd [] z06m (z0d9 av x)
theorem z0df : LP z001 Try.f173 [0, 0, 1] z06i := lp_ok (W := []) (H := []) (xs := [z02r]) z049 trivial rfl (fun av x v K => by kernel_rfl) (fun av x n v K => by kernel_rfl)
def z08c : Tmpl := ⟨[(2, .c .i), (3, .c (.bx 3 0)), (7, .c (.ref 15)), (8, .c .i), (9, .c .i)], [(3, .boxT (.s .net)), (15, .arr .B true)]⟩
def z07l : Tmpl := ⟨[(2, .c .i), (3, .c (.bx 3 0)), (7, .c (.ref 15)), (8, .c .i)], [(3, .boxT (.s .net)), (15, .arr .B true)]⟩
def z0fb (av : AV) (x : HP z001.ps) (n : Nat) (v : z08c.den) (K : Ks (CR z001)) : Option (CR z001) := z008 v.2.1 v.1.1 (fun l1_1 => z07l.at none ((v.1.1, (), (), v.1.2.2.2.1, ()), (v.2.1, l1_1, ())) (K (.exit 2))) n v.1.2.2.2.2.1 v.2.2.1
def z07r (av : AV) (x : HP z001.ps) : Hdl (CR z001) := hnd [] z08c (z0fb av x)
theorem z0g5 : LP z001 Try.f173 [0, 0] z07r := lp_ok (W := []) (H := [z06h, z06i]) (xs := [z07l]) z049 ⟨z0de, z0df, trivial⟩ rfl (fun av x v K => by kernel_rfl) (fun av x n v K => by kernel_rfl)
def z0ao : Tmpl := ⟨[(2, .c .i), (3, .c (.bx 3 0)), (7, .c (.ref 15)), (8, .c .i)], [(3, .boxT (.s .net)), (15, .arr .B true)]⟩
def z08x : Tmpl := ⟨[(7, .c (.ref 15))], [(15, .arr .B true)]⟩
def z0hx (av : AV) (x : HP z001.ps) (n : Nat) (v : z0ao.den) (K : Ks (CR z001)) : Option (CR z001) := z024 v.2.1 v.1.1 (fun l0_1 => z08x.at none (((), ()), (l0_1, ())) (K (.exit 0))) n v.1.2.2.2.1 v.2.2.1
def z0a6 (av : AV) (x : HP z001.ps) : Hdl (CR z001) := hnd [] z0ao (z0hx av x)
theorem z0i8 : LP z001 Try.f173 [0] z0a6 := lp_ok (W := []) (H := [z07r]) (xs := [z08x]) z049 ⟨z0g5, trivial⟩ rfl (fun av x v K => by kernel_rfl) (fun av x n v K => by kernel_rfl)
theorem z0mb : z001.Ok Try.prog := fn_ok (k := z001) (fn := Try.f173) (W := []) (H := [z0a6]) Try.func173 z049 ⟨z0i8, trivial⟩ rfl rfl (fun av x => by kernel_rfl)
def z07x (kind : Int) : Option Bool := (z013 kind 1 3).bind fun x1 => (some x1)
def z0bt : Con := ⟨142, [.v .I false], [(.B, true)], [], fun x => z07x x.1⟩
def z0px : Fs := ⟨[z03a], [], []⟩
theorem z0qg : z0px.Ok Try.prog := (fsK z044 fs0)
theorem z0r2 : z0bt.Ok Try.prog := fn_ok (k := z0bt) (fn := Try.f142) (W := []) (H := []) Try.func142 z0qg trivial rfl rfl (fun av x => by kernel_rfl)
def z0c4 (role : Int) : Option Bool := (z013 role 1 3).bind fun x1 => (some x1)
def z0bu : Con := ⟨145, [.v .I false], [(.B, true)], [], fun x => z0c4 x.1⟩
def z0py : Fs := ⟨[z03a], [], []⟩
theorem z0qh : z0py.Ok Try.prog := (fsK z044 fs0)
theorem z0r3 : z0bu.Ok Try.prog := fn_ok (k := z0bu) (fn := Try.f145) (W := []) (H := []) Try.func145 z0qh trivial rfl rfl (fun av x => by kernel_rfl)
def z09m (places : Int) (tasks : Int) : Option Bool := (z013 places 2 8).bind fun x1 => (if x1 = true then ((z013 tasks 1 6).bind fun x3 => (some x3)) else (some false))
def z09d : Con := ⟨106, [.v .I false, .v .I false], [(.B, true)], [], fun x => z09m x.1 x.2.1⟩
def z0nk : Fs := ⟨[z03a], [], []⟩
theorem z0o5 : z0nk.Ok Try.prog := (fsK z044 fs0)
theorem z0ou : z09d.Ok Try.prog := fn_ok (k := z09d) (fn := Try.f106) (W := []) (H := []) Try.func106 z0o5 trivial rfl rfl (fun av x => by kernel_rfl)
def z00j (n : GNet) (t : Int) : Option Bool := gd (ok64 ((n.tasks.length : Int) - 1)) ((z013 t 0 ((n.tasks.length : Int) - 1)).bind fun x2 => (some x2))
def z01q : Con := ⟨51, [.v (.s .net) false, .v .I false], [(.B, true)], [], fun x => z00j x.1 x.2.1⟩
def z0da : Fs := ⟨[z03a], [], []⟩
theorem z0dc : z0da.Ok Try.prog := (fsK z044 fs0)
theorem z047 : z01q.Ok Try.prog := fn_ok (k := z01q) (fn := Try.f51) (W := []) (H := []) Try.func51 z0dc trivial rfl rfl (fun av x => by kernel_rfl)
def z0dv  : Option Bool := some true
def z03m (marks : List Int) (kx0_0 : Option Bool) : Nat → Int → Option Bool
  | 0, _ => none
  | n0 + 1, s0_0 => if decide (s0_0 < (marks.length : Int)) = true then ((getI marks s0_0).bind fun x5 => ((z003 x5 0 4).bind fun x6 => (if x6 = true then (gd (ok64 (s0_0 + 1)) ((z03m marks kx0_0 n0) (s0_0 + 1))) else (some false)))) else (kx0_0)
def z04q (n : GNet) (marks : List Int) : Option Bool := (z02c n).bind fun x1 => (if x1 = true then (if decide ((marks.length : Int) = n.places) = true then (z03m marks z0dv FUEL 0) else (some false)) else (some false))
def z01i : Con := ⟨53, [.v (.s .net) false, .v (.sl .I) false], [(.B, true)], [], fun x => z04q x.1 x.2.1⟩
def z0sh : Fs := ⟨[z01j, z00p], [], []⟩
theorem z0jk : z0sh.Ok Try.prog := (fsK z09u (fsK z012 fs0))
def z0gm : Tmpl := ⟨[(1, .c (.s .I)), (5, .c .i)], []⟩
def z0eh : Tmpl := ⟨[], []⟩
def z0n1 (av : AV) (x : HP z01i.ps) (n : Nat) (v : z0gm.den) (K : Ks (CR z01i)) : Option (CR z01i) := z03m v.1.1 (z0eh.at none ((), ()) (K (.exit 0))) n v.1.2.1
def z0ft (av : AV) (x : HP z01i.ps) : Hdl (CR z01i) := hnd [] z0gm (z0n1 av x)
theorem z0oh : LP z01i Try.f53 [0] z0ft := lp_ok (W := []) (H := []) (xs := [z0eh]) z0jk trivial rfl (fun av x v K => by kernel_rfl) (fun av x n v K => by kernel_rfl)
theorem z09t : z01i.Ok Try.prog := fn_ok (k := z01i) (fn := Try.f53) (W := []) (H := [z0ft]) Try.func53 z0jk ⟨z0oh, trivial⟩ rfl rfl (fun av x => by kernel_rfl)
def z055 (s0_0 : Bool) (s0_1 : Bool) : Option (Bool × Bool) := some (s0_0, s0_1)
def z00v (marks : List Int) (list : List Int) (kx0_0 : Bool → Bool → Option (Bool × Bool)) : Nat → Bool → Bool → Int → Option (Bool × Bool)
  | 0, _, _, _ => none
  | n0 + 1, s0_0, s0_1, s0_2 => if decide (s0_2 < (list.length : Int)) = true then (if s0_0 = true then (if s0_1 = true then ((getI list s0_2).bind fun x4 => ((getI marks x4).bind fun x5 => (gd (ok64 (s0_2 + 1)) ((z00v marks list kx0_0 n0) true (decide (0 < x5)) (s0_2 + 1))))) else (gd (ok64 (s0_2 + 1)) ((z00v marks list kx0_0 n0) true false (s0_2 + 1)))) else ((getI list s0_2).bind fun x8 => ((getI marks x8).bind fun x9 => (if s0_1 = true then ((getI list s0_2).bind fun x11 => ((getI marks x11).bind fun x12 => (gd (ok64 (s0_2 + 1)) ((z00v marks list kx0_0 n0) (decide (0 < x9)) (decide (0 < x12)) (s0_2 + 1))))) else (gd (ok64 (s0_2 + 1)) ((z00v marks list kx0_0 n0) (decide (0 < x9)) false (s0_2 + 1))))))) else (kx0_0 s0_0 s0_1)
def z086 (marks : List Int) (list : List Int) : Option (Bool × Bool) := z00v marks list z055 FUEL false true 0
def z02o : Con := ⟨167, [.v (.sl .I) false, .v (.sl .I) false], [(.B, true), (.B, true)], [], fun x => z086 x.1 x.2.1⟩
def z0qc : Fs := ⟨[], [], []⟩
theorem z0hd : z0qc.Ok Try.prog := fs0
def z0eb : Tmpl := ⟨[(0, .c (.s .I)), (1, .c (.s .I)), (6, .c .b), (7, .c .b), (8, .c .i)], []⟩
def z0d2 : Tmpl := ⟨[(6, .c .b), (7, .c .b)], []⟩
def z0le (av : AV) (x : HP z02o.ps) (n : Nat) (v : z0eb.den) (K : Ks (CR z02o)) : Option (CR z02o) := z00v v.1.1 v.1.2.1 (fun s0_0 s0_1 => z0d2.at none ((s0_0, s0_1, ()), ()) (K (.exit 0))) n v.1.2.2.1 v.1.2.2.2.1 v.1.2.2.2.2.1
def z0dr (av : AV) (x : HP z02o.ps) : Hdl (CR z02o) := hnd [] z0eb (z0le av x)
theorem z0m3 : LP z02o Try.f167 [0] z0dr := lp_ok (W := []) (H := []) (xs := [z0d2]) z0hd trivial rfl (fun av x v K => by kernel_rfl) (fun av x n v K => by kernel_rfl)
theorem z0rc : z02o.Ok Try.prog := fn_ok (k := z02o) (fn := Try.f167) (W := []) (H := [z0dr]) Try.func167 z0hd ⟨z0m3, trivial⟩ rfl rfl (fun av x => by kernel_rfl)
def z026 (s1_0 : Int) (bk1 : Int → List Bool → Option Bool) (l2_1 : List Bool) : Option Bool := gd (ok64 (s1_0 + 1)) (bk1 (s1_0 + 1) l2_1)
def z01d (p2_0 : List GFlow) (kx2_0 : List Bool → Option Bool) : Nat → Int → List Bool → Option Bool
  | 0, _, _ => none
  | n2 + 1, s2_0, l2_1 => if decide (s2_0 < (p2_0.length : Int)) = true then ((getI p2_0 s2_0).bind fun x15 => ((getI l2_1 x15.to).bind fun x16 => (gd (ok64 (s2_0 + 1)) ((z01d p2_0 kx2_0 n2) (s2_0 + 1) (l2_1.set x15.to.toNat true))))) else (kx2_0 l2_1)
def z05o  : Option Bool := some false
def z011 (n : GNet) (marks : List Int) (t : Int) (x19 : (List Bool)) (kx3_0 : Option Bool) : Nat → Int → Option Bool
  | 0, _ => none
  | n3 + 1, s3_0 => (getI n.tasks t).bind fun x20 => (if decide (s3_0 < (x20.in_.length : Int)) = true then ((getI n.tasks t).bind fun x22 => ((getI x22.in_ s3_0).bind fun x23 => ((getI marks x23).bind fun x24 => (if decide (x24 = 0) = true then ((getI n.tasks t).bind fun x26 => ((getI x26.in_ s3_0).bind fun x27 => ((getI x19 x27).bind fun x28 => (if x28 = true then (some true) else (gd (ok64 (s3_0 + 1)) ((z011 n marks t x19 kx3_0 n3) (s3_0 + 1))))))) else (gd (ok64 (s3_0 + 1)) ((z011 n marks t x19 kx3_0 n3) (s3_0 + 1))))))) else (kx3_0))
def z00z (n : GNet) (marks : List Int) (t : Int) (l1_1 : List Bool) : Option Bool := (z063 n l1_1 t).bind fun x19 => (z011 n marks t x19 z05o FUEL 0)
def z00i (n : GNet) (busy : List GItem) (kx1_0 : List Bool → Option Bool) : Nat → Int → List Bool → Option Bool
  | 0, _, _ => none
  | n1 + 1, s1_0, l1_1 => if decide (s1_0 < (busy.length : Int)) = true then ((getI busy s1_0).bind fun x12 => ((getI n.tasks x12.task).bind fun x13 => (z01d x13.out (z026 s1_0 (z00i n busy kx1_0 n1)) FUEL 0 l1_1))) else (kx1_0 l1_1)
def z025 (n : GNet) (marks : List Int) (busy : List GItem) (t : Int) (l0_1 : List Bool) : Option Bool := z00i n busy (z00z n marks t) FUEL 0 l0_1
def z010 (n : GNet) (marks : List Int) (t : Int) (kx0_0 : List Bool → Option Bool) : Nat → Int → List Bool → Option Bool
  | 0, _, _ => none
  | n0 + 1, s0_0, l0_1 => if decide (s0_0 < n.places) = true then ((getI marks s0_0).bind fun x3 => (if decide (0 < x3) = true then ((getI n.tasks t).bind fun x5 => ((z05k x5.in_ s0_0).bind fun x6 => ((getI l0_1 s0_0).bind fun x7 => (gd (ok64 (s0_0 + 1)) ((z010 n marks t kx0_0 n0) (s0_0 + 1) (l0_1.set s0_0.toNat (!x6))))))) else ((getI l0_1 s0_0).bind fun x9 => (gd (ok64 (s0_0 + 1)) ((z010 n marks t kx0_0 n0) (s0_0 + 1) (l0_1.set s0_0.toNat false)))))) else (kx0_0 l0_1)
def z064 (n : GNet) (marks : List Int) (busy : List GItem) (t : Int) : Option Bool := gd ((0 : Int) ≤ n.places ∧ n.places ≤ (1000000000 : Int)) (z010 n marks t (z025 n marks busy t) FUEL 0 (List.replicate n.places.toNat false))
def z002 : Con := ⟨168, [.v (.s .net) false, .v (.sl .I) false, .v (.sl (.s .item)) false, .v .I false], [(.B, true)], [], fun x => z064 x.1 x.2.1 x.2.2.1 x.2.2.2.1⟩
def z0lp : Fs := ⟨[z02b, z001], [], []⟩
theorem z04a : z0lp.Ok Try.prog := (fsK z0f4 (fsK z0mb fs0))
def z08d : Tmpl := ⟨[(1, .c (.s .I)), (2, .c (.s (.s .item))), (3, .c .i), (4, .c (.bx 4 0)), (9, .c (.ref 18)), (11, .c .i), (12, .c (.s (.s .flow))), (13, .c .i)], [(4, .boxT (.s .net)), (18, .arr .B true)]⟩
def z07m : Tmpl := ⟨[(1, .c (.s .I)), (2, .c (.s (.s .item))), (3, .c .i), (4, .c (.bx 4 0)), (9, .c (.ref 18)), (11, .c .i)], [(4, .boxT (.s .net)), (18, .arr .B true)]⟩
def z0fc (av : AV) (x : HP z002.ps) (n : Nat) (v : z08d.den) (K : Ks (CR z002)) : Option (CR z002) := z01d v.1.2.2.2.2.2.2.1 (fun l2_1 => z07m.at none ((v.1.1, v.1.2.1, v.1.2.2.1, (), (), v.1.2.2.2.2.2.1, ()), (v.2.1, l2_1, ())) (K (.exit 4))) n v.1.2.2.2.2.2.2.2.1 v.2.2.1
def z07s (av : AV) (x : HP z002.ps) : Hdl (CR z002) := hnd [] z08d (z0fc av x)
theorem z0g6 : LP z002 Try.f168 [1, 0] z07s := lp_ok (W := []) (H := []) (xs := [z07m]) z04a trivial rfl (fun av x v K => by kernel_rfl) (fun av x n v K => by kernel_rfl)
def z0ap : Tmpl := ⟨[(1, .c (.s .I)), (2, .c (.s (.s .item))), (3, .c .i), (4, .c (.bx 4 0)), (9, .c (.ref 18)), (10, .c .i)], [(4, .boxT (.s .net)), (18, .arr .B true)]⟩
def z08y : Tmpl := ⟨[(1, .c (.s .I)), (2, .c (.s (.s .item))), (3, .c .i), (4, .c (.bx 4 0)), (9, .c (.ref 18))], [(4, .boxT (.s .net)), (18, .arr .B true)]⟩
def z0hy (av : AV) (x : HP z002.ps) (n : Nat) (v : z0ap.den) (K : Ks (CR z002)) : Option (CR z002) := z010 v.2.1 v.1.1 v.1.2.2.1 (fun l0_1 => z08y.at none ((v.1.1, v.1.2.1, v.1.2.2.1, (), (), ()), (v.2.1, l0_1, ())) (K (.exit 0))) n v.1.2.2.2.2.2.1 v.2.2.1
def z0a7 (av : AV) (x : HP z002.ps) : Hdl (CR z002) := hnd [] z0ap (z0hy av x)
theorem z0i9 : LP z002 Try.f168 [0] z0a7 := lp_ok (W := []) (H := []) (xs := [z08y]) z04a trivial rfl (fun av x v K => by kernel_rfl) (fun av x n v K => by kernel_rfl)
def z0aq : Tmpl := ⟨[(1, .c (.s .I)), (2, .c (.s (.s .item))), (3, .c .i), (4, .c (.bx 4 0)), (9, .c (.ref 18)), (11, .c .i)], [(4, .boxT (.s .net)), (18, .arr .B true)]⟩
def z08z : Tmpl := ⟨[(1, .c (.s .I)), (3, .c .i), (4, .c (.bx 4 0)), (9, .c (.ref 18))], [(4, .boxT (.s .net)), (18, .arr .B true)]⟩
def z0hz (av : AV) (x : HP z002.ps) (n : Nat) (v : z0aq.den) (K : Ks (CR z002)) : Option (CR z002) := z00i v.2.1 v.1.2.1 (fun l1_1 => z08z.at none ((v.1.1, v.1.2.2.1, (), (), ()), (v.2.1, l1_1, ())) (K (.exit 2))) n v.1.2.2.2.2.2.1 v.2.2.1
def z0a8 (av : AV) (x : HP z002.ps) : Hdl (CR z002) := hnd [] z0aq (z0hz av x)
theorem z0ia : LP z002 Try.f168 [1] z0a8 := lp_ok (W := []) (H := [z07s]) (xs := [z08z]) z04a ⟨z0g6, trivial⟩ rfl (fun av x v K => by kernel_rfl) (fun av x n v K => by kernel_rfl)
def z0ar : Tmpl := ⟨[(1, .c (.s .I)), (3, .c .i), (4, .c (.bx 4 0)), (14, .c (.ref 76)), (15, .c .i)], [(4, .boxT (.s .net)), (76, .arr .B true)]⟩
def z090 : Tmpl := ⟨[], []⟩
def z0i0 (av : AV) (x : HP z002.ps) (n : Nat) (v : z0ar.den) (K : Ks (CR z002)) : Option (CR z002) := z011 v.2.1 v.1.1 v.1.2.1 v.2.2.1 (z090.at none ((), ()) (K (.exit 6))) n v.1.2.2.2.2.1
def z0a9 (av : AV) (x : HP z002.ps) : Hdl (CR z002) := hnd [] z0ar (z0i0 av x)
theorem z0ib : LP z002 Try.f168 [2] z0a9 := lp_ok (W := []) (H := []) (xs := [z090]) z04a trivial rfl (fun av x v K => by kernel_rfl) (fun av x n v K => by kernel_rfl)
theorem z0mc : z002.Ok Try.prog := fn_ok (k := z002) (fn := Try.f168) (W := []) (H := [z0a7, z0a8, z0a9]) Try.func168 z04a ⟨z0i9, z0ia, z0ib, trivial⟩ rfl rfl (fun av x => by kernel_rfl)
def z09p (n : GNet) (marks : List Int) (busy : List GItem) (t : Int) : Option Bool := (getI n.tasks t).bind fun x1 => ((z086 marks x1.in_).bind fun x2 => ((getI n.tasks t).bind fun x3 => (if decide (x3.join = 1) = true then (some x2.2) else (if decide (x3.join = 2) = true then (some x2.1) else (if x2.1 = true then (if x2.2 = true then (some true) else ((z064 n marks busy t).bind fun x8 => (some (!x8)))) else (some false))))))
def z0ex : Con := ⟨152, [.v (.s .net) false, .v (.sl .I) false, .v (.sl (.s .item)) false, .v .I false], [(.B, true)], [], fun x => z09p x.1 x.2.1 x.2.2.1 x.2.2.2.1⟩
def z0sm : Fs := ⟨[z02o, z002], [], []⟩
theorem z0su : z0sm.Ok Try.prog := (fsK z0rc (fsK z0mc fs0))
theorem z0td : z0ex.Ok Try.prog := fn_ok (k := z0ex) (fn := Try.f152) (W := []) (H := []) Try.func152 z0su trivial rfl rfl (fun av x => by kernel_rfl)
def z0c9  : Option Bool := some true
def z035 (n : GNet) (busy : List GItem) (kx0_0 : Option Bool) : Nat → Int → Option Bool
  | 0, _ => none
  | n0 + 1, s0_0 => if decide (s0_0 < (busy.length : Int)) = true then ((getI busy s0_0).bind fun x3 => (gd (ok64 ((n.tasks.length : Int) - 1)) ((z003 x3.task 0 ((n.tasks.length : Int) - 1)).bind fun x5 => (if x5 = true then ((getI busy s0_0).bind fun x7 => ((z003 x7.who 1 4).bind fun x8 => (if x8 = true then ((getI busy s0_0).bind fun x10 => ((getI busy s0_0).bind fun x11 => ((getI n.tasks x11.task).bind fun x12 => (gd (ok64 (x12.need - 1)) ((z003 x10.did 0 (x12.need - 1)).bind fun x14 => (if x14 = true then (gd (ok64 (s0_0 + 1)) ((z035 n busy kx0_0 n0) (s0_0 + 1))) else (some false))))))) else (some false)))) else (some false))))) else (kx0_0)
def z069 (n : GNet) (busy : List GItem) : Option Bool := if decide (6 < (busy.length : Int)) = true then (some false) else (z035 n busy z0c9 FUEL 0)
def z022 : Con := ⟨54, [.v (.s .net) false, .v (.sl (.s .item)) false], [(.B, true)], [], fun x => z069 x.1 x.2.1⟩
def z0qb : Fs := ⟨[z00p], [], []⟩
theorem z0hc : z0qb.Ok Try.prog := (fsK z012 fs0)
def z0ea : Tmpl := ⟨[(1, .c (.s (.s .item))), (2, .c (.bx 2 0)), (5, .c .i)], [(2, .boxT (.s .net))]⟩
def z0d1 : Tmpl := ⟨[], []⟩
def z0ld (av : AV) (x : HP z022.ps) (n : Nat) (v : z0ea.den) (K : Ks (CR z022)) : Option (CR z022) := z035 v.2.1 v.1.1 (z0d1.at none ((), ()) (K (.exit 0))) n v.1.2.2.1
def z0dq (av : AV) (x : HP z022.ps) : Hdl (CR z022) := hnd [] z0ea (z0ld av x)
theorem z0m2 : LP z022 Try.f54 [0] z0dq := lp_ok (W := []) (H := []) (xs := [z0d1]) z0hc trivial rfl (fun av x v K => by kernel_rfl) (fun av x n v K => by kernel_rfl)
theorem z0hj : z022.Ok Try.prog := fn_ok (k := z022) (fn := Try.f54) (W := []) (H := [z0dq]) Try.func54 z0hc ⟨z0m2, trivial⟩ rfl rfl (fun av x => by kernel_rfl)
def z067 (n : GNet) (marks : List Int) (busy : List GItem) (t : Int) : Option Bool := (z04q n marks).bind fun x1 => (if x1 = true then ((z069 n busy).bind fun x3 => (if x3 = true then (gd (ok64 ((n.tasks.length : Int) - 1)) ((z003 t 0 ((n.tasks.length : Int) - 1)).bind fun x6 => (if x6 = true then ((z09p n marks busy t).bind fun x8 => (some x8)) else (some false)))) else (some false))) else (some false))
def z07t : Con := ⟨121, [.v (.s .net) false, .v (.sl .I) false, .v (.sl (.s .item)) false, .v .I false], [(.B, true)], [], fun x => z067 x.1 x.2.1 x.2.2.1 x.2.2.2.1⟩
def z0q4 : Fs := ⟨[z01i, z022, z00p, z0ex], [], []⟩
theorem z0ql : z0q4.Ok Try.prog := (fsK z09t (fsK z0hj (fsK z012 (fsK z0td fs0))))
theorem z0hh : z07t.Ok Try.prog := fn_ok (k := z07t) (fn := Try.f121) (W := []) (H := []) Try.func121 z0ql trivial rfl rfl (fun av x => by kernel_rfl)
def z05i (l0_1 : List Int) : Option (List Int) := some l0_1
def z01c (n : GNet) (marks : List Int) (busy : List GItem) (kx0_0 : List Int → Option (List Int)) : Nat → Int → List Int → Option (List Int)
  | 0, _, _ => none
  | n0 + 1, s0_0, l0_1 => if decide (s0_0 < (n.tasks.length : Int)) = true then ((z067 n marks busy s0_0).bind fun x2 => (if x2 = true then (gd (l0_1.length + [s0_0].length ≤ SMALL) (gd (ok64 (s0_0 + 1)) ((z01c n marks busy kx0_0 n0) (s0_0 + 1) (l0_1 ++ [s0_0])))) else (gd (ok64 (s0_0 + 1)) ((z01c n marks busy kx0_0 n0) (s0_0 + 1) l0_1)))) else (kx0_0 l0_1)
def z02u (n : GNet) (marks : List Int) (busy : List GItem) : Option (List Int) := z01c n marks busy z05i FUEL 0 ([] : List Int)
def z014 : Con := ⟨76, [.v (.s .net) false, .v (.sl .I) false, .v (.sl (.s .item)) false], [((.sl .I), true)], [], fun x => z02u x.1 x.2.1 x.2.2.1⟩
def z0lj : Fs := ⟨[z07t], [], []⟩
theorem z0dh : z0lj.Ok Try.prog := (fsK z0hh fs0)
def z0ak : Tmpl := ⟨[(1, .c (.s .I)), (2, .c (.s (.s .item))), (3, .c (.bx 3 0)), (7, .c (.ref 9)), (8, .c .i)], [(3, .boxT (.s .net)), (9, .arr .I true)]⟩
def z08t : Tmpl := ⟨[(7, .c (.ref 9))], [(9, .arr .I true)]⟩
def z0ht (av : AV) (x : HP z014.ps) (n : Nat) (v : z0ak.den) (K : Ks (CR z014)) : Option (CR z014) := z01c v.2.1 v.1.1 v.1.2.1 (fun l0_1 => z08t.at none (((), ()), (l0_1, ())) (K (.exit 0))) n v.1.2.2.2.2.1 v.2.2.1
def z0a2 (av : AV) (x : HP z014.ps) : Hdl (CR z014) := hnd [] z0ak (z0ht av x)
theorem z0i4 : LP z014 Try.f76 [0] z0a2 := lp_ok (W := []) (H := []) (xs := [z08t]) z0dh trivial rfl (fun av x v K => by kernel_rfl) (fun av x n v K => by kernel_rfl)
theorem z0e1 : z014.Ok Try.prog := fn_ok (k := z014) (fn := Try.f76) (W := []) (H := [z0a2]) Try.func76 z0dh ⟨z0i4, trivial⟩ rfl rfl (fun av x => by kernel_rfl)
def z0ac (l0_1 : List Int) (x10 : Int) (x13 : Int) : Option (List Int) := some (l0_1.set x10.toNat (x13 - 1))
def z0ad (l0_1 : List Int) : Option (List Int) := some l0_1
def z01k (n : GNet) (t : Int) (kx0_0 : List Int → Int → Int → Option (List Int)) (kx0_1 : List Int → Option (List Int)) : Nat → Int → List Int → Option (List Int)
  | 0, _, _ => none
  | n0 + 1, s0_0, l0_1 => (getI n.tasks t).bind fun x7 => (if decide (s0_0 < (x7.in_.length : Int)) = true then ((getI n.tasks t).bind fun x9 => ((getI x9.in_ s0_0).bind fun x10 => ((getI l0_1 x10).bind fun x11 => (if decide (0 < x11) = true then ((getI l0_1 x10).bind fun x13 => (gd (ok64 (x13 - 1)) ((getI l0_1 x10).bind fun x15 => ((getI n.tasks t).bind fun x16 => (if decide (x16.join = 2) = true then (kx0_0 l0_1 x10 x13) else (gd (ok64 (s0_0 + 1)) ((z01k n t kx0_0 kx0_1 n0) (s0_0 + 1) (l0_1.set x10.toNat (x13 - 1))))))))) else (gd (ok64 (s0_0 + 1)) ((z01k n t kx0_0 kx0_1 n0) (s0_0 + 1) l0_1)))))) else (kx0_1 l0_1))
def z06r (n : GNet) (marks : List Int) (t : Int) : Option (List Int) := (z04q n marks).bind fun x1 => (if x1 = true then (gd (ok64 ((n.tasks.length : Int) - 1)) ((z003 t 0 ((n.tasks.length : Int) - 1)).bind fun x4 => (if x4 = true then (gd (([] : List Int).length + marks.length ≤ SMALL) (z01k n t z0ac z0ad FUEL 0 (([] : List Int) ++ marks))) else (some ([] : List Int))))) else (some ([] : List Int)))
def z01u : Con := ⟨147, [.v (.s .net) false, .v (.sl .I) false, .v .I false], [((.sl .I), true)], [], fun x => z06r x.1 x.2.1 x.2.2.1⟩
def z0nm : Fs := ⟨[z01i, z00p], [], []⟩
theorem z0fi : z0nm.Ok Try.prog := (fsK z09t (fsK z012 fs0))
def z0cm : Tmpl := ⟨[(2, .c .i), (3, .c (.bx 3 0)), (7, .c (.ref 26)), (8, .c .i)], [(3, .boxT (.s .net)), (26, .arr .I true)]⟩
def z06g : Tmpl := ⟨[(7, .c (.ref 26))], [(26, .arr .I true)]⟩
def z0iq (av : AV) (x : HP z01u.ps) (n : Nat) (v : z0cm.den) (K : Ks (CR z01u)) : Option (CR z01u) := z01k v.2.1 v.1.1 (fun l0_1 x10 x13 => z06g.at none (((), ()), ((l0_1.set x10.toNat (x13 - 1)), ())) (K (.exit 0))) (fun l0_1 => z06g.at none (((), ()), (l0_1, ())) (K (.exit 0))) n v.1.2.2.2.1 v.2.2.1
def z0bj (av : AV) (x : HP z01u.ps) : Hdl (CR z01u) := hnd [] z0cm (z0iq av x)
theorem z0k3 : LP z01u Try.f147 [0] z0bj := lp_ok (W := []) (H := []) (xs := [z06g]) z0fi trivial rfl (fun av x v K => by kernel_rfl) (fun av x n v K => by kernel_rfl)
theorem z0ov : z01u.Ok Try.prog := fn_ok (k := z01u) (fn := Try.f147) (W := []) (H := [z0bj]) Try.func147 z0fi ⟨z0k3, trivial⟩ rfl rfl (fun av x => by kernel_rfl)
def z04b (who : Int) : Option Bool := (z013 who 1 4).bind fun x1 => (some x1)
def z05r : Con := ⟨52, [.v .I false], [(.B, true)], [], fun x => z04b x.1⟩
def z0lh : Fs := ⟨[z03a], [], []⟩
theorem z0lr : z0lh.Ok Try.prog := (fsK z044 fs0)
theorem z0dz : z05r.Ok Try.prog := fn_ok (k := z05r) (fn := Try.f52) (W := []) (H := []) Try.func52 z0lr trivial rfl rfl (fun av x => by kernel_rfl)
def z05x (l0_1 : List Int) (x8 : GFlow) : Option (List Int) := some (l0_1 ++ [x8.to])
def z05y (l0_1 : List Int) (x13 : GFlow) : Option (List Int) := some (l0_1 ++ [x13.to])
def z05z (l0_1 : List Int) (x18 : GFlow) : Option (List Int) := some (l0_1 ++ [x18.to])
def z08i (l0_1 : List Int) : Option (List Int) := some l0_1
def z00u (t : GTask) (data : List Int) (kx0_0 : List Int → GFlow → Option (List Int)) (kx0_1 : List Int → GFlow → Option (List Int)) (kx0_2 : List Int → GFlow → Option (List Int)) (kx0_3 : List Int → Option (List Int)) : Nat → Int → List Int → Option (List Int)
  | 0, _, _ => none
  | n0 + 1, s0_0, l0_1 => if decide (s0_0 < (t.out.length : Int)) = true then ((getI t.out s0_0).bind fun x2 => ((z05w x2.if_ data).bind fun x3 => (if x3 = true then (if decide (t.split = 3) = true then (gd (ok64 ((t.out.length : Int) - 1)) (if decide (s0_0 < ((t.out.length : Int) - 1)) = true then ((getI t.out s0_0).bind fun x8 => (gd (l0_1.length + [x8.to].length ≤ SMALL) (if decide (t.split = 2) = true then (kx0_0 l0_1 x8) else (gd (ok64 (s0_0 + 1)) ((z00u t data kx0_0 kx0_1 kx0_2 kx0_3 n0) (s0_0 + 1) (l0_1 ++ [x8.to])))))) else (if decide ((l0_1.length : Int) = 0) = true then ((getI t.out s0_0).bind fun x13 => (gd (l0_1.length + [x13.to].length ≤ SMALL) (if decide (t.split = 2) = true then (kx0_1 l0_1 x13) else (gd (ok64 (s0_0 + 1)) ((z00u t data kx0_0 kx0_1 kx0_2 kx0_3 n0) (s0_0 + 1) (l0_1 ++ [x13.to])))))) else (gd (ok64 (s0_0 + 1)) ((z00u t data kx0_0 kx0_1 kx0_2 kx0_3 n0) (s0_0 + 1) l0_1))))) else ((getI t.out s0_0).bind fun x18 => (gd (l0_1.length + [x18.to].length ≤ SMALL) (if decide (t.split = 2) = true then (kx0_2 l0_1 x18) else (gd (ok64 (s0_0 + 1)) ((z00u t data kx0_0 kx0_1 kx0_2 kx0_3 n0) (s0_0 + 1) (l0_1 ++ [x18.to]))))))) else (gd (ok64 (s0_0 + 1)) ((z00u t data kx0_0 kx0_1 kx0_2 kx0_3 n0) (s0_0 + 1) l0_1))))) else (kx0_3 l0_1)
def z09o (t : GTask) (data : List Int) : Option (List Int) := z00u t data z05x z05y z05z z08i FUEL 0 ([] : List Int)
def z03c : Con := ⟨113, [.v (.s .task) false, .v (.sl .I) false], [((.sl .I), true)], [], fun x => z09o x.1 x.2.1⟩
def z0sk : Fs := ⟨[z08g], [], []⟩
theorem z0jn : z0sk.Ok Try.prog := (fsK z0m7 fs0)
def z0gp : Tmpl := ⟨[(1, .c (.s .I)), (2, .c (.bx 2 0)), (5, .c (.ref 7)), (6, .c .i)], [(2, .boxT (.s .task)), (7, .arr .I true)]⟩
def z04c : Tmpl := ⟨[(5, .c (.ref 49))], [(49, .arr .I true)]⟩
def z0n4 (av : AV) (x : HP z03c.ps) (n : Nat) (v : z0gp.den) (K : Ks (CR z03c)) : Option (CR z03c) := z00u v.2.1 v.1.1 (fun l0_1 x8 => z04c.at none (((), ()), ((l0_1 ++ [x8.to]), ())) (K (.exit 0))) (fun l0_1 x13 => z04c.at none (((), ()), ((l0_1 ++ [x13.to]), ())) (K (.exit 0))) (fun l0_1 x18 => z04c.at none (((), ()), ((l0_1 ++ [x18.to]), ())) (K (.exit 0))) (fun l0_1 => z04c.at none (((), ()), (l0_1, ())) (K (.exit 0))) n v.1.2.2.2.1 v.2.2.1
def z0fw (av : AV) (x : HP z03c.ps) : Hdl (CR z03c) := hnd [] z0gp (z0n4 av x)
theorem z0ok : LP z03c Try.f113 [0] z0fw := lp_ok (W := []) (H := []) (xs := [z04c]) z0jn trivial rfl (fun av x v K => by kernel_rfl) (fun av x n v K => by kernel_rfl)
theorem z0tc : z03c.Ok Try.prog := fn_ok (k := z03c) (fn := Try.f113) (W := []) (H := [z0fw]) Try.func113 z0jn ⟨z0ok, trivial⟩ rfl rfl (fun av x => by kernel_rfl)
def z04k (l1_1 : List Int) : Option ((List Int) × Bool) := some (l1_1, true)
def z02i (x16 : (List Int)) (kx1_0 : List Int → Option ((List Int) × Bool)) : Nat → Int → List Int → Option ((List Int) × Bool)
  | 0, _, _ => none
  | n1 + 1, s1_0, l1_1 => if decide (s1_0 < (x16.length : Int)) = true then ((getI x16 s1_0).bind fun x18 => ((getI l1_1 x18).bind fun x19 => (if decide (x19 = 4) = true then (some (([] : List Int), false)) else ((getI x16 s1_0).bind fun x21 => ((getI x16 s1_0).bind fun x22 => ((getI l1_1 x22).bind fun x23 => (gd (ok64 (x23 + 1)) ((getI l1_1 x21).bind fun x25 => (gd (ok64 (s1_0 + 1)) ((z02i x16 kx1_0 n1) (s1_0 + 1) (l1_1.set x21.toNat (x23 + 1)))))))))))) else (kx1_0 l1_1)
def z04j (n : GNet) (t : Int) (data : List Int) (l0_1 : List Int) : Option ((List Int) × Bool) := (getI n.tasks t).bind fun x15 => ((z09o x15 data).bind fun x16 => (z02i x16 z04k FUEL 0 l0_1))
def z02h (n : GNet) (t : Int) (kx0_0 : List Int → Option ((List Int) × Bool)) : Nat → Int → List Int → Option ((List Int) × Bool)
  | 0, _, _ => none
  | n0 + 1, s0_0, l0_1 => (getI n.tasks t).bind fun x9 => (if decide (s0_0 < (x9.clear.length : Int)) = true then ((getI n.tasks t).bind fun x11 => ((getI x11.clear s0_0).bind fun x12 => ((getI l0_1 x12).bind fun x13 => (gd (ok64 (s0_0 + 1)) ((z02h n t kx0_0 n0) (s0_0 + 1) (l0_1.set x12.toNat 0)))))) else (kx0_0 l0_1))
def z06s (n : GNet) (marks : List Int) (t : Int) (data : List Int) : Option ((List Int) × Bool) := (z04q n marks).bind fun x1 => (if x1 = true then (gd (ok64 ((n.tasks.length : Int) - 1)) ((z003 t 0 ((n.tasks.length : Int) - 1)).bind fun x4 => (if x4 = true then ((z03w data).bind fun x6 => (if x6 = true then (gd (([] : List Int).length + marks.length ≤ SMALL) (z02h n t (z04j n t data) FUEL 0 (([] : List Int) ++ marks))) else (some (([] : List Int), false)))) else (some (([] : List Int), false))))) else (some (([] : List Int), false)))
def z00g : Con := ⟨71, [.v (.s .net) false, .v (.sl .I) false, .v .I false, .v (.sl .I) false], [((.sl .I), true), (.B, true)], [], fun x => z06s x.1 x.2.1 x.2.2.1 x.2.2.2.1⟩
def z0nn : Fs := ⟨[z01i, z00p, z01a, z03c], [], []⟩
theorem z094 : z0nn.Ok Try.prog := (fsK z09t (fsK z012 (fsK z07f (fsK z0tc fs0))))
def z0cn : Tmpl := ⟨[(2, .c .i), (3, .c (.s .I)), (4, .c (.bx 4 0)), (10, .c (.ref 35)), (11, .c .i)], [(4, .boxT (.s .net)), (35, .arr .I true)]⟩
def z0aw : Tmpl := ⟨[(2, .c .i), (3, .c (.s .I)), (4, .c (.bx 4 0)), (10, .c (.ref 35))], [(4, .boxT (.s .net)), (35, .arr .I true)]⟩
def z0ir (av : AV) (x : HP z00g.ps) (n : Nat) (v : z0cn.den) (K : Ks (CR z00g)) : Option (CR z00g) := z02h v.2.1 v.1.1 (fun l0_1 => z0aw.at none ((v.1.1, v.1.2.1, (), (), ()), (v.2.1, l0_1, ())) (K (.exit 0))) n v.1.2.2.2.2.1 v.2.2.1
def z0bk (av : AV) (x : HP z00g.ps) : Hdl (CR z00g) := hnd [] z0cn (z0ir av x)
theorem z0k4 : LP z00g Try.f71 [0] z0bk := lp_ok (W := []) (H := []) (xs := [z0aw]) z094 trivial rfl (fun av x v K => by kernel_rfl) (fun av x n v K => by kernel_rfl)
def z0co : Tmpl := ⟨[(10, .c (.ref 35)), (12, .c (.ref 64)), (13, .c .i)], [(35, .arr .I true), (64, .arr .I true)]⟩
def z0ax : Tmpl := ⟨[(10, .c (.ref 35))], [(35, .arr .I true)]⟩
def z0is (av : AV) (x : HP z00g.ps) (n : Nat) (v : z0co.den) (K : Ks (CR z00g)) : Option (CR z00g) := z02i v.2.2.1 (fun l1_1 => z0ax.at none (((), ()), (l1_1, ())) (K (.exit 2))) n v.1.2.2.1 v.2.1
def z0bl (av : AV) (x : HP z00g.ps) : Hdl (CR z00g) := hnd [] z0co (z0is av x)
theorem z0k5 : LP z00g Try.f71 [1] z0bl := lp_ok (W := []) (H := []) (xs := [z0ax]) z094 trivial rfl (fun av x v K => by kernel_rfl) (fun av x n v K => by kernel_rfl)
theorem z0ow : z00g.Ok Try.prog := fn_ok (k := z00g) (fn := Try.f71) (W := []) (H := [z0bk, z0bl]) Try.func71 z094 ⟨z0k4, z0k5, trivial⟩ rfl rfl (fun av x => by kernel_rfl)
def z0dx  : Option Bool := some true
def z03o (people : List Int) (kx0_0 : Option Bool) : Nat → Int → Option Bool
  | 0, _ => none
  | n0 + 1, s0_0 => if decide (s0_0 < (people.length : Int)) = true then ((getI people s0_0).bind fun x4 => ((z003 x4 0 7).bind fun x5 => (if x5 = true then (gd (ok64 (s0_0 + 1)) ((z03o people kx0_0 n0) (s0_0 + 1))) else (some false)))) else (kx0_0)
def z07d (people : List Int) : Option Bool := (z003 (people.length : Int) 1 4).bind fun x1 => (if x1 = true then (z03o people z0dx FUEL 0) else (some false))
def z02s : Con := ⟨92, [.v (.sl .I) false], [(.B, true)], [], fun x => z07d x.1⟩
def z0sj : Fs := ⟨[z00p], [], []⟩
theorem z0jm : z0sj.Ok Try.prog := (fsK z012 fs0)
def z0go : Tmpl := ⟨[(0, .c (.s .I)), (3, .c .i)], []⟩
def z0ej : Tmpl := ⟨[], []⟩
def z0n3 (av : AV) (x : HP z02s.ps) (n : Nat) (v : z0go.den) (K : Ks (CR z02s)) : Option (CR z02s) := z03o v.1.1 (z0ej.at none ((), ()) (K (.exit 0))) n v.1.2.1
def z0fv (av : AV) (x : HP z02s.ps) : Hdl (CR z02s) := hnd [] z0go (z0n3 av x)
theorem z0oj : LP z02s Try.f92 [0] z0fv := lp_ok (W := []) (H := []) (xs := [z0ej]) z0jm trivial rfl (fun av x v K => by kernel_rfl) (fun av x n v K => by kernel_rfl)
theorem z0kl : z02s.Ok Try.prog := fn_ok (k := z02s) (fn := Try.f92) (W := []) (H := [z0fv]) Try.func92 z0jm ⟨z0oj, trivial⟩ rfl rfl (fun av x => by kernel_rfl)
def z032 (s0_0 : Int) : Option Bool := gd ((2 : Int) ≠ 0) (some (decide ((Int.tmod s0_0 2) = 1)))
def z015 (role : Int) (kx0_0 : Int → Option Bool) : Nat → Int → Int → Option Bool
  | 0, _, _ => none
  | n0 + 1, s0_0, s0_1 => if decide (s0_1 < role) = true then (gd ((2 : Int) ≠ 0 ∧ ok64 (Int.tdiv s0_0 2)) (gd (ok64 (s0_1 + 1)) ((z015 role kx0_0 n0) (Int.tdiv s0_0 2) (s0_1 + 1)))) else (kx0_0 s0_0)
def z083 (people : List Int) (who : Int) (role : Int) : Option Bool := (z07d people).bind fun x1 => (if x1 = true then ((z003 who 1 (people.length : Int)).bind fun x3 => (if x3 = true then ((z003 role 1 3).bind fun x5 => (if x5 = true then (gd (ok64 (who - 1)) ((getI people (who - 1)).bind fun x8 => (z015 role z032 FUEL x8 1))) else (some false))) else (some false))) else (some false))
def z02n : Con := ⟨122, [.v (.sl .I) false, .v .I false, .v .I false], [(.B, true)], [], fun x => z083 x.1 x.2.1 x.2.2.1⟩
def z0q6 : Fs := ⟨[z02s, z00p], [], []⟩
theorem z0hb : z0q6.Ok Try.prog := (fsK z0kl (fsK z012 fs0))
def z0e8 : Tmpl := ⟨[(2, .c .i), (7, .c .i), (8, .c .i)], []⟩
def z0cz : Tmpl := ⟨[(7, .c .i)], []⟩
def z0lb (av : AV) (x : HP z02n.ps) (n : Nat) (v : z0e8.den) (K : Ks (CR z02n)) : Option (CR z02n) := z015 v.1.1 (fun s0_0 => z0cz.at none ((s0_0, ()), ()) (K (.exit 0))) n v.1.2.1 v.1.2.2.1
def z0do (av : AV) (x : HP z02n.ps) : Hdl (CR z02n) := hnd [] z0e8 (z0lb av x)
theorem z0m0 : LP z02n Try.f122 [0] z0do := lp_ok (W := []) (H := []) (xs := [z0cz]) z0hb trivial rfl (fun av x v K => by kernel_rfl) (fun av x n v K => by kernel_rfl)
theorem z0r9 : z02n.Ok Try.prog := fn_ok (k := z02n) (fn := Try.f122) (W := []) (H := [z0do]) Try.func122 z0hb ⟨z0m0, trivial⟩ rfl rfl (fun av x => by kernel_rfl)
def z0c7  : Option Bool := some false
def z02d (did : List GDid) (who : Int) (task : Int) (kx0_0 : Option Bool) : Nat → Int → Option Bool
  | 0, _ => none
  | n0 + 1, s0_0 => if decide (s0_0 < (did.length : Int)) = true then ((getI did s0_0).bind fun x2 => (if decide (x2.who = who) = true then ((getI did s0_0).bind fun x4 => (if decide (x4.task = task) = true then (some true) else (gd (ok64 (s0_0 + 1)) ((z02d did who task kx0_0 n0) (s0_0 + 1))))) else (gd (ok64 (s0_0 + 1)) ((z02d did who task kx0_0 n0) (s0_0 + 1))))) else (kx0_0)
def z082 (did : List GDid) (who : Int) (task : Int) : Option Bool := z02d did who task z0c7 FUEL 0
def z02m : Con := ⟨123, [.v (.sl (.s .did)) false, .v .I false, .v .I false], [(.B, true)], [], fun x => z082 x.1 x.2.1 x.2.2.1⟩
def z0q5 : Fs := ⟨[], [], []⟩
theorem z0ha : z0q5.Ok Try.prog := fs0
def z0e7 : Tmpl := ⟨[(0, .c (.s (.s .did))), (1, .c .i), (2, .c .i), (7, .c .i)], []⟩
def z0cy : Tmpl := ⟨[], []⟩
def z0la (av : AV) (x : HP z02m.ps) (n : Nat) (v : z0e7.den) (K : Ks (CR z02m)) : Option (CR z02m) := z02d v.1.1 v.1.2.1 v.1.2.2.1 (z0cy.at none ((), ()) (K (.exit 0))) n v.1.2.2.2.1
def z0dn (av : AV) (x : HP z02m.ps) : Hdl (CR z02m) := hnd [] z0e7 (z0la av x)
theorem z0lz : LP z02m Try.f123 [0] z0dn := lp_ok (W := []) (H := []) (xs := [z0cy]) z0ha trivial rfl (fun av x v K => by kernel_rfl) (fun av x n v K => by kernel_rfl)
theorem z0r8 : z02m.Ok Try.prog := fn_ok (k := z02m) (fn := Try.f123) (W := []) (H := [z0dn]) Try.func123 z0ha ⟨z0lz, trivial⟩ rfl rfl (fun av x => by kernel_rfl)
def z0c8 (n : GNet) (people : List Int) (did : List GDid) (t : Int) (s0_0 : Int) (l0_1 : List Int) (bk0 : Int → List Int → Option (List Int)) (s1_0 : Bool) : Option (List Int) := (getI n.tasks t).bind fun x18 => ((z083 people s0_0 x18.role).bind fun x19 => (if x19 = true then (if s1_0 = true then (gd (ok64 (s0_0 + 1)) (bk0 (s0_0 + 1) l0_1)) else ((getI n.tasks t).bind fun x23 => ((z082 did s0_0 x23.apart).bind fun x24 => (if x24 = true then (gd (ok64 (s0_0 + 1)) (bk0 (s0_0 + 1) l0_1)) else (gd (l0_1.length + [s0_0].length ≤ SMALL) (gd (ok64 (s0_0 + 1)) (bk0 (s0_0 + 1) (l0_1 ++ [s0_0])))))))) else (gd (ok64 (s0_0 + 1)) (bk0 (s0_0 + 1) l0_1))))
def z016 (n : GNet) (busy : List GItem) (t : Int) (s0_0 : Int) (kx1_0 : Bool → Option (List Int)) : Nat → Bool → Int → Option (List Int)
  | 0, _, _ => none
  | n1 + 1, s1_0, s1_1 => if decide (s1_1 < (busy.length : Int)) = true then (if s1_0 = true then (gd (ok64 (s1_1 + 1)) ((z016 n busy t s0_0 kx1_0 n1) true (s1_1 + 1))) else ((getI busy s1_1).bind fun x12 => (if decide (x12.who = s0_0) = true then ((getI busy s1_1).bind fun x14 => ((getI n.tasks t).bind fun x15 => (gd (ok64 (s1_1 + 1)) ((z016 n busy t s0_0 kx1_0 n1) (decide (x14.task = x15.apart)) (s1_1 + 1))))) else (gd (ok64 (s1_1 + 1)) ((z016 n busy t s0_0 kx1_0 n1) false (s1_1 + 1)))))) else (kx1_0 s1_0)
def z07c (l0_1 : List Int) : Option (List Int) := some l0_1
def z033 (n : GNet) (people : List Int) (did : List GDid) (busy : List GItem) (t : Int) (kx0_0 : List Int → Option (List Int)) : Nat → Int → List Int → Option (List Int)
  | 0, _, _ => none
  | n0 + 1, s0_0, l0_1 => if decide (s0_0 ≤ (people.length : Int)) = true then (z016 n busy t s0_0 (z0c8 n people did t s0_0 l0_1 (z033 n people did busy t kx0_0 n0)) FUEL false 0) else (kx0_0 l0_1)
def z036 (n : GNet) (people : List Int) (did : List GDid) (busy : List GItem) (t : Int) : Option (List Int) := (z02c n).bind fun x1 => (if x1 = true then ((z07d people).bind fun x3 => (if x3 = true then (gd (ok64 ((n.tasks.length : Int) - 1)) ((z003 t 0 ((n.tasks.length : Int) - 1)).bind fun x6 => (if x6 = true then (z033 n people did busy t z07c FUEL 1 ([] : List Int)) else (some ([] : List Int))))) else (some ([] : List Int)))) else (some ([] : List Int)))
def z00c : Con := ⟨77, [.v (.s .net) false, .v (.sl .I) false, .v (.sl (.s .did)) false, .v (.sl (.s .item)) false, .v .I false], [((.sl .I), true)], [], fun x => z036 x.1 x.2.1 x.2.2.1 x.2.2.2.1 x.2.2.2.2.1⟩
def z0q7 : Fs := ⟨[z01j, z02s, z00p, z02n, z02m], [], []⟩
theorem z0bf : z0q7.Ok Try.prog := (fsK z09u (fsK z0kl (fsK z012 (fsK z0r9 (fsK z0r8 fs0)))))
def z0al : Tmpl := ⟨[(1, .c (.s .I)), (2, .c (.s (.s .did))), (3, .c (.s (.s .item))), (4, .c .i), (5, .c (.bx 5 0)), (11, .c (.ref 15)), (12, .c .i), (13, .c .b), (14, .c .i)], [(5, .boxT (.s .net)), (15, .arr .I true)]⟩
def z08u : Tmpl := ⟨[(1, .c (.s .I)), (2, .c (.s (.s .did))), (3, .c (.s (.s .item))), (4, .c .i), (5, .c (.bx 5 0)), (11, .c (.ref 15)), (12, .c .i), (13, .c .b)], [(5, .boxT (.s .net)), (15, .arr .I true)]⟩
def z0hu (av : AV) (x : HP z00c.ps) (n : Nat) (v : z0al.den) (K : Ks (CR z00c)) : Option (CR z00c) := z016 v.2.1 v.1.2.2.1 v.1.2.2.2.1 v.1.2.2.2.2.2.2.1 (fun s1_0 => z08u.at none ((v.1.1, v.1.2.1, v.1.2.2.1, v.1.2.2.2.1, (), (), v.1.2.2.2.2.2.2.1, s1_0, ()), (v.2.1, v.2.2.1, ())) (K (.exit 2))) n v.1.2.2.2.2.2.2.2.1 v.1.2.2.2.2.2.2.2.2.1
def z0a3 (av : AV) (x : HP z00c.ps) : Hdl (CR z00c) := hnd [] z0al (z0hu av x)
theorem z0i5 : LP z00c Try.f77 [0, 0] z0a3 := lp_ok (W := []) (H := []) (xs := [z08u]) z0bf trivial rfl (fun av x v K => by kernel_rfl) (fun av x n v K => by kernel_rfl)
def z0e9 : Tmpl := ⟨[(1, .c (.s .I)), (2, .c (.s (.s .did))), (3, .c (.s (.s .item))), (4, .c .i), (5, .c (.bx 5 0)), (11, .c (.ref 15)), (12, .c .i)], [(5, .boxT (.s .net)), (15, .arr .I true)]⟩
def z0d0 : Tmpl := ⟨[(11, .c (.ref 15))], [(15, .arr .I true)]⟩
def z0lc (av : AV) (x : HP z00c.ps) (n : Nat) (v : z0e9.den) (K : Ks (CR z00c)) : Option (CR z00c) := z033 v.2.1 v.1.1 v.1.2.1 v.1.2.2.1 v.1.2.2.2.1 (fun l0_1 => z0d0.at none (((), ()), (l0_1, ())) (K (.exit 0))) n v.1.2.2.2.2.2.2.1 v.2.2.1
def z0dp (av : AV) (x : HP z00c.ps) : Hdl (CR z00c) := hnd [] z0e9 (z0lc av x)
theorem z0m1 : LP z00c Try.f77 [0] z0dp := lp_ok (W := []) (H := [z0a3]) (xs := [z0d0]) z0bf ⟨z0i5, trivial⟩ rfl (fun av x v K => by kernel_rfl) (fun av x n v K => by kernel_rfl)
theorem z0ce : z00c.Ok Try.prog := fn_ok (k := z00c) (fn := Try.f77) (W := []) (H := [z0dp]) Try.func77 z0bf ⟨z0m1, trivial⟩ rfl rfl (fun av x => by kernel_rfl)
def z080 (n : GNet) (data : List Int) : Option GCase := (z02c n).bind fun x1 => (if x1 = true then ((z03w data).bind fun x3 => (if x3 = true then (gd ((0 : Int) ≤ n.places ∧ n.places ≤ (1000000000 : Int)) (gd (([] : List Int).length + data.length ≤ SMALL) ((getI (List.replicate n.places.toNat (0 : Int)) 0).bind fun x7 => (some (GCase.mk 1 ((List.replicate n.places.toNat (0 : Int)).set (0 : Int).toNat 1) [] (([] : List Int) ++ data) []))))) else (some (GCase.mk 0 [] [] [] [])))) else (some (GCase.mk 0 [] [] [] [])))
def z0bw : Con := ⟨100, [.v (.s .net) false, .v (.sl .I) false], [((.s .kase), true)], [], fun x => z080 x.1 x.2.1⟩
def z0q2 : Fs := ⟨[z01j, z01a], [], []⟩
theorem z0qj : z0q2.Ok Try.prog := (fsK z09u (fsK z07f fs0))
theorem z0r6 : z0bw.Ok Try.prog := fn_ok (k := z0bw) (fn := Try.f100) (W := []) (H := []) Try.func100 z0qj trivial rfl rfl (fun av x => by kernel_rfl)
def z05v (c : GCase) : Option Bool := if decide (c.state = 1) = true then ((getI c.marks 1).bind fun x20 => (some (decide (x20 = 0)))) else (if decide ((c.busy.length : Int) = 0) = true then ((getI c.marks 1).bind fun x22 => (some ((decide (c.state = 2)) == (decide (0 < x22))))) else (some false))
def z03k (n : GNet) (c : GCase) (kx0_0 : Option Bool) : Nat → Int → Option Bool
  | 0, _ => none
  | n0 + 1, s0_0 => if decide (s0_0 < (c.did.length : Int)) = true then ((getI c.did s0_0).bind fun x11 => (gd (ok64 ((n.tasks.length : Int) - 1)) ((z003 x11.task 0 ((n.tasks.length : Int) - 1)).bind fun x13 => (if x13 = true then ((getI c.did s0_0).bind fun x15 => ((z003 x15.who 1 4).bind fun x16 => (if x16 = true then (gd (ok64 (s0_0 + 1)) ((z03k n c kx0_0 n0) (s0_0 + 1))) else (some false)))) else (some false))))) else (kx0_0)
def z05h (n : GNet) (c : GCase) : Option Bool := (z04q n c.marks).bind fun x1 => (if x1 = true then ((z069 n c.busy).bind fun x3 => (if x3 = true then ((z03w c.data).bind fun x5 => (if x5 = true then (if decide (60 < (c.did.length : Int)) = true then (some false) else ((z003 c.state 1 3).bind fun x8 => (if x8 = true then (z03k n c (z05v c) FUEL 0) else (some false)))) else (some false))) else (some false))) else (some false))
def z02a : Con := ⟨14, [.v (.s .net) false, .v (.s .kase) false], [(.B, true)], [], fun x => z05h x.1 x.2.1⟩
def z0se : Fs := ⟨[z01i, z022, z01a, z00p], [], []⟩
theorem z0ji : z0se.Ok Try.prog := (fsK z09t (fsK z0hj (fsK z07f (fsK z012 fs0))))
def z0gk : Tmpl := ⟨[(2, .c (.bx 2 0)), (3, .c (.bx 3 0)), (5, .c .i)], [(2, .boxT (.s .net)), (3, .boxT (.s .kase))]⟩
def z0ef : Tmpl := ⟨[(3, .c (.bx 3 0))], [(3, .boxT (.s .kase))]⟩
def z0mz (av : AV) (x : HP z02a.ps) (n : Nat) (v : z0gk.den) (K : Ks (CR z02a)) : Option (CR z02a) := z03k v.2.1 v.2.2.1 (z0ef.at none (((), ()), (v.2.2.1, ())) (K (.exit 0))) n v.1.2.2.1
def z0fr (av : AV) (x : HP z02a.ps) : Hdl (CR z02a) := hnd [] z0gk (z0mz av x)
theorem z0of : LP z02a Try.f14 [0] z0fr := lp_ok (W := []) (H := []) (xs := [z0ef]) z0ji trivial rfl (fun av x v K => by kernel_rfl) (fun av x n v K => by kernel_rfl)
theorem z0f3 : z02a.Ok Try.prog := fn_ok (k := z02a) (fn := Try.f14) (W := []) (H := [z0fr]) Try.func14 z0ji ⟨z0of, trivial⟩ rfl rfl (fun av x => by kernel_rfl)
def z04s (c : GCase) : Option GCase := gd (([] : List Int).length + c.marks.length ≤ SMALL) (gd (([] : List GItem).length + c.busy.length ≤ SMALL) (gd (([] : List Int).length + c.data.length ≤ SMALL) (gd (([] : List GDid).length + c.did.length ≤ SMALL) (some (GCase.mk c.state (([] : List Int) ++ c.marks) (([] : List GItem) ++ c.busy) (([] : List Int) ++ c.data) (([] : List GDid) ++ c.did))))))
def z07v : Con := ⟨69, [.v (.s .kase) false], [((.s .kase), true)], [], fun x => z04s x.1⟩
def z0qd : Fs := ⟨[], [], []⟩
theorem z0qp : z0qd.Ok Try.prog := fs0
theorem z0hk : z07v.Ok Try.prog := fn_ok (k := z07v) (fn := Try.f69) (W := []) (H := []) Try.func69 z0qp trivial rfl rfl (fun av x => by kernel_rfl)
def z02t (n : GNet) (people : List Int) (c : GCase) (t : Int) (who : Int) : Option (GCase × Bool) := (z04s c).bind fun x1 => ((z05h n c).bind fun x2 => (if x2 = true then (if decide (c.state = 1) = true then ((z067 n c.marks c.busy t).bind fun x5 => (if x5 = true then ((z036 n people c.did c.busy t).bind fun x7 => ((z05k x7 who).bind fun x8 => (if x8 = true then (if decide ((c.busy.length : Int) = 6) = true then (some (x1, false)) else ((z06r n c.marks t).bind fun x11 => (gd (x1.busy.length + [(GItem.mk t who 0)].length ≤ SMALL) (some ((GCase.mk x1.state x11 (x1.busy ++ [(GItem.mk t who 0)]) x1.data x1.did), true))))) else (some (x1, false))))) else (some (x1, false)))) else (some (x1, false))) else (some (x1, false))))
def z05s : Con := ⟨112, [.v (.s .net) false, .v (.sl .I) false, .v (.s .kase) false, .v .I false, .v .I false], [((.s .kase), true), (.B, true)], [], fun x => z02t x.1 x.2.1 x.2.2.1 x.2.2.2.1 x.2.2.2.2.1⟩
def z0li : Fs := ⟨[z07v, z02a, z07t, z00c, z02b, z01u], [], []⟩
theorem z0ls : z0li.Ok Try.prog := (fsK z0hk (fsK z0f3 (fsK z0hh (fsK z0ce (fsK z0f4 (fsK z0ov fs0))))))
theorem z0e0 : z05s.Ok Try.prog := fn_ok (k := z05s) (fn := Try.f112) (W := []) (H := []) Try.func112 z0ls trivial rfl rfl (fun av x => by kernel_rfl)
def z041 (n : GNet) (c : GCase) (k : Int) (v : Int) (num : Int) : Option (GCase × Bool) := (z04s c).bind fun x1 => ((z05h n c).bind fun x2 => (if x2 = true then (if decide (c.state = 1) = true then (gd (ok64 ((c.busy.length : Int) - 1)) ((z003 k 0 ((c.busy.length : Int) - 1)).bind fun x6 => (if x6 = true then ((z003 v (-1) 2).bind fun x8 => (if x8 = true then ((z003 num (-99) 99).bind fun x10 => (if x10 = true then (if decide ((c.did.length : Int) = 60) = true then (some (x1, false)) else ((getI c.busy k).bind fun x13 => ((z081 c.data v num).bind fun x14 => (gd (ok64 (x13.did + 1)) ((getI x1.busy k).bind fun x16 => (gd (ok64 (x13.did + 1)) ((getI n.tasks x13.task).bind fun x18 => (if decide ((x13.did + 1) < x18.need) = true then (some ((GCase.mk x1.state x1.marks (x1.busy.set k.toNat (GItem.mk x16.task x16.who (x13.did + 1))) x14 x1.did), true)) else ((z06s n c.marks x13.task x14).bind fun x20 => (if x20.2 = true then (gd ((0 : Int) ≤ k ∧ k ≤ (c.busy.length : Int)) (gd (([] : List GItem).length + (c.busy.take k.toNat).length ≤ SMALL) (gd (ok64 (k + 1)) (gd ((0 : Int) ≤ (k + 1) ∧ (k + 1) ≤ (c.busy.length : Int)) (gd ((([] : List GItem) ++ (c.busy.take k.toNat)).length + (c.busy.drop (k + 1).toNat).length ≤ SMALL) (gd (x1.did.length + [(GDid.mk x13.task x13.who)].length ≤ SMALL) ((getI x20.1 1).bind fun x28 => (if decide (0 < x28) = true then (some ((GCase.mk 2 x20.1 ([] : List GItem) x14 (x1.did ++ [(GDid.mk x13.task x13.who)])), true)) else (some ((GCase.mk x1.state x20.1 ((([] : List GItem) ++ (c.busy.take k.toNat)) ++ (c.busy.drop (k + 1).toNat)) x14 (x1.did ++ [(GDid.mk x13.task x13.who)])), true)))))))))) else ((z04s c).bind fun x30 => (some (x30, false))))))))))))) else (some (x1, false)))) else (some (x1, false)))) else (some (x1, false))))) else (some (x1, false))) else (some (x1, false))))
def z04x : Con := ⟨25, [.v (.s .net) false, .v (.s .kase) false, .v .I false, .v .I false, .v .I false], [((.s .kase), true), (.B, true)], [], fun x => z041 x.1 x.2.1 x.2.2.1 x.2.2.2.1 x.2.2.2.2.1⟩
def z0nl : Fs := ⟨[z07v, z02a, z00p, z0bx, z00g], [], []⟩
theorem z0o6 : z0nl.Ok Try.prog := (fsK z0hk (fsK z0f3 (fsK z012 (fsK z0r7 (fsK z0ow fs0)))))
theorem z09s : z04x.Ok Try.prog := fn_ok (k := z04x) (fn := Try.f25) (W := []) (H := []) Try.func25 z0o6 trivial rfl rfl (fun av x => by kernel_rfl)
def z005 (c : GCase) : Option GCase := (z02z c.marks).bind fun x1 => (gd (([] : List GItem).length + c.busy.length ≤ SMALL) ((z02z c.data).bind fun x3 => (gd (([] : List GDid).length + c.did.length ≤ SMALL) (some (GCase.mk c.state x1 (([] : List GItem) ++ c.busy) x3 (([] : List GDid) ++ c.did))))))
def z037 : Con := ⟨57, [.v (.s .kase) false], [((.s .kase), true)], [], fun x => z005 x.1⟩
def z0en : Fs := ⟨[z04v], [], []⟩
theorem z0er : z0en.Ok Try.prog := (fsK z0cd fs0)
theorem z07e : z037.Ok Try.prog := fn_ok (k := z037) (fn := Try.f57) (W := []) (H := []) Try.func57 z0er trivial rfl rfl (fun av x => by kernel_rfl)
def z0c3  : Option Int := some (-1)
def z02y (s : List Int) (p : Int → Option Bool) (p0_0 : Int) (kx0_0 : Option Int) : Nat → Int → Option Int
  | 0, _ => none
  | n0 + 1, s0_0 => if decide (s0_0 < p0_0) = true then ((getI s s0_0).bind fun x2 => ((p x2).bind fun x3 => (if x3 = true then (some s0_0) else (gd (ok64 (s0_0 + 1)) ((z02y s p p0_0 kx0_0 n0) (s0_0 + 1)))))) else (kx0_0)
def z07w (s : List Int) (p : Int → Option Bool) : Option Int := z02y s p (s.length : Int) z0c3 FUEL 0
def z020 : Con := ⟨111, [.v (.sl .I) false, .fn .I], [(.I, true)], [], fun x => z07w x.1 x.2.1⟩
def z0pw : Fs := ⟨[], [], []⟩
theorem z0h7 : z0pw.Ok Try.prog := fs0
def z0e4 : Tmpl := ⟨[(0, .c (.s .I)), (1, .c .fp), (7, .c .i), (8, .c .i)], []⟩
def z0cv : Tmpl := ⟨[], []⟩
def z0l7 (av : AV) (x : HP z020.ps) (n : Nat) (v : z0e4.den) (K : Ks (CR z020)) : Option (CR z020) := z02y v.1.1 x.2.1 v.1.2.2.1 (z0cv.at (fpOf z020.ps x av) ((), ()) (K (.exit 0))) n v.1.2.2.2.1
def z0dk (av : AV) (x : HP z020.ps) : Hdl (CR z020) := hnd [] z0e4 (z0l7 av x)
theorem z0lw : LP z020 Try.f111 [0] z0dk := lp_ok (W := []) (H := []) (xs := [z0cv]) z0h7 trivial rfl (fun av x v K => by kernel_rfl) (fun av x n v K => by kernel_rfl)
theorem z0r1 : z020.Ok Try.prog := fn_ok (k := z020) (fn := Try.f111) (W := []) (H := [z0dk]) Try.func111 z0h7 ⟨z0lw, trivial⟩ rfl rfl (fun av x => by kernel_rfl)
def z03v (s : List Int) (p : Int → Option Bool) : Option Bool := (z07w s p).bind fun x1 => (some (decide (0 ≤ x1)))
def z04u : Con := ⟨62, [.v (.sl .I) false, .fn .I], [(.B, true)], [], fun x => z03v x.1 x.2.1⟩
def z0j4 : Fs := ⟨[z020], [], []⟩
theorem z0jd : z0j4.Ok Try.prog := (fsK z0r1 fs0)
theorem z0cc : z04u.Ok Try.prog := fn_ok (k := z04u) (fn := Try.f62) (W := []) (H := []) Try.func62 z0jd trivial rfl rfl (fun av x => by kernel_rfl)
def z079  : Option Int := some (-1)
def z01b (s : List GTask) (p : GTask → Option Bool) (p0_0 : Int) (kx0_0 : Option Int) : Nat → Int → Option Int
  | 0, _ => none
  | n0 + 1, s0_0 => if decide (s0_0 < p0_0) = true then ((getI s s0_0).bind fun x2 => ((p x2).bind fun x3 => (if x3 = true then (some s0_0) else (gd (ok64 (s0_0 + 1)) ((z01b s p p0_0 kx0_0 n0) (s0_0 + 1)))))) else (kx0_0)
def z04f (s : List GTask) (p : GTask → Option Bool) : Option Int := z01b s p (s.length : Int) z079 FUEL 0
def z00m : Con := ⟨141, [.v (.sl (.s .task)) false, .fn (.s .task)], [(.I, true)], [], fun x => z04f x.1 x.2.1⟩
def z0i1 : Fs := ⟨[], [], []⟩
theorem z0a1 : z0i1.Ok Try.prog := fs0
def z08b : Tmpl := ⟨[(0, .c (.s (.s .task))), (1, .c .fp), (7, .c .i), (8, .c .i)], []⟩
def z07k : Tmpl := ⟨[], []⟩
def z0fa (av : AV) (x : HP z00m.ps) (n : Nat) (v : z08b.den) (K : Ks (CR z00m)) : Option (CR z00m) := z01b v.1.1 x.2.1 v.1.2.2.1 (z07k.at (fpOf z00m.ps x av) ((), ()) (K (.exit 0))) n v.1.2.2.2.1
def z07q (av : AV) (x : HP z00m.ps) : Hdl (CR z00m) := hnd [] z08b (z0fa av x)
theorem z0g4 : LP z00m Try.f141 [0] z07q := lp_ok (W := []) (H := []) (xs := [z07k]) z0a1 trivial rfl (fun av x v K => by kernel_rfl) (fun av x n v K => by kernel_rfl)
theorem z0ic : z00m.Ok Try.prog := fn_ok (k := z00m) (fn := Try.f141) (W := []) (H := [z07q]) Try.func141 z0a1 ⟨z0g4, trivial⟩ rfl rfl (fun av x => by kernel_rfl)
def z03d (s : List GTask) (p : GTask → Option Bool) : Option Bool := (z04f s p).bind fun x1 => (some (decide (0 ≤ x1)))
def z04o : Con := ⟨107, [.v (.sl (.s .task)) false, .fn (.s .task)], [(.B, true)], [], fun x => z03d x.1 x.2.1⟩
def z0em : Fs := ⟨[z00m], [], []⟩
theorem z0eq : z0em.Ok Try.prog := (fsK z0ic fs0)
theorem z0f0 : z04o.Ok Try.prog := fn_ok (k := z04o) (fn := Try.f107) (W := []) (H := []) Try.func107 z0eq trivial rfl rfl (fun av x => by kernel_rfl)
def z0kf  : Option Int := some (-1)
def z05e (s : List Int) (v : Int) (p0_0 : Int) (kx0_0 : Option Int) : Nat → Int → Option Int
  | 0, _ => none
  | n0 + 1, s0_0 => if decide (s0_0 < p0_0) = true then ((getI s s0_0).bind fun x2 => (if decide (v = x2) = true then (some s0_0) else (gd (ok64 (s0_0 + 1)) ((z05e s v p0_0 kx0_0 n0) (s0_0 + 1))))) else (kx0_0)
def z0ig (s : List Int) (v : Int) : Option Int := z05e s v (s.length : Int) z0kf FUEL 0
def z06n : Con := ⟨124, [.v (.sl .I) false, .v .I false], [(.I, true)], [], fun x => z0ig x.1 x.2.1⟩
def z0zj : Fs := ⟨[], [], []⟩
theorem z0ul : z0zj.Ok Try.prog := fs0
def z0mu : Tmpl := ⟨[(0, .c (.s .I)), (1, .c .i), (7, .c .i), (8, .c .i)], []⟩
def z0l5 : Tmpl := ⟨[], []⟩
def z0vk (av : AV) (x : HP z06n.ps) (n : Nat) (v : z0mu.den) (K : Ks (CR z06n)) : Option (CR z06n) := z05e v.1.1 v.1.2.1 v.1.2.2.1 (z0l5.at none ((), ()) (K (.exit 0))) n v.1.2.2.2.1
def z0mm (av : AV) (x : HP z06n.ps) : Hdl (CR z06n) := hnd [] z0mu (z0vk av x)
theorem z0vt : LP z06n Try.f124 [0] z0mm := lp_ok (W := []) (H := []) (xs := [z0l5]) z0ul trivial rfl (fun av x v K => by kernel_rfl) (fun av x n v K => by kernel_rfl)
theorem z0zw : z06n.Ok Try.prog := fn_ok (k := z06n) (fn := Try.f124) (W := []) (H := [z0mm]) Try.func124 z0ul ⟨z0vt, trivial⟩ rfl rfl (fun av x => by kernel_rfl)
def z09g (s : List Int) (v : Int) : Option Bool := (z0ig s v).bind fun x1 => (some (decide (0 ≤ x1)))
def z0eu : Con := ⟨79, [.v (.sl .I) false, .v .I false], [(.B, true)], [], fun x => z09g x.1 x.2.1⟩
def z0s6 : Fs := ⟨[z06n], [], []⟩
theorem z0so : z0s6.Ok Try.prog := (fsK z0zw fs0)
theorem z0t6 : z0eu.Ok Try.prog := fn_ok (k := z0eu) (fn := Try.f79) (W := []) (H := []) Try.func79 z0so trivial rfl rfl (fun av x => by kernel_rfl)
def z09i (n : Int) : Option Bool := (z040 n).bind fun x1 => (some (!x1))
def z09v : FCon := ⟨63, .I, [], fun z c => z09i z ⟩
def z0ne : Fs := ⟨[z04w], [], []⟩
theorem z0o1 : z0ne.Ok Try.prog := (fsK z09r fs0)
theorem z0oq : z09v.Ok Try.prog := FCon.ok (fn_ok (k := z09v.con) (fn := Try.f63) (W := []) (H := []) Try.func63 z0o1 trivial rfl rfl (fun av x => by kernel_rfl))
def z04p (data : List Int) : Option Bool := if decide ((data.length : Int) = 3) = true then ((z03v data (fun z => z09i z )).bind fun x2 => (some (!x2))) else (some false)
def z05d : Con := ⟨19, [.v (.sl .I) false], [(.B, true)], [], fun x => z04p x.1⟩
def z0s8 : Fs := ⟨[z04u], [z09v], []⟩
theorem z0sp : z0s8.Ok Try.prog := (fsK z0cc (fsF z0oq fs0))
theorem z09q : z05d.Ok Try.prog := fn_ok (k := z05d) (fn := Try.f19) (W := []) (H := []) Try.func19 z0sp trivial rfl rfl (fun av x => by kernel_rfl)
def z05u (e : GAsk) (data : List Int) : Option Bool := (z05f e).bind fun x1 => (if x1 = true then ((z04p data).bind fun x3 => (if x3 = true then (if decide (e.op = 1) = true then ((getI data e.var).bind fun x6 => (some (decide (x6 < e.k)))) else (if decide (e.op = 2) = true then ((getI data e.var).bind fun x8 => (some (decide (x8 = e.k)))) else (if decide (e.op = 3) = true then ((getI data e.var).bind fun x10 => (some (decide (e.k < x10)))) else (some true)))) else (some false))) else (some false))
def z08f : Con := ⟨73, [.v (.s .ask) false, .v (.sl .I) false], [(.B, true)], [], fun x => z05u x.1 x.2.1⟩
def z0lg : Fs := ⟨[z09b, z05d], [], []⟩
theorem z0lq : z0lg.Ok Try.prog := (fsK z0kh (fsK z09q fs0))
theorem z0m6 : z08f.Ok Try.prog := fn_ok (k := z08f) (fn := Try.f73) (W := []) (H := []) Try.func73 z0lq trivial rfl rfl (fun av x => by kernel_rfl)
def z0ab  : Option Bool := some true
def z02g (list : List Int) (places : Int) (without : List Int) (p0_0 : Int) (kx0_0 : Option Bool) : Nat → Int → Int → Option Bool
  | 0, _, _ => none
  | n0 + 1, s0_0, s0_1 => if decide (s0_0 < p0_0) = true then ((getI list s0_0).bind fun x2 => (gd (ok64 (s0_1 + 1)) (gd (ok64 (places - 1)) ((z013 x2 (s0_1 + 1) (places - 1)).bind fun x5 => (if x5 = true then ((z09g without x2).bind fun x7 => (if x7 = true then (some false) else (gd (ok64 (s0_0 + 1)) ((z02g list places without p0_0 kx0_0 n0) (s0_0 + 1) x2)))) else (some false)))))) else (kx0_0)
def z04z (list : List Int) (places : Int) (without : List Int) : Option Bool := z02g list places without (list.length : Int) z0ab FUEL 0 (-1)
def z01t : Con := ⟨143, [.v (.sl .I) false, .v .I false, .v (.sl .I) false], [(.B, true)], [], fun x => z04z x.1 x.2.1 x.2.2.1⟩
def z0nh : Fs := ⟨[z03a, z0eu], [], []⟩
theorem z0fh : z0nh.Ok Try.prog := (fsK z044 (fsK z0t6 fs0))
def z0cl : Tmpl := ⟨[(1, .c .i), (2, .c (.s .I)), (7, .c .i), (10, .c (.s .I)), (11, .c .i), (12, .c .i)], []⟩
def z0av : Tmpl := ⟨[], []⟩
def z0ip (av : AV) (x : HP z01t.ps) (n : Nat) (v : z0cl.den) (K : Ks (CR z01t)) : Option (CR z01t) := z02g v.1.2.2.2.1 v.1.1 v.1.2.1 v.1.2.2.2.2.1 (z0av.at none ((), ()) (K (.exit 0))) n v.1.2.2.2.2.2.1 v.1.2.2.1
def z0bi (av : AV) (x : HP z01t.ps) : Hdl (CR z01t) := hnd [] z0cl (z0ip av x)
theorem z0k2 : LP z01t Try.f143 [0] z0bi := lp_ok (W := []) (H := []) (xs := [z0av]) z0fh trivial rfl (fun av x v K => by kernel_rfl) (fun av x n v K => by kernel_rfl)
theorem z0ot : z01t.Ok Try.prog := fn_ok (k := z01t) (fn := Try.f143) (W := []) (H := [z0bi]) Try.func143 z0fh ⟨z0k2, trivial⟩ rfl rfl (fun av x => by kernel_rfl)
def z03r (t : GTask) : Option Bool := (z013 (t.out.length : Int) 1 3).bind fun x21 => (some x21)
def z00k (t : GTask) (places : Int) (p0_0 : List GFlow) (p0_1 : Int) (kx0_0 : Option Bool) : Nat → Int → List Int → Option Bool
  | 0, _, _ => none
  | n0 + 1, s0_0, m0_1 => if decide (s0_0 < p0_1) = true then ((getI p0_0 s0_0).bind fun x2 => (if decide (t.split = 1) = true then (gd (ok64 (places - 1)) ((z013 x2.to 0 (places - 1)).bind fun x5 => (if x5 = true then (if decide (x2.to ∈ m0_1) = true then (some false) else ((z05f x2.if_).bind fun x8 => (if x8 = true then (if ((decide (x2.if_.op = 0)) == true) = true then (gd (ok64 (s0_0 + 1)) ((z00k t places p0_0 p0_1 kx0_0 n0) (s0_0 + 1) (insKey m0_1 x2.to))) else (some false)) else (some false)))) else (some false)))) else (gd (ok64 ((t.out.length : Int) - 1)) (gd (ok64 (places - 1)) ((z013 x2.to 0 (places - 1)).bind fun x14 => (if x14 = true then (if decide (x2.to ∈ m0_1) = true then (some false) else ((z05f x2.if_).bind fun x17 => (if x17 = true then (if ((decide (x2.if_.op = 0)) == (decide (s0_0 = ((t.out.length : Int) - 1)))) = true then (gd (ok64 (s0_0 + 1)) ((z00k t places p0_0 p0_1 kx0_0 n0) (s0_0 + 1) (insKey m0_1 x2.to))) else (some false)) else (some false)))) else (some false))))))) else (kx0_0)
def z03g (t : GTask) (places : Int) : Option Bool := z00k t places t.out (t.out.length : Int) (z03r t) FUEL 0 (insKey ([] : List Int) 0)
def z00f : Con := ⟨144, [.v (.s .task) false, .v .I false], [(.B, true)], [], fun x => z03g x.1 x.2.1⟩
def z0ep : Fs := ⟨[z03a, z09b], [], []⟩
theorem z074 : z0ep.Ok Try.prog := (fsK z044 (fsK z0kh fs0))
def z06b : Tmpl := ⟨[(1, .c .i), (2, .c (.bx 2 0)), (5, .c (.bx 9 0)), (12, .c (.s (.s .flow))), (13, .c .i), (14, .c .i)], [(2, .boxT (.s .task)), (9, .mp)]⟩
def z05b : Tmpl := ⟨[(2, .c (.bx 2 0))], [(2, .boxT (.s .task))]⟩
def z0b9 (av : AV) (x : HP z00f.ps) (n : Nat) (v : z06b.den) (K : Ks (CR z00f)) : Option (CR z00f) := z00k v.2.1 v.1.1 v.1.2.2.2.1 v.1.2.2.2.2.1 (z05b.at none (((), ()), (v.2.1, ())) (K (.exit 0))) n v.1.2.2.2.2.2.1 v.2.2.1
def z066 (av : AV) (x : HP z00f.ps) : Hdl (CR z00f) := hnd [] z06b (z0b9 av x)
theorem z0c2 : LP z00f Try.f144 [0] z066 := lp_ok (W := []) (H := []) (xs := [z05b]) z074 trivial rfl (fun av x v K => by kernel_rfl) (fun av x n v K => by kernel_rfl)
theorem z0f2 : z00f.Ok Try.prog := fn_ok (k := z00f) (fn := Try.f144) (W := []) (H := [z066]) Try.func144 z074 ⟨z0c2, trivial⟩ rfl rfl (fun av x => by kernel_rfl)
def z04i (t : GTask) (places : Int) (tasks : Int) : Option Bool := (z07x t.join).bind fun x1 => (if x1 = true then ((z07x t.split).bind fun x3 => (if x3 = true then ((z013 (t.in_.length : Int) 1 3).bind fun x5 => (if x5 = true then ((z04z t.in_ places [1]).bind fun x7 => (if x7 = true then ((z03g t places).bind fun x9 => (if x9 = true then ((z04z t.clear places [0, 1]).bind fun x11 => (if x11 = true then ((z0c4 t.role).bind fun x13 => (if x13 = true then (gd (ok64 (tasks - 1)) ((z013 t.apart (-1) (tasks - 1)).bind fun x16 => (if x16 = true then ((z013 t.all 1 3).bind fun x18 => (if x18 = true then ((z013 t.need 1 t.all).bind fun x20 => (some x20)) else (some false))) else (some false)))) else (some false))) else (some false))) else (some false))) else (some false))) else (some false))) else (some false))) else (some false))
def z06f : Con := ⟨109, [.v (.s .task) false, .v .I false, .v .I false], [(.B, true)], [], fun x => z04i x.1 x.2.1 x.2.2.1⟩
def z0i2 : Fs := ⟨[z0bt, z03a, z01t, z00f, z0bu], [], []⟩
theorem z0i3 : z0i2.Ok Try.prog := (fsK z0r2 (fsK z044 (fsK z0ot (fsK z0f2 (fsK z0r3 fs0)))))
theorem z0id : z06f.Ok Try.prog := fn_ok (k := z06f) (fn := Try.f109) (W := []) (H := []) Try.func109 z0i3 trivial rfl rfl (fun av x => by kernel_rfl)
def z09k (t : GTask) (n : GNet) : Option Bool := (z04i t n.places (n.tasks.length : Int)).bind fun x1 => (some (!x1))
def z09w : FCon := ⟨108, (.s .task), [(.s .net)], fun z c => z09k z c.1⟩
def z0ng : Fs := ⟨[z06f], [], []⟩
theorem z0o2 : z0ng.Ok Try.prog := (fsK z0id fs0)
theorem z0os : z09w.Ok Try.prog := FCon.ok (fn_ok (k := z09w.con) (fn := Try.f108) (W := []) (H := []) Try.func108 z0o2 trivial rfl rfl (fun av x => by kernel_rfl))
def z09j (n : GNet) : Option Bool := (z09m n.places (n.tasks.length : Int)).bind fun x1 => (if x1 = true then ((z03d n.tasks (fun z => z09k z n)).bind fun x3 => (some (!x3))) else (some false))
def z0ev : Con := ⟨60, [.v (.s .net) false], [(.B, true)], [], fun x => z09j x.1⟩
def z0sb : Fs := ⟨[z09d, z04o], [z09w], []⟩
theorem z0ss : z0sb.Ok Try.prog := (fsK z0ou (fsK z0f0 (fsF z0os fs0)))
theorem z0t8 : z0ev.Ok Try.prog := fn_ok (k := z0ev) (fn := Try.f60) (W := []) (H := []) Try.func60 z0ss trivial rfl rfl (fun av x => by kernel_rfl)
def z03q (m : Int) : Option Bool := (z013 m 0 4).bind fun x1 => (some (!x1))
def z03s : FCon := ⟨110, .I, [], fun z c => z03q z ⟩
def z0b4 : Fs := ⟨[z03a], [], []⟩
theorem z0b5 : z0b4.Ok Try.prog := (fsK z044 fs0)
theorem z0b6 : z03s.Ok Try.prog := FCon.ok (fn_ok (k := z03s.con) (fn := Try.f110) (W := []) (H := []) Try.func110 z0b5 trivial rfl rfl (fun av x => by kernel_rfl))
def z01r (n : GNet) (marks : List Int) : Option Bool := if decide ((marks.length : Int) = n.places) = true then ((z03v marks (fun z => z03q z )).bind fun x2 => (some (!x2))) else (some false)
def z02v : Con := ⟨61, [.v (.s .net) false, .v (.sl .I) false], [(.B, true)], [], fun x => z01r x.1 x.2.1⟩
def z0db : Fs := ⟨[z04u], [z03s], []⟩
theorem z0dd : z0db.Ok Try.prog := (fsK z0cc (fsF z0b6 fs0))
theorem z06k : z02v.Ok Try.prog := fn_ok (k := z02v) (fn := Try.f61) (W := []) (H := []) Try.func61 z0dd trivial rfl rfl (fun av x => by kernel_rfl)
def z07a (n : GNet) (marks : List Int) : Option Bool := (z09j n).bind fun x1 => (if x1 = true then ((z01r n marks).bind fun x3 => (some x3)) else (some false))
def z09c : Con := ⟨18, [.v (.s .net) false, .v (.sl .I) false], [(.B, true)], [], fun x => z07a x.1 x.2.1⟩
def z0sa : Fs := ⟨[z0ev, z02v], [], []⟩
theorem z0sr : z0sa.Ok Try.prog := (fsK z0t8 (fsK z06k fs0))
theorem z0ki : z09c.Ok Try.prog := fn_ok (k := z09c) (fn := Try.f18) (W := []) (H := []) Try.func18 z0sr trivial rfl rfl (fun av x => by kernel_rfl)
def z059 (busy : List GItem) : Option Bool := some (decide ((busy.length : Int) ≤ 6))
def z00t (n : GNet) (p0_0 : List GItem) (p0_1 : Int) (kx0_0 : Option Bool) : Nat → Int → Option Bool
  | 0, _ => none
  | n0 + 1, s0_0 => if decide (s0_0 < p0_1) = true then ((getI p0_0 s0_0).bind fun x2 => ((z00j n x2.task).bind fun x3 => (if x3 = true then ((z04b x2.who).bind fun x5 => (if x5 = true then ((getI n.tasks x2.task).bind fun x7 => (gd (ok64 (x7.need - 1)) ((z013 x2.did 0 (x7.need - 1)).bind fun x9 => (if x9 = true then (gd (ok64 (s0_0 + 1)) ((z00t n p0_0 p0_1 kx0_0 n0) (s0_0 + 1))) else (some false))))) else (some false))) else (some false)))) else (kx0_0)
def z03f (n : GNet) (busy : List GItem) : Option Bool := z00t n busy (busy.length : Int) (z059 busy) FUEL 0
def z00e : Con := ⟨50, [.v (.s .net) false, .v (.sl (.s .item)) false], [(.B, true)], [], fun x => z03f x.1 x.2.1⟩
def z0eo : Fs := ⟨[z01q, z05r, z03a], [], []⟩
theorem z073 : z0eo.Ok Try.prog := (fsK z047 (fsK z0dz (fsK z044 fs0)))
def z06a : Tmpl := ⟨[(1, .c (.s (.s .item))), (2, .c (.bx 2 0)), (7, .c (.s (.s .item))), (8, .c .i), (9, .c .i)], [(2, .boxT (.s .net))]⟩
def z05a : Tmpl := ⟨[(1, .c (.s (.s .item)))], []⟩
def z0b8 (av : AV) (x : HP z00e.ps) (n : Nat) (v : z06a.den) (K : Ks (CR z00e)) : Option (CR z00e) := z00t v.2.1 v.1.2.2.1 v.1.2.2.2.1 (z05a.at none ((v.1.1, ()), ()) (K (.exit 0))) n v.1.2.2.2.2.1
def z065 (av : AV) (x : HP z00e.ps) : Hdl (CR z00e) := hnd [] z06a (z0b8 av x)
theorem z0c1 : LP z00e Try.f50 [0] z065 := lp_ok (W := []) (H := []) (xs := [z05a]) z073 trivial rfl (fun av x v K => by kernel_rfl) (fun av x n v K => by kernel_rfl)
theorem z0f1 : z00e.Ok Try.prog := fn_ok (k := z00e) (fn := Try.f50) (W := []) (H := [z065]) Try.func50 z073 ⟨z0c1, trivial⟩ rfl rfl (fun av x => by kernel_rfl)
def z0ds (l0_1 : List Int) : Option (List Int) := some l0_1
def z00a (t : GTask) (data : List Int) (p0_0 : List GFlow) (p0_1 : Int) (kx0_0 : List Int → Option (List Int)) : Nat → Int → List Int → Option (List Int)
  | 0, _, _ => none
  | n0 + 1, s0_0, l0_1 => if decide (s0_0 < p0_1) = true then ((getI p0_0 s0_0).bind fun x2 => ((z05u x2.if_ data).bind fun x3 => (if x3 = true then (if decide (t.split = 2) = true then (if decide (0 < (l0_1.length : Int)) = true then (gd (ok64 (s0_0 + 1)) ((z00a t data p0_0 p0_1 kx0_0 n0) (s0_0 + 1) l0_1)) else (if decide (t.split = 3) = true then (gd (ok64 ((t.out.length : Int) - 1)) (if decide (s0_0 = ((t.out.length : Int) - 1)) = true then (if decide (0 < (l0_1.length : Int)) = true then (gd (ok64 (s0_0 + 1)) ((z00a t data p0_0 p0_1 kx0_0 n0) (s0_0 + 1) l0_1)) else (gd (l0_1.length + [x2.to].length ≤ SMALL) (gd (ok64 (s0_0 + 1)) ((z00a t data p0_0 p0_1 kx0_0 n0) (s0_0 + 1) (l0_1 ++ [x2.to]))))) else (gd (l0_1.length + [x2.to].length ≤ SMALL) (gd (ok64 (s0_0 + 1)) ((z00a t data p0_0 p0_1 kx0_0 n0) (s0_0 + 1) (l0_1 ++ [x2.to])))))) else (gd (l0_1.length + [x2.to].length ≤ SMALL) (gd (ok64 (s0_0 + 1)) ((z00a t data p0_0 p0_1 kx0_0 n0) (s0_0 + 1) (l0_1 ++ [x2.to])))))) else (if decide (t.split = 3) = true then (gd (ok64 ((t.out.length : Int) - 1)) (if decide (s0_0 = ((t.out.length : Int) - 1)) = true then (if decide (0 < (l0_1.length : Int)) = true then (gd (ok64 (s0_0 + 1)) ((z00a t data p0_0 p0_1 kx0_0 n0) (s0_0 + 1) l0_1)) else (gd (l0_1.length + [x2.to].length ≤ SMALL) (gd (ok64 (s0_0 + 1)) ((z00a t data p0_0 p0_1 kx0_0 n0) (s0_0 + 1) (l0_1 ++ [x2.to]))))) else (gd (l0_1.length + [x2.to].length ≤ SMALL) (gd (ok64 (s0_0 + 1)) ((z00a t data p0_0 p0_1 kx0_0 n0) (s0_0 + 1) (l0_1 ++ [x2.to])))))) else (gd (l0_1.length + [x2.to].length ≤ SMALL) (gd (ok64 (s0_0 + 1)) ((z00a t data p0_0 p0_1 kx0_0 n0) (s0_0 + 1) (l0_1 ++ [x2.to])))))) else (gd (ok64 (s0_0 + 1)) ((z00a t data p0_0 p0_1 kx0_0 n0) (s0_0 + 1) l0_1))))) else (kx0_0 l0_1)
def z09l (t : GTask) (data : List Int) : Option (List Int) := z00a t data t.out (t.out.length : Int) z0ds FUEL 0 ([] : List Int)
def z039 : Con := ⟨30, [.v (.s .task) false, .v (.sl .I) false], [((.sl .I), true)], [], fun x => z09l x.1 x.2.1⟩
def z0sc : Fs := ⟨[z08f], [], []⟩
theorem z0jf : z0sc.Ok Try.prog := (fsK z0m6 fs0)
def z0gi : Tmpl := ⟨[(1, .c (.s .I)), (2, .c (.bx 2 0)), (5, .c (.ref 500005)), (9, .c (.s (.s .flow))), (10, .c .i), (11, .c .i)], [(2, .boxT (.s .task)), (500005, .arr .I true)]⟩
def z0ed : Tmpl := ⟨[(5, .c (.ref 500005))], [(500005, .arr .I true)]⟩
def z0mx (av : AV) (x : HP z039.ps) (n : Nat) (v : z0gi.den) (K : Ks (CR z039)) : Option (CR z039) := z00a v.2.1 v.1.1 v.1.2.2.2.1 v.1.2.2.2.2.1 (fun l0_1 => z0ed.at none (((), ()), (l0_1, ())) (K (.exit 0))) n v.1.2.2.2.2.2.1 v.2.2.1
def z0fp (av : AV) (x : HP z039.ps) : Hdl (CR z039) := hnd [.e 5 500005 .I] z0gi (z0mx av x)
theorem z0od : LP z039 Try.f30 [0] z0fp := lp_ok (W := []) (H := []) (xs := [z0ed]) z0jf trivial rfl (fun av x v K => by kernel_rfl) (fun av x n v K => by kernel_rfl)
theorem z0t9 : z039.Ok Try.prog := fn_ok (k := z039) (fn := Try.f30) (W := []) (H := [z0fp]) Try.func30 z0jf ⟨z0od, trivial⟩ rfl rfl (fun av x => by kernel_rfl)
def z04h (n : GNet) (l1_1 : List Int) : Option ((List Int) × Bool) := (z01r n l1_1).bind fun x21 => (if x21 = true then (some (l1_1, true)) else (some ([], false)))
def z02f (x14 : (List Int)) (p1_0 : Int) (kx1_0 : List Int → Option ((List Int) × Bool)) : Nat → Int → List Int → Option ((List Int) × Bool)
  | 0, _, _ => none
  | n1 + 1, s1_0, l1_1 => if decide (s1_0 < p1_0) = true then ((getI x14 s1_0).bind fun x16 => ((getI l1_1 x16).bind fun x17 => (gd (ok64 (x17 + 1)) ((getI l1_1 x16).bind fun x19 => (gd (ok64 (s1_0 + 1)) ((z02f x14 p1_0 kx1_0 n1) (s1_0 + 1) (l1_1.set x16.toNat (x17 + 1)))))))) else (kx1_0 l1_1)
def z04g (n : GNet) (t : Int) (data : List Int) (l0_1 : List Int) : Option ((List Int) × Bool) := (getI n.tasks t).bind fun x13 => ((z09l x13 data).bind fun x14 => (z02f x14 (x14.length : Int) (z04h n) FUEL 0 l0_1))
def z02e (p0_0 : List Int) (p0_1 : Int) (kx0_0 : List Int → Option ((List Int) × Bool)) : Nat → Int → List Int → Option ((List Int) × Bool)
  | 0, _, _ => none
  | n0 + 1, s0_0, l0_1 => if decide (s0_0 < p0_1) = true then ((getI p0_0 s0_0).bind fun x10 => ((getI l0_1 x10).bind fun x11 => (gd (ok64 (s0_0 + 1)) ((z02e p0_0 p0_1 kx0_0 n0) (s0_0 + 1) (l0_1.set x10.toNat 0))))) else (kx0_0 l0_1)
def z03z (n : GNet) (marks : List Int) (t : Int) (data : List Int) : Option ((List Int) × Bool) := (z07a n marks).bind fun x1 => (if x1 = true then ((z00j n t).bind fun x3 => (if x3 = true then ((z04p data).bind fun x5 => (if x5 = true then ((z02z marks).bind fun x7 => ((getI n.tasks t).bind fun x8 => (z02e x8.clear (x8.clear.length : Int) (z04g n t data) FUEL 0 x7))) else (some ([], false)))) else (some ([], false)))) else (some ([], false)))
def z00d : Con := ⟨29, [.v (.s .net) false, .v (.sl .I) false, .v .I false, .v (.sl .I) false], [((.sl .I), true), (.B, true)], [], fun x => z03z x.1 x.2.1 x.2.2.1 x.2.2.2.1⟩
def z0nf : Fs := ⟨[z09c, z01q, z05d, z04v, z039, z02v], [], []⟩
theorem z093 : z0nf.Ok Try.prog := (fsK z0ki (fsK z047 (fsK z09q (fsK z0cd (fsK z0t9 (fsK z06k fs0))))))
def z0cj : Tmpl := ⟨[(2, .c .i), (3, .c (.s .I)), (4, .c (.bx 4 0)), (10, .c (.ref 31)), (37, .c (.s .I)), (38, .c .i), (39, .c .i)], [(4, .boxT (.s .net)), (31, .arr .I true)]⟩
def z0at : Tmpl := ⟨[(2, .c .i), (3, .c (.s .I)), (4, .c (.bx 4 0)), (10, .c (.ref 31))], [(4, .boxT (.s .net)), (31, .arr .I true)]⟩
def z0in (av : AV) (x : HP z00d.ps) (n : Nat) (v : z0cj.den) (K : Ks (CR z00d)) : Option (CR z00d) := z02e v.1.2.2.2.2.1 v.1.2.2.2.2.2.1 (fun l0_1 => z0at.at none ((v.1.1, v.1.2.1, (), (), ()), (v.2.1, l0_1, ())) (K (.exit 0))) n v.1.2.2.2.2.2.2.1 v.2.2.1
def z0bg (av : AV) (x : HP z00d.ps) : Hdl (CR z00d) := hnd [] z0cj (z0in av x)
theorem z0k0 : LP z00d Try.f29 [0] z0bg := lp_ok (W := []) (H := []) (xs := [z0at]) z093 trivial rfl (fun av x v K => by kernel_rfl) (fun av x n v K => by kernel_rfl)
def z0ck : Tmpl := ⟨[(4, .c (.bx 4 0)), (10, .c (.ref 31)), (53, .c (.ref 53)), (54, .c .i), (55, .c .i)], [(4, .boxT (.s .net)), (31, .arr .I true), (53, .arr .I true)]⟩
def z0au : Tmpl := ⟨[(4, .c (.bx 4 0)), (10, .c (.ref 31))], [(4, .boxT (.s .net)), (31, .arr .I true)]⟩
def z0io (av : AV) (x : HP z00d.ps) (n : Nat) (v : z0ck.den) (K : Ks (CR z00d)) : Option (CR z00d) := z02f v.2.2.2.1 v.1.2.2.2.1 (fun l1_1 => z0au.at none (((), (), ()), (v.2.1, l1_1, ())) (K (.exit 2))) n v.1.2.2.2.2.1 v.2.2.1
def z0bh (av : AV) (x : HP z00d.ps) : Hdl (CR z00d) := hnd [] z0ck (z0io av x)
theorem z0k1 : LP z00d Try.f29 [1] z0bh := lp_ok (W := []) (H := []) (xs := [z0au]) z093 trivial rfl (fun av x v K => by kernel_rfl) (fun av x n v K => by kernel_rfl)
theorem z0or : z00d.Ok Try.prog := fn_ok (k := z00d) (fn := Try.f29) (W := []) (H := [z0bg, z0bh]) Try.func29 z093 ⟨z0k0, z0k1, trivial⟩ rfl rfl (fun av x => by kernel_rfl)
def z05t (c : GCase) : Option Bool := if decide (c.state = 1) = true then ((getI c.marks 1).bind fun x16 => (some (decide (x16 = 0)))) else (if decide (c.state = 2) = true then (if decide ((c.busy.length : Int) = 0) = true then ((getI c.marks 1).bind fun x19 => (some ((decide (c.state = 2)) == (decide (0 < x19))))) else (some false)) else (if decide (c.state = 3) = true then (if decide ((c.busy.length : Int) = 0) = true then ((getI c.marks 1).bind fun x22 => (some ((decide (c.state = 2)) == (decide (0 < x22))))) else (some false)) else (some false)))
def z03i (n : GNet) (p0_0 : List GDid) (p0_1 : Int) (kx0_0 : Option Bool) : Nat → Int → Option Bool
  | 0, _ => none
  | n0 + 1, s0_0 => if decide (s0_0 < p0_1) = true then ((getI p0_0 s0_0).bind fun x9 => ((z00j n x9.task).bind fun x10 => (if x10 = true then ((z04b x9.who).bind fun x12 => (if x12 = true then (gd (ok64 (s0_0 + 1)) ((z03i n p0_0 p0_1 kx0_0 n0) (s0_0 + 1))) else (some false))) else (some false)))) else (kx0_0)
def z09h (n : GNet) (c : GCase) : Option Bool := (z07a n c.marks).bind fun x1 => (if x1 = true then ((z03f n c.busy).bind fun x3 => (if x3 = true then ((z04p c.data).bind fun x5 => (if x5 = true then (if decide (60 < (c.did.length : Int)) = true then (some false) else (z03i n c.did (c.did.length : Int) (z05t c) FUEL 0)) else (some false))) else (some false))) else (some false))
def z038 : Con := ⟨13, [.v (.s .net) false, .v (.s .kase) false], [(.B, true)], [], fun x => z09h x.1 x.2.1⟩
def z0s7 : Fs := ⟨[z09c, z00e, z05d, z01q, z05r], [], []⟩
theorem z0je : z0s7.Ok Try.prog := (fsK z0ki (fsK z0f1 (fsK z09q (fsK z047 (fsK z0dz fs0)))))
def z0gh : Tmpl := ⟨[(2, .c (.bx 2 0)), (3, .c (.bx 3 0)), (32, .c (.s (.s .did))), (33, .c .i), (34, .c .i)], [(2, .boxT (.s .net)), (3, .boxT (.s .kase))]⟩
def z0ec : Tmpl := ⟨[(3, .c (.bx 3 0))], [(3, .boxT (.s .kase))]⟩
def z0mw (av : AV) (x : HP z038.ps) (n : Nat) (v : z0gh.den) (K : Ks (CR z038)) : Option (CR z038) := z03i v.2.1 v.1.2.2.1 v.1.2.2.2.1 (z0ec.at none (((), ()), (v.2.2.1, ())) (K (.exit 0))) n v.1.2.2.2.2.1
def z0fo (av : AV) (x : HP z038.ps) : Hdl (CR z038) := hnd [] z0gh (z0mw av x)
theorem z0oc : LP z038 Try.f13 [0] z0fo := lp_ok (W := []) (H := []) (xs := [z0ec]) z0je trivial rfl (fun av x v K => by kernel_rfl) (fun av x n v K => by kernel_rfl)
theorem z0t7 : z038.Ok Try.prog := fn_ok (k := z038) (fn := Try.f13) (W := []) (H := [z0fo]) Try.func13 z0je ⟨z0oc, trivial⟩ rfl rfl (fun av x => by kernel_rfl)
def z050 (n : GNet) (c : GCase) : Option Bool := (z09h n c).bind fun x1 => (if x1 = true then (some (decide (c.state = 1))) else (some false))
def z06o : Con := ⟨58, [.v (.s .net) false, .v (.s .kase) false], [(.B, true)], [], fun x => z050 x.1 x.2.1⟩
def z0nj : Fs := ⟨[z038], [], []⟩
theorem z0o4 : z0nj.Ok Try.prog := (fsK z0t7 fs0)
theorem z0g9 : z06o.Ok Try.prog := fn_ok (k := z06o) (fn := Try.f58) (W := []) (H := []) Try.func58 z0o4 trivial rfl rfl (fun av x => by kernel_rfl)
def z06q (n : GNet) (c : GCase) (k : Int) (v : Int) (num : Int) : Option (GCase × Bool) := (z005 c).bind fun x1 => ((z050 n c).bind fun x2 => (if x2 = true then (gd (ok64 ((c.busy.length : Int) - 1)) ((z013 k 0 ((c.busy.length : Int) - 1)).bind fun x5 => (if x5 = true then ((z013 v (-1) 2).bind fun x7 => (if x7 = true then ((z040 num).bind fun x9 => (if x9 = true then (if decide ((c.did.length : Int) = 60) = true then (some (x1, false)) else (if decide (0 ≤ v) = true then ((getI x1.data v).bind fun x13 => ((getI x1.busy k).bind fun x14 => (gd (ok64 (x14.did + 1)) ((getI n.tasks ((GItem.mk x14.task x14.who (x14.did + 1)).task)).bind fun x16 => (if decide ((GItem.mk x14.task x14.who (x14.did + 1)).did < x16.need) = true then (some ((GCase.mk x1.state x1.marks (x1.busy.set k.toNat (GItem.mk x14.task x14.who (x14.did + 1))) (x1.data.set v.toNat num) x1.did), true)) else ((z03z n c.marks ((GItem.mk x14.task x14.who (x14.did + 1)).task) (x1.data.set v.toNat num)).bind fun x18 => (if x18.2 = true then (gd (x1.did.length + [(GDid.mk ((GItem.mk x14.task x14.who (x14.did + 1)).task) ((GItem.mk x14.task x14.who (x14.did + 1)).who))].length ≤ SMALL) (gd (ok64 (k + 1)) ((z03e (x1.busy.set k.toNat (GItem.mk x14.task x14.who (x14.did + 1))) k (k + 1)).bind fun x22 => ((getI x18.1 1).bind fun x23 => (if decide (0 < x23) = true then ((z005 (GCase.mk 2 x18.1 [] (x1.data.set v.toNat num) (x1.did ++ [(GDid.mk ((GItem.mk x14.task x14.who (x14.did + 1)).task) ((GItem.mk x14.task x14.who (x14.did + 1)).who))]))).bind fun x25 => (some (x25, true))) else ((z005 (GCase.mk x1.state x18.1 x22 (x1.data.set v.toNat num) (x1.did ++ [(GDid.mk ((GItem.mk x14.task x14.who (x14.did + 1)).task) ((GItem.mk x14.task x14.who (x14.did + 1)).who))]))).bind fun x26 => (some (x26, true)))))))) else ((z005 c).bind fun x27 => (some (x27, false)))))))))) else ((getI x1.busy k).bind fun x28 => (gd (ok64 (x28.did + 1)) ((getI n.tasks ((GItem.mk x28.task x28.who (x28.did + 1)).task)).bind fun x30 => (if decide ((GItem.mk x28.task x28.who (x28.did + 1)).did < x30.need) = true then (some ((GCase.mk x1.state x1.marks (x1.busy.set k.toNat (GItem.mk x28.task x28.who (x28.did + 1))) x1.data x1.did), true)) else ((z03z n c.marks ((GItem.mk x28.task x28.who (x28.did + 1)).task) x1.data).bind fun x32 => (if x32.2 = true then (gd (x1.did.length + [(GDid.mk ((GItem.mk x28.task x28.who (x28.did + 1)).task) ((GItem.mk x28.task x28.who (x28.did + 1)).who))].length ≤ SMALL) (gd (ok64 (k + 1)) ((z03e (x1.busy.set k.toNat (GItem.mk x28.task x28.who (x28.did + 1))) k (k + 1)).bind fun x36 => ((getI x32.1 1).bind fun x37 => (if decide (0 < x37) = true then ((z005 (GCase.mk 2 x32.1 [] x1.data (x1.did ++ [(GDid.mk ((GItem.mk x28.task x28.who (x28.did + 1)).task) ((GItem.mk x28.task x28.who (x28.did + 1)).who))]))).bind fun x39 => (some (x39, true))) else ((z005 (GCase.mk x1.state x32.1 x36 x1.data (x1.did ++ [(GDid.mk ((GItem.mk x28.task x28.who (x28.did + 1)).task) ((GItem.mk x28.task x28.who (x28.did + 1)).who))]))).bind fun x40 => (some (x40, true)))))))) else ((z005 c).bind fun x41 => (some (x41, false))))))))))) else (some (x1, false)))) else (some (x1, false)))) else (some (x1, false))))) else (some (x1, false))))
def z09a : Con := ⟨24, [.v (.s .net) false, .v (.s .kase) false, .v .I false, .v .I false, .v .I false], [((.s .kase), true), (.B, true)], [], fun x => z06q x.1 x.2.1 x.2.2.1 x.2.2.2.1 x.2.2.2.2.1⟩
def z0nd : Fs := ⟨[z037, z06o, z03a, z04w, z00d, z0g1], [], []⟩
theorem z0o0 : z0nd.Ok Try.prog := (fsK z07e (fsK z0g9 (fsK z044 (fsK z09r (fsK z0or (fsK z0on fs0))))))
theorem z0op : z09a.Ok Try.prog := fn_ok (k := z09a) (fn := Try.f24) (W := []) (H := []) Try.func24 z0o0 trivial rfl rfl (fun av x => by kernel_rfl)
def z06p (n : GNet) (c : GCase) : Option (GCase × Bool) := (z005 c).bind fun x1 => ((z050 n c).bind fun x2 => (if x2 = true then (some ((GCase.mk 3 x1.marks [] x1.data x1.did), true)) else (some (x1, false))))
def z099 : Con := ⟨15, [.v (.s .net) false, .v (.s .kase) false], [((.s .kase), true), (.B, true)], [], fun x => z06p x.1 x.2.1⟩
def z0nc : Fs := ⟨[z037, z06o], [], []⟩
theorem z0nz : z0nc.Ok Try.prog := (fsK z07e (fsK z0g9 fs0))
theorem z0oo : z099.Ok Try.prog := fn_ok (k := z099) (fn := Try.f15) (W := []) (H := []) Try.func15 z0nz trivial rfl rfl (fun av x => by kernel_rfl)
def z06u (code : List Int) : Option GRd := if decide (2000 < (code.length : Int)) = true then (gd ((0 : Int) ≤ 2000 ∧ 2000 ≤ (code.length : Int)) (some (GRd.mk (code.take (2000 : Int).toNat) 0))) else (some (GRd.mk code 0))
def z0g2 : BCon := ⟨49, fun x => z06u x⟩
def z0nq : Fs := ⟨[], [], []⟩
theorem z0o7 : z0nq.Ok Try.prog := fs0
theorem z0oz : z0g2.Ok Try.prog := z146 (fn := Try.f49) Try.func49 z0o7 rfl rfl rfl rfl rfl (fun l => by kernel_rfl)
def z004 (r : GRd) (n : Int) : Option (Int × GRd) := gd (ok64 (r.p + 1)) (if decide (n < 1) = true then (some (0, (GRd.mk r.b (r.p + 1)))) else (if decide ((r.b.length : Int) = 0) = true then (some (0, (GRd.mk r.b (r.p + 1)))) else (gd (ok64 ((r.p + 1) - 1)) (if decide (((r.p + 1) - 1) < (r.b.length : Int)) = true then ((getI r.b ((r.p + 1) - 1)).bind fun x6 => (gd (ok64 x6) (gd ((n : Int) ≠ 0) (some ((Int.tmod x6 n), (GRd.mk r.b (r.p + 1))))))) else (gd (((r.b.length : Int) : Int) ≠ 0) ((getI r.b (Int.tmod ((r.p + 1) - 1) (r.b.length : Int))).bind fun x10 => (gd (ok64 x10) (gd (ok64 (x10 * 131)) (gd (ok64 (((r.p + 1) - 1) * 7)) (gd (ok64 ((((r.p + 1) - 1) * 7) + 3)) (gd (((r.b.length : Int) : Int) ≠ 0) ((getI r.b (Int.tmod ((((r.p + 1) - 1) * 7) + 3) (r.b.length : Int))).bind fun x16 => (gd (ok64 x16) (gd (ok64 (x16 * 1117)) (gd (ok64 ((x10 * 131) + (x16 * 1117))) (gd (ok64 (((r.p + 1) - 1) * 29)) (gd (ok64 (((x10 * 131) + (x16 * 1117)) + (((r.p + 1) - 1) * 29))) (gd (((r.b.length : Int) : Int) ≠ 0 ∧ ok64 (Int.tdiv ((r.p + 1) - 1) (r.b.length : Int))) (gd (ok64 ((Int.tdiv ((r.p + 1) - 1) (r.b.length : Int)) * 53)) (gd (ok64 ((((x10 * 131) + (x16 * 1117)) + (((r.p + 1) - 1) * 29)) + ((Int.tdiv ((r.p + 1) - 1) (r.b.length : Int)) * 53))) (gd ((64 : Int) ≠ 0 ∧ ok64 (Int.tdiv ((((x10 * 131) + (x16 * 1117)) + (((r.p + 1) - 1) * 29)) + ((Int.tdiv ((r.p + 1) - 1) (r.b.length : Int)) * 53)) 64)) (gd ((n : Int) ≠ 0) (some ((Int.tmod (xorI ((((x10 * 131) + (x16 * 1117)) + (((r.p + 1) - 1) * 29)) + ((Int.tdiv ((r.p + 1) - 1) (r.b.length : Int)) * 53)) (Int.tdiv ((((x10 * 131) + (x16 * 1117)) + (((r.p + 1) - 1) * 29)) + ((Int.tdiv ((r.p + 1) - 1) (r.b.length : Int)) * 53)) 64)) n), (GRd.mk r.b (r.p + 1))))))))))))))))))))))))))
def z0ew : Con := ⟨65, [.ptr (.s .rd) false, .v .I false], [(.I, true)], [(0, .ptr (.s .rd) false)], fun x => z004 x.1 x.2.1⟩
def z15n : Fs := ⟨[], [], []⟩
theorem z15o : z15n.Ok Try.prog := fs0
theorem z0h2 : z0ew.Ok Try.prog := fn_ok (k := z0ew) (fn := Try.f65) (W := []) (H := []) Try.func65 z15o trivial rfl rfl (fun av x => by kernel_rfl)
def z04m (n : Int) (s0_0 : List Int) (s0_1 : Int) (l0_3 : List Int) : Option ((List Int) × GRd) := (z004 (GRd.mk s0_0 s0_1) n).bind fun x7 => (if decide (x7.1 = 0) = true then ((z004 x7.2 3).bind fun x9 => (if decide (x9.1 = 0) = true then ((z004 x9.2 3).bind fun x11 => ((z004 x11.2 4).bind fun x12 => ((getI [100, (-100), 9223372036854775807, (-9223372036854775808)] x12.1).bind fun x13 => ((getI l0_3 x11.1).bind fun x14 => (some ((l0_3.set x11.1.toNat x13), x12.2)))))) else (if decide (x9.1 = 1) = true then (gd ((0 : Int) ≤ 1 ∧ 1 ≤ (l0_3.length : Int)) (some ((l0_3.drop (1 : Int).toNat), x9.2))) else (gd (l0_3.length + [0].length ≤ SMALL) (some ((l0_3 ++ [0]), x9.2)))))) else (some (l0_3, x7.2)))
def z02j (kx0_0 : List Int → Int → List Int → Option ((List Int) × GRd)) : Nat → List Int → Int → Int → List Int → Option ((List Int) × GRd)
  | 0, _, _, _, _ => none
  | n0 + 1, s0_0, s0_1, s0_2, l0_3 => if decide (s0_2 < 3) = true then ((z004 (GRd.mk s0_0 s0_1) 9).bind fun x2 => ((z004 x2.2 7).bind fun x3 => ((getI [0, 1, (-1), 5, 99, (-99), x2.1] x3.1).bind fun x4 => (gd (l0_3.length + [x4].length ≤ SMALL) (gd (ok64 (s0_2 + 1)) ((z02j kx0_0 n0) x3.2.b x3.2.p (s0_2 + 1) (l0_3 ++ [x4]))))))) else (kx0_0 s0_0 s0_1 l0_3)
def z053 (r : GRd) (n : Int) : Option ((List Int) × GRd) := z02j (z04m n) FUEL r.b r.p 0 ([] : List Int)
def z01w : Con := ⟨101, [.ptr (.s .rd) false, .v .I false], [((.sl .I), false)], [(0, .ptr (.s .rd) false)], fun x => z053 x.1 x.2.1⟩
def z0np : Fs := ⟨[z0ew], [], []⟩
theorem z0fk : z0np.Ok Try.prog := (fsK z0h2 fs0)
def z0cq : Tmpl := ⟨[(0, .c (.bx 1000000 0)), (1, .c .i), (5, .c (.ref 7)), (6, .c .i)], [(1000000, .box [.s .Y, .i]), (7, .arr .I true)]⟩
def z0az : Tmpl := ⟨[(0, .c (.bx 1000000 0)), (1, .c .i), (5, .c (.ref 7))], [(1000000, .box [.s .Y, .i]), (7, .arr .I true)]⟩
def z0iu (av : AV) (x : HP z01w.ps) (n : Nat) (v : z0cq.den) (K : Ks (CR z01w)) : Option (CR z01w) := z02j (fun s0_0 s0_1 l0_3 => z0az.at none (((), v.1.2.1, (), ()), ((s0_0, s0_1, ()), l0_3, ())) (K (.exit 0))) n v.2.1.1 v.2.1.2.1 v.1.2.2.2.1 v.2.2.1
def z0bn (av : AV) (x : HP z01w.ps) : Hdl (CR z01w) := hnd [] z0cq (z0iu av x)
theorem z0k7 : LP z01w Try.f101 [0] z0bn := lp_ok (W := [(12, [.froz 7])]) (H := []) (xs := [z0az]) z0fk trivial rfl (fun av x v K => by kernel_rfl) (fun av x n v K => by kernel_rfl)
theorem z0oy : z01w.Ok Try.prog := fn_ok (k := z01w) (fn := Try.f101) (W := [(12, [.froz 7])]) (H := [z0bn]) Try.func101 z0fk ⟨z0k7, trivial⟩ rfl rfl (fun av x => by kernel_rfl)
def z084 (r : GRd) (n : Int) : Option (GAsk × GRd) := (z004 r 3).bind fun x1 => (gd (ok64 (1 + x1.1)) ((z004 x1.2 3).bind fun x3 => ((z004 x3.2 9).bind fun x4 => ((z004 x4.2 6).bind fun x5 => ((getI [0, 1, 2, 5, (-1), x4.1] x5.1).bind fun x6 => ((z004 x5.2 6).bind fun x7 => (if decide (x7.1 = 0) = true then ((z004 x7.2 n).bind fun x9 => (if decide (x9.1 = 0) = true then ((z004 x9.2 3).bind fun x11 => (if decide (x11.1 = 0) = true then ((z004 x11.2 3).bind fun x13 => ((getI [0, 4, (-1)] x13.1).bind fun x14 => (some ((GAsk.mk x14 0 0), x13.2)))) else (if decide (x11.1 = 1) = true then ((z004 x11.2 3).bind fun x16 => ((getI [3, (-1), 1] x16.1).bind fun x17 => (some ((GAsk.mk 0 x17 0), x16.2)))) else ((z004 x11.2 3).bind fun x18 => ((getI [99, 100, (-99)] x18.1).bind fun x19 => (some ((GAsk.mk 0 0 x19), x18.2))))))) else (some ((GAsk.mk 0 0 0), x9.2)))) else ((z004 x7.2 n).bind fun x20 => (if decide (x20.1 = 0) = true then ((z004 x20.2 3).bind fun x22 => (if decide (x22.1 = 0) = true then ((z004 x22.2 3).bind fun x24 => ((getI [0, 4, (-1)] x24.1).bind fun x25 => (some ((GAsk.mk x25 x3.1 x6), x24.2)))) else (if decide (x22.1 = 1) = true then ((z004 x22.2 3).bind fun x27 => ((getI [3, (-1), 1] x27.1).bind fun x28 => (some ((GAsk.mk (1 + x1.1) x28 x6), x27.2)))) else ((z004 x22.2 3).bind fun x29 => ((getI [99, 100, (-99)] x29.1).bind fun x30 => (some ((GAsk.mk (1 + x1.1) x3.1 x30), x29.2))))))) else (some ((GAsk.mk (1 + x1.1) x3.1 x6), x20.2)))))))))))
def z0by : Con := ⟨139, [.ptr (.s .rd) false, .v .I false], [((.s .ask), true)], [(0, .ptr (.s .rd) false)], fun x => z084 x.1 x.2.1⟩
def z0q8 : Fs := ⟨[z0ew], [], []⟩
theorem z0qm : z0q8.Ok Try.prog := (fsK z0h2 fs0)
theorem z0ra : z0by.Ok Try.prog := fn_ok (k := z0by) (fn := Try.f139) (W := []) (H := []) Try.func139 z0qm trivial rfl rfl (fun av x => by kernel_rfl)
def z0ae (join : Int) (in_ : List Int) (p0_6 : Int) (p0_7 : Int) (p0_8 : Int) (p0_9 : Int) (p0_10 : Int) (s0_0 : List Int) (s0_1 : Int) (l0_3 : List GFlow) : Option (GTask × GRd) := some ((GTask.mk join p0_6 in_ l0_3 [] p0_7 p0_8 p0_9 p0_10), (GRd.mk s0_0 s0_1))
def z00n (split : Int) (to : List Int) (kx0_0 : List Int → Int → List GFlow → Option (GTask × GRd)) : Nat → List Int → Int → Int → List GFlow → Option (GTask × GRd)
  | 0, _, _, _, _ => none
  | n0 + 1, s0_0, s0_1, s0_2, l0_3 => if decide (s0_2 < (to.length : Int)) = true then ((getI to s0_2).bind fun x11 => (if decide (split = 1) = true then (gd (l0_3.length + [(GFlow.mk x11 (GAsk.mk 0 0 0))].length ≤ SMALL) (gd (ok64 (s0_2 + 1)) ((z00n split to kx0_0 n0) s0_0 s0_1 (s0_2 + 1) (l0_3 ++ [(GFlow.mk x11 (GAsk.mk 0 0 0))])))) else (gd (ok64 ((to.length : Int) - 1)) (if decide (s0_2 < ((to.length : Int) - 1)) = true then ((z004 (GRd.mk s0_0 s0_1) 3).bind fun x17 => (gd (ok64 (1 + x17.1)) ((z004 x17.2 3).bind fun x19 => ((z004 x19.2 5).bind fun x20 => (gd (ok64 (x20.1 - 1)) (gd (l0_3.length + [(GFlow.mk x11 (GAsk.mk (1 + x17.1) x19.1 (x20.1 - 1)))].length ≤ SMALL) (gd (ok64 (s0_2 + 1)) ((z00n split to kx0_0 n0) x20.2.b x20.2.p (s0_2 + 1) (l0_3 ++ [(GFlow.mk x11 (GAsk.mk (1 + x17.1) x19.1 (x20.1 - 1)))]))))))))) else (gd (l0_3.length + [(GFlow.mk x11 (GAsk.mk 0 0 0))].length ≤ SMALL) (gd (ok64 (s0_2 + 1)) ((z00n split to kx0_0 n0) s0_0 s0_1 (s0_2 + 1) (l0_3 ++ [(GFlow.mk x11 (GAsk.mk 0 0 0))])))))))) else (kx0_0 s0_0 s0_1 l0_3)
def z0af (join : Int) (in_ : List Int) (p1_6 : Int) (p1_7 : Int) (p1_8 : Int) (p1_9 : Int) (p1_10 : Int) (s1_0 : List Int) (s1_1 : Int) (l1_3 : List GFlow) : Option (GTask × GRd) := some ((GTask.mk join p1_6 in_ l1_3 [] p1_7 p1_8 p1_9 p1_10), (GRd.mk s1_0 s1_1))
def z006 (r : GRd) (join : Int) (split : Int) (in_ : List Int) (to : List Int) (tasks : Int) : Option (GTask × GRd) := (z004 r 3).bind fun x1 => (gd (ok64 (1 + x1.1)) ((z004 x1.2 3).bind fun x3 => (gd (ok64 (1 + x3.1)) ((z004 x3.2 (1 + x3.1)).bind fun x5 => (gd (ok64 (1 + x5.1)) ((z004 x5.2 3).bind fun x7 => (if decide (x7.1 = 0) = true then ((z004 x7.2 tasks).bind fun x9 => (z00n split to (z0ae join in_ split (1 + x1.1) x9.1 (1 + x3.1) (1 + x5.1)) FUEL x9.2.b x9.2.p 0 ([] : List GFlow))) else (z00n split to (z0af join in_ split (1 + x1.1) (-1) (1 + x3.1) (1 + x5.1)) FUEL x7.2.b x7.2.p 0 ([] : List GFlow)))))))))
def z01x : Con := ⟨160, [.ptr (.s .rd) false, .v .I false, .v .I false, .v (.sl .I) true, .v (.sl .I) true, .v .I false], [((.s .task), true)], [(0, .ptr (.s .rd) false)], fun x => z006 x.1 x.2.1 x.2.2.1 x.2.2.2.1 x.2.2.2.2.1 x.2.2.2.2.2.1⟩
def z0nr : Fs := ⟨[z0ew], [], []⟩
theorem z0fl : z0nr.Ok Try.prog := (fsK z0h2 fs0)
def z0cr : Tmpl := ⟨[(0, .c (.bx 1000000 0)), (2, .c .i), (4, .c (.ref 1480000)), (12, .c (.bx 12 0)), (13, .c (.bx 13 0)), (14, .c .i)], [(1000000, .box [.s .Y, .i]), (12, .box [.i, .i, .nl, .nl, .nl, .i, .i, .i, .i]), (13, .box [.i, .i, .ref 1360000, .ref 511303, .nl, .i, .i, .i, .i]), (1480000, .arr .I true), (1360000, .arr .I true), (511303, .arr (.s .flow) true)]⟩
def z0b0 : Tmpl := ⟨[(12, .c (.bx 12 0)), (13, .c (.bx 13 0))], [(12, .box [.i, .i, .nl, .nl, .nl, .i, .i, .i, .i]), (13, .box [.i, .i, .ref 1360000, .ref 511303, .nl, .i, .i, .i, .i]), (1000000, .box [.s .Y, .i]), (1360000, .arr .I true), (511303, .arr (.s .flow) true)]⟩
def z0iv (av : AV) (x : HP z01x.ps) (n : Nat) (v : z0cr.den) (K : Ks (CR z01x)) : Option (CR z01x) := z00n v.1.2.1 v.2.2.2.2.1 (fun s0_0 s0_1 l0_3 => z0b0.at none (((), (), ()), ((v.2.2.1.1, v.2.2.1.2.1, (), (), (), v.2.2.1.2.2.2.2.2.1, v.2.2.1.2.2.2.2.2.2.1, v.2.2.1.2.2.2.2.2.2.2.1, v.2.2.1.2.2.2.2.2.2.2.2.1, ()), (v.2.2.2.1.1, v.2.2.2.1.2.1, (), (), (), v.2.2.2.1.2.2.2.2.2.1, v.2.2.2.1.2.2.2.2.2.2.1, v.2.2.2.1.2.2.2.2.2.2.2.1, v.2.2.2.1.2.2.2.2.2.2.2.2.1, ()), (s0_0, s0_1, ()), v.2.2.2.2.2.1, l0_3, ())) (K (.exit 0))) n v.2.1.1 v.2.1.2.1 v.1.2.2.2.2.2.1 v.2.2.2.2.2.2.1
def z0bo (av : AV) (x : HP z01x.ps) : Hdl (CR z01x) := hnd [.b 13 3 511303 (.s .flow)] z0cr (z0iv av x)
theorem z0k8 : LP z01x Try.f160 [0] z0bo := lp_ok (W := []) (H := []) (xs := [z0b0]) z0fl trivial rfl (fun av x v K => by kernel_rfl) (fun av x n v K => by kernel_rfl)
theorem z0p0 : z01x.Ok Try.prog := fn_ok (k := z01x) (fn := Try.f160) (W := []) (H := [z0bo]) Try.func160 z0fl ⟨z0k8, trivial⟩ rfl rfl (fun av x => by kernel_rfl)
def z034 (p0_2 : Int) (s0_0 : List Int) (s0_1 : Int) (l0_3 : List GTask) : Option (GNet × GRd) := some ((GNet.mk p0_2 l0_3), (GRd.mk s0_0 s0_1))
def z00q (p0_0 : Int) (p0_2 : Int) (kx0_0 : List Int → Int → List GTask → Option (GNet × GRd)) : Nat → List Int → Int → Int → List GTask → Option (GNet × GRd)
  | 0, _, _, _, _ => none
  | n0 + 1, s0_0, s0_1, s0_2, l0_3 => if decide (s0_2 < p0_0) = true then (gd (ok64 (p0_2 - 2)) ((z004 (GRd.mk s0_0 s0_1) (p0_2 - 2)).bind fun x39 => (gd (ok64 (2 + x39.1)) ((z004 x39.2 4).bind fun x41 => ((getI [0, 2, 2, (2 + x39.1)] x41.1).bind fun x42 => (gd (ok64 (p0_2 - 1)) ((z004 x41.2 (p0_2 - 1)).bind fun x44 => (gd (ok64 (1 + x44.1)) ((z004 x44.2 2).bind fun x46 => (if decide (x46.1 = 0) = true then ((getI [(1 + x44.1)] 0).bind fun x48 => (if decide (x48 = 2) = true then ((z004 x46.2 3).bind fun x50 => (gd (ok64 (1 + x50.1)) ((z004 x50.2 3).bind fun x52 => (gd (ok64 (1 + x52.1)) ((z006 x52.2 (1 + x50.1) (1 + x52.1) [x42] [(1 + x44.1)] p0_0).bind fun x54 => (gd (l0_3.length + [x54.1].length ≤ SMALL) (gd (ok64 (s0_2 + 1)) ((z00q p0_0 p0_2 kx0_0 n0) x54.2.b x54.2.p (s0_2 + 1) (l0_3 ++ [x54.1]))))))))) else (gd ([(1 + x44.1)].length + [2].length ≤ SMALL) ((z004 x46.2 3).bind fun x58 => (gd (ok64 (1 + x58.1)) ((z004 x58.2 3).bind fun x60 => (gd (ok64 (1 + x60.1)) ((z006 x60.2 (1 + x58.1) (1 + x60.1) [x42] ([(1 + x44.1)] ++ [2]) p0_0).bind fun x62 => (gd (l0_3.length + [x62.1].length ≤ SMALL) (gd (ok64 (s0_2 + 1)) ((z00q p0_0 p0_2 kx0_0 n0) x62.2.b x62.2.p (s0_2 + 1) (l0_3 ++ [x62.1])))))))))))) else ((z004 x46.2 3).bind fun x65 => (gd (ok64 (1 + x65.1)) ((z004 x65.2 3).bind fun x67 => (gd (ok64 (1 + x67.1)) ((z006 x67.2 (1 + x65.1) (1 + x67.1) [x42] [(1 + x44.1)] p0_0).bind fun x69 => (gd (l0_3.length + [x69.1].length ≤ SMALL) (gd (ok64 (s0_2 + 1)) ((z00q p0_0 p0_2 kx0_0 n0) x69.2.b x69.2.p (s0_2 + 1) (l0_3 ++ [x69.1]))))))))))))))))))) else (kx0_0 s0_0 s0_1 l0_3)
def z061 (r : GRd) : Option (GNet × GRd) := (z004 r 3).bind fun x1 => (gd (ok64 (1 + x1.1)) ((z004 x1.2 3).bind fun x3 => (gd (ok64 (1 + x3.1)) ((z004 x3.2 4).bind fun x5 => ((getI [(1 + x1.1), (1 + x1.1), (1 + x1.1), (1 + x3.1)] x5.1).bind fun x6 => ((z004 x5.2 6).bind fun x7 => (if decide (x7.1 = 0) = true then ((z006 x7.2 (1 + x1.1) 1 [0] [2] 2).bind fun x9 => ((z006 x9.2 x6 2 [2] [1] 2).bind fun x10 => (some ((GNet.mk 3 [x9.1, x10.1]), x10.2)))) else (if decide (x7.1 = 1) = true then ((z006 x7.2 1 (1 + x1.1) [0] [2, 3] 4).bind fun x12 => ((z006 x12.2 1 1 [2] [4] 4).bind fun x13 => ((z006 x13.2 2 1 [3] [5] 4).bind fun x14 => ((z006 x14.2 x6 2 [4, 5] [1] 4).bind fun x15 => (some ((GNet.mk 6 [x12.1, x13.1, x14.1, x15.1]), x15.2)))))) else (if decide (x7.1 = 2) = true then ((z006 x7.2 2 1 [0] [2] 3).bind fun x17 => ((z004 x17.2 2).bind fun x18 => (gd (ok64 (2 + x18.1)) ((z006 x18.2 1 2 [2] [(2 + x18.1), 1] 3).bind fun x20 => ((z006 x20.2 2 1 [3] [2] 3).bind fun x21 => (some ((GNet.mk 4 [x17.1, x20.1, x21.1]), x21.2))))))) else (if decide (x7.1 = 3) = true then ((z006 x7.2 1 (1 + x1.1) [0] [2, 3, 4] 4).bind fun x23 => ((z006 x23.2 1 1 [2] [5] 4).bind fun x24 => ((z006 x24.2 x6 1 [3, 4] [6] 4).bind fun x25 => ((z004 x25.2 3).bind fun x26 => (gd (ok64 (1 + x26.1)) ((z006 x26.2 (1 + x26.1) 1 [5, 6] [1] 4).bind fun x28 => (some ((GNet.mk 7 [x23.1, x24.1, x25.1, x28.1]), x28.2)))))))) else (if decide (x7.1 = 4) = true then ((z006 x7.2 1 1 [0] [2, 3] 3).bind fun x30 => ((z006 x30.2 1 2 [2] [4, 1] 3).bind fun x31 => ((z006 x31.2 (1 + x1.1) 1 [3, 4] [1] 3).bind fun x32 => (some ((GNet.mk 5 [x30.1, x31.1, x32.1]), x32.2))))) else ((z004 x7.2 4).bind fun x33 => (gd (ok64 (3 + x33.1)) ((z004 x33.2 4).bind fun x35 => (gd (ok64 (1 + x35.1)) (z00q (1 + x35.1) (3 + x33.1) (z034 (3 + x33.1)) FUEL x35.2.b x35.2.p 0 ([] : List GTask)))))))))))))))))
def z01f : Con := ⟨138, [.ptr (.s .rd) false], [((.s .net), true)], [(0, .ptr (.s .rd) false)], fun x => z061 x.1⟩
def z0lm : Fs := ⟨[z0ew, z01x], [], []⟩
theorem z0dj : z0lm.Ok Try.prog := (fsK z0h2 (fsK z0p0 fs0))
def z0an : Tmpl := ⟨[(0, .c (.bx 1000000 0)), (2, .c (.bx 2 0)), (5, .c (.bx 5 0)), (6, .c .i), (7, .c .i)], [(1000000, .box [.s .Y, .i]), (2, .box [.i, .nl]), (5, .box [.i, .ref 510501]), (510501, .arr (.s .task) true)]⟩
def z08w : Tmpl := ⟨[(2, .c (.bx 2 0)), (5, .c (.bx 5 0))], [(2, .box [.i, .nl]), (5, .box [.i, .ref 510501]), (1000000, .box [.s .Y, .i]), (510501, .arr (.s .task) true)]⟩
def z0hw (av : AV) (x : HP z01f.ps) (n : Nat) (v : z0an.den) (K : Ks (CR z01f)) : Option (CR z01f) := z00q v.1.2.2.2.1 v.2.2.2.1.1 (fun s0_0 s0_1 l0_3 => z08w.at none (((), (), ()), ((v.2.2.1.1, (), ()), (v.2.2.2.1.1, (), ()), (s0_0, s0_1, ()), l0_3, ())) (K (.exit 1))) n v.2.1.1 v.2.1.2.1 v.1.2.2.2.2.1 v.2.2.2.2.1
def z0a5 (av : AV) (x : HP z01f.ps) : Hdl (CR z01f) := hnd [.b 5 1 510501 (.s .task)] z0an (z0hw av x)
theorem z0i7 : LP z01f Try.f138 [0] z0a5 := lp_ok (W := []) (H := []) (xs := [z08w]) z0dj trivial rfl (fun av x v K => by kernel_rfl) (fun av x n v K => by kernel_rfl)
theorem z0m9 : z01f.Ok Try.prog := fn_ok (k := z01f) (fn := Try.f138) (W := []) (H := [z0a5]) Try.func138 z0dj ⟨z0i7, trivial⟩ rfl rfl (fun av x => by kernel_rfl)
def z068 (r : GRd) : Option (GNet × GRd) := (z061 r).bind fun x1 => ((z004 x1.2 3).bind fun x2 => (if decide (x2.1 = 0) = true then (if decide (3 < x1.1.places) = true then (if decide (0 < (x1.1.tasks.length : Int)) = true then ((z004 x2.2 (x1.1.tasks.length : Int)).bind fun x6 => ((getI x1.1.tasks x6.1).bind fun x7 => ((z02c (GNet.mk x1.1.places (x1.1.tasks.set x6.1.toNat (GTask.mk x7.join x7.split x7.in_ x7.out [2, 3] x7.role x7.apart x7.all x7.need)))).bind fun x8 => (if x8 = true then (some ((GNet.mk x1.1.places (x1.1.tasks.set x6.1.toNat (GTask.mk x7.join x7.split x7.in_ x7.out [2, 3] x7.role x7.apart x7.all x7.need))), x6.2)) else (some ((GNet.mk 2 [(GTask.mk 1 1 [0] [(GFlow.mk 1 (GAsk.mk 0 0 0))] [] 1 (-1) 1 1)]), x6.2)))))) else ((z02c x1.1).bind fun x10 => (if x10 = true then (some (x1.1, x2.2)) else (some ((GNet.mk 2 [(GTask.mk 1 1 [0] [(GFlow.mk 1 (GAsk.mk 0 0 0))] [] 1 (-1) 1 1)]), x2.2))))) else ((z02c x1.1).bind fun x12 => (if x12 = true then (some (x1.1, x2.2)) else (some ((GNet.mk 2 [(GTask.mk 1 1 [0] [(GFlow.mk 1 (GAsk.mk 0 0 0))] [] 1 (-1) 1 1)]), x2.2))))) else ((z02c x1.1).bind fun x14 => (if x14 = true then (some (x1.1, x2.2)) else (some ((GNet.mk 2 [(GTask.mk 1 1 [0] [(GFlow.mk 1 (GAsk.mk 0 0 0))] [] 1 (-1) 1 1)]), x2.2))))))
def z07u : Con := ⟨98, [.ptr (.s .rd) false], [((.s .net), true)], [(0, .ptr (.s .rd) false)], fun x => z068 x.1⟩
def z0q9 : Fs := ⟨[z01f, z0ew, z01j], [], []⟩
theorem z0qn : z0q9.Ok Try.prog := (fsK z0m9 (fsK z0h2 (fsK z09u fs0)))
theorem z0hi : z07u.Ok Try.prog := fn_ok (k := z07u) (fn := Try.f98) (W := []) (H := []) Try.func98 z0qn trivial rfl rfl (fun av x => by kernel_rfl)
def z052 (r : GRd) (n : Int) : Option (GNet × GRd) := (z068 r).bind fun x1 => ((z004 x1.2 n).bind fun x2 => (if decide (0 < x2.1) = true then (some (x1.1, x2.2)) else ((z004 x2.2 6).bind fun x4 => (if decide (x4.1 = 0) = true then ((z004 x4.2 3).bind fun x6 => ((getI [1, 2, 9] x6.1).bind fun x7 => (some ((GNet.mk x7 x1.1.tasks), x6.2)))) else ((z004 x4.2 (x1.1.tasks.length : Int)).bind fun x8 => ((getI x1.1.tasks x8.1).bind fun x9 => ((z004 x8.2 9).bind fun x10 => (if decide (x10.1 = 0) = true then ((z004 x10.2 2).bind fun x12 => ((getI [0, 4] x12.1).bind fun x13 => ((getI x1.1.tasks x8.1).bind fun x14 => (some ((GNet.mk x1.1.places (x1.1.tasks.set x8.1.toNat (GTask.mk x13 x9.split x9.in_ x9.out x9.clear x9.role x9.apart x9.all x9.need))), x12.2))))) else (if decide (x10.1 = 1) = true then ((z004 x10.2 4).bind fun x16 => ((getI [0, 4, 1, 2] x16.1).bind fun x17 => ((getI x1.1.tasks x8.1).bind fun x18 => (some ((GNet.mk x1.1.places (x1.1.tasks.set x8.1.toNat (GTask.mk x9.join x17 x9.in_ x9.out x9.clear x9.role x9.apart x9.all x9.need))), x16.2))))) else (if decide (x10.1 = 2) = true then (gd (([] : List Int).length + x9.in_.length ≤ SMALL) ((z004 x10.2 4).bind fun x21 => ((getI [1, 0, 7, 3] x21.1).bind fun x22 => (gd ((([] : List Int) ++ x9.in_).length + [x22].length ≤ SMALL) ((getI x1.1.tasks x8.1).bind fun x24 => (some ((GNet.mk x1.1.places (x1.1.tasks.set x8.1.toNat (GTask.mk x9.join x9.split ((([] : List Int) ++ x9.in_) ++ [x22]) x9.out x9.clear x9.role x9.apart x9.all x9.need))), x21.2))))))) else (if decide (x10.1 = 3) = true then (gd (([] : List GFlow).length + x9.out.length ≤ SMALL) ((z004 x10.2 4).bind fun x27 => ((z084 x27.2 2).bind fun x28 => (gd ((([] : List GFlow) ++ x9.out).length + [(GFlow.mk x27.1 x28.1)].length ≤ SMALL) ((getI x1.1.tasks x8.1).bind fun x30 => (some ((GNet.mk x1.1.places (x1.1.tasks.set x8.1.toNat (GTask.mk x9.join x9.split x9.in_ ((([] : List GFlow) ++ x9.out) ++ [(GFlow.mk x27.1 x28.1)]) x9.clear x9.role x9.apart x9.all x9.need))), x28.2))))))) else (if decide (x10.1 = 4) = true then (gd (([] : List Int).length + x9.clear.length ≤ SMALL) ((z004 x10.2 4).bind fun x33 => ((getI [0, 1, 2, 9] x33.1).bind fun x34 => (gd ((([] : List Int) ++ x9.clear).length + [x34].length ≤ SMALL) ((getI x1.1.tasks x8.1).bind fun x36 => (some ((GNet.mk x1.1.places (x1.1.tasks.set x8.1.toNat (GTask.mk x9.join x9.split x9.in_ x9.out ((([] : List Int) ++ x9.clear) ++ [x34]) x9.role x9.apart x9.all x9.need))), x33.2))))))) else (if decide (x10.1 = 5) = true then ((z004 x10.2 2).bind fun x38 => ((getI [0, 4] x38.1).bind fun x39 => ((getI x1.1.tasks x8.1).bind fun x40 => (some ((GNet.mk x1.1.places (x1.1.tasks.set x8.1.toNat (GTask.mk x9.join x9.split x9.in_ x9.out x9.clear x39 x9.apart x9.all x9.need))), x38.2))))) else (if decide (x10.1 = 6) = true then ((z004 x10.2 2).bind fun x42 => ((getI [(-2), 6] x42.1).bind fun x43 => ((getI x1.1.tasks x8.1).bind fun x44 => (some ((GNet.mk x1.1.places (x1.1.tasks.set x8.1.toNat (GTask.mk x9.join x9.split x9.in_ x9.out x9.clear x9.role x43 x9.all x9.need))), x42.2))))) else (if decide (x10.1 = 7) = true then (gd (ok64 (x9.all + 1)) ((z004 x10.2 2).bind fun x47 => ((getI [0, (x9.all + 1)] x47.1).bind fun x48 => ((getI x1.1.tasks x8.1).bind fun x49 => (some ((GNet.mk x1.1.places (x1.1.tasks.set x8.1.toNat (GTask.mk x9.join x9.split x9.in_ x9.out x9.clear x9.role x9.apart x9.all x48))), x47.2)))))) else ((z004 x10.2 3).bind fun x50 => ((getI [0, 4, 1] x50.1).bind fun x51 => ((getI x1.1.tasks x8.1).bind fun x52 => (some ((GNet.mk x1.1.places (x1.1.tasks.set x8.1.toNat (GTask.mk x9.join x9.split x9.in_ x9.out x9.clear x9.role x9.apart x51 x9.need))), x50.2))))))))))))))))))))
def z077 : Con := ⟨102, [.ptr (.s .rd) false, .v .I false], [((.s .net), false)], [(0, .ptr (.s .rd) false)], fun x => z052 x.1 x.2.1⟩
def z0j7 : Fs := ⟨[z07u, z0ew, z0by], [], []⟩
theorem z0jo : z0j7.Ok Try.prog := (fsK z0hi (fsK z0h2 (fsK z0ra fs0)))
theorem z0km : z077.Ok Try.prog := fn_ok (k := z077) (fn := Try.f102) (W := [(8, [.share 10009])]) (H := []) Try.func102 z0jo trivial rfl rfl (fun av x => by kernel_rfl)
def z043 (p : Int) (n : Int) (s0_0 : List Int) (s0_1 : Int) (l0_3 : List Int) : Option ((List Int) × GRd) := if decide (1 < p) = true then ((z004 (GRd.mk s0_0 s0_1) 4).bind fun x7 => (if decide (0 < x7.1) = true then ((getI l0_3 1).bind fun x9 => ((z004 x7.2 n).bind fun x10 => (if decide (x10.1 = 0) = true then ((z004 x10.2 2).bind fun x12 => (if decide (x12.1 = 0) = true then (if decide (0 < p) = true then ((z004 x12.2 p).bind fun x15 => ((z004 x15.2 2).bind fun x16 => ((getI [(-1), 5] x16.1).bind fun x17 => ((getI (l0_3.set (1 : Int).toNat 0) x15.1).bind fun x18 => (some (((l0_3.set (1 : Int).toNat 0).set x15.1.toNat x17), x16.2)))))) else (gd ((l0_3.set (1 : Int).toNat 0).length + [0].length ≤ SMALL) (some (((l0_3.set (1 : Int).toNat 0) ++ [0]), x12.2)))) else (gd ((l0_3.set (1 : Int).toNat 0).length + [0].length ≤ SMALL) (some (((l0_3.set (1 : Int).toNat 0) ++ [0]), x12.2))))) else (some ((l0_3.set (1 : Int).toNat 0), x10.2))))) else ((z004 x7.2 n).bind fun x21 => (if decide (x21.1 = 0) = true then ((z004 x21.2 2).bind fun x23 => (if decide (x23.1 = 0) = true then (if decide (0 < p) = true then ((z004 x23.2 p).bind fun x26 => ((z004 x26.2 2).bind fun x27 => ((getI [(-1), 5] x27.1).bind fun x28 => ((getI l0_3 x26.1).bind fun x29 => (some ((l0_3.set x26.1.toNat x28), x27.2)))))) else (gd (l0_3.length + [0].length ≤ SMALL) (some ((l0_3 ++ [0]), x23.2)))) else (gd (l0_3.length + [0].length ≤ SMALL) (some ((l0_3 ++ [0]), x23.2))))) else (some (l0_3, x21.2)))))) else ((z004 (GRd.mk s0_0 s0_1) n).bind fun x32 => (if decide (x32.1 = 0) = true then ((z004 x32.2 2).bind fun x34 => (if decide (x34.1 = 0) = true then (if decide (0 < p) = true then ((z004 x34.2 p).bind fun x37 => ((z004 x37.2 2).bind fun x38 => ((getI [(-1), 5] x38.1).bind fun x39 => ((getI l0_3 x37.1).bind fun x40 => (some ((l0_3.set x37.1.toNat x39), x38.2)))))) else (gd (l0_3.length + [0].length ≤ SMALL) (some ((l0_3 ++ [0]), x34.2)))) else (gd (l0_3.length + [0].length ≤ SMALL) (some ((l0_3 ++ [0]), x34.2))))) else (some (l0_3, x32.2))))
def z023 (p : Int) (kx0_0 : List Int → Int → List Int → Option ((List Int) × GRd)) : Nat → List Int → Int → Int → List Int → Option ((List Int) × GRd)
  | 0, _, _, _, _ => none
  | n0 + 1, s0_0, s0_1, s0_2, l0_3 => if decide (s0_2 < p) = true then ((z004 (GRd.mk s0_0 s0_1) 6).bind fun x2 => ((getI [0, 0, 1, 1, 2, 4] x2.1).bind fun x3 => (gd (l0_3.length + [x3].length ≤ SMALL) (gd (ok64 (s0_2 + 1)) ((z023 p kx0_0 n0) x2.2.b x2.2.p (s0_2 + 1) (l0_3 ++ [x3])))))) else (kx0_0 s0_0 s0_1 l0_3)
def z060 (r : GRd) (p : Int) (n : Int) : Option ((List Int) × GRd) := z023 p (z043 p n) FUEL r.b r.p 0 ([] : List Int)
def z01e : Con := ⟨103, [.ptr (.s .rd) false, .v .I false, .v .I false], [((.sl .I), true)], [(0, .ptr (.s .rd) false)], fun x => z060 x.1 x.2.1 x.2.2.1⟩
def z0ll : Fs := ⟨[z0ew], [], []⟩
theorem z0di : z0ll.Ok Try.prog := (fsK z0h2 fs0)
def z0am : Tmpl := ⟨[(0, .c (.bx 1000000 0)), (1, .c .i), (2, .c .i), (7, .c (.ref 9)), (8, .c .i)], [(1000000, .box [.s .Y, .i]), (9, .arr .I true)]⟩
def z08v : Tmpl := ⟨[(0, .c (.bx 1000000 0)), (1, .c .i), (2, .c .i), (7, .c (.ref 9))], [(1000000, .box [.s .Y, .i]), (9, .arr .I true)]⟩
def z0hv (av : AV) (x : HP z01e.ps) (n : Nat) (v : z0am.den) (K : Ks (CR z01e)) : Option (CR z01e) := z023 v.1.2.1 (fun s0_0 s0_1 l0_3 => z08v.at none (((), v.1.2.1, v.1.2.2.1, (), ()), ((s0_0, s0_1, ()), l0_3, ())) (K (.exit 0))) n v.2.1.1 v.2.1.2.1 v.1.2.2.2.2.1 v.2.2.1
def z0a4 (av : AV) (x : HP z01e.ps) : Hdl (CR z01e) := hnd [] z0am (z0hv av x)
theorem z0i6 : LP z01e Try.f103 [0] z0a4 := lp_ok (W := []) (H := []) (xs := [z08v]) z0di trivial rfl (fun av x v K => by kernel_rfl) (fun av x n v K => by kernel_rfl)
theorem z0m8 : z01e.Ok Try.prog := fn_ok (k := z01e) (fn := Try.f103) (W := []) (H := [z0a4]) Try.func103 z0di ⟨z0i6, trivial⟩ rfl rfl (fun av x => by kernel_rfl)
def z04l (k : Int) (s0_0 : List Int) (s0_1 : Int) (l0_3 : List GItem) : Option ((List GItem) × GRd) := (z004 (GRd.mk s0_0 s0_1) k).bind fun x14 => (if decide (x14.1 = 0) = true then ((z004 x14.2 3).bind fun x16 => ((getI [(-1), 6, 0] x16.1).bind fun x17 => ((z004 x16.2 3).bind fun x18 => ((getI [0, 5, 1] x18.1).bind fun x19 => ((z004 x18.2 3).bind fun x20 => ((getI [(-1), 3, 0] x20.1).bind fun x21 => (gd (l0_3.length + [(GItem.mk x17 x19 x21)].length ≤ SMALL) (some ((l0_3 ++ [(GItem.mk x17 x19 x21)]), x20.2))))))))) else (some (l0_3, x14.2)))
def z01l (n : GNet) (kx0_0 : List Int → Int → List GItem → Option ((List GItem) × GRd)) : Nat → List Int → Int → Int → List GItem → Option ((List GItem) × GRd)
  | 0, _, _, _, _ => none
  | n0 + 1, s0_0, s0_1, s0_2, l0_3 => if decide (0 < s0_2) = true then ((z004 (GRd.mk s0_0 s0_1) (n.tasks.length : Int)).bind fun x3 => ((z004 x3.2 4).bind fun x4 => (gd (ok64 (1 + x4.1)) ((getI n.tasks x3.1).bind fun x6 => (if decide (1 < x6.need) = true then ((getI n.tasks x3.1).bind fun x8 => ((z004 x4.2 x8.need).bind fun x9 => (gd (l0_3.length + [(GItem.mk x3.1 (1 + x4.1) x9.1)].length ≤ SMALL) (gd (ok64 (s0_2 - 1)) ((z01l n kx0_0 n0) x9.2.b x9.2.p (s0_2 - 1) (l0_3 ++ [(GItem.mk x3.1 (1 + x4.1) x9.1)])))))) else (gd (l0_3.length + [(GItem.mk x3.1 (1 + x4.1) 0)].length ≤ SMALL) (gd (ok64 (s0_2 - 1)) ((z01l n kx0_0 n0) x4.2.b x4.2.p (s0_2 - 1) (l0_3 ++ [(GItem.mk x3.1 (1 + x4.1) 0)]))))))))) else (kx0_0 s0_0 s0_1 l0_3)
def z06t (r : GRd) (n : GNet) (k : Int) : Option ((List GItem) × GRd) := (z004 r 3).bind fun x1 => (z01l n (z04l k) FUEL x1.2.b x1.2.p x1.1 ([] : List GItem))
def z01v : Con := ⟨104, [.ptr (.s .rd) false, .v (.s .net) false, .v .I false], [((.sl (.s .item)), true)], [(0, .ptr (.s .rd) false)], fun x => z06t x.1 x.2.1 x.2.2.1⟩
def z0no : Fs := ⟨[z0ew], [], []⟩
theorem z0fj : z0no.Ok Try.prog := (fsK z0h2 fs0)
def z0cp : Tmpl := ⟨[(0, .c (.bx 1000000 0)), (2, .c .i), (4, .c (.bx 4 0)), (7, .c (.ref 11)), (8, .c .i)], [(1000000, .box [.s .Y, .i]), (4, .boxT (.s .net)), (11, .arr (.s .item) true)]⟩
def z0ay : Tmpl := ⟨[(0, .c (.bx 1000000 0)), (2, .c .i), (7, .c (.ref 11))], [(1000000, .box [.s .Y, .i]), (11, .arr (.s .item) true)]⟩
def z0it (av : AV) (x : HP z01v.ps) (n : Nat) (v : z0cp.den) (K : Ks (CR z01v)) : Option (CR z01v) := z01l v.2.2.1 (fun s0_0 s0_1 l0_3 => z0ay.at none (((), v.1.2.1, (), ()), ((s0_0, s0_1, ()), l0_3, ())) (K (.exit 0))) n v.2.1.1 v.2.1.2.1 v.1.2.2.2.2.1 v.2.2.2.1
def z0bm (av : AV) (x : HP z01v.ps) : Hdl (CR z01v) := hnd [] z0cp (z0it av x)
theorem z0k6 : LP z01v Try.f104 [0] z0bm := lp_ok (W := []) (H := []) (xs := [z0ay]) z0fj trivial rfl (fun av x v K => by kernel_rfl) (fun av x n v K => by kernel_rfl)
theorem z0ox : z01v.Ok Try.prog := fn_ok (k := z01v) (fn := Try.f104) (W := []) (H := [z0bm]) Try.func104 z0fj ⟨z0k6, trivial⟩ rfl rfl (fun av x => by kernel_rfl)
def z03x (r : GRd) (n : Int) : Option ((List Int) × GRd) := (z004 r 5).bind fun x1 => ((getI [[7], [7, 7], [1, 2, 4], [3, 5, 6, 7], [7, 3, 4]] x1.1).bind fun x2 => (gd (([] : List Int).length + x2.length ≤ SMALL) ((z004 x1.2 n).bind fun x4 => (if decide (x4.1 = 0) = true then ((z004 x4.2 3).bind fun x6 => (if decide (x6.1 = 0) = true then (some (([] : List Int), x6.2)) else (if decide (x6.1 = 1) = true then ((z004 x6.2 3).bind fun x9 => ((getI [(-1), 8, 0] x9.1).bind fun x10 => ((getI (([] : List Int) ++ x2) 0).bind fun x11 => (some (((([] : List Int) ++ x2).set (0 : Int).toNat x10), x9.2))))) else (some ([1, 1, 1, 1, 1], x6.2))))) else (some ((([] : List Int) ++ x2), x4.2))))))
def z078 : Con := ⟨99, [.ptr (.s .rd) false, .v .I false], [((.sl .I), true)], [(0, .ptr (.s .rd) false)], fun x => z03x x.1 x.2.1⟩
def z0j8 : Fs := ⟨[z0ew], [], []⟩
theorem z0jp : z0j8.Ok Try.prog := (fsK z0h2 fs0)
theorem z0kn : z078.Ok Try.prog := fn_ok (k := z078) (fn := Try.f99) (W := []) (H := []) Try.func99 z0jp trivial rfl rfl (fun av x => by kernel_rfl)
def z06w (r : GRd) (n : GNet) (p : List Int) (c : GCase) : Option (GCase × GRd) := if decide (0 < (c.busy.length : Int)) = true then ((z004 r 3).bind fun x2 => (if decide (0 < x2.1) = true then ((z004 x2.2 (c.busy.length : Int)).bind fun x4 => ((z004 x4.2 4).bind fun x5 => (gd (ok64 (x5.1 - 1)) ((z004 x5.2 7).bind fun x7 => (gd (ok64 (x7.1 - 2)) ((z041 n c x4.1 (x5.1 - 1) (x7.1 - 2)).bind fun x9 => (some (x9.1, x7.2)))))))) else ((z02u n c.marks c.busy).bind fun x10 => (if decide ((x10.length : Int) = 0) = true then (some (c, x2.2)) else ((z004 x2.2 (x10.length : Int)).bind fun x12 => ((getI x10 x12.1).bind fun x13 => ((z036 n p c.did c.busy x13).bind fun x14 => (if decide ((x14.length : Int) = 0) = true then (some (c, x12.2)) else ((z004 x12.2 (x14.length : Int)).bind fun x16 => ((getI x14 x16.1).bind fun x17 => ((z02t n p c x13 x17).bind fun x18 => (some (x18.1, x16.2))))))))))))) else ((z02u n c.marks c.busy).bind fun x19 => (if decide ((x19.length : Int) = 0) = true then (some (c, r)) else ((z004 r (x19.length : Int)).bind fun x21 => ((getI x19 x21.1).bind fun x22 => ((z036 n p c.did c.busy x22).bind fun x23 => (if decide ((x23.length : Int) = 0) = true then (some (c, x21.2)) else ((z004 x21.2 (x23.length : Int)).bind fun x25 => ((getI x23 x25.1).bind fun x26 => ((z02t n p c x22 x26).bind fun x27 => (some (x27.1, x25.2)))))))))))
def z09f : Con := ⟨66, [.ptr (.s .rd) false, .v (.s .net) false, .v (.sl .I) false, .v (.s .kase) true], [((.s .kase), true)], [(0, .ptr (.s .rd) false)], fun x => z06w x.1 x.2.1 x.2.2.1 x.2.2.2.1⟩
def z0nt : Fs := ⟨[z0ew, z04x, z014, z00c, z05s], [], []⟩
theorem z0o8 : z0nt.Ok Try.prog := (fsK z0h2 (fsK z09s (fsK z0e1 (fsK z0ce (fsK z0e0 fs0)))))
theorem z0p2 : z09f.Ok Try.prog := fn_ok (k := z09f) (fn := Try.f66) (W := []) (H := []) Try.func66 z0o8 trivial rfl rfl (fun av x => by kernel_rfl)
def z062 (r : GRd) (n : GNet) (p : List Int) (c : GCase) : Option (GCase × GRd) := if decide (0 < (c.busy.length : Int)) = true then ((z004 r 3).bind fun x2 => (if decide (0 < x2.1) = true then ((z004 x2.2 (c.busy.length : Int)).bind fun x4 => ((z004 x4.2 4).bind fun x5 => (gd (ok64 (x5.1 - 1)) ((z004 x5.2 7).bind fun x7 => (gd (ok64 (x7.1 - 2)) ((z041 n c x4.1 (x5.1 - 1) (x7.1 - 2)).bind fun x9 => (some (x9.1, x7.2)))))))) else ((z02u n c.marks c.busy).bind fun x10 => (if decide ((x10.length : Int) = 0) = true then (some (c, x2.2)) else ((z004 x2.2 (x10.length : Int)).bind fun x12 => ((getI x10 x12.1).bind fun x13 => ((z036 n p c.did c.busy x13).bind fun x14 => (if decide ((x14.length : Int) = 0) = true then (some (c, x12.2)) else ((z004 x12.2 (x14.length : Int)).bind fun x16 => ((getI x14 x16.1).bind fun x17 => ((z02t n p c x13 x17).bind fun x18 => (some (x18.1, x16.2))))))))))))) else ((z02u n c.marks c.busy).bind fun x19 => (if decide ((x19.length : Int) = 0) = true then (some (c, r)) else ((z004 r (x19.length : Int)).bind fun x21 => ((getI x19 x21.1).bind fun x22 => ((z036 n p c.did c.busy x22).bind fun x23 => (if decide ((x23.length : Int) = 0) = true then (some (c, x21.2)) else ((z004 x21.2 (x23.length : Int)).bind fun x25 => ((getI x23 x25.1).bind fun x26 => ((z02t n p c x22 x26).bind fun x27 => (some (x27.1, x25.2)))))))))))
def z08h : Con := ⟨66, [.ptr (.s .rd) false, .v (.s .net) false, .v (.sl .I) false, .v (.s .kase) false], [((.s .kase), false)], [(0, .ptr (.s .rd) false)], fun x => z062 x.1 x.2.1 x.2.2.1 x.2.2.2.1⟩
def z0ln : Fs := ⟨[z0ew, z04x, z014, z00c, z05s], [], []⟩
theorem z0lu : z0ln.Ok Try.prog := (fsK z0h2 (fsK z09s (fsK z0e1 (fsK z0ce (fsK z0e0 fs0)))))
theorem z0ma : z08h.Ok Try.prog := fn_ok (k := z08h) (fn := Try.f66) (W := []) (H := []) Try.func66 z0lu trivial rfl rfl (fun av x => by kernel_rfl)
end
end Go.Am
