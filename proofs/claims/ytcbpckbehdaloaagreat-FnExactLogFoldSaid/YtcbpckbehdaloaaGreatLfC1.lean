/- Mirrors and contracts, printed. Own work. -/
import Derived.Test.YtcbpckbehdaloaaGreatLfD1
set_option linter.unusedSimpArgs false
set_option maxRecDepth 100000
set_option maxHeartbeats 4000000
set_option linter.unusedVariables false
namespace Go.Am
noncomputable section
open Go Go.Proofs
def z1mv (l : List Int) (left : Int) : Option Int := gd (ok64 (left - (l.length : Int))) (if decide ((left - (l.length : Int)) < 0) = true then (some (-1)) else (some (left - (l.length : Int))))
def z1me : Con := ⟨57, [.v (.sl .I) false, .v .I false], [(.I, true)], [], fun x => z1mv x.1 x.2.1⟩
def z213 : Fs := ⟨[], []⟩
theorem z21a : z213.Ok Tryz.prog := fs0
theorem z21r : z1me.Ok Tryz.prog := fn_ok (k := z1me) (fn := Tryz.f57) (W := []) (H := []) Tryz.func57 z21a trivial rfl rfl (fun av x => by kernel_rfl)
noncomputable def z0il (l : List Int) (left : Int) : Option Int := @gd ((0 ≤ left) ∧ (left ≤ 1048576) ∧ (l.length ≤ 9223372036854775807)) (Classical.propDecidable _) _ (some (szR left l.length))
theorem z0tn (l : List Int) (left : Int) (h : (0 ≤ left) ∧ (left ≤ 1048576) ∧ (l.length ≤ 9223372036854775807)) : z0il l left = some (szR left l.length) := gdC h
theorem z28h (l : List Int) (left : Int) (h : (0 ≤ left) ∧ (left ≤ 1048576) ∧ (l.length ≤ 9223372036854775807)) : z1mv l left = some (szR left l.length) := by
  exact z1w8 h.1 h.2.1 h.2.2
noncomputable def z0zb : Con := ⟨57, [.v (.sl .I) false, .v .I false], [(.I, true)], [], fun x => z0il x.1 x.2.1⟩
theorem z18l : z0zb.Ok Tryz.prog := z00p z21r fun x z hz => by
  obtain ⟨h, e⟩ := z00a hz
  subst e
  exact z28h _ _ h
def z0xl (l : List GFlow) (left : Int) : Option Int := gd (ok64 (left - (l.length : Int))) (if decide ((left - (l.length : Int)) < 0) = true then (some (-1)) else (some (left - (l.length : Int))))
def z0x5 : Con := ⟨213, [.v (.sl (.s .flow)) false, .v .I false], [(.I, true)], [], fun x => z0xl x.1 x.2.1⟩
def z1em : Fs := ⟨[], []⟩
theorem z1fy : z1em.Ok Tryz.prog := fs0
theorem z1hb : z0x5.Ok Tryz.prog := fn_ok (k := z0x5) (fn := Tryz.f213) (W := []) (H := []) Tryz.func213 z1fy trivial rfl rfl (fun av x => by kernel_rfl)
noncomputable def z0un (l : List GFlow) (left : Int) : Option Int := @gd ((0 ≤ left) ∧ (left ≤ 1048576) ∧ (l.length ≤ 9223372036854775807)) (Classical.propDecidable _) _ (some (szR left l.length))
theorem z1pv (l : List GFlow) (left : Int) (h : (0 ≤ left) ∧ (left ≤ 1048576) ∧ (l.length ≤ 9223372036854775807)) : z0un l left = some (szR left l.length) := gdC h
theorem z1u6 (l : List GFlow) (left : Int) (h : (0 ≤ left) ∧ (left ≤ 1048576) ∧ (l.length ≤ 9223372036854775807)) : z0xl l left = some (szR left l.length) := by
  exact z1w8 h.1 h.2.1 h.2.2
noncomputable def z16f : Con := ⟨213, [.v (.sl (.s .flow)) false, .v .I false], [(.I, true)], [], fun x => z0un x.1 x.2.1⟩
theorem z1t7 : z16f.Ok Tryz.prog := z00p z1hb fun x z hz => by
  obtain ⟨h, e⟩ := z00a hz
  subst e
  exact z1u6 _ _ h
def z0nf (x : GTask) (left : Int) : Option Int := (z0il x.in_ left).bind fun x1 => (if decide (x1 < 0) = true then (some (-1)) else ((z0un x.out x1).bind fun x3 => (if decide (x3 < 0) = true then (some (-1)) else ((z0il x.clear x3).bind fun x5 => (if decide (x5 < 0) = true then (some (-1)) else (some x5))))))
def z11d : Con := ⟨171, [.v (.s .task) false, .v .I false], [(.I, true)], [], fun x => z0nf x.1 x.2.1⟩
def z1ji : Fs := ⟨[z0zb, z16f], []⟩
theorem z1l3 : z1ji.Ok Tryz.prog := (fsK z18l (fsK z1t7 fs0))
theorem z1nh : z11d.Ok Tryz.prog := fn_ok (k := z11d) (fn := Tryz.f171) (W := []) (H := []) Tryz.func171 z1l3 trivial rfl rfl (fun av x => by kernel_rfl)
noncomputable def z0zw (x : GTask) (left : Int) : Option Int := @gd ((0 ≤ left) ∧ (left ≤ 1048576) ∧ (GTask.lens (· ≤ 9223372036854775807) x)) (Classical.propDecidable _) _ (some (szR left (GTask.W x)))
theorem z1wz (x : GTask) (left : Int) (h : (0 ≤ left) ∧ (left ≤ 1048576) ∧ (GTask.lens (· ≤ 9223372036854775807) x)) : z0zw x left = some (szR left (GTask.W x)) := gdC h
theorem z1z8 (x : GTask) (left : Int) (h : (0 ≤ left) ∧ (left ≤ 1048576) ∧ (GTask.lens (· ≤ 9223372036854775807) x)) : z0nf x left = some (szR left (GTask.W x)) := by
  have e : GTask.W x = (x.in_.length + (x.out.length + (x.clear.length + 0))) := by simp only [GTask.W]; omega
  rw [e]
  have g1 := h.1
  have g2 := h.2.1
  unfold z0nf
  rw [z0tn _ _ ⟨g1, g2, h.2.2.1⟩]; refine z0es g1 g2 fun left g1 g2 => ?_
  rw [z1pv _ _ ⟨g1, g2, h.2.2.2.1⟩]; refine z0es g1 g2 fun left g1 g2 => ?_
  rw [z0tn _ _ ⟨g1, g2, h.2.2.2.2⟩]; refine z0es g1 g2 fun left g1 g2 => ?_
  exact z0v7 g1
noncomputable def z1d2 : Con := ⟨171, [.v (.s .task) false, .v .I false], [(.I, true)], [], fun x => z0zw x.1 x.2.1⟩
theorem z1y8 : z1d2.Ok Tryz.prog := z00p z1nh fun x z hz => by
  obtain ⟨h, e⟩ := z00a hz
  subst e
  exact z1z8 _ _ h
def z0jf (s0_0 : Int) : Option Int := some s0_0
def z047 (l : List GTask) (kx0_0 : Int → Option Int) : Nat → Int → Int → Option Int
  | 0, _, _ => none
  | n0 + 1, s0_0, s0_1 => if decide (s0_1 < (l.length : Int)) = true then ((getI l s0_1).bind fun x4 => ((z0zw x4 s0_0).bind fun x5 => (if decide (x5 < 0) = true then (some (-1)) else (gd (ok64 (s0_1 + 1)) ((z047 l kx0_0 n0) x5 (s0_1 + 1)))))) else (kx0_0 s0_0)
def z0xm (l : List GTask) (left : Int) : Option Int := gd (ok64 (left - (l.length : Int))) (if decide ((left - (l.length : Int)) < 0) = true then (some (-1)) else (z047 l z0jf FUEL (left - (l.length : Int)) 0))
def z04o : Con := ⟨94, [.v (.sl (.s .task)) false, .v .I false], [(.I, true)], [], fun x => z0xm x.1 x.2.1⟩
def z1en : Fs := ⟨[z1d2], []⟩
theorem z0vw : z1en.Ok Tryz.prog := (fsK z1y8 fs0)
def z0o9 : Tmpl := ⟨[(0, .c (.s (.s .task))), (1, .c .i), (5, .c .i)], []⟩
def z0k3 : Tmpl := ⟨[(1, .c .i)], []⟩
def z13t (av : AV) (x : HP z04o.ps) (n : Nat) (v : z0o9.den) (K : Ks (CR z04o)) : Option (CR z04o) := z047 v.1.1 (fun s0_0 => z0k3.at none ((s0_0, ()), ()) (K (.exit 0))) n v.1.2.1 v.1.2.2.1
def z0lr (av : AV) (x : HP z04o.ps) : Hdl (CR z04o) := hnd [] z0o9 (z13t av x)
theorem z16s : LP z04o Tryz.f94 [0] z0lr := lp_ok (W := []) (H := []) (xs := [z0k3]) z0vw trivial rfl (fun av x v K => by kernel_rfl) (fun av x n v K => by kernel_rfl)
theorem z1hc : z04o.Ok Tryz.prog := fn_ok (k := z04o) (fn := Tryz.f94) (W := []) (H := [z0lr]) Tryz.func94 z0vw ⟨z16s, trivial⟩ rfl rfl (fun av x => by kernel_rfl)
noncomputable def z0uo (l : List GTask) (left : Int) : Option Int := @gd ((0 ≤ left) ∧ (left ≤ 1048576) ∧ (l.length ≤ 9223372036854775807) ∧ (∀ y ∈ l, GTask.lens (· ≤ 9223372036854775807) y)) (Classical.propDecidable _) _ (some (szR left (l.length + sumW GTask.W l)))
theorem z1pw (l : List GTask) (left : Int) (h : (0 ≤ left) ∧ (left ≤ 1048576) ∧ (l.length ≤ 9223372036854775807) ∧ (∀ y ∈ l, GTask.lens (· ≤ 9223372036854775807) y)) : z0uo l left = some (szR left (l.length + sumW GTask.W l)) := gdC h
theorem z1u7 (l : List GTask) (left : Int) (h : (0 ≤ left) ∧ (left ≤ 1048576) ∧ (l.length ≤ 9223372036854775807) ∧ (∀ y ∈ l, GTask.lens (· ≤ 9223372036854775807) y)) : z0xm l left = some (szR left (l.length + sumW GTask.W l)) := by
  refine z1p9 (f := z047 l z0jf) h.1 h.2.1 h.2.2.1 (fun n i m hi hn g1 g2 => ?_) (fun n m => ?_)
  · rw [z047, if_pos (decide_eq_true (Int.ofNat_lt.2 hi)), z01u hi, Option.bind_some, z1wz _ _ ⟨g1, g2, h.2.2.2 _ (List.getElem_mem _)⟩, Option.bind_some, z000 (ok64i hi hn)]; rfl
  · rw [z047, if_neg (by simp)]; rfl
noncomputable def z16g : Con := ⟨94, [.v (.sl (.s .task)) false, .v .I false], [(.I, true)], [], fun x => z0uo x.1 x.2.1⟩
theorem z1t8 : z16g.Ok Tryz.prog := z00p z1hc fun x z hz => by
  obtain ⟨h, e⟩ := z00a hz
  subst e
  exact z1u7 _ _ h
def z0ud (x : GNet) (left : Int) : Option Int := (z0uo x.tasks left).bind fun x1 => (if decide (x1 < 0) = true then (some (-1)) else (some x1))
def z162 : Con := ⟨33, [.v (.s .net) false, .v .I false], [(.I, true)], [], fun x => z0ud x.1 x.2.1⟩
def z1qd : Fs := ⟨[z16g], []⟩
theorem z1rd : z1qd.Ok Tryz.prog := (fsK z1t8 fs0)
theorem z1so : z162.Ok Tryz.prog := fn_ok (k := z162) (fn := Tryz.f33) (W := []) (H := []) Tryz.func33 z1rd trivial rfl rfl (fun av x => by kernel_rfl)
noncomputable def z186 (x : GNet) (left : Int) : Option Int := @gd ((0 ≤ left) ∧ (left ≤ 1048576) ∧ (GNet.lens (· ≤ 9223372036854775807) x)) (Classical.propDecidable _) _ (some (szR left (GNet.W x)))
theorem z20o (x : GNet) (left : Int) (h : (0 ≤ left) ∧ (left ≤ 1048576) ∧ (GNet.lens (· ≤ 9223372036854775807) x)) : z186 x left = some (szR left (GNet.W x)) := gdC h
theorem z230 (x : GNet) (left : Int) (h : (0 ≤ left) ∧ (left ≤ 1048576) ∧ (GNet.lens (· ≤ 9223372036854775807) x)) : z0ud x left = some (szR left (GNet.W x)) := by
  have e : GNet.W x = ((x.tasks.length + sumW GTask.W x.tasks) + 0) := by simp only [GNet.W]; omega
  rw [e]
  have g1 := h.1
  have g2 := h.2.1
  unfold z0ud
  rw [z1pw _ _ ⟨g1, g2, h.2.2.1, h.2.2.2⟩]; refine z0es g1 g2 fun left g1 g2 => ?_
  exact z0v7 g1
noncomputable def z1ml : Con := ⟨33, [.v (.s .net) false, .v .I false], [(.I, true)], [], fun x => z186 x.1 x.2.1⟩
theorem z21z : z1ml.Ok Tryz.prog := z00p z1so fun x z hz => by
  obtain ⟨h, e⟩ := z00a hz
  subst e
  exact z230 _ _ h
def z0ne (s0_0 : Int) : Option Int := some s0_0
def z05v (l : List GNet) (kx0_0 : Int → Option Int) : Nat → Int → Int → Option Int
  | 0, _, _ => none
  | n0 + 1, s0_0, s0_1 => if decide (s0_1 < (l.length : Int)) = true then ((getI l s0_1).bind fun x4 => ((z186 x4 s0_0).bind fun x5 => (if decide (x5 < 0) = true then (some (-1)) else (gd (ok64 (s0_1 + 1)) ((z05v l kx0_0 n0) x5 (s0_1 + 1)))))) else (kx0_0 s0_0)
def z11t (l : List GNet) (left : Int) : Option Int := gd (ok64 (left - (l.length : Int))) (if decide ((left - (l.length : Int)) < 0) = true then (some (-1)) else (z05v l z0ne FUEL (left - (l.length : Int)) 0))
def z06f : Con := ⟨47, [.v (.sl (.s .net)) false, .v .I false], [(.I, true)], [], fun x => z11t x.1 x.2.1⟩
def z1jh : Fs := ⟨[z1ml], []⟩
theorem z10j : z1jh.Ok Tryz.prog := (fsK z21z fs0)
def z0sf : Tmpl := ⟨[(0, .c (.s (.s .net))), (1, .c .i), (5, .c .i)], []⟩
def z0p7 : Tmpl := ⟨[(1, .c .i)], []⟩
def z19p (av : AV) (x : HP z06f.ps) (n : Nat) (v : z0sf.den) (K : Ks (CR z06f)) : Option (CR z06f) := z05v v.1.1 (fun s0_0 => z0p7.at none ((s0_0, ()), ()) (K (.exit 0))) n v.1.2.1 v.1.2.2.1
def z0qw (av : AV) (x : HP z06f.ps) : Hdl (CR z06f) := hnd [] z0sf (z19p av x)
theorem z1ba : LP z06f Tryz.f47 [0] z0qw := lp_ok (W := []) (H := []) (xs := [z0p7]) z10j trivial rfl (fun av x v K => by kernel_rfl) (fun av x n v K => by kernel_rfl)
theorem z1ng : z06f.Ok Tryz.prog := fn_ok (k := z06f) (fn := Tryz.f47) (W := []) (H := [z0qw]) Tryz.func47 z10j ⟨z1ba, trivial⟩ rfl rfl (fun av x => by kernel_rfl)
noncomputable def z0zv (l : List GNet) (left : Int) : Option Int := @gd ((0 ≤ left) ∧ (left ≤ 1048576) ∧ (l.length ≤ 9223372036854775807) ∧ (∀ y ∈ l, GNet.lens (· ≤ 9223372036854775807) y)) (Classical.propDecidable _) _ (some (szR left (l.length + sumW GNet.W l)))
theorem z1wy (l : List GNet) (left : Int) (h : (0 ≤ left) ∧ (left ≤ 1048576) ∧ (l.length ≤ 9223372036854775807) ∧ (∀ y ∈ l, GNet.lens (· ≤ 9223372036854775807) y)) : z0zv l left = some (szR left (l.length + sumW GNet.W l)) := gdC h
theorem z1z7 (l : List GNet) (left : Int) (h : (0 ≤ left) ∧ (left ≤ 1048576) ∧ (l.length ≤ 9223372036854775807) ∧ (∀ y ∈ l, GNet.lens (· ≤ 9223372036854775807) y)) : z11t l left = some (szR left (l.length + sumW GNet.W l)) := by
  refine z1p9 (f := z05v l z0ne) h.1 h.2.1 h.2.2.1 (fun n i m hi hn g1 g2 => ?_) (fun n m => ?_)
  · rw [z05v, if_pos (decide_eq_true (Int.ofNat_lt.2 hi)), z01u hi, Option.bind_some, z20o _ _ ⟨g1, g2, h.2.2.2 _ (List.getElem_mem _)⟩, Option.bind_some, z000 (ok64i hi hn)]; rfl
  · rw [z05v, if_neg (by simp)]; rfl
noncomputable def z1d1 : Con := ⟨47, [.v (.sl (.s .net)) false, .v .I false], [(.I, true)], [], fun x => z0zv x.1 x.2.1⟩
theorem z1y7 : z1d1.Ok Tryz.prog := z00p z1ng fun x z hz => by
  obtain ⟨h, e⟩ := z00a hz
  subst e
  exact z1z7 _ _ h
def z0xk (l : List GItem) (left : Int) : Option Int := gd (ok64 (left - (l.length : Int))) (if decide ((left - (l.length : Int)) < 0) = true then (some (-1)) else (some (left - (l.length : Int))))
def z0x3 : Con := ⟨95, [.v (.sl (.s .item)) false, .v .I false], [(.I, true)], [], fun x => z0xk x.1 x.2.1⟩
def z1ek : Fs := ⟨[], []⟩
theorem z1fw : z1ek.Ok Tryz.prog := fs0
theorem z1h9 : z0x3.Ok Tryz.prog := fn_ok (k := z0x3) (fn := Tryz.f95) (W := []) (H := []) Tryz.func95 z1fw trivial rfl rfl (fun av x => by kernel_rfl)
noncomputable def z0ul (l : List GItem) (left : Int) : Option Int := @gd ((0 ≤ left) ∧ (left ≤ 1048576) ∧ (l.length ≤ 9223372036854775807)) (Classical.propDecidable _) _ (some (szR left l.length))
theorem z1pt (l : List GItem) (left : Int) (h : (0 ≤ left) ∧ (left ≤ 1048576) ∧ (l.length ≤ 9223372036854775807)) : z0ul l left = some (szR left l.length) := gdC h
theorem z1u4 (l : List GItem) (left : Int) (h : (0 ≤ left) ∧ (left ≤ 1048576) ∧ (l.length ≤ 9223372036854775807)) : z0xk l left = some (szR left l.length) := by
  exact z1w8 h.1 h.2.1 h.2.2
noncomputable def z16d : Con := ⟨95, [.v (.sl (.s .item)) false, .v .I false], [(.I, true)], [], fun x => z0ul x.1 x.2.1⟩
theorem z1t5 : z16d.Ok Tryz.prog := z00p z1h9 fun x z hz => by
  obtain ⟨h, e⟩ := z00a hz
  subst e
  exact z1u4 _ _ h
def z11q (l : List GDid) (left : Int) : Option Int := gd (ok64 (left - (l.length : Int))) (if decide ((left - (l.length : Int)) < 0) = true then (some (-1)) else (some (left - (l.length : Int))))
def z11c : Con := ⟨96, [.v (.sl (.s .did)) false, .v .I false], [(.I, true)], [], fun x => z11q x.1 x.2.1⟩
def z1je : Fs := ⟨[], []⟩
theorem z1l2 : z1je.Ok Tryz.prog := fs0
theorem z1nd : z11c.Ok Tryz.prog := fn_ok (k := z11c) (fn := Tryz.f96) (W := []) (H := []) Tryz.func96 z1l2 trivial rfl rfl (fun av x => by kernel_rfl)
noncomputable def z0zs (l : List GDid) (left : Int) : Option Int := @gd ((0 ≤ left) ∧ (left ≤ 1048576) ∧ (l.length ≤ 9223372036854775807)) (Classical.propDecidable _) _ (some (szR left l.length))
theorem z1wv (l : List GDid) (left : Int) (h : (0 ≤ left) ∧ (left ≤ 1048576) ∧ (l.length ≤ 9223372036854775807)) : z0zs l left = some (szR left l.length) := gdC h
theorem z1z4 (l : List GDid) (left : Int) (h : (0 ≤ left) ∧ (left ≤ 1048576) ∧ (l.length ≤ 9223372036854775807)) : z11q l left = some (szR left l.length) := by
  exact z1w8 h.1 h.2.1 h.2.2
noncomputable def z1cy : Con := ⟨96, [.v (.sl (.s .did)) false, .v .I false], [(.I, true)], [], fun x => z0zs x.1 x.2.1⟩
theorem z1y4 : z1cy.Ok Tryz.prog := z00p z1nd fun x z hz => by
  obtain ⟨h, e⟩ := z00a hz
  subst e
  exact z1z4 _ _ h
def z0ng (x : GNode) (left : Int) : Option Int := (z0il x.stone left).bind fun x1 => (if decide (x1 < 0) = true then (some (-1)) else (some x1))
def z11e : Con := ⟨124, [.v (.s .node) false, .v .I false], [(.I, true)], [], fun x => z0ng x.1 x.2.1⟩
def z1jj : Fs := ⟨[z0zb], []⟩
theorem z1l4 : z1jj.Ok Tryz.prog := (fsK z18l fs0)
theorem z1ni : z11e.Ok Tryz.prog := fn_ok (k := z11e) (fn := Tryz.f124) (W := []) (H := []) Tryz.func124 z1l4 trivial rfl rfl (fun av x => by kernel_rfl)
noncomputable def z0zx (x : GNode) (left : Int) : Option Int := @gd ((0 ≤ left) ∧ (left ≤ 1048576) ∧ (GNode.lens (· ≤ 9223372036854775807) x)) (Classical.propDecidable _) _ (some (szR left (GNode.W x)))
theorem z1x0 (x : GNode) (left : Int) (h : (0 ≤ left) ∧ (left ≤ 1048576) ∧ (GNode.lens (· ≤ 9223372036854775807) x)) : z0zx x left = some (szR left (GNode.W x)) := gdC h
theorem z1z9 (x : GNode) (left : Int) (h : (0 ≤ left) ∧ (left ≤ 1048576) ∧ (GNode.lens (· ≤ 9223372036854775807) x)) : z0ng x left = some (szR left (GNode.W x)) := by
  have e : GNode.W x = (x.stone.length + 0) := by simp only [GNode.W]; omega
  rw [e]
  have g1 := h.1
  have g2 := h.2.1
  unfold z0ng
  rw [z0tn _ _ ⟨g1, g2, h.2.2⟩]; refine z0es g1 g2 fun left g1 g2 => ?_
  exact z0v7 g1
noncomputable def z1d3 : Con := ⟨124, [.v (.s .node) false, .v .I false], [(.I, true)], [], fun x => z0zx x.1 x.2.1⟩
theorem z1y9 : z1d3.Ok Tryz.prog := z00p z1ni fun x z hz => by
  obtain ⟨h, e⟩ := z00a hz
  subst e
  exact z1z9 _ _ h
def z0jg (s0_0 : Int) : Option Int := some s0_0
def z048 (l : List GNode) (kx0_0 : Int → Option Int) : Nat → Int → Int → Option Int
  | 0, _, _ => none
  | n0 + 1, s0_0, s0_1 => if decide (s0_1 < (l.length : Int)) = true then ((getI l s0_1).bind fun x4 => ((z0zx x4 s0_0).bind fun x5 => (if decide (x5 < 0) = true then (some (-1)) else (gd (ok64 (s0_1 + 1)) ((z048 l kx0_0 n0) x5 (s0_1 + 1)))))) else (kx0_0 s0_0)
def z0xn (l : List GNode) (left : Int) : Option Int := gd (ok64 (left - (l.length : Int))) (if decide ((left - (l.length : Int)) < 0) = true then (some (-1)) else (z048 l z0jg FUEL (left - (l.length : Int)) 0))
def z04p : Con := ⟨58, [.v (.sl (.s .node)) false, .v .I false], [(.I, true)], [], fun x => z0xn x.1 x.2.1⟩
def z1eo : Fs := ⟨[z1d3], []⟩
theorem z0vx : z1eo.Ok Tryz.prog := (fsK z1y9 fs0)
def z0oa : Tmpl := ⟨[(0, .c (.s (.s .node))), (1, .c .i), (5, .c .i)], []⟩
def z0k4 : Tmpl := ⟨[(1, .c .i)], []⟩
def z13u (av : AV) (x : HP z04p.ps) (n : Nat) (v : z0oa.den) (K : Ks (CR z04p)) : Option (CR z04p) := z048 v.1.1 (fun s0_0 => z0k4.at none ((s0_0, ()), ()) (K (.exit 0))) n v.1.2.1 v.1.2.2.1
def z0ls (av : AV) (x : HP z04p.ps) : Hdl (CR z04p) := hnd [] z0oa (z13u av x)
theorem z16t : LP z04p Tryz.f58 [0] z0ls := lp_ok (W := []) (H := []) (xs := [z0k4]) z0vx trivial rfl (fun av x v K => by kernel_rfl) (fun av x n v K => by kernel_rfl)
theorem z1hd : z04p.Ok Tryz.prog := fn_ok (k := z04p) (fn := Tryz.f58) (W := []) (H := [z0ls]) Tryz.func58 z0vx ⟨z16t, trivial⟩ rfl rfl (fun av x => by kernel_rfl)
noncomputable def z0up (l : List GNode) (left : Int) : Option Int := @gd ((0 ≤ left) ∧ (left ≤ 1048576) ∧ (l.length ≤ 9223372036854775807) ∧ (∀ y ∈ l, GNode.lens (· ≤ 9223372036854775807) y)) (Classical.propDecidable _) _ (some (szR left (l.length + sumW GNode.W l)))
theorem z1px (l : List GNode) (left : Int) (h : (0 ≤ left) ∧ (left ≤ 1048576) ∧ (l.length ≤ 9223372036854775807) ∧ (∀ y ∈ l, GNode.lens (· ≤ 9223372036854775807) y)) : z0up l left = some (szR left (l.length + sumW GNode.W l)) := gdC h
theorem z1u8 (l : List GNode) (left : Int) (h : (0 ≤ left) ∧ (left ≤ 1048576) ∧ (l.length ≤ 9223372036854775807) ∧ (∀ y ∈ l, GNode.lens (· ≤ 9223372036854775807) y)) : z0xn l left = some (szR left (l.length + sumW GNode.W l)) := by
  refine z1p9 (f := z048 l z0jg) h.1 h.2.1 h.2.2.1 (fun n i m hi hn g1 g2 => ?_) (fun n m => ?_)
  · rw [z048, if_pos (decide_eq_true (Int.ofNat_lt.2 hi)), z01u hi, Option.bind_some, z1x0 _ _ ⟨g1, g2, h.2.2.2 _ (List.getElem_mem _)⟩, Option.bind_some, z000 (ok64i hi hn)]; rfl
  · rw [z048, if_neg (by simp)]; rfl
noncomputable def z16h : Con := ⟨58, [.v (.sl (.s .node)) false, .v .I false], [(.I, true)], [], fun x => z0up x.1 x.2.1⟩
theorem z1t9 : z16h.Ok Tryz.prog := z00p z1hd fun x z hz => by
  obtain ⟨h, e⟩ := z00a hz
  subst e
  exact z1u8 _ _ h
def z0nb (x : GCase) (left : Int) : Option Int := (z0il x.marks left).bind fun x1 => (if decide (x1 < 0) = true then (some (-1)) else ((z0ul x.busy x1).bind fun x3 => (if decide (x3 < 0) = true then (some (-1)) else ((z0il x.data x3).bind fun x5 => (if decide (x5 < 0) = true then (some (-1)) else ((z0zs x.did x5).bind fun x7 => (if decide (x7 < 0) = true then (some (-1)) else (some x7))))))))
def z11b : Con := ⟨34, [.v (.s .kase) false, .v .I false], [(.I, true)], [], fun x => z0nb x.1 x.2.1⟩
def z1jd : Fs := ⟨[z0zb, z16d, z1cy], []⟩
theorem z1l1 : z1jd.Ok Tryz.prog := (fsK z18l (fsK z1t5 (fsK z1y4 fs0)))
theorem z1nc : z11b.Ok Tryz.prog := fn_ok (k := z11b) (fn := Tryz.f34) (W := []) (H := []) Tryz.func34 z1l1 trivial rfl rfl (fun av x => by kernel_rfl)
noncomputable def z0zr (x : GCase) (left : Int) : Option Int := @gd ((0 ≤ left) ∧ (left ≤ 1048576) ∧ (GCase.lens (· ≤ 9223372036854775807) x)) (Classical.propDecidable _) _ (some (szR left (GCase.W x)))
theorem z1wu (x : GCase) (left : Int) (h : (0 ≤ left) ∧ (left ≤ 1048576) ∧ (GCase.lens (· ≤ 9223372036854775807) x)) : z0zr x left = some (szR left (GCase.W x)) := gdC h
theorem z1z3 (x : GCase) (left : Int) (h : (0 ≤ left) ∧ (left ≤ 1048576) ∧ (GCase.lens (· ≤ 9223372036854775807) x)) : z0nb x left = some (szR left (GCase.W x)) := by
  have e : GCase.W x = (x.marks.length + (x.busy.length + (x.data.length + (x.did.length + 0)))) := by simp only [GCase.W]; omega
  rw [e]
  have g1 := h.1
  have g2 := h.2.1
  unfold z0nb
  rw [z0tn _ _ ⟨g1, g2, h.2.2.1⟩]; refine z0es g1 g2 fun left g1 g2 => ?_
  rw [z1pt _ _ ⟨g1, g2, h.2.2.2.1⟩]; refine z0es g1 g2 fun left g1 g2 => ?_
  rw [z0tn _ _ ⟨g1, g2, h.2.2.2.2.1⟩]; refine z0es g1 g2 fun left g1 g2 => ?_
  rw [z1wv _ _ ⟨g1, g2, h.2.2.2.2.2⟩]; refine z0es g1 g2 fun left g1 g2 => ?_
  exact z0v7 g1
noncomputable def z1cx : Con := ⟨34, [.v (.s .kase) false, .v .I false], [(.I, true)], [], fun x => z0zr x.1 x.2.1⟩
theorem z1y3 : z1cx.Ok Tryz.prog := z00p z1nc fun x z hz => by
  obtain ⟨h, e⟩ := z00a hz
  subst e
  exact z1z3 _ _ h
def z0uc (x : GRun) (left : Int) : Option Int := (z0zr x.case left).bind fun x1 => (if decide (x1 < 0) = true then (some (-1)) else (some x1))
def z161 : Con := ⟨125, [.v (.s .run) false, .v .I false], [(.I, true)], [], fun x => z0uc x.1 x.2.1⟩
def z1qc : Fs := ⟨[z1cx], []⟩
theorem z1rc : z1qc.Ok Tryz.prog := (fsK z1y3 fs0)
theorem z1sn : z161.Ok Tryz.prog := fn_ok (k := z161) (fn := Tryz.f125) (W := []) (H := []) Tryz.func125 z1rc trivial rfl rfl (fun av x => by kernel_rfl)
noncomputable def z185 (x : GRun) (left : Int) : Option Int := @gd ((0 ≤ left) ∧ (left ≤ 1048576) ∧ (GRun.lens (· ≤ 9223372036854775807) x)) (Classical.propDecidable _) _ (some (szR left (GRun.W x)))
theorem z20n (x : GRun) (left : Int) (h : (0 ≤ left) ∧ (left ≤ 1048576) ∧ (GRun.lens (· ≤ 9223372036854775807) x)) : z185 x left = some (szR left (GRun.W x)) := gdC h
theorem z22z (x : GRun) (left : Int) (h : (0 ≤ left) ∧ (left ≤ 1048576) ∧ (GRun.lens (· ≤ 9223372036854775807) x)) : z0uc x left = some (szR left (GRun.W x)) := by
  have e : GRun.W x = (GCase.W x.case + 0) := by simp only [GRun.W]; omega
  rw [e]
  have g1 := h.1
  have g2 := h.2.1
  unfold z0uc
  rw [z1wu _ _ ⟨g1, g2, h.2.2⟩]; refine z0es g1 g2 fun left g1 g2 => ?_
  exact z0v7 g1
noncomputable def z1mk : Con := ⟨125, [.v (.s .run) false, .v .I false], [(.I, true)], [], fun x => z185 x.1 x.2.1⟩
theorem z21y : z1mk.Ok Tryz.prog := z00p z1sn fun x z hz => by
  obtain ⟨h, e⟩ := z00a hz
  subst e
  exact z22z _ _ h
def z0nd (s0_0 : Int) : Option Int := some s0_0
def z05u (l : List GRun) (kx0_0 : Int → Option Int) : Nat → Int → Int → Option Int
  | 0, _, _ => none
  | n0 + 1, s0_0, s0_1 => if decide (s0_1 < (l.length : Int)) = true then ((getI l s0_1).bind fun x4 => ((z185 x4 s0_0).bind fun x5 => (if decide (x5 < 0) = true then (some (-1)) else (gd (ok64 (s0_1 + 1)) ((z05u l kx0_0 n0) x5 (s0_1 + 1)))))) else (kx0_0 s0_0)
def z11s (l : List GRun) (left : Int) : Option Int := gd (ok64 (left - (l.length : Int))) (if decide ((left - (l.length : Int)) < 0) = true then (some (-1)) else (z05u l z0nd FUEL (left - (l.length : Int)) 0))
def z06e : Con := ⟨59, [.v (.sl (.s .run)) false, .v .I false], [(.I, true)], [], fun x => z11s x.1 x.2.1⟩
def z1jg : Fs := ⟨[z1mk], []⟩
theorem z10i : z1jg.Ok Tryz.prog := (fsK z21y fs0)
def z0se : Tmpl := ⟨[(0, .c (.s (.s .run))), (1, .c .i), (5, .c .i)], []⟩
def z0p6 : Tmpl := ⟨[(1, .c .i)], []⟩
def z19o (av : AV) (x : HP z06e.ps) (n : Nat) (v : z0se.den) (K : Ks (CR z06e)) : Option (CR z06e) := z05u v.1.1 (fun s0_0 => z0p6.at none ((s0_0, ()), ()) (K (.exit 0))) n v.1.2.1 v.1.2.2.1
def z0qv (av : AV) (x : HP z06e.ps) : Hdl (CR z06e) := hnd [] z0se (z19o av x)
theorem z1b9 : LP z06e Tryz.f59 [0] z0qv := lp_ok (W := []) (H := []) (xs := [z0p6]) z10i trivial rfl (fun av x v K => by kernel_rfl) (fun av x n v K => by kernel_rfl)
theorem z1nf : z06e.Ok Tryz.prog := fn_ok (k := z06e) (fn := Tryz.f59) (W := []) (H := [z0qv]) Tryz.func59 z10i ⟨z1b9, trivial⟩ rfl rfl (fun av x => by kernel_rfl)
noncomputable def z0zu (l : List GRun) (left : Int) : Option Int := @gd ((0 ≤ left) ∧ (left ≤ 1048576) ∧ (l.length ≤ 9223372036854775807) ∧ (∀ y ∈ l, GRun.lens (· ≤ 9223372036854775807) y)) (Classical.propDecidable _) _ (some (szR left (l.length + sumW GRun.W l)))
theorem z1wx (l : List GRun) (left : Int) (h : (0 ≤ left) ∧ (left ≤ 1048576) ∧ (l.length ≤ 9223372036854775807) ∧ (∀ y ∈ l, GRun.lens (· ≤ 9223372036854775807) y)) : z0zu l left = some (szR left (l.length + sumW GRun.W l)) := gdC h
theorem z1z6 (l : List GRun) (left : Int) (h : (0 ≤ left) ∧ (left ≤ 1048576) ∧ (l.length ≤ 9223372036854775807) ∧ (∀ y ∈ l, GRun.lens (· ≤ 9223372036854775807) y)) : z11s l left = some (szR left (l.length + sumW GRun.W l)) := by
  refine z1p9 (f := z05u l z0nd) h.1 h.2.1 h.2.2.1 (fun n i m hi hn g1 g2 => ?_) (fun n m => ?_)
  · rw [z05u, if_pos (decide_eq_true (Int.ofNat_lt.2 hi)), z01u hi, Option.bind_some, z20n _ _ ⟨g1, g2, h.2.2.2 _ (List.getElem_mem _)⟩, Option.bind_some, z000 (ok64i hi hn)]; rfl
  · rw [z05u, if_neg (by simp)]; rfl
noncomputable def z1d0 : Con := ⟨59, [.v (.sl (.s .run)) false, .v .I false], [(.I, true)], [], fun x => z0zu x.1 x.2.1⟩
theorem z1y6 : z1d0.Ok Tryz.prog := z00p z1nf fun x z hz => by
  obtain ⟨h, e⟩ := z00a hz
  subst e
  exact z1z6 _ _ h
def z0ub (x : GReq) (left : Int) : Option Int := (z0il x.data left).bind fun x1 => (if decide (x1 < 0) = true then (some (-1)) else (some x1))
def z160 : Con := ⟨12, [.v (.s .req) false, .v .I false], [(.I, true)], [], fun x => z0ub x.1 x.2.1⟩
def z1qb : Fs := ⟨[z0zb], []⟩
theorem z1rb : z1qb.Ok Tryz.prog := (fsK z18l fs0)
theorem z1sm : z160.Ok Tryz.prog := fn_ok (k := z160) (fn := Tryz.f12) (W := []) (H := []) Tryz.func12 z1rb trivial rfl rfl (fun av x => by kernel_rfl)
noncomputable def z184 (x : GReq) (left : Int) : Option Int := @gd ((0 ≤ left) ∧ (left ≤ 1048576) ∧ (GReq.lens (· ≤ 9223372036854775807) x)) (Classical.propDecidable _) _ (some (szR left (GReq.W x)))
theorem z20m (x : GReq) (left : Int) (h : (0 ≤ left) ∧ (left ≤ 1048576) ∧ (GReq.lens (· ≤ 9223372036854775807) x)) : z184 x left = some (szR left (GReq.W x)) := gdC h
theorem z22y (x : GReq) (left : Int) (h : (0 ≤ left) ∧ (left ≤ 1048576) ∧ (GReq.lens (· ≤ 9223372036854775807) x)) : z0ub x left = some (szR left (GReq.W x)) := by
  have e : GReq.W x = (x.data.length + 0) := by simp only [GReq.W]; omega
  rw [e]
  have g1 := h.1
  have g2 := h.2.1
  unfold z0ub
  rw [z0tn _ _ ⟨g1, g2, h.2.2⟩]; refine z0es g1 g2 fun left g1 g2 => ?_
  exact z0v7 g1
noncomputable def z1mj : Con := ⟨12, [.v (.s .req) false, .v .I false], [(.I, true)], [], fun x => z184 x.1 x.2.1⟩
theorem z21x : z1mj.Ok Tryz.prog := z00p z1sm fun x z hz => by
  obtain ⟨h, e⟩ := z00a hz
  subst e
  exact z22y _ _ h
def z0nc (s0_0 : Int) : Option Int := some s0_0
def z05t (l : List GReq) (kx0_0 : Int → Option Int) : Nat → Int → Int → Option Int
  | 0, _, _ => none
  | n0 + 1, s0_0, s0_1 => if decide (s0_1 < (l.length : Int)) = true then ((getI l s0_1).bind fun x4 => ((z184 x4 s0_0).bind fun x5 => (if decide (x5 < 0) = true then (some (-1)) else (gd (ok64 (s0_1 + 1)) ((z05t l kx0_0 n0) x5 (s0_1 + 1)))))) else (kx0_0 s0_0)
def z11r (l : List GReq) (left : Int) : Option Int := gd (ok64 (left - (l.length : Int))) (if decide ((left - (l.length : Int)) < 0) = true then (some (-1)) else (z05t l z0nc FUEL (left - (l.length : Int)) 0))
def z06d : Con := ⟨22, [.v (.sl (.s .req)) false, .v .I false], [(.I, true)], [], fun x => z11r x.1 x.2.1⟩
def z1jf : Fs := ⟨[z1mj], []⟩
theorem z10h : z1jf.Ok Tryz.prog := (fsK z21x fs0)
def z0sd : Tmpl := ⟨[(0, .c (.s (.s .req))), (1, .c .i), (5, .c .i)], []⟩
def z0p5 : Tmpl := ⟨[(1, .c .i)], []⟩
def z19n (av : AV) (x : HP z06d.ps) (n : Nat) (v : z0sd.den) (K : Ks (CR z06d)) : Option (CR z06d) := z05t v.1.1 (fun s0_0 => z0p5.at none ((s0_0, ()), ()) (K (.exit 0))) n v.1.2.1 v.1.2.2.1
def z0qu (av : AV) (x : HP z06d.ps) : Hdl (CR z06d) := hnd [] z0sd (z19n av x)
theorem z1b8 : LP z06d Tryz.f22 [0] z0qu := lp_ok (W := []) (H := []) (xs := [z0p5]) z10h trivial rfl (fun av x v K => by kernel_rfl) (fun av x n v K => by kernel_rfl)
theorem z1ne : z06d.Ok Tryz.prog := fn_ok (k := z06d) (fn := Tryz.f22) (W := []) (H := [z0qu]) Tryz.func22 z10h ⟨z1b8, trivial⟩ rfl rfl (fun av x => by kernel_rfl)
noncomputable def z0zt (l : List GReq) (left : Int) : Option Int := @gd ((0 ≤ left) ∧ (left ≤ 1048576) ∧ (l.length ≤ 9223372036854775807) ∧ (∀ y ∈ l, GReq.lens (· ≤ 9223372036854775807) y)) (Classical.propDecidable _) _ (some (szR left (l.length + sumW GReq.W l)))
theorem z1ww (l : List GReq) (left : Int) (h : (0 ≤ left) ∧ (left ≤ 1048576) ∧ (l.length ≤ 9223372036854775807) ∧ (∀ y ∈ l, GReq.lens (· ≤ 9223372036854775807) y)) : z0zt l left = some (szR left (l.length + sumW GReq.W l)) := gdC h
theorem z1z5 (l : List GReq) (left : Int) (h : (0 ≤ left) ∧ (left ≤ 1048576) ∧ (l.length ≤ 9223372036854775807) ∧ (∀ y ∈ l, GReq.lens (· ≤ 9223372036854775807) y)) : z11r l left = some (szR left (l.length + sumW GReq.W l)) := by
  refine z1p9 (f := z05t l z0nc) h.1 h.2.1 h.2.2.1 (fun n i m hi hn g1 g2 => ?_) (fun n m => ?_)
  · rw [z05t, if_pos (decide_eq_true (Int.ofNat_lt.2 hi)), z01u hi, Option.bind_some, z20m _ _ ⟨g1, g2, h.2.2.2 _ (List.getElem_mem _)⟩, Option.bind_some, z000 (ok64i hi hn)]; rfl
  · rw [z05t, if_neg (by simp)]; rfl
noncomputable def z1cz : Con := ⟨22, [.v (.sl (.s .req)) false, .v .I false], [(.I, true)], [], fun x => z0zt x.1 x.2.1⟩
theorem z1y5 : z1cz.Ok Tryz.prog := z00p z1ne fun x z hz => by
  obtain ⟨h, e⟩ := z00a hz
  subst e
  exact z1z5 _ _ h
def z0i6 (x : GHouse) (left : Int) : Option Int := (z0zv x.nets left).bind fun x1 => (if decide (x1 < 0) = true then (some (-1)) else ((z0il x.people x1).bind fun x3 => (if decide (x3 < 0) = true then (some (-1)) else ((z0up x.tree x3).bind fun x5 => (if decide (x5 < 0) = true then (some (-1)) else ((z0zu x.runs x5).bind fun x7 => (if decide (x7 < 0) = true then (some (-1)) else (some x7))))))))
def z0x4 : Con := ⟨11, [.v (.s .house) false, .v .I false], [(.I, true)], [], fun x => z0i6 x.1 x.2.1⟩
def z1el : Fs := ⟨[z1d1, z0zb, z16h, z1d0], []⟩
theorem z1fx : z1el.Ok Tryz.prog := (fsK z1y7 (fsK z18l (fsK z1t9 (fsK z1y6 fs0))))
theorem z1ha : z0x4.Ok Tryz.prog := fn_ok (k := z0x4) (fn := Tryz.f11) (W := []) (H := []) Tryz.func11 z1fx trivial rfl rfl (fun av x => by kernel_rfl)
noncomputable def z0um (x : GHouse) (left : Int) : Option Int := @gd ((0 ≤ left) ∧ (left ≤ 1048576) ∧ (GHouse.lens (· ≤ 9223372036854775807) x)) (Classical.propDecidable _) _ (some (szR left (GHouse.W x)))
theorem z1pu (x : GHouse) (left : Int) (h : (0 ≤ left) ∧ (left ≤ 1048576) ∧ (GHouse.lens (· ≤ 9223372036854775807) x)) : z0um x left = some (szR left (GHouse.W x)) := gdC h
theorem z1u5 (x : GHouse) (left : Int) (h : (0 ≤ left) ∧ (left ≤ 1048576) ∧ (GHouse.lens (· ≤ 9223372036854775807) x)) : z0i6 x left = some (szR left (GHouse.W x)) := by
  have e : GHouse.W x = ((x.nets.length + sumW GNet.W x.nets) + (x.people.length + ((x.tree.length + sumW GNode.W x.tree) + ((x.runs.length + sumW GRun.W x.runs) + 0)))) := by simp only [GHouse.W]; omega
  rw [e]
  have g1 := h.1
  have g2 := h.2.1
  unfold z0i6
  rw [z1wy _ _ ⟨g1, g2, h.2.2.1.1, h.2.2.1.2⟩]; refine z0es g1 g2 fun left g1 g2 => ?_
  rw [z0tn _ _ ⟨g1, g2, h.2.2.2.1⟩]; refine z0es g1 g2 fun left g1 g2 => ?_
  rw [z1px _ _ ⟨g1, g2, h.2.2.2.2.1.1, h.2.2.2.2.1.2⟩]; refine z0es g1 g2 fun left g1 g2 => ?_
  rw [z1wx _ _ ⟨g1, g2, h.2.2.2.2.2.1, h.2.2.2.2.2.2⟩]; refine z0es g1 g2 fun left g1 g2 => ?_
  exact z0v7 g1
noncomputable def z16e : Con := ⟨11, [.v (.s .house) false, .v .I false], [(.I, true)], [], fun x => z0um x.1 x.2.1⟩
theorem z1t6 : z16e.Ok Tryz.prog := z00p z1ha fun x z hz => by
  obtain ⟨h, e⟩ := z00a hz
  subst e
  exact z1u5 _ _ h
def z11y (l0_1 : List Int) : Option (List Int) := some l0_1
def z09u (l : List Int) (kx0_0 : List Int → Option (List Int)) : Nat → Int → List Int → Option (List Int)
  | 0, _, _ => none
  | n0 + 1, s0_0, l0_1 => if decide (s0_0 < (l.length : Int)) = true then ((getI l s0_0).bind fun x3 => ((getI l0_1 s0_0).bind fun x4 => (gd (ok64 (s0_0 + 1)) ((z09u l kx0_0 n0) (s0_0 + 1) (l0_1.set s0_0.toNat x3))))) else (kx0_0 l0_1)
def z1mw (l : List Int) : Option (List Int) := gd ((0 : Int) ≤ (l.length : Int) ∧ (l.length : Int) ≤ (1000000000 : Int)) (z09u l z11y FUEL 0 (List.replicate (l.length : Int).toNat (0 : Int)))
def z0cf : Con := ⟨37, [.v (.sl .I) false], [((.sl .I), true)], [], fun x => z1mw x.1⟩
def z214 : Fs := ⟨[], []⟩
theorem z1l7 : z214.Ok Tryz.prog := fs0
def z198 : Tmpl := ⟨[(0, .c (.s .I)), (3, .c (.ref 7)), (4, .c .i)], [(7, .arr .I true)]⟩
def z12e : Tmpl := ⟨[(3, .c (.ref 7))], [(7, .arr .I true)]⟩
def z1pf (av : AV) (x : HP z0cf.ps) (n : Nat) (v : z198.den) (K : Ks (CR z0cf)) : Option (CR z0cf) := z09u v.1.1 (fun l0_1 => z12e.at none (((), ()), (l0_1, ())) (K (.exit 0))) n v.1.2.2.1 v.2.1
def z15g (av : AV) (x : HP z0cf.ps) : Hdl (CR z0cf) := hnd [] z198 (z1pf av x)
theorem z1s6 : LP z0cf Tryz.f37 [0] z15g := lp_ok (W := []) (H := []) (xs := [z12e]) z1l7 trivial rfl (fun av x v K => by kernel_rfl) (fun av x n v K => by kernel_rfl)
theorem z21s : z0cf.Ok Tryz.prog := fn_ok (k := z0cf) (fn := Tryz.f37) (W := []) (H := [z15g]) Tryz.func37 z1l7 ⟨z1s6, trivial⟩ rfl rfl (fun av x => by kernel_rfl)
noncomputable def z0im (l : List Int) : Option (List Int) := @gd ((l.length ≤ 1048576)) (Classical.propDecidable _) _ (some l)
theorem z0to (l : List Int) (h : (l.length ≤ 1048576)) : z0im l = some l := gdC h
theorem z28i (l : List Int) (h : (l.length ≤ 1048576)) : z1mw l = some l := by
  refine (z000 (toOk h)).trans ?_
  have hl := h
  refine z1it (f := z09u l z11y) (by omega) (fun n i acc hi ha => ?_) (fun n acc => ?_)
  · rw [z09u, if_pos (decide_eq_true (Int.ofNat_lt.2 hi)), z01u hi, Option.bind_some, z01u (by omega), Option.bind_some, z000 (ok64i hi h)]; rfl
  · rw [z09u, if_neg (by simp)]; rfl
noncomputable def z0zc : Con := ⟨37, [.v (.sl .I) false], [((.sl .I), true)], [], fun x => z0im x.1⟩
theorem z18n : z0zc.Ok Tryz.prog := z00p z21s fun x z hz => by
  obtain ⟨h, e⟩ := z00a hz
  subst e
  exact z28i _ h
def z17s (x : GAsk) : Option GAsk := some x
def z166 : Con := ⟨65, [.v (.s .ask) false], [((.s .ask), true)], [], fun x => z17s x.1⟩
def z1qh : Fs := ⟨[], []⟩
theorem z1rh : z1qh.Ok Tryz.prog := fs0
theorem z1ss : z166.Ok Tryz.prog := fn_ok (k := z166) (fn := Tryz.f65) (W := []) (H := []) Tryz.func65 z1rh trivial rfl rfl (fun av x => by kernel_rfl)
noncomputable def z0o1 (x : GAsk) : Option GAsk := @gd (True) (Classical.propDecidable _) _ (some x)
theorem z14o (x : GAsk) (h : True) : z0o1 x = some x := gdC h
theorem z234 (x : GAsk) (h : True) : z17s x = some x := by
  rfl
noncomputable def z0x8 : Con := ⟨65, [.v (.s .ask) false], [((.s .ask), true)], [], fun x => z0o1 x.1⟩
theorem z18m : z0x8.Ok Tryz.prog := z00p z1ss fun x z hz => by
  obtain ⟨h, e⟩ := z00a hz
  subst e
  exact z234 _ h
def z0nl (x : GFlow) : Option GFlow := (z0o1 x.if_).bind fun x1 => (some (GFlow.mk x.to x1))
def z11h : Con := ⟨229, [.v (.s .flow) false], [((.s .flow), true)], [], fun x => z0nl x.1⟩
def z1jp : Fs := ⟨[z0x8], []⟩
theorem z1l8 : z1jp.Ok Tryz.prog := (fsK z18m fs0)
theorem z1no : z11h.Ok Tryz.prog := fn_ok (k := z11h) (fn := Tryz.f229) (W := []) (H := []) Tryz.func229 z1l8 trivial rfl rfl (fun av x => by kernel_rfl)
noncomputable def z102 (x : GFlow) : Option GFlow := @gd (True) (Classical.propDecidable _) _ (some x)
theorem z1x6 (x : GFlow) (h : True) : z102 x = some x := gdC h
theorem z1zf (x : GFlow) (h : True) : z0nl x = some x := by
  rw [z0nl, z14o _ trivial, Option.bind_some]
noncomputable def z1d9 : Con := ⟨229, [.v (.s .flow) false], [((.s .flow), true)], [], fun x => z102 x.1⟩
theorem z1yf : z1d9.Ok Tryz.prog := z00p z1no fun x z hz => by
  obtain ⟨h, e⟩ := z00a hz
  subst e
  exact z1zf _ h
def z0ji (l0_1 : List GFlow) : Option (List GFlow) := some l0_1
def z04a (l : List GFlow) (kx0_0 : List GFlow → Option (List GFlow)) : Nat → Int → List GFlow → Option (List GFlow)
  | 0, _, _ => none
  | n0 + 1, s0_0, l0_1 => if decide (s0_0 < (l.length : Int)) = true then ((getI l s0_0).bind fun x3 => ((z102 x3).bind fun x4 => ((getI l0_1 s0_0).bind fun x5 => (gd (ok64 (s0_0 + 1)) ((z04a l kx0_0 n0) (s0_0 + 1) (l0_1.set s0_0.toNat x4)))))) else (kx0_0 l0_1)
def z0xp (l : List GFlow) : Option (List GFlow) := gd ((0 : Int) ≤ (l.length : Int) ∧ (l.length : Int) ≤ (1000000000 : Int)) (z04a l z0ji FUEL 0 (List.replicate (l.length : Int).toNat GFlow.zero))
def z04r : Con := ⟨216, [.v (.sl (.s .flow)) false], [((.sl (.s .flow)), true)], [], fun x => z0xp x.1⟩
def z1er : Fs := ⟨[z1d9], []⟩
theorem z0vz : z1er.Ok Tryz.prog := (fsK z1yf fs0)
def z0oc : Tmpl := ⟨[(0, .c (.s (.s .flow))), (3, .c (.ref 7)), (4, .c .i)], [(7, .arr (.s .flow) true)]⟩
def z0k6 : Tmpl := ⟨[(3, .c (.ref 7))], [(7, .arr (.s .flow) true)]⟩
def z13w (av : AV) (x : HP z04r.ps) (n : Nat) (v : z0oc.den) (K : Ks (CR z04r)) : Option (CR z04r) := z04a v.1.1 (fun l0_1 => z0k6.at none (((), ()), (l0_1, ())) (K (.exit 0))) n v.1.2.2.1 v.2.1
def z0lu (av : AV) (x : HP z04r.ps) : Hdl (CR z04r) := hnd [] z0oc (z13w av x)
theorem z16v : LP z04r Tryz.f216 [0] z0lu := lp_ok (W := []) (H := []) (xs := [z0k6]) z0vz trivial rfl (fun av x v K => by kernel_rfl) (fun av x n v K => by kernel_rfl)
theorem z1hg : z04r.Ok Tryz.prog := fn_ok (k := z04r) (fn := Tryz.f216) (W := []) (H := [z0lu]) Tryz.func216 z0vz ⟨z16v, trivial⟩ rfl rfl (fun av x => by kernel_rfl)
noncomputable def z0ur (l : List GFlow) : Option (List GFlow) := @gd ((l.length ≤ 1048576)) (Classical.propDecidable _) _ (some l)
theorem z1q0 (l : List GFlow) (h : (l.length ≤ 1048576)) : z0ur l = some l := gdC h
theorem z1ub (l : List GFlow) (h : (l.length ≤ 1048576)) : z0xp l = some l := by
  refine (z000 (toOk h)).trans ?_
  have hl := h
  refine z1it (f := z04a l z0ji) (by omega) (fun n i acc hi ha => ?_) (fun n acc => ?_)
  · rw [z04a, if_pos (decide_eq_true (Int.ofNat_lt.2 hi)), z01u hi, Option.bind_some, z1x6 _ trivial, Option.bind_some, z01u (by omega), Option.bind_some, z000 (ok64i hi h)]; rfl
  · rw [z04a, if_neg (by simp)]; rfl
noncomputable def z16k : Con := ⟨216, [.v (.sl (.s .flow)) false], [((.sl (.s .flow)), true)], [], fun x => z0ur x.1⟩
theorem z1tc : z16k.Ok Tryz.prog := z00p z1hg fun x z hz => by
  obtain ⟨h, e⟩ := z00a hz
  subst e
  exact z1ub _ h
def z0nn (x : GTask) : Option GTask := (z0im x.in_).bind fun x1 => ((z0ur x.out).bind fun x2 => ((z0im x.clear).bind fun x3 => (some (GTask.mk x.join x.split x1 x2 x3 x.role x.apart x.all x.need))))
def z11i : Con := ⟨175, [.v (.s .task) false], [((.s .task), true)], [], fun x => z0nn x.1⟩
def z1jr : Fs := ⟨[z0zc, z16k], []⟩
theorem z1l9 : z1jr.Ok Tryz.prog := (fsK z18n (fsK z1tc fs0))
theorem z1nq : z11i.Ok Tryz.prog := fn_ok (k := z11i) (fn := Tryz.f175) (W := []) (H := []) Tryz.func175 z1l9 trivial rfl rfl (fun av x => by kernel_rfl)
noncomputable def z104 (x : GTask) : Option GTask := @gd ((GTask.lens (· ≤ 1048576) x)) (Classical.propDecidable _) _ (some x)
theorem z1x8 (x : GTask) (h : (GTask.lens (· ≤ 1048576) x)) : z104 x = some x := gdC h
theorem z1zh (x : GTask) (h : (GTask.lens (· ≤ 1048576) x)) : z0nn x = some x := by
  rw [z0nn, z0to _ h.1, Option.bind_some, z1q0 _ h.2.1, Option.bind_some, z0to _ h.2.2, Option.bind_some]
noncomputable def z1db : Con := ⟨175, [.v (.s .task) false], [((.s .task), true)], [], fun x => z104 x.1⟩
theorem z1yh : z1db.Ok Tryz.prog := z00p z1nq fun x z hz => by
  obtain ⟨h, e⟩ := z00a hz
  subst e
  exact z1zh _ h
def z0jj (l0_1 : List GTask) : Option (List GTask) := some l0_1
def z04b (l : List GTask) (kx0_0 : List GTask → Option (List GTask)) : Nat → Int → List GTask → Option (List GTask)
  | 0, _, _ => none
  | n0 + 1, s0_0, l0_1 => if decide (s0_0 < (l.length : Int)) = true then ((getI l s0_0).bind fun x3 => ((z104 x3).bind fun x4 => ((getI l0_1 s0_0).bind fun x5 => (gd (ok64 (s0_0 + 1)) ((z04b l kx0_0 n0) (s0_0 + 1) (l0_1.set s0_0.toNat x4)))))) else (kx0_0 l0_1)
def z0xq (l : List GTask) : Option (List GTask) := gd ((0 : Int) ≤ (l.length : Int) ∧ (l.length : Int) ≤ (1000000000 : Int)) (z04b l z0jj FUEL 0 (List.replicate (l.length : Int).toNat GTask.zero))
def z04s : Con := ⟨102, [.v (.sl (.s .task)) false], [((.sl (.s .task)), true)], [], fun x => z0xq x.1⟩
def z1es : Fs := ⟨[z1db], []⟩
theorem z0w0 : z1es.Ok Tryz.prog := (fsK z1yh fs0)
def z0od : Tmpl := ⟨[(0, .c (.s (.s .task))), (3, .c (.ref 7)), (4, .c .i)], [(7, .arr (.s .task) true)]⟩
def z0k7 : Tmpl := ⟨[(3, .c (.ref 7))], [(7, .arr (.s .task) true)]⟩
def z13x (av : AV) (x : HP z04s.ps) (n : Nat) (v : z0od.den) (K : Ks (CR z04s)) : Option (CR z04s) := z04b v.1.1 (fun l0_1 => z0k7.at none (((), ()), (l0_1, ())) (K (.exit 0))) n v.1.2.2.1 v.2.1
def z0lv (av : AV) (x : HP z04s.ps) : Hdl (CR z04s) := hnd [] z0od (z13x av x)
theorem z16w : LP z04s Tryz.f102 [0] z0lv := lp_ok (W := []) (H := []) (xs := [z0k7]) z0w0 trivial rfl (fun av x v K => by kernel_rfl) (fun av x n v K => by kernel_rfl)
theorem z1hh : z04s.Ok Tryz.prog := fn_ok (k := z04s) (fn := Tryz.f102) (W := []) (H := [z0lv]) Tryz.func102 z0w0 ⟨z16w, trivial⟩ rfl rfl (fun av x => by kernel_rfl)
noncomputable def z0us (l : List GTask) : Option (List GTask) := @gd ((l.length ≤ 1048576) ∧ (∀ y ∈ l, GTask.lens (· ≤ 1048576) y)) (Classical.propDecidable _) _ (some l)
theorem z1q1 (l : List GTask) (h : (l.length ≤ 1048576) ∧ (∀ y ∈ l, GTask.lens (· ≤ 1048576) y)) : z0us l = some l := gdC h
theorem z1uc (l : List GTask) (h : (l.length ≤ 1048576) ∧ (∀ y ∈ l, GTask.lens (· ≤ 1048576) y)) : z0xq l = some l := by
  refine (z000 (toOk h.1)).trans ?_
  have hl := h.1
  refine z1it (f := z04b l z0jj) (by omega) (fun n i acc hi ha => ?_) (fun n acc => ?_)
  · rw [z04b, if_pos (decide_eq_true (Int.ofNat_lt.2 hi)), z01u hi, Option.bind_some, z1x8 _ (h.2 _ (List.getElem_mem _)), Option.bind_some, z01u (by omega), Option.bind_some, z000 (ok64i hi h.1)]; rfl
  · rw [z04b, if_neg (by simp)]; rfl
noncomputable def z16l : Con := ⟨102, [.v (.sl (.s .task)) false], [((.sl (.s .task)), true)], [], fun x => z0us x.1⟩
theorem z1td : z16l.Ok Tryz.prog := z00p z1hh fun x z hz => by
  obtain ⟨h, e⟩ := z00a hz
  subst e
  exact z1uc _ h
def z0ug (x : GNet) : Option GNet := (z0us x.tasks).bind fun x1 => (some (GNet.mk x.places x1))
def z167 : Con := ⟨36, [.v (.s .net) false], [((.s .net), true)], [], fun x => z0ug x.1⟩
def z1qi : Fs := ⟨[z16l], []⟩
theorem z1ri : z1qi.Ok Tryz.prog := (fsK z1td fs0)
theorem z1st : z167.Ok Tryz.prog := fn_ok (k := z167) (fn := Tryz.f36) (W := []) (H := []) Tryz.func36 z1ri trivial rfl rfl (fun av x => by kernel_rfl)
noncomputable def z18a (x : GNet) : Option GNet := @gd ((GNet.lens (· ≤ 1048576) x)) (Classical.propDecidable _) _ (some x)
theorem z20s (x : GNet) (h : (GNet.lens (· ≤ 1048576) x)) : z18a x = some x := gdC h
theorem z235 (x : GNet) (h : (GNet.lens (· ≤ 1048576) x)) : z0ug x = some x := by
  rw [z0ug, z1q1 _ ⟨h.1, h.2⟩, Option.bind_some]
noncomputable def z1mp : Con := ⟨36, [.v (.s .net) false], [((.s .net), true)], [], fun x => z18a x.1⟩
theorem z223 : z1mp.Ok Tryz.prog := z00p z1st fun x z hz => by
  obtain ⟨h, e⟩ := z00a hz
  subst e
  exact z235 _ h
def z0nm (l0_1 : List GNet) : Option (List GNet) := some l0_1
def z05z (l : List GNet) (kx0_0 : List GNet → Option (List GNet)) : Nat → Int → List GNet → Option (List GNet)
  | 0, _, _ => none
  | n0 + 1, s0_0, l0_1 => if decide (s0_0 < (l.length : Int)) = true then ((getI l s0_0).bind fun x3 => ((z18a x3).bind fun x4 => ((getI l0_1 s0_0).bind fun x5 => (gd (ok64 (s0_0 + 1)) ((z05z l kx0_0 n0) (s0_0 + 1) (l0_1.set s0_0.toNat x4)))))) else (kx0_0 l0_1)
def z11z (l : List GNet) : Option (List GNet) := gd ((0 : Int) ≤ (l.length : Int) ∧ (l.length : Int) ≤ (1000000000 : Int)) (z05z l z0nm FUEL 0 (List.replicate (l.length : Int).toNat GNet.zero))
def z06j : Con := ⟨49, [.v (.sl (.s .net)) false], [((.sl (.s .net)), true)], [], fun x => z11z x.1⟩
def z1jq : Fs := ⟨[z1mp], []⟩
theorem z10n : z1jq.Ok Tryz.prog := (fsK z223 fs0)
def z0sj : Tmpl := ⟨[(0, .c (.s (.s .net))), (3, .c (.ref 7)), (4, .c .i)], [(7, .arr (.s .net) true)]⟩
def z0pb : Tmpl := ⟨[(3, .c (.ref 7))], [(7, .arr (.s .net) true)]⟩
def z19t (av : AV) (x : HP z06j.ps) (n : Nat) (v : z0sj.den) (K : Ks (CR z06j)) : Option (CR z06j) := z05z v.1.1 (fun l0_1 => z0pb.at none (((), ()), (l0_1, ())) (K (.exit 0))) n v.1.2.2.1 v.2.1
def z0r0 (av : AV) (x : HP z06j.ps) : Hdl (CR z06j) := hnd [] z0sj (z19t av x)
theorem z1be : LP z06j Tryz.f49 [0] z0r0 := lp_ok (W := []) (H := []) (xs := [z0pb]) z10n trivial rfl (fun av x v K => by kernel_rfl) (fun av x n v K => by kernel_rfl)
theorem z1np : z06j.Ok Tryz.prog := fn_ok (k := z06j) (fn := Tryz.f49) (W := []) (H := [z0r0]) Tryz.func49 z10n ⟨z1be, trivial⟩ rfl rfl (fun av x => by kernel_rfl)
noncomputable def z103 (l : List GNet) : Option (List GNet) := @gd ((l.length ≤ 1048576) ∧ (∀ y ∈ l, GNet.lens (· ≤ 1048576) y)) (Classical.propDecidable _) _ (some l)
theorem z1x7 (l : List GNet) (h : (l.length ≤ 1048576) ∧ (∀ y ∈ l, GNet.lens (· ≤ 1048576) y)) : z103 l = some l := gdC h
theorem z1zg (l : List GNet) (h : (l.length ≤ 1048576) ∧ (∀ y ∈ l, GNet.lens (· ≤ 1048576) y)) : z11z l = some l := by
  refine (z000 (toOk h.1)).trans ?_
  have hl := h.1
  refine z1it (f := z05z l z0nm) (by omega) (fun n i acc hi ha => ?_) (fun n acc => ?_)
  · rw [z05z, if_pos (decide_eq_true (Int.ofNat_lt.2 hi)), z01u hi, Option.bind_some, z20s _ (h.2 _ (List.getElem_mem _)), Option.bind_some, z01u (by omega), Option.bind_some, z000 (ok64i hi h.1)]; rfl
  · rw [z05z, if_neg (by simp)]; rfl
noncomputable def z1da : Con := ⟨49, [.v (.sl (.s .net)) false], [((.sl (.s .net)), true)], [], fun x => z103 x.1⟩
theorem z1yg : z1da.Ok Tryz.prog := z00p z1np fun x z hz => by
  obtain ⟨h, e⟩ := z00a hz
  subst e
  exact z1zg _ h
def z11v (x : GItem) : Option GItem := some x
def z11g : Con := ⟨176, [.v (.s .item) false], [((.s .item), true)], [], fun x => z11v x.1⟩
def z1jm : Fs := ⟨[], []⟩
theorem z1l6 : z1jm.Ok Tryz.prog := fs0
theorem z1nl : z11g.Ok Tryz.prog := fn_ok (k := z11g) (fn := Tryz.f176) (W := []) (H := []) Tryz.func176 z1l6 trivial rfl rfl (fun av x => by kernel_rfl)
noncomputable def z100 (x : GItem) : Option GItem := @gd (True) (Classical.propDecidable _) _ (some x)
theorem z1x3 (x : GItem) (h : True) : z100 x = some x := gdC h
theorem z1zc (x : GItem) (h : True) : z11v x = some x := by
  rfl
noncomputable def z1d6 : Con := ⟨176, [.v (.s .item) false], [((.s .item), true)], [], fun x => z100 x.1⟩
theorem z1yc : z1d6.Ok Tryz.prog := z00p z1nl fun x z hz => by
  obtain ⟨h, e⟩ := z00a hz
  subst e
  exact z1zc _ h
def z0jh (l0_1 : List GItem) : Option (List GItem) := some l0_1
def z049 (l : List GItem) (kx0_0 : List GItem → Option (List GItem)) : Nat → Int → List GItem → Option (List GItem)
  | 0, _, _ => none
  | n0 + 1, s0_0, l0_1 => if decide (s0_0 < (l.length : Int)) = true then ((getI l s0_0).bind fun x3 => ((z100 x3).bind fun x4 => ((getI l0_1 s0_0).bind fun x5 => (gd (ok64 (s0_0 + 1)) ((z049 l kx0_0 n0) (s0_0 + 1) (l0_1.set s0_0.toNat x4)))))) else (kx0_0 l0_1)
def z0xo (l : List GItem) : Option (List GItem) := gd ((0 : Int) ≤ (l.length : Int) ∧ (l.length : Int) ≤ (1000000000 : Int)) (z049 l z0jh FUEL 0 (List.replicate (l.length : Int).toNat GItem.zero))
def z04q : Con := ⟨103, [.v (.sl (.s .item)) false], [((.sl (.s .item)), true)], [], fun x => z0xo x.1⟩
def z1ep : Fs := ⟨[z1d6], []⟩
theorem z0vy : z1ep.Ok Tryz.prog := (fsK z1yc fs0)
def z0ob : Tmpl := ⟨[(0, .c (.s (.s .item))), (3, .c (.ref 7)), (4, .c .i)], [(7, .arr (.s .item) true)]⟩
def z0k5 : Tmpl := ⟨[(3, .c (.ref 7))], [(7, .arr (.s .item) true)]⟩
def z13v (av : AV) (x : HP z04q.ps) (n : Nat) (v : z0ob.den) (K : Ks (CR z04q)) : Option (CR z04q) := z049 v.1.1 (fun l0_1 => z0k5.at none (((), ()), (l0_1, ())) (K (.exit 0))) n v.1.2.2.1 v.2.1
def z0lt (av : AV) (x : HP z04q.ps) : Hdl (CR z04q) := hnd [] z0ob (z13v av x)
theorem z16u : LP z04q Tryz.f103 [0] z0lt := lp_ok (W := []) (H := []) (xs := [z0k5]) z0vy trivial rfl (fun av x v K => by kernel_rfl) (fun av x n v K => by kernel_rfl)
theorem z1he : z04q.Ok Tryz.prog := fn_ok (k := z04q) (fn := Tryz.f103) (W := []) (H := [z0lt]) Tryz.func103 z0vy ⟨z16u, trivial⟩ rfl rfl (fun av x => by kernel_rfl)
noncomputable def z0uq (l : List GItem) : Option (List GItem) := @gd ((l.length ≤ 1048576)) (Classical.propDecidable _) _ (some l)
theorem z1py (l : List GItem) (h : (l.length ≤ 1048576)) : z0uq l = some l := gdC h
theorem z1u9 (l : List GItem) (h : (l.length ≤ 1048576)) : z0xo l = some l := by
  refine (z000 (toOk h)).trans ?_
  have hl := h
  refine z1it (f := z049 l z0jh) (by omega) (fun n i acc hi ha => ?_) (fun n acc => ?_)
  · rw [z049, if_pos (decide_eq_true (Int.ofNat_lt.2 hi)), z01u hi, Option.bind_some, z1x3 _ trivial, Option.bind_some, z01u (by omega), Option.bind_some, z000 (ok64i hi h)]; rfl
  · rw [z049, if_neg (by simp)]; rfl
noncomputable def z16i : Con := ⟨103, [.v (.sl (.s .item)) false], [((.sl (.s .item)), true)], [], fun x => z0uq x.1⟩
theorem z1ta : z16i.Ok Tryz.prog := z00p z1he fun x z hz => by
  obtain ⟨h, e⟩ := z00a hz
  subst e
  exact z1u9 _ h
def z17r (x : GDid) : Option GDid := some x
def z163 : Con := ⟨177, [.v (.s .did) false], [((.s .did), true)], [], fun x => z17r x.1⟩
def z1qe : Fs := ⟨[], []⟩
theorem z1re : z1qe.Ok Tryz.prog := fs0
theorem z1sp : z163.Ok Tryz.prog := fn_ok (k := z163) (fn := Tryz.f177) (W := []) (H := []) Tryz.func177 z1re trivial rfl rfl (fun av x => by kernel_rfl)
noncomputable def z187 (x : GDid) : Option GDid := @gd (True) (Classical.propDecidable _) _ (some x)
theorem z20p (x : GDid) (h : True) : z187 x = some x := gdC h
theorem z231 (x : GDid) (h : True) : z17r x = some x := by
  rfl
noncomputable def z1mm : Con := ⟨177, [.v (.s .did) false], [((.s .did), true)], [], fun x => z187 x.1⟩
theorem z220 : z1mm.Ok Tryz.prog := z00p z1sp fun x z hz => by
  obtain ⟨h, e⟩ := z00a hz
  subst e
  exact z231 _ h
def z0ni (l0_1 : List GDid) : Option (List GDid) := some l0_1
def z05w (l : List GDid) (kx0_0 : List GDid → Option (List GDid)) : Nat → Int → List GDid → Option (List GDid)
  | 0, _, _ => none
  | n0 + 1, s0_0, l0_1 => if decide (s0_0 < (l.length : Int)) = true then ((getI l s0_0).bind fun x3 => ((z187 x3).bind fun x4 => ((getI l0_1 s0_0).bind fun x5 => (gd (ok64 (s0_0 + 1)) ((z05w l kx0_0 n0) (s0_0 + 1) (l0_1.set s0_0.toNat x4)))))) else (kx0_0 l0_1)
def z11u (l : List GDid) : Option (List GDid) := gd ((0 : Int) ≤ (l.length : Int) ∧ (l.length : Int) ≤ (1000000000 : Int)) (z05w l z0ni FUEL 0 (List.replicate (l.length : Int).toNat GDid.zero))
def z06g : Con := ⟨104, [.v (.sl (.s .did)) false], [((.sl (.s .did)), true)], [], fun x => z11u x.1⟩
def z1jl : Fs := ⟨[z1mm], []⟩
theorem z10k : z1jl.Ok Tryz.prog := (fsK z220 fs0)
def z0sg : Tmpl := ⟨[(0, .c (.s (.s .did))), (3, .c (.ref 7)), (4, .c .i)], [(7, .arr (.s .did) true)]⟩
def z0p8 : Tmpl := ⟨[(3, .c (.ref 7))], [(7, .arr (.s .did) true)]⟩
def z19q (av : AV) (x : HP z06g.ps) (n : Nat) (v : z0sg.den) (K : Ks (CR z06g)) : Option (CR z06g) := z05w v.1.1 (fun l0_1 => z0p8.at none (((), ()), (l0_1, ())) (K (.exit 0))) n v.1.2.2.1 v.2.1
def z0qx (av : AV) (x : HP z06g.ps) : Hdl (CR z06g) := hnd [] z0sg (z19q av x)
theorem z1bb : LP z06g Tryz.f104 [0] z0qx := lp_ok (W := []) (H := []) (xs := [z0p8]) z10k trivial rfl (fun av x v K => by kernel_rfl) (fun av x n v K => by kernel_rfl)
theorem z1nk : z06g.Ok Tryz.prog := fn_ok (k := z06g) (fn := Tryz.f104) (W := []) (H := [z0qx]) Tryz.func104 z10k ⟨z1bb, trivial⟩ rfl rfl (fun av x => by kernel_rfl)
noncomputable def z0zz (l : List GDid) : Option (List GDid) := @gd ((l.length ≤ 1048576)) (Classical.propDecidable _) _ (some l)
theorem z1x2 (l : List GDid) (h : (l.length ≤ 1048576)) : z0zz l = some l := gdC h
theorem z1zb (l : List GDid) (h : (l.length ≤ 1048576)) : z11u l = some l := by
  refine (z000 (toOk h)).trans ?_
  have hl := h
  refine z1it (f := z05w l z0ni) (by omega) (fun n i acc hi ha => ?_) (fun n acc => ?_)
  · rw [z05w, if_pos (decide_eq_true (Int.ofNat_lt.2 hi)), z01u hi, Option.bind_some, z20p _ trivial, Option.bind_some, z01u (by omega), Option.bind_some, z000 (ok64i hi h)]; rfl
  · rw [z05w, if_neg (by simp)]; rfl
noncomputable def z1d5 : Con := ⟨104, [.v (.sl (.s .did)) false], [((.sl (.s .did)), true)], [], fun x => z0zz x.1⟩
theorem z1yb : z1d5.Ok Tryz.prog := z00p z1nk fun x z hz => by
  obtain ⟨h, e⟩ := z00a hz
  subst e
  exact z1zb _ h
def z0no (x : GNode) : Option GNode := (z0o1 x.if_).bind fun x1 => ((z0im x.stone).bind fun x2 => (some (GNode.mk x1 x.yes x.no x.ans x2)))
def z11j : Con := ⟨135, [.v (.s .node) false], [((.s .node), true)], [], fun x => z0no x.1⟩
def z1js : Fs := ⟨[z0x8, z0zc], []⟩
theorem z1la : z1js.Ok Tryz.prog := (fsK z18m (fsK z18n fs0))
theorem z1nr : z11j.Ok Tryz.prog := fn_ok (k := z11j) (fn := Tryz.f135) (W := []) (H := []) Tryz.func135 z1la trivial rfl rfl (fun av x => by kernel_rfl)
noncomputable def z105 (x : GNode) : Option GNode := @gd ((GNode.lens (· ≤ 1048576) x)) (Classical.propDecidable _) _ (some x)
theorem z1x9 (x : GNode) (h : (GNode.lens (· ≤ 1048576) x)) : z105 x = some x := gdC h
theorem z1zi (x : GNode) (h : (GNode.lens (· ≤ 1048576) x)) : z0no x = some x := by
  rw [z0no, z14o _ trivial, Option.bind_some, z0to _ h, Option.bind_some]
noncomputable def z1dc : Con := ⟨135, [.v (.s .node) false], [((.s .node), true)], [], fun x => z105 x.1⟩
theorem z1yi : z1dc.Ok Tryz.prog := z00p z1nr fun x z hz => by
  obtain ⟨h, e⟩ := z00a hz
  subst e
  exact z1zi _ h
def z0jk (l0_1 : List GNode) : Option (List GNode) := some l0_1
def z04c (l : List GNode) (kx0_0 : List GNode → Option (List GNode)) : Nat → Int → List GNode → Option (List GNode)
  | 0, _, _ => none
  | n0 + 1, s0_0, l0_1 => if decide (s0_0 < (l.length : Int)) = true then ((getI l s0_0).bind fun x3 => ((z105 x3).bind fun x4 => ((getI l0_1 s0_0).bind fun x5 => (gd (ok64 (s0_0 + 1)) ((z04c l kx0_0 n0) (s0_0 + 1) (l0_1.set s0_0.toNat x4)))))) else (kx0_0 l0_1)
def z0xr (l : List GNode) : Option (List GNode) := gd ((0 : Int) ≤ (l.length : Int) ∧ (l.length : Int) ≤ (1000000000 : Int)) (z04c l z0jk FUEL 0 (List.replicate (l.length : Int).toNat GNode.zero))
def z04t : Con := ⟨63, [.v (.sl (.s .node)) false], [((.sl (.s .node)), true)], [], fun x => z0xr x.1⟩
def z1et : Fs := ⟨[z1dc], []⟩
theorem z0w1 : z1et.Ok Tryz.prog := (fsK z1yi fs0)
def z0oe : Tmpl := ⟨[(0, .c (.s (.s .node))), (3, .c (.ref 7)), (4, .c .i)], [(7, .arr (.s .node) true)]⟩
def z0k8 : Tmpl := ⟨[(3, .c (.ref 7))], [(7, .arr (.s .node) true)]⟩
def z13y (av : AV) (x : HP z04t.ps) (n : Nat) (v : z0oe.den) (K : Ks (CR z04t)) : Option (CR z04t) := z04c v.1.1 (fun l0_1 => z0k8.at none (((), ()), (l0_1, ())) (K (.exit 0))) n v.1.2.2.1 v.2.1
def z0lw (av : AV) (x : HP z04t.ps) : Hdl (CR z04t) := hnd [] z0oe (z13y av x)
theorem z16x : LP z04t Tryz.f63 [0] z0lw := lp_ok (W := []) (H := []) (xs := [z0k8]) z0w1 trivial rfl (fun av x v K => by kernel_rfl) (fun av x n v K => by kernel_rfl)
theorem z1hi : z04t.Ok Tryz.prog := fn_ok (k := z04t) (fn := Tryz.f63) (W := []) (H := [z0lw]) Tryz.func63 z0w1 ⟨z16x, trivial⟩ rfl rfl (fun av x => by kernel_rfl)
noncomputable def z0ut (l : List GNode) : Option (List GNode) := @gd ((l.length ≤ 1048576) ∧ (∀ y ∈ l, GNode.lens (· ≤ 1048576) y)) (Classical.propDecidable _) _ (some l)
theorem z1q2 (l : List GNode) (h : (l.length ≤ 1048576) ∧ (∀ y ∈ l, GNode.lens (· ≤ 1048576) y)) : z0ut l = some l := gdC h
theorem z1ud (l : List GNode) (h : (l.length ≤ 1048576) ∧ (∀ y ∈ l, GNode.lens (· ≤ 1048576) y)) : z0xr l = some l := by
  refine (z000 (toOk h.1)).trans ?_
  have hl := h.1
  refine z1it (f := z04c l z0jk) (by omega) (fun n i acc hi ha => ?_) (fun n acc => ?_)
  · rw [z04c, if_pos (decide_eq_true (Int.ofNat_lt.2 hi)), z01u hi, Option.bind_some, z1x9 _ (h.2 _ (List.getElem_mem _)), Option.bind_some, z01u (by omega), Option.bind_some, z000 (ok64i hi h.1)]; rfl
  · rw [z04c, if_neg (by simp)]; rfl
noncomputable def z16m : Con := ⟨63, [.v (.sl (.s .node)) false], [((.sl (.s .node)), true)], [], fun x => z0ut x.1⟩
theorem z1te : z16m.Ok Tryz.prog := z00p z1hi fun x z hz => by
  obtain ⟨h, e⟩ := z00a hz
  subst e
  exact z1ud _ h
def z0nh (x : GCase) : Option GCase := (z0im x.marks).bind fun x1 => ((z0uq x.busy).bind fun x2 => ((z0im x.data).bind fun x3 => ((z0zz x.did).bind fun x4 => (some (GCase.mk x.state x1 x2 x3 x4)))))
def z11f : Con := ⟨38, [.v (.s .kase) false], [((.s .kase), true)], [], fun x => z0nh x.1⟩
def z1jk : Fs := ⟨[z0zc, z16i, z1d5], []⟩
theorem z1l5 : z1jk.Ok Tryz.prog := (fsK z18n (fsK z1ta (fsK z1yb fs0)))
theorem z1nj : z11f.Ok Tryz.prog := fn_ok (k := z11f) (fn := Tryz.f38) (W := []) (H := []) Tryz.func38 z1l5 trivial rfl rfl (fun av x => by kernel_rfl)
noncomputable def z0zy (x : GCase) : Option GCase := @gd ((GCase.lens (· ≤ 1048576) x)) (Classical.propDecidable _) _ (some x)
theorem z1x1 (x : GCase) (h : (GCase.lens (· ≤ 1048576) x)) : z0zy x = some x := gdC h
theorem z1za (x : GCase) (h : (GCase.lens (· ≤ 1048576) x)) : z0nh x = some x := by
  rw [z0nh, z0to _ h.1, Option.bind_some, z1py _ h.2.1, Option.bind_some, z0to _ h.2.2.1, Option.bind_some, z1x2 _ h.2.2.2, Option.bind_some]
noncomputable def z1d4 : Con := ⟨38, [.v (.s .kase) false], [((.s .kase), true)], [], fun x => z0zy x.1⟩
theorem z1ya : z1d4.Ok Tryz.prog := z00p z1nj fun x z hz => by
  obtain ⟨h, e⟩ := z00a hz
  subst e
  exact z1za _ h
def z0uf (x : GRun) : Option GRun := (z0zy x.case).bind fun x1 => (some (GRun.mk x.net x1))
def z165 : Con := ⟨136, [.v (.s .run) false], [((.s .run), true)], [], fun x => z0uf x.1⟩
def z1qg : Fs := ⟨[z1d4], []⟩
theorem z1rg : z1qg.Ok Tryz.prog := (fsK z1ya fs0)
theorem z1sr : z165.Ok Tryz.prog := fn_ok (k := z165) (fn := Tryz.f136) (W := []) (H := []) Tryz.func136 z1rg trivial rfl rfl (fun av x => by kernel_rfl)
noncomputable def z189 (x : GRun) : Option GRun := @gd ((GRun.lens (· ≤ 1048576) x)) (Classical.propDecidable _) _ (some x)
theorem z20r (x : GRun) (h : (GRun.lens (· ≤ 1048576) x)) : z189 x = some x := gdC h
theorem z233 (x : GRun) (h : (GRun.lens (· ≤ 1048576) x)) : z0uf x = some x := by
  rw [z0uf, z1x1 _ h, Option.bind_some]
noncomputable def z1mo : Con := ⟨136, [.v (.s .run) false], [((.s .run), true)], [], fun x => z189 x.1⟩
theorem z222 : z1mo.Ok Tryz.prog := z00p z1sr fun x z hz => by
  obtain ⟨h, e⟩ := z00a hz
  subst e
  exact z233 _ h
def z0nk (l0_1 : List GRun) : Option (List GRun) := some l0_1
def z05y (l : List GRun) (kx0_0 : List GRun → Option (List GRun)) : Nat → Int → List GRun → Option (List GRun)
  | 0, _, _ => none
  | n0 + 1, s0_0, l0_1 => if decide (s0_0 < (l.length : Int)) = true then ((getI l s0_0).bind fun x3 => ((z189 x3).bind fun x4 => ((getI l0_1 s0_0).bind fun x5 => (gd (ok64 (s0_0 + 1)) ((z05y l kx0_0 n0) (s0_0 + 1) (l0_1.set s0_0.toNat x4)))))) else (kx0_0 l0_1)
def z11x (l : List GRun) : Option (List GRun) := gd ((0 : Int) ≤ (l.length : Int) ∧ (l.length : Int) ≤ (1000000000 : Int)) (z05y l z0nk FUEL 0 (List.replicate (l.length : Int).toNat GRun.zero))
def z06i : Con := ⟨64, [.v (.sl (.s .run)) false], [((.sl (.s .run)), true)], [], fun x => z11x x.1⟩
def z1jo : Fs := ⟨[z1mo], []⟩
theorem z10m : z1jo.Ok Tryz.prog := (fsK z222 fs0)
def z0si : Tmpl := ⟨[(0, .c (.s (.s .run))), (3, .c (.ref 7)), (4, .c .i)], [(7, .arr (.s .run) true)]⟩
def z0pa : Tmpl := ⟨[(3, .c (.ref 7))], [(7, .arr (.s .run) true)]⟩
def z19s (av : AV) (x : HP z06i.ps) (n : Nat) (v : z0si.den) (K : Ks (CR z06i)) : Option (CR z06i) := z05y v.1.1 (fun l0_1 => z0pa.at none (((), ()), (l0_1, ())) (K (.exit 0))) n v.1.2.2.1 v.2.1
def z0qz (av : AV) (x : HP z06i.ps) : Hdl (CR z06i) := hnd [] z0si (z19s av x)
theorem z1bd : LP z06i Tryz.f64 [0] z0qz := lp_ok (W := []) (H := []) (xs := [z0pa]) z10m trivial rfl (fun av x v K => by kernel_rfl) (fun av x n v K => by kernel_rfl)
theorem z1nn : z06i.Ok Tryz.prog := fn_ok (k := z06i) (fn := Tryz.f64) (W := []) (H := [z0qz]) Tryz.func64 z10m ⟨z1bd, trivial⟩ rfl rfl (fun av x => by kernel_rfl)
noncomputable def z101 (l : List GRun) : Option (List GRun) := @gd ((l.length ≤ 1048576) ∧ (∀ y ∈ l, GRun.lens (· ≤ 1048576) y)) (Classical.propDecidable _) _ (some l)
theorem z1x5 (l : List GRun) (h : (l.length ≤ 1048576) ∧ (∀ y ∈ l, GRun.lens (· ≤ 1048576) y)) : z101 l = some l := gdC h
theorem z1ze (l : List GRun) (h : (l.length ≤ 1048576) ∧ (∀ y ∈ l, GRun.lens (· ≤ 1048576) y)) : z11x l = some l := by
  refine (z000 (toOk h.1)).trans ?_
  have hl := h.1
  refine z1it (f := z05y l z0nk) (by omega) (fun n i acc hi ha => ?_) (fun n acc => ?_)
  · rw [z05y, if_pos (decide_eq_true (Int.ofNat_lt.2 hi)), z01u hi, Option.bind_some, z20r _ (h.2 _ (List.getElem_mem _)), Option.bind_some, z01u (by omega), Option.bind_some, z000 (ok64i hi h.1)]; rfl
  · rw [z05y, if_neg (by simp)]; rfl
noncomputable def z1d8 : Con := ⟨64, [.v (.sl (.s .run)) false], [((.sl (.s .run)), true)], [], fun x => z101 x.1⟩
theorem z1ye : z1d8.Ok Tryz.prog := z00p z1nn fun x z hz => by
  obtain ⟨h, e⟩ := z00a hz
  subst e
  exact z1ze _ h
def z0ue (x : GReq) : Option GReq := (z0im x.data).bind fun x1 => ((z0o1 x.if_).bind fun x2 => (some (GReq.mk x.kind x.who x.case x.task x.var x.num x1 x2 x.ans)))
def z164 : Con := ⟨15, [.v (.s .req) false], [((.s .req), true)], [], fun x => z0ue x.1⟩
def z1qf : Fs := ⟨[z0zc, z0x8], []⟩
theorem z1rf : z1qf.Ok Tryz.prog := (fsK z18n (fsK z18m fs0))
theorem z1sq : z164.Ok Tryz.prog := fn_ok (k := z164) (fn := Tryz.f15) (W := []) (H := []) Tryz.func15 z1rf trivial rfl rfl (fun av x => by kernel_rfl)
noncomputable def z188 (x : GReq) : Option GReq := @gd ((GReq.lens (· ≤ 1048576) x)) (Classical.propDecidable _) _ (some x)
theorem z20q (x : GReq) (h : (GReq.lens (· ≤ 1048576) x)) : z188 x = some x := gdC h
theorem z232 (x : GReq) (h : (GReq.lens (· ≤ 1048576) x)) : z0ue x = some x := by
  rw [z0ue, z0to _ h, Option.bind_some, z14o _ trivial, Option.bind_some]
noncomputable def z1mn : Con := ⟨15, [.v (.s .req) false], [((.s .req), true)], [], fun x => z188 x.1⟩
theorem z221 : z1mn.Ok Tryz.prog := z00p z1sq fun x z hz => by
  obtain ⟨h, e⟩ := z00a hz
  subst e
  exact z232 _ h
def z0nj (l0_1 : List GReq) : Option (List GReq) := some l0_1
def z05x (l : List GReq) (kx0_0 : List GReq → Option (List GReq)) : Nat → Int → List GReq → Option (List GReq)
  | 0, _, _ => none
  | n0 + 1, s0_0, l0_1 => if decide (s0_0 < (l.length : Int)) = true then ((getI l s0_0).bind fun x3 => ((z188 x3).bind fun x4 => ((getI l0_1 s0_0).bind fun x5 => (gd (ok64 (s0_0 + 1)) ((z05x l kx0_0 n0) (s0_0 + 1) (l0_1.set s0_0.toNat x4)))))) else (kx0_0 l0_1)
def z11w (l : List GReq) : Option (List GReq) := gd ((0 : Int) ≤ (l.length : Int) ∧ (l.length : Int) ≤ (1000000000 : Int)) (z05x l z0nj FUEL 0 (List.replicate (l.length : Int).toNat GReq.zero))
def z06h : Con := ⟨24, [.v (.sl (.s .req)) false], [((.sl (.s .req)), true)], [], fun x => z11w x.1⟩
def z1jn : Fs := ⟨[z1mn], []⟩
theorem z10l : z1jn.Ok Tryz.prog := (fsK z221 fs0)
def z0sh : Tmpl := ⟨[(0, .c (.s (.s .req))), (3, .c (.ref 7)), (4, .c .i)], [(7, .arr (.s .req) true)]⟩
def z0p9 : Tmpl := ⟨[(3, .c (.ref 7))], [(7, .arr (.s .req) true)]⟩
def z19r (av : AV) (x : HP z06h.ps) (n : Nat) (v : z0sh.den) (K : Ks (CR z06h)) : Option (CR z06h) := z05x v.1.1 (fun l0_1 => z0p9.at none (((), ()), (l0_1, ())) (K (.exit 0))) n v.1.2.2.1 v.2.1
def z0qy (av : AV) (x : HP z06h.ps) : Hdl (CR z06h) := hnd [] z0sh (z19r av x)
theorem z1bc : LP z06h Tryz.f24 [0] z0qy := lp_ok (W := []) (H := []) (xs := [z0p9]) z10l trivial rfl (fun av x v K => by kernel_rfl) (fun av x n v K => by kernel_rfl)
theorem z1nm : z06h.Ok Tryz.prog := fn_ok (k := z06h) (fn := Tryz.f24) (W := []) (H := [z0qy]) Tryz.func24 z10l ⟨z1bc, trivial⟩ rfl rfl (fun av x => by kernel_rfl)
noncomputable def z0e0 (l : List GReq) : Option (List GReq) := @gd ((l.length ≤ 1048576) ∧ (∀ y ∈ l, GReq.lens (· ≤ 1048576) y)) (Classical.propDecidable _) _ (some l)
theorem z1x4 (l : List GReq) (h : (l.length ≤ 1048576) ∧ (∀ y ∈ l, GReq.lens (· ≤ 1048576) y)) : z0e0 l = some l := gdC h
theorem z1zd (l : List GReq) (h : (l.length ≤ 1048576) ∧ (∀ y ∈ l, GReq.lens (· ≤ 1048576) y)) : z11w l = some l := by
  refine (z000 (toOk h.1)).trans ?_
  have hl := h.1
  refine z1it (f := z05x l z0nj) (by omega) (fun n i acc hi ha => ?_) (fun n acc => ?_)
  · rw [z05x, if_pos (decide_eq_true (Int.ofNat_lt.2 hi)), z01u hi, Option.bind_some, z20q _ (h.2 _ (List.getElem_mem _)), Option.bind_some, z01u (by omega), Option.bind_some, z000 (ok64i hi h.1)]; rfl
  · rw [z05x, if_neg (by simp)]; rfl
noncomputable def z1d7 : Con := ⟨24, [.v (.sl (.s .req)) false], [((.sl (.s .req)), true)], [], fun x => z0e0 x.1⟩
theorem z1yd : z1d7.Ok Tryz.prog := z00p z1nm fun x z hz => by
  obtain ⟨h, e⟩ := z00a hz
  subst e
  exact z1zd _ h
def z0i7 (x : GHouse) : Option GHouse := (z103 x.nets).bind fun x1 => ((z0im x.people).bind fun x2 => ((z0ut x.tree).bind fun x3 => ((z101 x.runs).bind fun x4 => (some (GHouse.mk x1 x2 x3 x4)))))
def z0x6 : Con := ⟨14, [.v (.s .house) false], [((.s .house), true)], [], fun x => z0i7 x.1⟩
def z1eq : Fs := ⟨[z1da, z0zc, z16m, z1d8], []⟩
theorem z1fz : z1eq.Ok Tryz.prog := (fsK z1yg (fsK z18n (fsK z1te (fsK z1ye fs0))))
theorem z1hf : z0x6.Ok Tryz.prog := fn_ok (k := z0x6) (fn := Tryz.f14) (W := []) (H := []) Tryz.func14 z1fz trivial rfl rfl (fun av x => by kernel_rfl)
noncomputable def z0bu (x : GHouse) : Option GHouse := @gd ((GHouse.lens (· ≤ 1048576) x)) (Classical.propDecidable _) _ (some x)
theorem z1pz (x : GHouse) (h : (GHouse.lens (· ≤ 1048576) x)) : z0bu x = some x := gdC h
theorem z1ua (x : GHouse) (h : (GHouse.lens (· ≤ 1048576) x)) : z0i7 x = some x := by
  rw [z0i7, z1x7 _ ⟨h.1.1, h.1.2⟩, Option.bind_some, z0to _ h.2.1, Option.bind_some, z1q2 _ ⟨h.2.2.1.1, h.2.2.1.2⟩, Option.bind_some, z1x5 _ ⟨h.2.2.2.1, h.2.2.2.2⟩, Option.bind_some]
noncomputable def z16j : Con := ⟨14, [.v (.s .house) false], [((.s .house), true)], [], fun x => z0bu x.1⟩
theorem z1tb : z16j.Ok Tryz.prog := z00p z1hf fun x z hz => by
  obtain ⟨h, e⟩ := z00a hz
  subst e
  exact z1ua _ h
def z11o  : Option Bool := some true
def z09t (a : List Int) (b : List Int) (kx0_0 : Option Bool) : Nat → Int → Option Bool
  | 0, _ => none
  | n0 + 1, s0_0 => if decide (s0_0 < (a.length : Int)) = true then ((getI a s0_0).bind fun x3 => ((getI b s0_0).bind fun x4 => (if decide (x3 = x4) = true then (gd (ok64 (s0_0 + 1)) ((z09t a b kx0_0 n0) (s0_0 + 1))) else (some false)))) else (kx0_0)
def z1mu (a : List Int) (b : List Int) : Option Bool := if decide ((a.length : Int) = (b.length : Int)) = true then (z09t a b z11o FUEL 0) else (some false)
def z0ce : Con := ⟨42, [.v (.sl .I) false, .v (.sl .I) false], [(.B, true)], [], fun x => z1mu x.1 x.2.1⟩
def z212 : Fs := ⟨[], []⟩
theorem z1kx : z212.Ok Tryz.prog := fs0
def z197 : Tmpl := ⟨[(0, .c (.s .I)), (1, .c (.s .I)), (5, .c .i)], []⟩
def z12d : Tmpl := ⟨[], []⟩
def z1pe (av : AV) (x : HP z0ce.ps) (n : Nat) (v : z197.den) (K : Ks (CR z0ce)) : Option (CR z0ce) := z09t v.1.1 v.1.2.1 (z12d.at none ((), ()) (K (.exit 0))) n v.1.2.2.1
def z15f (av : AV) (x : HP z0ce.ps) : Hdl (CR z0ce) := hnd [] z197 (z1pe av x)
theorem z1s5 : LP z0ce Tryz.f42 [0] z15f := lp_ok (W := []) (H := []) (xs := [z12d]) z1kx trivial rfl (fun av x v K => by kernel_rfl) (fun av x n v K => by kernel_rfl)
theorem z21q : z0ce.Ok Tryz.prog := fn_ok (k := z0ce) (fn := Tryz.f42) (W := []) (H := [z15f]) Tryz.func42 z1kx ⟨z1s5, trivial⟩ rfl rfl (fun av x => by kernel_rfl)
noncomputable def z0i8 (a : List Int) (b : List Int) : Option Bool := @gd ((a.length ≤ 1048576)) (Classical.propDecidable _) _ (some (decide (a = b)))
theorem z0tm (a : List Int) (b : List Int) (h : (a.length ≤ 1048576)) : z0i8 a b = some (decide (a = b)) := gdC h
theorem z28g (a : List Int) (b : List Int) (h : (a.length ≤ 1048576)) : z1mu a b = some (decide (a = b)) := by
  have hl := h
  refine z1ee fun hab => z1ed (f := z09t a b z11o) (by omega) hab (fun n i hi hj => ?_) (fun n => ?_)
  · rw [z09t, if_pos (decide_eq_true (Int.ofNat_lt.2 hi)), z01u hi, Option.bind_some, z01u hj, Option.bind_some, z000 (ok64i hi h)]; rfl
  · rw [z09t, if_neg (by simp)]; rfl
noncomputable def z0z8 : Con := ⟨42, [.v (.sl .I) false, .v (.sl .I) false], [(.B, true)], [], fun x => z0i8 x.1 x.2.1⟩
theorem z18g : z0z8.Ok Tryz.prog := z00p z21q fun x z hz => by
  obtain ⟨h, e⟩ := z00a hz
  subst e
  exact z28g _ _ h
def z0u9 (x : GAsk) (y : GAsk) : Option Bool := if decide (x.op = y.op) = true then (if decide (x.var = y.var) = true then (if decide (x.k = y.k) = true then (some true) else (some false)) else (some false)) else (some false)
def z15y : Con := ⟨71, [.v (.s .ask) false, .v (.s .ask) false], [(.B, true)], [], fun x => z0u9 x.1 x.2.1⟩
def z1q9 : Fs := ⟨[], []⟩
theorem z1r9 : z1q9.Ok Tryz.prog := fs0
theorem z1sk : z15y.Ok Tryz.prog := fn_ok (k := z15y) (fn := Tryz.f71) (W := []) (H := []) Tryz.func71 z1r9 trivial rfl rfl (fun av x => by kernel_rfl)
noncomputable def z0np (x : GAsk) (y : GAsk) : Option Bool := @gd (True) (Classical.propDecidable _) _ (some (decide (x = y)))
theorem z14n (x : GAsk) (y : GAsk) (h : True) : z0np x y = some (decide (x = y)) := gdC h
theorem z22w (x : GAsk) (y : GAsk) (h : True) : z0u9 x y = some (decide (x = y)) := by
  unfold z0u9
  refine (z00h (z00h (z00h z14q))).trans (congrArg some (decide_eq_decide.2 ⟨fun ⟨h0, h1, h2, _⟩ => ?_, fun h => by subst h; simp⟩))
  cases x; cases y; simp_all
noncomputable def z0x7 : Con := ⟨71, [.v (.s .ask) false, .v (.s .ask) false], [(.B, true)], [], fun x => z0np x.1 x.2.1⟩
theorem z18f : z0x7.Ok Tryz.prog := z00p z1sk fun x z hz => by
  obtain ⟨h, e⟩ := z00a hz
  subst e
  exact z22w _ _ h
def z0n7 (x : GFlow) (y : GFlow) : Option Bool := if decide (x.to = y.to) = true then ((z0np x.if_ y.if_).bind fun x2 => (if x2 = true then (some true) else (some false))) else (some false)
def z118 : Con := ⟨233, [.v (.s .flow) false, .v (.s .flow) false], [(.B, true)], [], fun x => z0n7 x.1 x.2.1⟩
def z1j9 : Fs := ⟨[z0x7], []⟩
theorem z1ky : z1j9.Ok Tryz.prog := (fsK z18f fs0)
theorem z1n8 : z118.Ok Tryz.prog := fn_ok (k := z118) (fn := Tryz.f233) (W := []) (H := []) Tryz.func233 z1ky trivial rfl rfl (fun av x => by kernel_rfl)
noncomputable def z0zn (x : GFlow) (y : GFlow) : Option Bool := @gd (True) (Classical.propDecidable _) _ (some (decide (x = y)))
theorem z1wq (x : GFlow) (y : GFlow) (h : True) : z0zn x y = some (decide (x = y)) := gdC h
theorem z1yz (x : GFlow) (y : GFlow) (h : True) : z0n7 x y = some (decide (x = y)) := by
  rw [z0n7, z14n _ _ trivial, Option.bind_some]
  refine (z00h (z00h z14q)).trans (congrArg some (decide_eq_decide.2 ⟨fun ⟨h0, h1, _⟩ => ?_, fun h => by subst h; simp⟩))
  cases x; cases y; simp_all
noncomputable def z1ct : Con := ⟨233, [.v (.s .flow) false, .v (.s .flow) false], [(.B, true)], [], fun x => z0zn x.1 x.2.1⟩
theorem z1xx : z1ct.Ok Tryz.prog := z00p z1n8 fun x z hz => by
  obtain ⟨h, e⟩ := z00a hz
  subst e
  exact z1yz _ _ h
def z0jc  : Option Bool := some true
def z044 (a : List GFlow) (b : List GFlow) (kx0_0 : Option Bool) : Nat → Int → Option Bool
  | 0, _ => none
  | n0 + 1, s0_0 => if decide (s0_0 < (a.length : Int)) = true then ((getI a s0_0).bind fun x3 => ((getI b s0_0).bind fun x4 => ((z0zn x3 x4).bind fun x5 => (if x5 = true then (gd (ok64 (s0_0 + 1)) ((z044 a b kx0_0 n0) (s0_0 + 1))) else (some false))))) else (kx0_0)
def z0xh (a : List GFlow) (b : List GFlow) : Option Bool := if decide ((a.length : Int) = (b.length : Int)) = true then (z044 a b z0jc FUEL 0) else (some false)
def z04l : Con := ⟨220, [.v (.sl (.s .flow)) false, .v (.sl (.s .flow)) false], [(.B, true)], [], fun x => z0xh x.1 x.2.1⟩
def z1eh : Fs := ⟨[z1ct], []⟩
theorem z0vt : z1eh.Ok Tryz.prog := (fsK z1xx fs0)
def z0o6 : Tmpl := ⟨[(0, .c (.s (.s .flow))), (1, .c (.s (.s .flow))), (5, .c .i)], []⟩
def z0k0 : Tmpl := ⟨[], []⟩
def z13q (av : AV) (x : HP z04l.ps) (n : Nat) (v : z0o6.den) (K : Ks (CR z04l)) : Option (CR z04l) := z044 v.1.1 v.1.2.1 (z0k0.at none ((), ()) (K (.exit 0))) n v.1.2.2.1
def z0lo (av : AV) (x : HP z04l.ps) : Hdl (CR z04l) := hnd [] z0o6 (z13q av x)
theorem z16p : LP z04l Tryz.f220 [0] z0lo := lp_ok (W := []) (H := []) (xs := [z0k0]) z0vt trivial rfl (fun av x v K => by kernel_rfl) (fun av x n v K => by kernel_rfl)
theorem z1h6 : z04l.Ok Tryz.prog := fn_ok (k := z04l) (fn := Tryz.f220) (W := []) (H := [z0lo]) Tryz.func220 z0vt ⟨z16p, trivial⟩ rfl rfl (fun av x => by kernel_rfl)
noncomputable def z0ui (a : List GFlow) (b : List GFlow) : Option Bool := @gd ((a.length ≤ 1048576)) (Classical.propDecidable _) _ (some (decide (a = b)))
theorem z1pq (a : List GFlow) (b : List GFlow) (h : (a.length ≤ 1048576)) : z0ui a b = some (decide (a = b)) := gdC h
theorem z1u1 (a : List GFlow) (b : List GFlow) (h : (a.length ≤ 1048576)) : z0xh a b = some (decide (a = b)) := by
  have hl := h
  refine z1ee fun hab => z1ed (f := z044 a b z0jc) (by omega) hab (fun n i hi hj => ?_) (fun n => ?_)
  · rw [z044, if_pos (decide_eq_true (Int.ofNat_lt.2 hi)), z01u hi, Option.bind_some, z01u hj, Option.bind_some, z1wq _ _ trivial, Option.bind_some, z000 (ok64i hi h)]; rfl
  · rw [z044, if_neg (by simp)]; rfl
noncomputable def z16a : Con := ⟨220, [.v (.sl (.s .flow)) false, .v (.sl (.s .flow)) false], [(.B, true)], [], fun x => z0ui x.1 x.2.1⟩
theorem z1sw : z16a.Ok Tryz.prog := z00p z1h6 fun x z hz => by
  obtain ⟨h, e⟩ := z00a hz
  subst e
  exact z1u1 _ _ h
def z0n9 (x : GTask) (y : GTask) : Option Bool := if decide (x.join = y.join) = true then (if decide (x.split = y.split) = true then ((z0i8 x.in_ y.in_).bind fun x3 => (if x3 = true then ((z0ui x.out y.out).bind fun x5 => (if x5 = true then ((z0i8 x.clear y.clear).bind fun x7 => (if x7 = true then (if decide (x.role = y.role) = true then (if decide (x.apart = y.apart) = true then (if decide (x.all = y.all) = true then (if decide (x.need = y.need) = true then (some true) else (some false)) else (some false)) else (some false)) else (some false)) else (some false))) else (some false))) else (some false))) else (some false)) else (some false)
def z119 : Con := ⟨188, [.v (.s .task) false, .v (.s .task) false], [(.B, true)], [], fun x => z0n9 x.1 x.2.1⟩
def z1jb : Fs := ⟨[z0z8, z16a], []⟩
theorem z1kz : z1jb.Ok Tryz.prog := (fsK z18g (fsK z1sw fs0))
theorem z1na : z119.Ok Tryz.prog := fn_ok (k := z119) (fn := Tryz.f188) (W := []) (H := []) Tryz.func188 z1kz trivial rfl rfl (fun av x => by kernel_rfl)
noncomputable def z0zp (x : GTask) (y : GTask) : Option Bool := @gd ((GTask.lens (· ≤ 1048576) x) ∧ (GTask.lens (· ≤ 1048576) y)) (Classical.propDecidable _) _ (some (decide (x = y)))
theorem z1ws (x : GTask) (y : GTask) (h : (GTask.lens (· ≤ 1048576) x) ∧ (GTask.lens (· ≤ 1048576) y)) : z0zp x y = some (decide (x = y)) := gdC h
theorem z1z1 (x : GTask) (y : GTask) (h : (GTask.lens (· ≤ 1048576) x) ∧ (GTask.lens (· ≤ 1048576) y)) : z0n9 x y = some (decide (x = y)) := by
  rw [z0n9, z0tm _ _ h.1.1, Option.bind_some, z1pq _ _ h.1.2.1, Option.bind_some, z0tm _ _ h.1.2.2, Option.bind_some]
  refine (z00h (z00h (z00h (z00h (z00h (z00h (z00h (z00h (z00h z14q))))))))).trans (congrArg some (decide_eq_decide.2 ⟨fun ⟨h0, h1, h2, h3, h4, h5, h6, h7, h8, _⟩ => ?_, fun h => by subst h; simp⟩))
  cases x; cases y; simp_all
noncomputable def z1cv : Con := ⟨188, [.v (.s .task) false, .v (.s .task) false], [(.B, true)], [], fun x => z0zp x.1 x.2.1⟩
theorem z1xz : z1cv.Ok Tryz.prog := z00p z1na fun x z hz => by
  obtain ⟨h, e⟩ := z00a hz
  subst e
  exact z1z1 _ _ h
def z0jd  : Option Bool := some true
def z045 (a : List GTask) (b : List GTask) (kx0_0 : Option Bool) : Nat → Int → Option Bool
  | 0, _ => none
  | n0 + 1, s0_0 => if decide (s0_0 < (a.length : Int)) = true then ((getI a s0_0).bind fun x3 => ((getI b s0_0).bind fun x4 => ((z0zp x3 x4).bind fun x5 => (if x5 = true then (gd (ok64 (s0_0 + 1)) ((z045 a b kx0_0 n0) (s0_0 + 1))) else (some false))))) else (kx0_0)
def z0xi (a : List GTask) (b : List GTask) : Option Bool := if decide ((a.length : Int) = (b.length : Int)) = true then (z045 a b z0jd FUEL 0) else (some false)
def z04m : Con := ⟨113, [.v (.sl (.s .task)) false, .v (.sl (.s .task)) false], [(.B, true)], [], fun x => z0xi x.1 x.2.1⟩
def z1ei : Fs := ⟨[z1cv], []⟩
theorem z0vu : z1ei.Ok Tryz.prog := (fsK z1xz fs0)
def z0o7 : Tmpl := ⟨[(0, .c (.s (.s .task))), (1, .c (.s (.s .task))), (5, .c .i)], []⟩
def z0k1 : Tmpl := ⟨[], []⟩
def z13r (av : AV) (x : HP z04m.ps) (n : Nat) (v : z0o7.den) (K : Ks (CR z04m)) : Option (CR z04m) := z045 v.1.1 v.1.2.1 (z0k1.at none ((), ()) (K (.exit 0))) n v.1.2.2.1
def z0lp (av : AV) (x : HP z04m.ps) : Hdl (CR z04m) := hnd [] z0o7 (z13r av x)
theorem z16q : LP z04m Tryz.f113 [0] z0lp := lp_ok (W := []) (H := []) (xs := [z0k1]) z0vu trivial rfl (fun av x v K => by kernel_rfl) (fun av x n v K => by kernel_rfl)
theorem z1h7 : z04m.Ok Tryz.prog := fn_ok (k := z04m) (fn := Tryz.f113) (W := []) (H := [z0lp]) Tryz.func113 z0vu ⟨z16q, trivial⟩ rfl rfl (fun av x => by kernel_rfl)
noncomputable def z0uj (a : List GTask) (b : List GTask) : Option Bool := @gd ((a.length ≤ 1048576) ∧ (∀ y ∈ a, GTask.lens (· ≤ 1048576) y) ∧ (∀ y ∈ b, GTask.lens (· ≤ 1048576) y)) (Classical.propDecidable _) _ (some (decide (a = b)))
theorem z1pr (a : List GTask) (b : List GTask) (h : (a.length ≤ 1048576) ∧ (∀ y ∈ a, GTask.lens (· ≤ 1048576) y) ∧ (∀ y ∈ b, GTask.lens (· ≤ 1048576) y)) : z0uj a b = some (decide (a = b)) := gdC h
theorem z1u2 (a : List GTask) (b : List GTask) (h : (a.length ≤ 1048576) ∧ (∀ y ∈ a, GTask.lens (· ≤ 1048576) y) ∧ (∀ y ∈ b, GTask.lens (· ≤ 1048576) y)) : z0xi a b = some (decide (a = b)) := by
  have hl := h.1
  refine z1ee fun hab => z1ed (f := z045 a b z0jd) (by omega) hab (fun n i hi hj => ?_) (fun n => ?_)
  · rw [z045, if_pos (decide_eq_true (Int.ofNat_lt.2 hi)), z01u hi, Option.bind_some, z01u hj, Option.bind_some, z1ws _ _ ⟨h.2.1 _ (List.getElem_mem _), h.2.2 _ (List.getElem_mem _)⟩, Option.bind_some, z000 (ok64i hi h.1)]; rfl
  · rw [z045, if_neg (by simp)]; rfl
noncomputable def z16b : Con := ⟨113, [.v (.sl (.s .task)) false, .v (.sl (.s .task)) false], [(.B, true)], [], fun x => z0uj x.1 x.2.1⟩
theorem z1sx : z16b.Ok Tryz.prog := z00p z1h7 fun x z hz => by
  obtain ⟨h, e⟩ := z00a hz
  subst e
  exact z1u2 _ _ h
def z0ua (x : GNet) (y : GNet) : Option Bool := if decide (x.places = y.places) = true then ((z0uj x.tasks y.tasks).bind fun x2 => (if x2 = true then (some true) else (some false))) else (some false)
def z15z : Con := ⟨41, [.v (.s .net) false, .v (.s .net) false], [(.B, true)], [], fun x => z0ua x.1 x.2.1⟩
def z1qa : Fs := ⟨[z16b], []⟩
theorem z1ra : z1qa.Ok Tryz.prog := (fsK z1sx fs0)
theorem z1sl : z15z.Ok Tryz.prog := fn_ok (k := z15z) (fn := Tryz.f41) (W := []) (H := []) Tryz.func41 z1ra trivial rfl rfl (fun av x => by kernel_rfl)
noncomputable def z17w (x : GNet) (y : GNet) : Option Bool := @gd ((GNet.lens (· ≤ 1048576) x) ∧ (GNet.lens (· ≤ 1048576) y)) (Classical.propDecidable _) _ (some (decide (x = y)))
theorem z20l (x : GNet) (y : GNet) (h : (GNet.lens (· ≤ 1048576) x) ∧ (GNet.lens (· ≤ 1048576) y)) : z17w x y = some (decide (x = y)) := gdC h
theorem z22x (x : GNet) (y : GNet) (h : (GNet.lens (· ≤ 1048576) x) ∧ (GNet.lens (· ≤ 1048576) y)) : z0ua x y = some (decide (x = y)) := by
  rw [z0ua, z1pr _ _ ⟨h.1.1, h.1.2, h.2.2⟩, Option.bind_some]
  refine (z00h (z00h z14q)).trans (congrArg some (decide_eq_decide.2 ⟨fun ⟨h0, h1, _⟩ => ?_, fun h => by subst h; simp⟩))
  cases x; cases y; simp_all
noncomputable def z1mi : Con := ⟨41, [.v (.s .net) false, .v (.s .net) false], [(.B, true)], [], fun x => z17w x.1 x.2.1⟩
theorem z21w : z1mi.Ok Tryz.prog := z00p z1sl fun x z hz => by
  obtain ⟨h, e⟩ := z00a hz
  subst e
  exact z22x _ _ h
def z0n8  : Option Bool := some true
def z05s (a : List GNet) (b : List GNet) (kx0_0 : Option Bool) : Nat → Int → Option Bool
  | 0, _ => none
  | n0 + 1, s0_0 => if decide (s0_0 < (a.length : Int)) = true then ((getI a s0_0).bind fun x3 => ((getI b s0_0).bind fun x4 => ((z17w x3 x4).bind fun x5 => (if x5 = true then (gd (ok64 (s0_0 + 1)) ((z05s a b kx0_0 n0) (s0_0 + 1))) else (some false))))) else (kx0_0)
def z11p (a : List GNet) (b : List GNet) : Option Bool := if decide ((a.length : Int) = (b.length : Int)) = true then (z05s a b z0n8 FUEL 0) else (some false)
def z06c : Con := ⟨51, [.v (.sl (.s .net)) false, .v (.sl (.s .net)) false], [(.B, true)], [], fun x => z11p x.1 x.2.1⟩
def z1ja : Fs := ⟨[z1mi], []⟩
theorem z10g : z1ja.Ok Tryz.prog := (fsK z21w fs0)
def z0sc : Tmpl := ⟨[(0, .c (.s (.s .net))), (1, .c (.s (.s .net))), (5, .c .i)], []⟩
def z0p4 : Tmpl := ⟨[], []⟩
def z19m (av : AV) (x : HP z06c.ps) (n : Nat) (v : z0sc.den) (K : Ks (CR z06c)) : Option (CR z06c) := z05s v.1.1 v.1.2.1 (z0p4.at none ((), ()) (K (.exit 0))) n v.1.2.2.1
def z0qt (av : AV) (x : HP z06c.ps) : Hdl (CR z06c) := hnd [] z0sc (z19m av x)
theorem z1b7 : LP z06c Tryz.f51 [0] z0qt := lp_ok (W := []) (H := []) (xs := [z0p4]) z10g trivial rfl (fun av x v K => by kernel_rfl) (fun av x n v K => by kernel_rfl)
theorem z1n9 : z06c.Ok Tryz.prog := fn_ok (k := z06c) (fn := Tryz.f51) (W := []) (H := [z0qt]) Tryz.func51 z10g ⟨z1b7, trivial⟩ rfl rfl (fun av x => by kernel_rfl)
noncomputable def z0zo (a : List GNet) (b : List GNet) : Option Bool := @gd ((a.length ≤ 1048576) ∧ (∀ y ∈ a, GNet.lens (· ≤ 1048576) y) ∧ (∀ y ∈ b, GNet.lens (· ≤ 1048576) y)) (Classical.propDecidable _) _ (some (decide (a = b)))
theorem z1wr (a : List GNet) (b : List GNet) (h : (a.length ≤ 1048576) ∧ (∀ y ∈ a, GNet.lens (· ≤ 1048576) y) ∧ (∀ y ∈ b, GNet.lens (· ≤ 1048576) y)) : z0zo a b = some (decide (a = b)) := gdC h
theorem z1z0 (a : List GNet) (b : List GNet) (h : (a.length ≤ 1048576) ∧ (∀ y ∈ a, GNet.lens (· ≤ 1048576) y) ∧ (∀ y ∈ b, GNet.lens (· ≤ 1048576) y)) : z11p a b = some (decide (a = b)) := by
  have hl := h.1
  refine z1ee fun hab => z1ed (f := z05s a b z0n8) (by omega) hab (fun n i hi hj => ?_) (fun n => ?_)
  · rw [z05s, if_pos (decide_eq_true (Int.ofNat_lt.2 hi)), z01u hi, Option.bind_some, z01u hj, Option.bind_some, z20l _ _ ⟨h.2.1 _ (List.getElem_mem _), h.2.2 _ (List.getElem_mem _)⟩, Option.bind_some, z000 (ok64i hi h.1)]; rfl
  · rw [z05s, if_neg (by simp)]; rfl
noncomputable def z1cu : Con := ⟨51, [.v (.sl (.s .net)) false, .v (.sl (.s .net)) false], [(.B, true)], [], fun x => z0zo x.1 x.2.1⟩
theorem z1xy : z1cu.Ok Tryz.prog := z00p z1n9 fun x z hz => by
  obtain ⟨h, e⟩ := z00a hz
  subst e
  exact z1z0 _ _ h
def z0n4 (x : GItem) (y : GItem) : Option Bool := if decide (x.task = y.task) = true then (if decide (x.who = y.who) = true then (if decide (x.did = y.did) = true then (some true) else (some false)) else (some false)) else (some false)
def z117 : Con := ⟨186, [.v (.s .item) false, .v (.s .item) false], [(.B, true)], [], fun x => z0n4 x.1 x.2.1⟩
def z1j6 : Fs := ⟨[], []⟩
theorem z1kw : z1j6.Ok Tryz.prog := fs0
theorem z1n5 : z117.Ok Tryz.prog := fn_ok (k := z117) (fn := Tryz.f186) (W := []) (H := []) Tryz.func186 z1kw trivial rfl rfl (fun av x => by kernel_rfl)
noncomputable def z0zk (x : GItem) (y : GItem) : Option Bool := @gd (True) (Classical.propDecidable _) _ (some (decide (x = y)))
theorem z1wn (x : GItem) (y : GItem) (h : True) : z0zk x y = some (decide (x = y)) := gdC h
theorem z1yw (x : GItem) (y : GItem) (h : True) : z0n4 x y = some (decide (x = y)) := by
  unfold z0n4
  refine (z00h (z00h (z00h z14q))).trans (congrArg some (decide_eq_decide.2 ⟨fun ⟨h0, h1, h2, _⟩ => ?_, fun h => by subst h; simp⟩))
  cases x; cases y; simp_all
noncomputable def z1cq : Con := ⟨186, [.v (.s .item) false, .v (.s .item) false], [(.B, true)], [], fun x => z0zk x.1 x.2.1⟩
theorem z1xu : z1cq.Ok Tryz.prog := z00p z1n5 fun x z hz => by
  obtain ⟨h, e⟩ := z00a hz
  subst e
  exact z1yw _ _ h
def z0jb  : Option Bool := some true
def z043 (a : List GItem) (b : List GItem) (kx0_0 : Option Bool) : Nat → Int → Option Bool
  | 0, _ => none
  | n0 + 1, s0_0 => if decide (s0_0 < (a.length : Int)) = true then ((getI a s0_0).bind fun x3 => ((getI b s0_0).bind fun x4 => ((z0zk x3 x4).bind fun x5 => (if x5 = true then (gd (ok64 (s0_0 + 1)) ((z043 a b kx0_0 n0) (s0_0 + 1))) else (some false))))) else (kx0_0)
def z0xg (a : List GItem) (b : List GItem) : Option Bool := if decide ((a.length : Int) = (b.length : Int)) = true then (z043 a b z0jb FUEL 0) else (some false)
def z04k : Con := ⟨111, [.v (.sl (.s .item)) false, .v (.sl (.s .item)) false], [(.B, true)], [], fun x => z0xg x.1 x.2.1⟩
def z1ef : Fs := ⟨[z1cq], []⟩
theorem z0vs : z1ef.Ok Tryz.prog := (fsK z1xu fs0)
def z0o5 : Tmpl := ⟨[(0, .c (.s (.s .item))), (1, .c (.s (.s .item))), (5, .c .i)], []⟩
def z0jz : Tmpl := ⟨[], []⟩
def z13p (av : AV) (x : HP z04k.ps) (n : Nat) (v : z0o5.den) (K : Ks (CR z04k)) : Option (CR z04k) := z043 v.1.1 v.1.2.1 (z0jz.at none ((), ()) (K (.exit 0))) n v.1.2.2.1
def z0ln (av : AV) (x : HP z04k.ps) : Hdl (CR z04k) := hnd [] z0o5 (z13p av x)
theorem z16o : LP z04k Tryz.f111 [0] z0ln := lp_ok (W := []) (H := []) (xs := [z0jz]) z0vs trivial rfl (fun av x v K => by kernel_rfl) (fun av x n v K => by kernel_rfl)
theorem z1h4 : z04k.Ok Tryz.prog := fn_ok (k := z04k) (fn := Tryz.f111) (W := []) (H := [z0ln]) Tryz.func111 z0vs ⟨z16o, trivial⟩ rfl rfl (fun av x => by kernel_rfl)
noncomputable def z0uh (a : List GItem) (b : List GItem) : Option Bool := @gd ((a.length ≤ 1048576)) (Classical.propDecidable _) _ (some (decide (a = b)))
theorem z1pp (a : List GItem) (b : List GItem) (h : (a.length ≤ 1048576)) : z0uh a b = some (decide (a = b)) := gdC h
theorem z1tz (a : List GItem) (b : List GItem) (h : (a.length ≤ 1048576)) : z0xg a b = some (decide (a = b)) := by
  have hl := h
  refine z1ee fun hab => z1ed (f := z043 a b z0jb) (by omega) hab (fun n i hi hj => ?_) (fun n => ?_)
  · rw [z043, if_pos (decide_eq_true (Int.ofNat_lt.2 hi)), z01u hi, Option.bind_some, z01u hj, Option.bind_some, z1wn _ _ trivial, Option.bind_some, z000 (ok64i hi h)]; rfl
  · rw [z043, if_neg (by simp)]; rfl
noncomputable def z168 : Con := ⟨111, [.v (.sl (.s .item)) false, .v (.sl (.s .item)) false], [(.B, true)], [], fun x => z0uh x.1 x.2.1⟩
theorem z1su : z168.Ok Tryz.prog := z00p z1h4 fun x z hz => by
  obtain ⟨h, e⟩ := z00a hz
  subst e
  exact z1tz _ _ h
def z0u6 (x : GDid) (y : GDid) : Option Bool := if decide (x.task = y.task) = true then (if decide (x.who = y.who) = true then (some true) else (some false)) else (some false)
def z15v : Con := ⟨187, [.v (.s .did) false, .v (.s .did) false], [(.B, true)], [], fun x => z0u6 x.1 x.2.1⟩
def z1q6 : Fs := ⟨[], []⟩
theorem z1r6 : z1q6.Ok Tryz.prog := fs0
theorem z1sh : z15v.Ok Tryz.prog := fn_ok (k := z15v) (fn := Tryz.f187) (W := []) (H := []) Tryz.func187 z1r6 trivial rfl rfl (fun av x => by kernel_rfl)
noncomputable def z17t (x : GDid) (y : GDid) : Option Bool := @gd (True) (Classical.propDecidable _) _ (some (decide (x = y)))
theorem z20i (x : GDid) (y : GDid) (h : True) : z17t x y = some (decide (x = y)) := gdC h
theorem z22t (x : GDid) (y : GDid) (h : True) : z0u6 x y = some (decide (x = y)) := by
  unfold z0u6
  refine (z00h (z00h z14q)).trans (congrArg some (decide_eq_decide.2 ⟨fun ⟨h0, h1, _⟩ => ?_, fun h => by subst h; simp⟩))
  cases x; cases y; simp_all
noncomputable def z1mf : Con := ⟨187, [.v (.s .did) false, .v (.s .did) false], [(.B, true)], [], fun x => z17t x.1 x.2.1⟩
theorem z21t : z1mf.Ok Tryz.prog := z00p z1sh fun x z hz => by
  obtain ⟨h, e⟩ := z00a hz
  subst e
  exact z22t _ _ h
def z0n3  : Option Bool := some true
def z05p (a : List GDid) (b : List GDid) (kx0_0 : Option Bool) : Nat → Int → Option Bool
  | 0, _ => none
  | n0 + 1, s0_0 => if decide (s0_0 < (a.length : Int)) = true then ((getI a s0_0).bind fun x3 => ((getI b s0_0).bind fun x4 => ((z17t x3 x4).bind fun x5 => (if x5 = true then (gd (ok64 (s0_0 + 1)) ((z05p a b kx0_0 n0) (s0_0 + 1))) else (some false))))) else (kx0_0)
def z11l (a : List GDid) (b : List GDid) : Option Bool := if decide ((a.length : Int) = (b.length : Int)) = true then (z05p a b z0n3 FUEL 0) else (some false)
def z069 : Con := ⟨112, [.v (.sl (.s .did)) false, .v (.sl (.s .did)) false], [(.B, true)], [], fun x => z11l x.1 x.2.1⟩
def z1j5 : Fs := ⟨[z1mf], []⟩
theorem z10d : z1j5.Ok Tryz.prog := (fsK z21t fs0)
def z0s9 : Tmpl := ⟨[(0, .c (.s (.s .did))), (1, .c (.s (.s .did))), (5, .c .i)], []⟩
def z0p1 : Tmpl := ⟨[], []⟩
def z19j (av : AV) (x : HP z069.ps) (n : Nat) (v : z0s9.den) (K : Ks (CR z069)) : Option (CR z069) := z05p v.1.1 v.1.2.1 (z0p1.at none ((), ()) (K (.exit 0))) n v.1.2.2.1
def z0qq (av : AV) (x : HP z069.ps) : Hdl (CR z069) := hnd [] z0s9 (z19j av x)
theorem z1b4 : LP z069 Tryz.f112 [0] z0qq := lp_ok (W := []) (H := []) (xs := [z0p1]) z10d trivial rfl (fun av x v K => by kernel_rfl) (fun av x n v K => by kernel_rfl)
theorem z1n4 : z069.Ok Tryz.prog := fn_ok (k := z069) (fn := Tryz.f112) (W := []) (H := [z0qq]) Tryz.func112 z10d ⟨z1b4, trivial⟩ rfl rfl (fun av x => by kernel_rfl)
noncomputable def z0zj (a : List GDid) (b : List GDid) : Option Bool := @gd ((a.length ≤ 1048576)) (Classical.propDecidable _) _ (some (decide (a = b)))
theorem z1wm (a : List GDid) (b : List GDid) (h : (a.length ≤ 1048576)) : z0zj a b = some (decide (a = b)) := gdC h
theorem z1yv (a : List GDid) (b : List GDid) (h : (a.length ≤ 1048576)) : z11l a b = some (decide (a = b)) := by
  have hl := h
  refine z1ee fun hab => z1ed (f := z05p a b z0n3) (by omega) hab (fun n i hi hj => ?_) (fun n => ?_)
  · rw [z05p, if_pos (decide_eq_true (Int.ofNat_lt.2 hi)), z01u hi, Option.bind_some, z01u hj, Option.bind_some, z20i _ _ trivial, Option.bind_some, z000 (ok64i hi h)]; rfl
  · rw [z05p, if_neg (by simp)]; rfl
noncomputable def z1cp : Con := ⟨112, [.v (.sl (.s .did)) false, .v (.sl (.s .did)) false], [(.B, true)], [], fun x => z0zj x.1 x.2.1⟩
theorem z1xt : z1cp.Ok Tryz.prog := z00p z1n4 fun x z hz => by
  obtain ⟨h, e⟩ := z00a hz
  subst e
  exact z1yv _ _ h
def z0na (x : GNode) (y : GNode) : Option Bool := (z0np x.if_ y.if_).bind fun x1 => (if x1 = true then (if decide (x.yes = y.yes) = true then (if decide (x.no = y.no) = true then (if decide (x.ans = y.ans) = true then ((z0i8 x.stone y.stone).bind fun x6 => (if x6 = true then (some true) else (some false))) else (some false)) else (some false)) else (some false)) else (some false))
def z11a : Con := ⟨150, [.v (.s .node) false, .v (.s .node) false], [(.B, true)], [], fun x => z0na x.1 x.2.1⟩
def z1jc : Fs := ⟨[z0x7, z0z8], []⟩
theorem z1l0 : z1jc.Ok Tryz.prog := (fsK z18f (fsK z18g fs0))
theorem z1nb : z11a.Ok Tryz.prog := fn_ok (k := z11a) (fn := Tryz.f150) (W := []) (H := []) Tryz.func150 z1l0 trivial rfl rfl (fun av x => by kernel_rfl)
noncomputable def z0zq (x : GNode) (y : GNode) : Option Bool := @gd ((GNode.lens (· ≤ 1048576) x) ∧ (GNode.lens (· ≤ 1048576) y)) (Classical.propDecidable _) _ (some (decide (x = y)))
theorem z1wt (x : GNode) (y : GNode) (h : (GNode.lens (· ≤ 1048576) x) ∧ (GNode.lens (· ≤ 1048576) y)) : z0zq x y = some (decide (x = y)) := gdC h
theorem z1z2 (x : GNode) (y : GNode) (h : (GNode.lens (· ≤ 1048576) x) ∧ (GNode.lens (· ≤ 1048576) y)) : z0na x y = some (decide (x = y)) := by
  rw [z0na, z14n _ _ trivial, Option.bind_some, z0tm _ _ h.1, Option.bind_some]
  refine (z00h (z00h (z00h (z00h (z00h z14q))))).trans (congrArg some (decide_eq_decide.2 ⟨fun ⟨h0, h1, h2, h3, h4, _⟩ => ?_, fun h => by subst h; simp⟩))
  cases x; cases y; simp_all
noncomputable def z1cw : Con := ⟨150, [.v (.s .node) false, .v (.s .node) false], [(.B, true)], [], fun x => z0zq x.1 x.2.1⟩
theorem z1y0 : z1cw.Ok Tryz.prog := z00p z1nb fun x z hz => by
  obtain ⟨h, e⟩ := z00a hz
  subst e
  exact z1z2 _ _ h
def z0je  : Option Bool := some true
def z046 (a : List GNode) (b : List GNode) (kx0_0 : Option Bool) : Nat → Int → Option Bool
  | 0, _ => none
  | n0 + 1, s0_0 => if decide (s0_0 < (a.length : Int)) = true then ((getI a s0_0).bind fun x3 => ((getI b s0_0).bind fun x4 => ((z0zq x3 x4).bind fun x5 => (if x5 = true then (gd (ok64 (s0_0 + 1)) ((z046 a b kx0_0 n0) (s0_0 + 1))) else (some false))))) else (kx0_0)
def z0xj (a : List GNode) (b : List GNode) : Option Bool := if decide ((a.length : Int) = (b.length : Int)) = true then (z046 a b z0je FUEL 0) else (some false)
def z04n : Con := ⟨69, [.v (.sl (.s .node)) false, .v (.sl (.s .node)) false], [(.B, true)], [], fun x => z0xj x.1 x.2.1⟩
def z1ej : Fs := ⟨[z1cw], []⟩
theorem z0vv : z1ej.Ok Tryz.prog := (fsK z1y0 fs0)
def z0o8 : Tmpl := ⟨[(0, .c (.s (.s .node))), (1, .c (.s (.s .node))), (5, .c .i)], []⟩
def z0k2 : Tmpl := ⟨[], []⟩
def z13s (av : AV) (x : HP z04n.ps) (n : Nat) (v : z0o8.den) (K : Ks (CR z04n)) : Option (CR z04n) := z046 v.1.1 v.1.2.1 (z0k2.at none ((), ()) (K (.exit 0))) n v.1.2.2.1
def z0lq (av : AV) (x : HP z04n.ps) : Hdl (CR z04n) := hnd [] z0o8 (z13s av x)
theorem z16r : LP z04n Tryz.f69 [0] z0lq := lp_ok (W := []) (H := []) (xs := [z0k2]) z0vv trivial rfl (fun av x v K => by kernel_rfl) (fun av x n v K => by kernel_rfl)
theorem z1h8 : z04n.Ok Tryz.prog := fn_ok (k := z04n) (fn := Tryz.f69) (W := []) (H := [z0lq]) Tryz.func69 z0vv ⟨z16r, trivial⟩ rfl rfl (fun av x => by kernel_rfl)
noncomputable def z0uk (a : List GNode) (b : List GNode) : Option Bool := @gd ((a.length ≤ 1048576) ∧ (∀ y ∈ a, GNode.lens (· ≤ 1048576) y) ∧ (∀ y ∈ b, GNode.lens (· ≤ 1048576) y)) (Classical.propDecidable _) _ (some (decide (a = b)))
theorem z1ps (a : List GNode) (b : List GNode) (h : (a.length ≤ 1048576) ∧ (∀ y ∈ a, GNode.lens (· ≤ 1048576) y) ∧ (∀ y ∈ b, GNode.lens (· ≤ 1048576) y)) : z0uk a b = some (decide (a = b)) := gdC h
theorem z1u3 (a : List GNode) (b : List GNode) (h : (a.length ≤ 1048576) ∧ (∀ y ∈ a, GNode.lens (· ≤ 1048576) y) ∧ (∀ y ∈ b, GNode.lens (· ≤ 1048576) y)) : z0xj a b = some (decide (a = b)) := by
  have hl := h.1
  refine z1ee fun hab => z1ed (f := z046 a b z0je) (by omega) hab (fun n i hi hj => ?_) (fun n => ?_)
  · rw [z046, if_pos (decide_eq_true (Int.ofNat_lt.2 hi)), z01u hi, Option.bind_some, z01u hj, Option.bind_some, z1wt _ _ ⟨h.2.1 _ (List.getElem_mem _), h.2.2 _ (List.getElem_mem _)⟩, Option.bind_some, z000 (ok64i hi h.1)]; rfl
  · rw [z046, if_neg (by simp)]; rfl
noncomputable def z16c : Con := ⟨69, [.v (.sl (.s .node)) false, .v (.sl (.s .node)) false], [(.B, true)], [], fun x => z0uk x.1 x.2.1⟩
theorem z1sy : z16c.Ok Tryz.prog := z00p z1h8 fun x z hz => by
  obtain ⟨h, e⟩ := z00a hz
  subst e
  exact z1u3 _ _ h
def z0n2 (x : GCase) (y : GCase) : Option Bool := if decide (x.state = y.state) = true then ((z0i8 x.marks y.marks).bind fun x2 => (if x2 = true then ((z0uh x.busy y.busy).bind fun x4 => (if x4 = true then ((z0i8 x.data y.data).bind fun x6 => (if x6 = true then ((z0zj x.did y.did).bind fun x8 => (if x8 = true then (some true) else (some false))) else (some false))) else (some false))) else (some false))) else (some false)
def z116 : Con := ⟨40, [.v (.s .kase) false, .v (.s .kase) false], [(.B, true)], [], fun x => z0n2 x.1 x.2.1⟩
def z1j4 : Fs := ⟨[z0z8, z168, z1cp], []⟩
theorem z1kv : z1j4.Ok Tryz.prog := (fsK z18g (fsK z1su (fsK z1xt fs0)))
theorem z1n3 : z116.Ok Tryz.prog := fn_ok (k := z116) (fn := Tryz.f40) (W := []) (H := []) Tryz.func40 z1kv trivial rfl rfl (fun av x => by kernel_rfl)
noncomputable def z0zi (x : GCase) (y : GCase) : Option Bool := @gd ((GCase.lens (· ≤ 1048576) x) ∧ (GCase.lens (· ≤ 1048576) y)) (Classical.propDecidable _) _ (some (decide (x = y)))
theorem z1wl (x : GCase) (y : GCase) (h : (GCase.lens (· ≤ 1048576) x) ∧ (GCase.lens (· ≤ 1048576) y)) : z0zi x y = some (decide (x = y)) := gdC h
theorem z1yu (x : GCase) (y : GCase) (h : (GCase.lens (· ≤ 1048576) x) ∧ (GCase.lens (· ≤ 1048576) y)) : z0n2 x y = some (decide (x = y)) := by
  rw [z0n2, z0tm _ _ h.1.1, Option.bind_some, z1pp _ _ h.1.2.1, Option.bind_some, z0tm _ _ h.1.2.2.1, Option.bind_some, z1wm _ _ h.1.2.2.2, Option.bind_some]
  refine (z00h (z00h (z00h (z00h (z00h z14q))))).trans (congrArg some (decide_eq_decide.2 ⟨fun ⟨h0, h1, h2, h3, h4, _⟩ => ?_, fun h => by subst h; simp⟩))
  cases x; cases y; simp_all
noncomputable def z1co : Con := ⟨40, [.v (.s .kase) false, .v (.s .kase) false], [(.B, true)], [], fun x => z0zi x.1 x.2.1⟩
theorem z1xs : z1co.Ok Tryz.prog := z00p z1n3 fun x z hz => by
  obtain ⟨h, e⟩ := z00a hz
  subst e
  exact z1yu _ _ h
def z0u8 (x : GRun) (y : GRun) : Option Bool := if decide (x.net = y.net) = true then ((z0zi x.case y.case).bind fun x2 => (if x2 = true then (some true) else (some false))) else (some false)
def z15x : Con := ⟨151, [.v (.s .run) false, .v (.s .run) false], [(.B, true)], [], fun x => z0u8 x.1 x.2.1⟩
def z1q8 : Fs := ⟨[z1co], []⟩
theorem z1r8 : z1q8.Ok Tryz.prog := (fsK z1xs fs0)
theorem z1sj : z15x.Ok Tryz.prog := fn_ok (k := z15x) (fn := Tryz.f151) (W := []) (H := []) Tryz.func151 z1r8 trivial rfl rfl (fun av x => by kernel_rfl)
noncomputable def z17v (x : GRun) (y : GRun) : Option Bool := @gd ((GRun.lens (· ≤ 1048576) x) ∧ (GRun.lens (· ≤ 1048576) y)) (Classical.propDecidable _) _ (some (decide (x = y)))
theorem z20k (x : GRun) (y : GRun) (h : (GRun.lens (· ≤ 1048576) x) ∧ (GRun.lens (· ≤ 1048576) y)) : z17v x y = some (decide (x = y)) := gdC h
theorem z22v (x : GRun) (y : GRun) (h : (GRun.lens (· ≤ 1048576) x) ∧ (GRun.lens (· ≤ 1048576) y)) : z0u8 x y = some (decide (x = y)) := by
  rw [z0u8, z1wl _ _ ⟨h.1, h.2⟩, Option.bind_some]
  refine (z00h (z00h z14q)).trans (congrArg some (decide_eq_decide.2 ⟨fun ⟨h0, h1, _⟩ => ?_, fun h => by subst h; simp⟩))
  cases x; cases y; simp_all
noncomputable def z1mh : Con := ⟨151, [.v (.s .run) false, .v (.s .run) false], [(.B, true)], [], fun x => z17v x.1 x.2.1⟩
theorem z21v : z1mh.Ok Tryz.prog := z00p z1sj fun x z hz => by
  obtain ⟨h, e⟩ := z00a hz
  subst e
  exact z22v _ _ h
def z0n6  : Option Bool := some true
def z05r (a : List GRun) (b : List GRun) (kx0_0 : Option Bool) : Nat → Int → Option Bool
  | 0, _ => none
  | n0 + 1, s0_0 => if decide (s0_0 < (a.length : Int)) = true then ((getI a s0_0).bind fun x3 => ((getI b s0_0).bind fun x4 => ((z17v x3 x4).bind fun x5 => (if x5 = true then (gd (ok64 (s0_0 + 1)) ((z05r a b kx0_0 n0) (s0_0 + 1))) else (some false))))) else (kx0_0)
def z11n (a : List GRun) (b : List GRun) : Option Bool := if decide ((a.length : Int) = (b.length : Int)) = true then (z05r a b z0n6 FUEL 0) else (some false)
def z06b : Con := ⟨70, [.v (.sl (.s .run)) false, .v (.sl (.s .run)) false], [(.B, true)], [], fun x => z11n x.1 x.2.1⟩
def z1j8 : Fs := ⟨[z1mh], []⟩
theorem z10f : z1j8.Ok Tryz.prog := (fsK z21v fs0)
def z0sb : Tmpl := ⟨[(0, .c (.s (.s .run))), (1, .c (.s (.s .run))), (5, .c .i)], []⟩
def z0p3 : Tmpl := ⟨[], []⟩
def z19l (av : AV) (x : HP z06b.ps) (n : Nat) (v : z0sb.den) (K : Ks (CR z06b)) : Option (CR z06b) := z05r v.1.1 v.1.2.1 (z0p3.at none ((), ()) (K (.exit 0))) n v.1.2.2.1
def z0qs (av : AV) (x : HP z06b.ps) : Hdl (CR z06b) := hnd [] z0sb (z19l av x)
theorem z1b6 : LP z06b Tryz.f70 [0] z0qs := lp_ok (W := []) (H := []) (xs := [z0p3]) z10f trivial rfl (fun av x v K => by kernel_rfl) (fun av x n v K => by kernel_rfl)
theorem z1n7 : z06b.Ok Tryz.prog := fn_ok (k := z06b) (fn := Tryz.f70) (W := []) (H := [z0qs]) Tryz.func70 z10f ⟨z1b6, trivial⟩ rfl rfl (fun av x => by kernel_rfl)
noncomputable def z0zm (a : List GRun) (b : List GRun) : Option Bool := @gd ((a.length ≤ 1048576) ∧ (∀ y ∈ a, GRun.lens (· ≤ 1048576) y) ∧ (∀ y ∈ b, GRun.lens (· ≤ 1048576) y)) (Classical.propDecidable _) _ (some (decide (a = b)))
theorem z1wp (a : List GRun) (b : List GRun) (h : (a.length ≤ 1048576) ∧ (∀ y ∈ a, GRun.lens (· ≤ 1048576) y) ∧ (∀ y ∈ b, GRun.lens (· ≤ 1048576) y)) : z0zm a b = some (decide (a = b)) := gdC h
theorem z1yy (a : List GRun) (b : List GRun) (h : (a.length ≤ 1048576) ∧ (∀ y ∈ a, GRun.lens (· ≤ 1048576) y) ∧ (∀ y ∈ b, GRun.lens (· ≤ 1048576) y)) : z11n a b = some (decide (a = b)) := by
  have hl := h.1
  refine z1ee fun hab => z1ed (f := z05r a b z0n6) (by omega) hab (fun n i hi hj => ?_) (fun n => ?_)
  · rw [z05r, if_pos (decide_eq_true (Int.ofNat_lt.2 hi)), z01u hi, Option.bind_some, z01u hj, Option.bind_some, z20k _ _ ⟨h.2.1 _ (List.getElem_mem _), h.2.2 _ (List.getElem_mem _)⟩, Option.bind_some, z000 (ok64i hi h.1)]; rfl
  · rw [z05r, if_neg (by simp)]; rfl
noncomputable def z1cs : Con := ⟨70, [.v (.sl (.s .run)) false, .v (.sl (.s .run)) false], [(.B, true)], [], fun x => z0zm x.1 x.2.1⟩
theorem z1xw : z1cs.Ok Tryz.prog := z00p z1n7 fun x z hz => by
  obtain ⟨h, e⟩ := z00a hz
  subst e
  exact z1yy _ _ h
def z0u7 (x : GReq) (y : GReq) : Option Bool := if decide (x.kind = y.kind) = true then (if decide (x.who = y.who) = true then (if decide (x.case = y.case) = true then (if decide (x.task = y.task) = true then (if decide (x.var = y.var) = true then (if decide (x.num = y.num) = true then ((z0i8 x.data y.data).bind fun x7 => (if x7 = true then ((z0np x.if_ y.if_).bind fun x9 => (if x9 = true then (if decide (x.ans = y.ans) = true then (some true) else (some false)) else (some false))) else (some false))) else (some false)) else (some false)) else (some false)) else (some false)) else (some false)) else (some false)
def z15w : Con := ⟨18, [.v (.s .req) false, .v (.s .req) false], [(.B, true)], [], fun x => z0u7 x.1 x.2.1⟩
def z1q7 : Fs := ⟨[z0z8, z0x7], []⟩
theorem z1r7 : z1q7.Ok Tryz.prog := (fsK z18g (fsK z18f fs0))
theorem z1si : z15w.Ok Tryz.prog := fn_ok (k := z15w) (fn := Tryz.f18) (W := []) (H := []) Tryz.func18 z1r7 trivial rfl rfl (fun av x => by kernel_rfl)
noncomputable def z17u (x : GReq) (y : GReq) : Option Bool := @gd ((GReq.lens (· ≤ 1048576) x) ∧ (GReq.lens (· ≤ 1048576) y)) (Classical.propDecidable _) _ (some (decide (x = y)))
theorem z20j (x : GReq) (y : GReq) (h : (GReq.lens (· ≤ 1048576) x) ∧ (GReq.lens (· ≤ 1048576) y)) : z17u x y = some (decide (x = y)) := gdC h
theorem z22u (x : GReq) (y : GReq) (h : (GReq.lens (· ≤ 1048576) x) ∧ (GReq.lens (· ≤ 1048576) y)) : z0u7 x y = some (decide (x = y)) := by
  rw [z0u7, z0tm _ _ h.1, Option.bind_some, z14n _ _ trivial, Option.bind_some]
  refine (z00h (z00h (z00h (z00h (z00h (z00h (z00h (z00h (z00h z14q))))))))).trans (congrArg some (decide_eq_decide.2 ⟨fun ⟨h0, h1, h2, h3, h4, h5, h6, h7, h8, _⟩ => ?_, fun h => by subst h; simp⟩))
  cases x; cases y; simp_all
noncomputable def z1mg : Con := ⟨18, [.v (.s .req) false, .v (.s .req) false], [(.B, true)], [], fun x => z17u x.1 x.2.1⟩
theorem z21u : z1mg.Ok Tryz.prog := z00p z1si fun x z hz => by
  obtain ⟨h, e⟩ := z00a hz
  subst e
  exact z22u _ _ h
def z0n5  : Option Bool := some true
def z05q (a : List GReq) (b : List GReq) (kx0_0 : Option Bool) : Nat → Int → Option Bool
  | 0, _ => none
  | n0 + 1, s0_0 => if decide (s0_0 < (a.length : Int)) = true then ((getI a s0_0).bind fun x3 => ((getI b s0_0).bind fun x4 => ((z17u x3 x4).bind fun x5 => (if x5 = true then (gd (ok64 (s0_0 + 1)) ((z05q a b kx0_0 n0) (s0_0 + 1))) else (some false))))) else (kx0_0)
def z11m (a : List GReq) (b : List GReq) : Option Bool := if decide ((a.length : Int) = (b.length : Int)) = true then (z05q a b z0n5 FUEL 0) else (some false)
def z06a : Con := ⟨26, [.v (.sl (.s .req)) false, .v (.sl (.s .req)) false], [(.B, true)], [], fun x => z11m x.1 x.2.1⟩
def z1j7 : Fs := ⟨[z1mg], []⟩
theorem z10e : z1j7.Ok Tryz.prog := (fsK z21u fs0)
def z0sa : Tmpl := ⟨[(0, .c (.s (.s .req))), (1, .c (.s (.s .req))), (5, .c .i)], []⟩
def z0p2 : Tmpl := ⟨[], []⟩
def z19k (av : AV) (x : HP z06a.ps) (n : Nat) (v : z0sa.den) (K : Ks (CR z06a)) : Option (CR z06a) := z05q v.1.1 v.1.2.1 (z0p2.at none ((), ()) (K (.exit 0))) n v.1.2.2.1
def z0qr (av : AV) (x : HP z06a.ps) : Hdl (CR z06a) := hnd [] z0sa (z19k av x)
theorem z1b5 : LP z06a Tryz.f26 [0] z0qr := lp_ok (W := []) (H := []) (xs := [z0p2]) z10e trivial rfl (fun av x v K => by kernel_rfl) (fun av x n v K => by kernel_rfl)
theorem z1n6 : z06a.Ok Tryz.prog := fn_ok (k := z06a) (fn := Tryz.f26) (W := []) (H := [z0qr]) Tryz.func26 z10e ⟨z1b5, trivial⟩ rfl rfl (fun av x => by kernel_rfl)
noncomputable def z0zl (a : List GReq) (b : List GReq) : Option Bool := @gd ((a.length ≤ 1048576) ∧ (∀ y ∈ a, GReq.lens (· ≤ 1048576) y) ∧ (∀ y ∈ b, GReq.lens (· ≤ 1048576) y)) (Classical.propDecidable _) _ (some (decide (a = b)))
theorem z1wo (a : List GReq) (b : List GReq) (h : (a.length ≤ 1048576) ∧ (∀ y ∈ a, GReq.lens (· ≤ 1048576) y) ∧ (∀ y ∈ b, GReq.lens (· ≤ 1048576) y)) : z0zl a b = some (decide (a = b)) := gdC h
theorem z1yx (a : List GReq) (b : List GReq) (h : (a.length ≤ 1048576) ∧ (∀ y ∈ a, GReq.lens (· ≤ 1048576) y) ∧ (∀ y ∈ b, GReq.lens (· ≤ 1048576) y)) : z11m a b = some (decide (a = b)) := by
  have hl := h.1
  refine z1ee fun hab => z1ed (f := z05q a b z0n5) (by omega) hab (fun n i hi hj => ?_) (fun n => ?_)
  · rw [z05q, if_pos (decide_eq_true (Int.ofNat_lt.2 hi)), z01u hi, Option.bind_some, z01u hj, Option.bind_some, z20j _ _ ⟨h.2.1 _ (List.getElem_mem _), h.2.2 _ (List.getElem_mem _)⟩, Option.bind_some, z000 (ok64i hi h.1)]; rfl
  · rw [z05q, if_neg (by simp)]; rfl
noncomputable def z1cr : Con := ⟨26, [.v (.sl (.s .req)) false, .v (.sl (.s .req)) false], [(.B, true)], [], fun x => z0zl x.1 x.2.1⟩
theorem z1xv : z1cr.Ok Tryz.prog := z00p z1n6 fun x z hz => by
  obtain ⟨h, e⟩ := z00a hz
  subst e
  exact z1yx _ _ h
def z0i5 (x : GHouse) (y : GHouse) : Option Bool := (z0zo x.nets y.nets).bind fun x1 => (if x1 = true then ((z0i8 x.people y.people).bind fun x3 => (if x3 = true then ((z0uk x.tree y.tree).bind fun x5 => (if x5 = true then ((z0zm x.runs y.runs).bind fun x7 => (if x7 = true then (some true) else (some false))) else (some false))) else (some false))) else (some false))
def z0x2 : Con := ⟨17, [.v (.s .house) false, .v (.s .house) false], [(.B, true)], [], fun x => z0i5 x.1 x.2.1⟩
def z1eg : Fs := ⟨[z1cu, z0z8, z16c, z1cs], []⟩
theorem z1fv : z1eg.Ok Tryz.prog := (fsK z1xy (fsK z18g (fsK z1sy (fsK z1xw fs0))))
theorem z1h5 : z0x2.Ok Tryz.prog := fn_ok (k := z0x2) (fn := Tryz.f17) (W := []) (H := []) Tryz.func17 z1fv trivial rfl rfl (fun av x => by kernel_rfl)
noncomputable def z0bl (x : GHouse) (y : GHouse) : Option Bool := @gd ((GHouse.lens (· ≤ 1048576) x) ∧ (GHouse.lens (· ≤ 1048576) y)) (Classical.propDecidable _) _ (some (decide (x = y)))
theorem z14m (x : GHouse) (y : GHouse) (h : (GHouse.lens (· ≤ 1048576) x) ∧ (GHouse.lens (· ≤ 1048576) y)) : z0bl x y = some (decide (x = y)) := gdC h
theorem z1u0 (x : GHouse) (y : GHouse) (h : (GHouse.lens (· ≤ 1048576) x) ∧ (GHouse.lens (· ≤ 1048576) y)) : z0i5 x y = some (decide (x = y)) := by
  rw [z0i5, z1wr _ _ ⟨h.1.1.1, h.1.1.2, h.2.1.2⟩, Option.bind_some, z0tm _ _ h.1.2.1, Option.bind_some, z1ps _ _ ⟨h.1.2.2.1.1, h.1.2.2.1.2, h.2.2.2.1.2⟩, Option.bind_some, z1wp _ _ ⟨h.1.2.2.2.1, h.1.2.2.2.2, h.2.2.2.2.2⟩, Option.bind_some]
  refine (z00h (z00h (z00h (z00h z14q)))).trans (congrArg some (decide_eq_decide.2 ⟨fun ⟨h0, h1, h2, h3, _⟩ => ?_, fun h => by subst h; simp⟩))
  cases x; cases y; simp_all
noncomputable def z169 : Con := ⟨17, [.v (.s .house) false, .v (.s .house) false], [(.B, true)], [], fun x => z0bl x.1 x.2.1⟩
theorem z1sv : z169.Ok Tryz.prog := z00p z1h5 fun x z hz => by
  obtain ⟨h, e⟩ := z00a hz
  subst e
  exact z1u0 _ _ h
def z002 (n : Int) (low : Int) (high : Int) : Option Bool := if decide (low ≤ n) = true then (some (decide (n ≤ high))) else (some false)
def z00o : Con := ⟨85, [.v .I false, .v .I false, .v .I false], [(.B, true)], [], fun x => z002 x.1 x.2.1 x.2.2.1⟩
def z1xc : Fs := ⟨[], []⟩
theorem z1xf : z1xc.Ok Tryz.prog := fs0
theorem z00t : z00o.Ok Tryz.prog := fn_ok (k := z00o) (fn := Tryz.f85) (W := []) (H := []) Tryz.func85 z1xf trivial rfl rfl (fun av x => by kernel_rfl)
def z0rs  : Option Bool := some true
def z07h (data : List Int) (kx0_0 : Option Bool) : Nat → Int → Option Bool
  | 0, _ => none
  | n0 + 1, s0_0 => if decide (s0_0 < (data.length : Int)) = true then ((getI data s0_0).bind fun x3 => ((z002 x3 (-99) 99).bind fun x4 => (if x4 = true then (gd (ok64 (s0_0 + 1)) ((z07h data kx0_0 n0) (s0_0 + 1))) else (some false)))) else (kx0_0)
def z02g (data : List Int) : Option Bool := if decide ((data.length : Int) = 3) = true then (z07h data z0rs FUEL 0) else (some false)
def z014 : Con := ⟨129, [.v (.sl .I) false], [(.B, true)], [], fun x => z02g x.1⟩
def z1qu : Fs := ⟨[z00o], []⟩
theorem z155 : z1qu.Ok Tryz.prog := (fsK z00t fs0)
def z0yk : Tmpl := ⟨[(0, .c (.s .I)), (3, .c .i)], []⟩
def z0td : Tmpl := ⟨[], []⟩
def z1dx (av : AV) (x : HP z014.ps) (n : Nat) (v : z0yk.den) (K : Ks (CR z014)) : Option (CR z014) := z07h v.1.1 (z0td.at none ((), ()) (K (.exit 0))) n v.1.2.1
def z0wp (av : AV) (x : HP z014.ps) : Hdl (CR z014) := hnd [] z0yk (z1dx av x)
theorem z1gr : LP z014 Tryz.f129 [0] z0wp := lp_ok (W := []) (H := []) (xs := [z0td]) z155 trivial rfl (fun av x v K => by kernel_rfl) (fun av x n v K => by kernel_rfl)
theorem z071 : z014.Ok Tryz.prog := fn_ok (k := z014) (fn := Tryz.f129) (W := []) (H := [z0wp]) Tryz.func129 z155 ⟨z1gr, trivial⟩ rfl rfl (fun av x => by kernel_rfl)
def z0ft (data : List Int) (k : Int) (n : Int) : Option (List Int) := (z02g data).bind fun x1 => (if x1 = true then ((z002 k 0 2).bind fun x3 => (if x3 = true then ((z002 n (-99) 99).bind fun x5 => (if x5 = true then (gd (([] : List Int).length + data.length ≤ SMALL) ((getI (([] : List Int) ++ data) k).bind fun x8 => (some ((([] : List Int) ++ data).set k.toNat n)))) else (gd (([] : List Int).length + data.length ≤ SMALL) (some (([] : List Int) ++ data))))) else (gd (([] : List Int).length + data.length ≤ SMALL) (some (([] : List Int) ++ data))))) else (gd (([] : List Int).length + data.length ≤ SMALL) (some (([] : List Int) ++ data))))
def z0mr : Con := ⟨190, [.v (.sl .I) false, .v .I false, .v .I false], [((.sl .I), true)], [], fun x => z0ft x.1 x.2.1 x.2.2.1⟩
def z1kc : Fs := ⟨[z014, z00o], []⟩
theorem z1lo : z1kc.Ok Tryz.prog := (fsK z071 (fsK z00t fs0))
theorem z1ob : z0mr.Ok Tryz.prog := fn_ok (k := z0mr) (fn := Tryz.f190) (W := []) (H := []) Tryz.func190 z1lo trivial rfl rfl (fun av x => by kernel_rfl)
def z08e (e : GAsk) : Option Bool := if decide (e.op = 0) = true then (some (decide ([e.op, e.var, e.k] = [0, 0, 0]))) else ((z002 e.op 1 3).bind fun x2 => (if x2 = true then ((z002 e.var 0 2).bind fun x4 => (if x4 = true then ((z002 e.k (-99) 99).bind fun x6 => (some x6)) else (some false))) else (some false)))
def z0bh : Con := ⟨128, [.v (.s .ask) false], [(.B, true)], [], fun x => z08e x.1⟩
def z1qw : Fs := ⟨[z00o], []⟩
theorem z1rp : z1qw.Ok Tryz.prog := (fsK z00t fs0)
theorem z0iq : z0bh.Ok Tryz.prog := fn_ok (k := z0bh) (fn := Tryz.f128) (W := []) (H := []) Tryz.func128 z1rp trivial rfl rfl (fun av x => by kernel_rfl)
def z01o (e : GAsk) (data : List Int) : Option Bool := (z08e e).bind fun x1 => (if x1 = true then ((z02g data).bind fun x3 => (if x3 = true then (if decide (e.op = 1) = true then ((getI data e.var).bind fun x6 => (some (decide (x6 < e.k)))) else (if decide (e.op = 2) = true then ((getI data e.var).bind fun x8 => (some (decide (x8 = e.k)))) else (if decide (e.op = 3) = true then ((getI data e.var).bind fun x10 => (some (decide (e.k < x10)))) else (some true)))) else (some false))) else (some false))
def z05f : Con := ⟨156, [.v (.s .ask) false, .v (.sl .I) false], [(.B, true)], [], fun x => z01o x.1 x.2.1⟩
def z1ap : Fs := ⟨[z0bh, z014], []⟩
theorem z1b1 : z1ap.Ok Tryz.prog := (fsK z0iq (fsK z071 fs0))
theorem z08x : z05f.Ok Tryz.prog := fn_ok (k := z05f) (fn := Tryz.f156) (W := []) (H := []) Tryz.func156 z1b1 trivial rfl rfl (fun av x => by kernel_rfl)
def z00b (n : Int) (low : Int) (high : Int) : Option Bool := if decide (low ≤ n) = true then (some (decide (n ≤ high))) else (some false)
def z029 : Con := ⟨87, [.v .I false, .v .I false, .v .I false], [(.B, true)], [], fun x => z00b x.1 x.2.1 x.2.2.1⟩
def z24a : Fs := ⟨[], []⟩
theorem z24e : z24a.Ok Tryz.prog := fs0
theorem z02u : z029.Ok Tryz.prog := fn_ok (k := z029) (fn := Tryz.f87) (W := []) (H := []) Tryz.func87 z24e trivial rfl rfl (fun av x => by kernel_rfl)
def z05a (n : Int) : Option Bool := (z00b n (-99) 99).bind fun x1 => (some x1)
def z08h : Con := ⟨137, [.v .I false], [(.B, true)], [], fun x => z05a x.1⟩
def z1fa : Fs := ⟨[z029], []⟩
theorem z1g9 : z1fa.Ok Tryz.prog := (fsK z02u fs0)
theorem z0dx : z08h.Ok Tryz.prog := fn_ok (k := z08h) (fn := Tryz.f137) (W := []) (H := []) Tryz.func137 z1g9 trivial rfl rfl (fun av x => by kernel_rfl)
def z00c (list : List Int) : Option (List Int) := gd (([] : List Int).length + list.length ≤ SMALL) (some (([] : List Int) ++ list))
def z013 : Con := ⟨143, [.v (.sl .I) false], [((.sl .I), true)], [], fun x => z00c x.1⟩
def z14u : Fs := ⟨[], []⟩
theorem z153 : z14u.Ok Tryz.prog := fs0
theorem z025 : z013.Ok Tryz.prog := fn_ok (k := z013) (fn := Tryz.f143) (W := []) (H := []) Tryz.func143 z153 trivial rfl rfl (fun av x => by kernel_rfl)
def z087 (e : GAsk) : Option Bool := if decide (e.op = 0) = true then (if decide (e.var = 0) = true then (some (decide (e.k = 0))) else (some false)) else ((z00b e.op 1 3).bind fun x3 => (if x3 = true then ((z00b e.var 0 2).bind fun x5 => (if x5 = true then ((z05a e.k).bind fun x7 => (some x7)) else (some false))) else (some false)))
def z0ea : Con := ⟨138, [.v (.s .ask) false], [(.B, true)], [], fun x => z087 x.1⟩
def z1qm : Fs := ⟨[z029, z08h], []⟩
theorem z1rk : z1qm.Ok Tryz.prog := (fsK z02u (fsK z0dx fs0))
theorem z0ux : z0ea.Ok Tryz.prog := fn_ok (k := z0ea) (fn := Tryz.f138) (W := []) (H := []) Tryz.func138 z1rk trivial rfl rfl (fun av x => by kernel_rfl)
def z0js  : Option Bool := some true
def z031 (list : List Int) (low : Int) (high : Int) (kx0_0 : Option Bool) : Nat → Int → Option Bool
  | 0, _ => none
  | n0 + 1, s0_0 => if decide (s0_0 < (list.length : Int)) = true then ((getI list s0_0).bind fun x4 => ((z002 x4 low high).bind fun x5 => (if x5 = true then (if decide (0 < s0_0) = true then (gd (ok64 (s0_0 - 1)) ((getI list (s0_0 - 1)).bind fun x9 => ((getI list s0_0).bind fun x10 => (if decide (x10 ≤ x9) = true then (some false) else (gd (ok64 (s0_0 + 1)) ((z031 list low high kx0_0 n0) (s0_0 + 1))))))) else (gd (ok64 (s0_0 + 1)) ((z031 list low high kx0_0 n0) (s0_0 + 1)))) else (some false)))) else (kx0_0)
def z0ah (list : List Int) (least : Int) (most : Int) (low : Int) (high : Int) : Option Bool := (z002 (list.length : Int) least most).bind fun x1 => (if x1 = true then (z031 list low high z0js FUEL 0) else (some false))
def z03h : Con := ⟨225, [.v (.sl .I) false, .v .I false, .v .I false, .v .I false, .v .I false], [(.B, true)], [], fun x => z0ah x.1 x.2.1 x.2.2.1 x.2.2.2.1 x.2.2.2.2.1⟩
def z1fp : Fs := ⟨[z00o], []⟩
theorem z0wh : z1fp.Ok Tryz.prog := (fsK z00t fs0)
def z0oz : Tmpl := ⟨[(0, .c (.s .I)), (3, .c .i), (4, .c .i), (11, .c .i)], []⟩
def z0ks : Tmpl := ⟨[], []⟩
def z14j (av : AV) (x : HP z03h.ps) (n : Nat) (v : z0oz.den) (K : Ks (CR z03h)) : Option (CR z03h) := z031 v.1.1 v.1.2.1 v.1.2.2.1 (z0ks.at none ((), ()) (K (.exit 0))) n v.1.2.2.2.1
def z0mh (av : AV) (x : HP z03h.ps) : Hdl (CR z03h) := hnd [] z0oz (z14j av x)
theorem z17i : LP z03h Tryz.f225 [0] z0mh := lp_ok (W := []) (H := []) (xs := [z0ks]) z0wh trivial rfl (fun av x v K => by kernel_rfl) (fun av x n v K => by kernel_rfl)
theorem z1ic : z03h.Ok Tryz.prog := fn_ok (k := z03h) (fn := Tryz.f225) (W := []) (H := [z0mh]) Tryz.func225 z0wh ⟨z17i, trivial⟩ rfl rfl (fun av x => by kernel_rfl)
def z0s3  : Option Bool := some false
def z07n (list : List Int) (n : Int) (kx0_0 : Option Bool) : Nat → Int → Option Bool
  | 0, _ => none
  | n0 + 1, s0_0 => if decide (s0_0 < (list.length : Int)) = true then ((getI list s0_0).bind fun x2 => (if decide (x2 = n) = true then (some true) else (gd (ok64 (s0_0 + 1)) ((z07n list n kx0_0 n0) (s0_0 + 1))))) else (kx0_0)
def z0bp (list : List Int) (n : Int) : Option Bool := z07n list n z0s3 FUEL 0
def z03v : Con := ⟨99, [.v (.sl .I) false, .v .I false], [(.B, true)], [], fun x => z0bp x.1 x.2.1⟩
def z1r3 : Fs := ⟨[], []⟩
theorem z15c : z1r3.Ok Tryz.prog := fs0
def z0ys : Tmpl := ⟨[(0, .c (.s .I)), (1, .c .i), (5, .c .i)], []⟩
def z0tk : Tmpl := ⟨[], []⟩
def z1e5 (av : AV) (x : HP z03v.ps) (n : Nat) (v : z0ys.den) (K : Ks (CR z03v)) : Option (CR z03v) := z07n v.1.1 v.1.2.1 (z0tk.at none ((), ()) (K (.exit 0))) n v.1.2.2.1
def z0wx (av : AV) (x : HP z03v.ps) : Hdl (CR z03v) := hnd [] z0ys (z1e5 av x)
theorem z1gz : LP z03v Tryz.f99 [0] z0wx := lp_ok (W := []) (H := []) (xs := [z0tk]) z15c trivial rfl (fun av x v K => by kernel_rfl) (fun av x n v K => by kernel_rfl)
theorem z0v5 : z03v.Ok Tryz.prog := fn_ok (k := z03v) (fn := Tryz.f99) (W := []) (H := [z0wx]) Tryz.func99 z15c ⟨z1gz, trivial⟩ rfl rfl (fun av x => by kernel_rfl)
def z0jp (s0_0 : Int) (bk0 : Int → Option Bool) : Option Bool := gd (ok64 (s0_0 + 1)) (bk0 (s0_0 + 1))
def z028 (t : GTask) (s0_0 : Int) (x4 : GFlow) (kx1_0 : Option Bool) : Nat → Int → Option Bool
  | 0, _ => none
  | n1 + 1, s1_0 => if decide (s1_0 < s0_0) = true then ((getI t.out s1_0).bind fun x14 => (if decide (x14.to = x4.to) = true then (some false) else (gd (ok64 (s1_0 + 1)) ((z028 t s0_0 x4 kx1_0 n1) (s1_0 + 1))))) else (kx1_0)
def z0jq (s0_0 : Int) (bk0 : Int → Option Bool) : Option Bool := gd (ok64 (s0_0 + 1)) (bk0 (s0_0 + 1))
def z0jr  : Option Bool := some true
def z030 (t : GTask) (places : Int) (kx0_0 : Option Bool) : Nat → Int → Option Bool
  | 0, _ => none
  | n0 + 1, s0_0 => if decide (s0_0 < (t.out.length : Int)) = true then ((getI t.out s0_0).bind fun x4 => (gd (ok64 ((t.out.length : Int) - 1)) (if decide (s0_0 = ((t.out.length : Int) - 1)) = true then (gd (ok64 (places - 1)) ((z002 x4.to 1 (places - 1)).bind fun x8 => (if x8 = true then ((z08e x4.if_).bind fun x10 => (if x10 = true then (if (true == (decide (x4.if_.op = 0))) = true then (z028 t s0_0 x4 (z0jp s0_0 (z030 t places kx0_0 n0)) FUEL 0) else (some false)) else (some false))) else (some false)))) else (gd (ok64 (places - 1)) ((z002 x4.to 1 (places - 1)).bind fun x19 => (if x19 = true then ((z08e x4.if_).bind fun x21 => (if x21 = true then (if ((decide (t.split = 1)) == (decide (x4.if_.op = 0))) = true then (z028 t s0_0 x4 (z0jq s0_0 (z030 t places kx0_0 n0)) FUEL 0) else (some false)) else (some false))) else (some false))))))) else (kx0_0)
def z0dv (t : GTask) (places : Int) : Option Bool := (z002 (t.out.length : Int) 1 3).bind fun x1 => (if x1 = true then (z030 t places z0jr FUEL 0) else (some false))
def z00x : Con := ⟨226, [.v (.s .task) false, .v .I false], [(.B, true)], [], fun x => z0dv x.1 x.2.1⟩
def z1fo : Fs := ⟨[z00o, z0bh], []⟩
theorem z0hq : z1fo.Ok Tryz.prog := (fsK z00t (fsK z0iq fs0))
def z0hf : Tmpl := ⟨[(1, .c .i), (2, .c (.bx 2 0)), (5, .c .i), (6, .c (.bx 6 0)), (8, .c .i)], [(2, .boxT (.s .task)), (6, .boxT (.s .flow))]⟩
def z0gj : Tmpl := ⟨[(1, .c .i), (2, .c (.bx 2 0)), (5, .c .i)], [(2, .boxT (.s .task))]⟩
def z0yx (av : AV) (x : HP z00x.ps) (n : Nat) (v : z0hf.den) (K : Ks (CR z00x)) : Option (CR z00x) := z028 v.2.1 v.1.2.2.1 v.2.2.1 (z0gj.at none ((v.1.1, (), v.1.2.2.1, ()), (v.2.1, ())) (K (.exit 2))) n v.1.2.2.2.2.1
def z0h3 (av : AV) (x : HP z00x.ps) : Hdl (CR z00x) := hnd [] z0hf (z0yx av x)
theorem z0zf : LP z00x Tryz.f226 [0, 0] z0h3 := lp_ok (W := []) (H := []) (xs := [z0gj]) z0hq trivial rfl (fun av x v K => by kernel_rfl) (fun av x n v K => by kernel_rfl)
def z0oy : Tmpl := ⟨[(1, .c .i), (2, .c (.bx 2 0)), (5, .c .i)], [(2, .boxT (.s .task))]⟩
def z0kr : Tmpl := ⟨[], []⟩
def z14i (av : AV) (x : HP z00x.ps) (n : Nat) (v : z0oy.den) (K : Ks (CR z00x)) : Option (CR z00x) := z030 v.2.1 v.1.1 (z0kr.at none ((), ()) (K (.exit 0))) n v.1.2.2.1
def z0mg (av : AV) (x : HP z00x.ps) : Hdl (CR z00x) := hnd [] z0oy (z14i av x)
theorem z17h : LP z00x Tryz.f226 [0] z0mg := lp_ok (W := []) (H := [z0h3]) (xs := [z0kr]) z0hq ⟨z0zf, trivial⟩ rfl (fun av x v K => by kernel_rfl) (fun av x n v K => by kernel_rfl)
theorem z1ib : z00x.Ok Tryz.prog := fn_ok (k := z00x) (fn := Tryz.f226) (W := []) (H := [z0mg]) Tryz.func226 z0hq ⟨z17h, trivial⟩ rfl rfl (fun av x => by kernel_rfl)
def z0g0 (t : GTask) (places : Int) (tasks : Int) : Option Bool := (z002 t.join 1 3).bind fun x1 => (if x1 = true then ((z002 t.split 1 3).bind fun x3 => (if x3 = true then (gd (ok64 (places - 1)) ((z0ah t.in_ 1 3 0 (places - 1)).bind fun x6 => (if x6 = true then ((z0bp t.in_ 1).bind fun x8 => (if x8 = true then (some false) else ((z0dv t places).bind fun x10 => (if x10 = true then (gd (ok64 (places - 1)) ((z0ah t.clear 0 places 2 (places - 1)).bind fun x13 => (if x13 = true then ((z002 t.role 1 3).bind fun x15 => (if x15 = true then (gd (ok64 (tasks - 1)) ((z002 t.apart (-1) (tasks - 1)).bind fun x18 => (if x18 = true then ((z002 t.all 1 3).bind fun x20 => (if x20 = true then ((z002 t.need 1 t.all).bind fun x22 => (some x22)) else (some false))) else (some false)))) else (some false))) else (some false)))) else (some false))))) else (some false)))) else (some false))) else (some false))
def z0mu : Con := ⟨205, [.v (.s .task) false, .v .I false, .v .I false], [(.B, true)], [], fun x => z0g0 x.1 x.2.1 x.2.2.1⟩
def z1kj : Fs := ⟨[z00o, z03h, z03v, z00x], []⟩
theorem z1lr : z1kj.Ok Tryz.prog := (fsK z00t (fsK z1ic (fsK z0v5 (fsK z1ib fs0))))
theorem z1oi : z0mu.Ok Tryz.prog := fn_ok (k := z0mu) (fn := Tryz.f205) (W := []) (H := []) Tryz.func205 z1lr trivial rfl rfl (fun av x => by kernel_rfl)
def z0rw  : Option Bool := some true
def z07l (n : GNet) (kx0_0 : Option Bool) : Nat → Int → Option Bool
  | 0, _ => none
  | n0 + 1, s0_0 => if decide (s0_0 < (n.tasks.length : Int)) = true then ((getI n.tasks s0_0).bind fun x6 => ((z0g0 x6 n.places (n.tasks.length : Int)).bind fun x7 => (if x7 = true then (gd (ok64 (s0_0 + 1)) ((z07l n kx0_0 n0) (s0_0 + 1))) else (some false)))) else (kx0_0)
def z09l (n : GNet) : Option Bool := (z002 n.places 2 8).bind fun x1 => (if x1 = true then ((z002 (n.tasks.length : Int) 1 6).bind fun x3 => (if x3 = true then (z07l n z0rw FUEL 0) else (some false))) else (some false))
def z02x : Con := ⟨155, [.v (.s .net) false], [(.B, true)], [], fun x => z09l x.1⟩
def z1qz : Fs := ⟨[z00o, z0mu], []⟩
theorem z159 : z1qz.Ok Tryz.prog := (fsK z00t (fsK z1oi fs0))
def z0yo : Tmpl := ⟨[(1, .c (.bx 1 0)), (3, .c .i)], [(1, .boxT (.s .net))]⟩
def z0th : Tmpl := ⟨[], []⟩
def z1e1 (av : AV) (x : HP z02x.ps) (n : Nat) (v : z0yo.den) (K : Ks (CR z02x)) : Option (CR z02x) := z07l v.2.1 (z0th.at none ((), ()) (K (.exit 0))) n v.1.2.1
def z0wt (av : AV) (x : HP z02x.ps) : Hdl (CR z02x) := hnd [] z0yo (z1e1 av x)
theorem z1gv : LP z02x Tryz.f155 [0] z0wt := lp_ok (W := []) (H := []) (xs := [z0th]) z159 trivial rfl (fun av x v K => by kernel_rfl) (fun av x n v K => by kernel_rfl)
theorem z0is : z02x.Ok Tryz.prog := fn_ok (k := z02x) (fn := Tryz.f155) (W := []) (H := [z0wt]) Tryz.func155 z159 ⟨z1gv, trivial⟩ rfl rfl (fun av x => by kernel_rfl)
def z0bq (s1_0 : Int) (bk1 : Int → List Bool → Option (List Bool)) (l3_1 : List Bool) : Option (List Bool) := gd (ok64 (s1_0 + 1)) (bk1 (s1_0 + 1) l3_1)
def z0br (s1_0 : Int) (bk1 : Int → List Bool → Option (List Bool)) (l3_1 : List Bool) : Option (List Bool) := gd (ok64 (s1_0 + 1)) (bk1 (s1_0 + 1) l3_1)
def z0bs (s1_0 : Int) (bk1 : Int → List Bool → Option (List Bool)) (l3_1 : List Bool) : Option (List Bool) := gd (ok64 (s1_0 + 1)) (bk1 (s1_0 + 1) l3_1)
def z01g (n : GNet) (but : Int) (s1_0 : Int) (s2_0 : Bool) (kx3_0 : List Bool → Option (List Bool)) (kx3_1 : List Bool → Option (List Bool)) (kx3_2 : List Bool → Option (List Bool)) : Nat → Int → List Bool → Option (List Bool)
  | 0, _, _ => none
  | n3 + 1, s3_0, l3_1 => (getI n.tasks s1_0).bind fun x12 => (if decide (s3_0 < (x12.out.length : Int)) = true then (if s2_0 = true then (if decide (s1_0 = but) = true then (kx3_0 l3_1) else ((getI n.tasks s1_0).bind fun x17 => ((getI x17.out s3_0).bind fun x18 => ((getI l3_1 x18.to).bind fun x19 => (gd (ok64 (s3_0 + 1)) ((z01g n but s1_0 s2_0 kx3_0 kx3_1 kx3_2 n3) (s3_0 + 1) (l3_1.set x18.to.toNat true))))))) else (kx3_1 l3_1)) else (kx3_2 l3_1))
def z0h8 (n : GNet) (but : Int) (s1_0 : Int) (l1_1 : List Bool) (bk1 : Int → List Bool → Option (List Bool)) (s2_0 : Bool) : Option (List Bool) := z01g n but s1_0 s2_0 (z0bq s1_0 bk1) (z0br s1_0 bk1) (z0bs s1_0 bk1) FUEL 0 l1_1
def z01w (n : GNet) (s1_0 : Int) (l1_1 : List Bool) (kx2_0 : Bool → Option (List Bool)) : Nat → Bool → Int → Option (List Bool)
  | 0, _, _ => none
  | n2 + 1, s2_0, s2_1 => (getI n.tasks s1_0).bind fun x4 => (if decide (s2_1 < (x4.in_.length : Int)) = true then (if s2_0 = true then (gd (ok64 (s2_1 + 1)) ((z01w n s1_0 l1_1 kx2_0 n2) true (s2_1 + 1))) else ((getI n.tasks s1_0).bind fun x8 => ((getI x8.in_ s2_1).bind fun x9 => ((getI l1_1 x9).bind fun x10 => (gd (ok64 (s2_1 + 1)) ((z01w n s1_0 l1_1 kx2_0 n2) x10 (s2_1 + 1))))))) else (kx2_0 s2_0))
def z0h9 (s0_0 : Int) (bk0 : Int → List Bool → Option (List Bool)) (l1_1 : List Bool) : Option (List Bool) := gd (ok64 (s0_0 + 1)) (bk0 (s0_0 + 1) l1_1)
def z00e (n : GNet) (but : Int) (kx1_0 : List Bool → Option (List Bool)) : Nat → Int → List Bool → Option (List Bool)
  | 0, _, _ => none
  | n1 + 1, s1_0, l1_1 => if decide (s1_0 < (n.tasks.length : Int)) = true then (z01w n s1_0 l1_1 (z0h8 n but s1_0 l1_1 (z00e n but kx1_0 n1)) FUEL false 0) else (kx1_0 l1_1)
def z0ha (l0_1 : List Bool) : Option (List Bool) := some l0_1
def z03q (n : GNet) (but : Int) (kx0_0 : List Bool → Option (List Bool)) : Nat → Int → List Bool → Option (List Bool)
  | 0, _, _ => none
  | n0 + 1, s0_0, l0_1 => if decide (s0_0 < n.places) = true then (z00e n but (z0h9 s0_0 (z03q n but kx0_0 n0)) FUEL 0 l0_1) else (kx0_0 l0_1)
def z0c9 (n : GNet) (marked : List Bool) (but : Int) : Option (List Bool) := gd (([] : List Bool).length + marked.length ≤ SMALL) (z03q n but z0ha FUEL 0 (([] : List Bool) ++ marked))
def z005 : Con := ⟨228, [.v (.s .net) false, .v (.sl .B) false, .v .I false], [((.sl .B), true)], [], fun x => z0c9 x.1 x.2.1 x.2.2.1⟩
def z1aq : Fs := ⟨[], []⟩
theorem z08q : z1aq.Ok Tryz.prog := fs0
def z0db : Tmpl := ⟨[(2, .c .i), (3, .c (.bx 3 0)), (7, .c (.ref 15)), (8, .c .i), (9, .c .i), (10, .c .b), (11, .c .i)], [(3, .boxT (.s .net)), (15, .arr .B true)]⟩
def z0cr : Tmpl := ⟨[(2, .c .i), (3, .c (.bx 3 0)), (7, .c (.ref 15)), (8, .c .i), (9, .c .i), (10, .c .b)], [(3, .boxT (.s .net)), (15, .arr .B true)]⟩
def z0q4 (av : AV) (x : HP z005.ps) (n : Nat) (v : z0db.den) (K : Ks (CR z005)) : Option (CR z005) := z01w v.2.1 v.1.2.2.2.2.1 v.2.2.1 (fun s2_0 => z0cr.at none ((v.1.1, (), (), v.1.2.2.2.1, v.1.2.2.2.2.1, s2_0, ()), (v.2.1, v.2.2.1, ())) (K (.exit 4))) n v.1.2.2.2.2.2.1 v.1.2.2.2.2.2.2.1
def z0d2 (av : AV) (x : HP z005.ps) : Hdl (CR z005) := hnd [] z0db (z0q4 av x)
theorem z0qi : LP z005 Tryz.f228 [0, 0, 0] z0d2 := lp_ok (W := []) (H := []) (xs := [z0cr]) z08q trivial rfl (fun av x v K => by kernel_rfl) (fun av x n v K => by kernel_rfl)
def z0dc : Tmpl := ⟨[(2, .c .i), (3, .c (.bx 3 0)), (7, .c (.ref 15)), (8, .c .i), (9, .c .i), (10, .c .b), (12, .c .i)], [(3, .boxT (.s .net)), (15, .arr .B true)]⟩
def z05c : Tmpl := ⟨[(2, .c .i), (3, .c (.bx 3 0)), (7, .c (.ref 15)), (8, .c .i), (9, .c .i)], [(3, .boxT (.s .net)), (15, .arr .B true)]⟩
def z0q5 (av : AV) (x : HP z005.ps) (n : Nat) (v : z0dc.den) (K : Ks (CR z005)) : Option (CR z005) := z01g v.2.1 v.1.1 v.1.2.2.2.2.1 v.1.2.2.2.2.2.1 (fun l3_1 => z05c.at none ((v.1.1, (), (), v.1.2.2.2.1, v.1.2.2.2.2.1, ()), (v.2.1, l3_1, ())) (K (.exit 6))) (fun l3_1 => z05c.at none ((v.1.1, (), (), v.1.2.2.2.1, v.1.2.2.2.2.1, ()), (v.2.1, l3_1, ())) (K (.exit 6))) (fun l3_1 => z05c.at none ((v.1.1, (), (), v.1.2.2.2.1, v.1.2.2.2.2.1, ()), (v.2.1, l3_1, ())) (K (.exit 6))) n v.1.2.2.2.2.2.2.1 v.2.2.1
def z0d3 (av : AV) (x : HP z005.ps) : Hdl (CR z005) := hnd [] z0dc (z0q5 av x)
theorem z0qj : LP z005 Tryz.f228 [0, 0, 1] z0d3 := lp_ok (W := []) (H := []) (xs := [z05c]) z08q trivial rfl (fun av x v K => by kernel_rfl) (fun av x n v K => by kernel_rfl)
def z0gf : Tmpl := ⟨[(2, .c .i), (3, .c (.bx 3 0)), (7, .c (.ref 15)), (8, .c .i), (9, .c .i)], [(3, .boxT (.s .net)), (15, .arr .B true)]⟩
def z0ey : Tmpl := ⟨[(2, .c .i), (3, .c (.bx 3 0)), (7, .c (.ref 15)), (8, .c .i)], [(3, .boxT (.s .net)), (15, .arr .B true)]⟩
def z0vd (av : AV) (x : HP z005.ps) (n : Nat) (v : z0gf.den) (K : Ks (CR z005)) : Option (CR z005) := z00e v.2.1 v.1.1 (fun l1_1 => z0ey.at none ((v.1.1, (), (), v.1.2.2.2.1, ()), (v.2.1, l1_1, ())) (K (.exit 2))) n v.1.2.2.2.2.1 v.2.2.1
def z0f7 (av : AV) (x : HP z005.ps) : Hdl (CR z005) := hnd [] z0gf (z0vd av x)
theorem z0xe : LP z005 Tryz.f228 [0, 0] z0f7 := lp_ok (W := []) (H := [z0d2, z0d3]) (xs := [z0ey]) z08q ⟨z0qi, z0qj, trivial⟩ rfl (fun av x v K => by kernel_rfl) (fun av x n v K => by kernel_rfl)
def z0jv : Tmpl := ⟨[(2, .c .i), (3, .c (.bx 3 0)), (7, .c (.ref 15)), (8, .c .i)], [(3, .boxT (.s .net)), (15, .arr .B true)]⟩
def z0hi : Tmpl := ⟨[(7, .c (.ref 15))], [(15, .arr .B true)]⟩
def z12k (av : AV) (x : HP z005.ps) (n : Nat) (v : z0jv.den) (K : Ks (CR z005)) : Option (CR z005) := z03q v.2.1 v.1.1 (fun l0_1 => z0hi.at none (((), ()), (l0_1, ())) (K (.exit 0))) n v.1.2.2.2.1 v.2.2.1
def z0j7 (av : AV) (x : HP z005.ps) : Hdl (CR z005) := hnd [] z0jv (z12k av x)
theorem z12x : LP z005 Tryz.f228 [0] z0j7 := lp_ok (W := []) (H := [z0f7]) (xs := [z0hi]) z08q ⟨z0xe, trivial⟩ rfl (fun av x v K => by kernel_rfl) (fun av x n v K => by kernel_rfl)
theorem z1c8 : z005.Ok Tryz.prog := fn_ok (k := z005) (fn := Tryz.f228) (W := []) (H := [z0j7]) Tryz.func228 z08q ⟨z12x, trivial⟩ rfl rfl (fun av x => by kernel_rfl)
def z0fo (kind : Int) : Option Bool := (z00b kind 1 3).bind fun x1 => (some x1)
def z0mp : Con := ⟨207, [.v .I false], [(.B, true)], [], fun x => z0fo x.1⟩
def z1k5 : Fs := ⟨[z029], []⟩
theorem z1lj : z1k5.Ok Tryz.prog := (fsK z02u fs0)
theorem z1o4 : z0mp.Ok Tryz.prog := fn_ok (k := z0mp) (fn := Tryz.f207) (W := []) (H := []) Tryz.func207 z1lj trivial rfl rfl (fun av x => by kernel_rfl)
def z0cj (role : Int) : Option Bool := (z00b role 1 3).bind fun x1 => (some x1)
def z0fa : Con := ⟨210, [.v .I false], [(.B, true)], [], fun x => z0cj x.1⟩
def z1k6 : Fs := ⟨[z029], []⟩
theorem z1lk : z1k6.Ok Tryz.prog := (fsK z02u fs0)
theorem z125 : z0fa.Ok Tryz.prog := fn_ok (k := z0fa) (fn := Tryz.f210) (W := []) (H := []) Tryz.func210 z1lk trivial rfl rfl (fun av x => by kernel_rfl)
def z0ig (places : Int) (tasks : Int) : Option Bool := (z00b places 2 8).bind fun x1 => (if x1 = true then ((z00b tasks 1 6).bind fun x3 => (some x3)) else (some false))
def z0i0 : Con := ⟨160, [.v .I false, .v .I false], [(.B, true)], [], fun x => z0ig x.1 x.2.1⟩
def z1fd : Fs := ⟨[z029], []⟩
theorem z1gb : z1fd.Ok Tryz.prog := (fsK z02u fs0)
theorem z1i0 : z0i0.Ok Tryz.prog := fn_ok (k := z0i0) (fn := Tryz.f160) (W := []) (H := []) Tryz.func160 z1gb trivial rfl rfl (fun av x => by kernel_rfl)
def z00i (n : GNet) (t : Int) : Option Bool := gd (ok64 ((n.tasks.length : Int) - 1)) ((z00b t 0 ((n.tasks.length : Int) - 1)).bind fun x2 => (some x2))
def z01i : Con := ⟨169, [.v (.s .net) false, .v .I false], [(.B, true)], [], fun x => z00i x.1 x.2.1⟩
def z0q8 : Fs := ⟨[z029], []⟩
theorem z0qc : z0q8.Ok Tryz.prog := (fsK z02u fs0)
theorem z034 : z01i.Ok Tryz.prog := fn_ok (k := z01i) (fn := Tryz.f169) (W := []) (H := []) Tryz.func169 z0qc trivial rfl rfl (fun av x => by kernel_rfl)
def z06y (t : GTask) : Option GTask := (z00c t.in_).bind fun x1 => (gd (([] : List GFlow).length + t.out.length ≤ SMALL) ((z00c t.clear).bind fun x3 => (some (GTask.mk t.join t.split x1 (([] : List GFlow) ++ t.out) x3 t.role t.apart t.all t.need))))
def z09f : Con := ⟨200, [.v (.s .task) false], [((.s .task), true)], [], fun x => z06y x.1⟩
def z0tt : Fs := ⟨[z013], []⟩
theorem z0ty : z0tt.Ok Tryz.prog := (fsK z025 fs0)
theorem z0uz : z09f.Ok Tryz.prog := fn_ok (k := z09f) (fn := Tryz.f200) (W := []) (H := []) Tryz.func200 z0ty trivial rfl rfl (fun av x => by kernel_rfl)
def z088 (p0_3 : Int) (l0_1 : List GTask) : Option GNet := some (GNet.mk p0_3 l0_1)
def z01v (p0_0 : List GTask) (p0_1 : Int) (kx0_0 : List GTask → Option GNet) : Nat → Int → List GTask → Option GNet
  | 0, _, _ => none
  | n0 + 1, s0_0, l0_1 => if decide (s0_0 < p0_1) = true then ((getI p0_0 s0_0).bind fun x2 => ((z06y x2).bind fun x3 => (gd (l0_1.length + [x3].length ≤ SMALL) (gd (ok64 (s0_0 + 1)) ((z01v p0_0 p0_1 kx0_0 n0) (s0_0 + 1) (l0_1 ++ [x3])))))) else (kx0_0 l0_1)
def z07z (n : GNet) : Option GNet := z01v n.tasks (n.tasks.length : Int) (z088 n.places) FUEL 0 ([] : List GTask)
def z012 : Con := ⟨145, [.v (.s .net) false], [((.s .net), true)], [], fun x => z07z x.1⟩
def z0vo : Fs := ⟨[z09f], []⟩
theorem z0f2 : z0vo.Ok Tryz.prog := (fsK z0uz fs0)
def z0d9 : Tmpl := ⟨[(2, .c (.bx 2 0)), (3, .c (.bx 3 0)), (10, .c (.s (.s .task))), (11, .c .i), (12, .c .i)], [(2, .box [.i, .nl]), (3, .box [.i, .ref 510301]), (510301, .arr (.s .task) true)]⟩
def z0cp : Tmpl := ⟨[(2, .c (.bx 2 0)), (3, .c (.bx 3 0))], [(2, .box [.i, .nl]), (3, .box [.i, .ref 510301]), (510301, .arr (.s .task) true)]⟩
def z0q2 (av : AV) (x : HP z012.ps) (n : Nat) (v : z0d9.den) (K : Ks (CR z012)) : Option (CR z012) := z01v v.1.2.2.1 v.1.2.2.2.1 (fun l0_1 => z0cp.at none (((), (), ()), ((v.2.1.1, (), ()), (v.2.2.1.1, (), ()), l0_1, ())) (K (.exit 0))) n v.1.2.2.2.2.1 v.2.2.2.1
def z0d0 (av : AV) (x : HP z012.ps) : Hdl (CR z012) := hnd [.b 3 1 510301 (.s .task)] z0d9 (z0q2 av x)
theorem z0qg : LP z012 Tryz.f145 [0] z0d0 := lp_ok (W := []) (H := []) (xs := [z0cp]) z0f2 trivial rfl (fun av x v K => by kernel_rfl) (fun av x n v K => by kernel_rfl)
theorem z0xy : z012.Ok Tryz.prog := fn_ok (k := z012) (fn := Tryz.f145) (W := []) (H := [z0d0]) Tryz.func145 z0f2 ⟨z0qg, trivial⟩ rfl rfl (fun av x => by kernel_rfl)
def z0rv  : Option Bool := some true
def z07k (marks : List Int) (kx0_0 : Option Bool) : Nat → Int → Option Bool
  | 0, _ => none
  | n0 + 1, s0_0 => if decide (s0_0 < (marks.length : Int)) = true then ((getI marks s0_0).bind fun x5 => ((z002 x5 0 4).bind fun x6 => (if x6 = true then (gd (ok64 (s0_0 + 1)) ((z07k marks kx0_0 n0) (s0_0 + 1))) else (some false)))) else (kx0_0)
def z09k (n : GNet) (marks : List Int) : Option Bool := (z09l n).bind fun x1 => (if x1 = true then (if decide ((marks.length : Int) = n.places) = true then (z07k marks z0rv FUEL 0) else (some false)) else (some false))
def z02w : Con := ⟨157, [.v (.s .net) false, .v (.sl .I) false], [(.B, true)], [], fun x => z09k x.1 x.2.1⟩
def z1qy : Fs := ⟨[z02x, z00o], []⟩
theorem z158 : z1qy.Ok Tryz.prog := (fsK z0is (fsK z00t fs0))
def z0yn : Tmpl := ⟨[(1, .c (.s .I)), (5, .c .i)], []⟩
def z0tg : Tmpl := ⟨[], []⟩
def z1e0 (av : AV) (x : HP z02w.ps) (n : Nat) (v : z0yn.den) (K : Ks (CR z02w)) : Option (CR z02w) := z07k v.1.1 (z0tg.at none ((), ()) (K (.exit 0))) n v.1.2.1
def z0ws (av : AV) (x : HP z02w.ps) : Hdl (CR z02w) := hnd [] z0yn (z1e0 av x)
theorem z1gu : LP z02w Tryz.f157 [0] z0ws := lp_ok (W := []) (H := []) (xs := [z0tg]) z158 trivial rfl (fun av x v K => by kernel_rfl) (fun av x n v K => by kernel_rfl)
theorem z0ir : z02w.Ok Tryz.prog := fn_ok (k := z02w) (fn := Tryz.f157) (W := []) (H := [z0ws]) Tryz.func157 z158 ⟨z1gu, trivial⟩ rfl rfl (fun av x => by kernel_rfl)
def z0ai (s0_0 : Bool) (s0_1 : Bool) : Option (Bool × Bool) := some (s0_0, s0_1)
def z01q (marks : List Int) (list : List Int) (kx0_0 : Bool → Bool → Option (Bool × Bool)) : Nat → Bool → Bool → Int → Option (Bool × Bool)
  | 0, _, _, _ => none
  | n0 + 1, s0_0, s0_1, s0_2 => if decide (s0_2 < (list.length : Int)) = true then (if s0_0 = true then (if s0_1 = true then ((getI list s0_2).bind fun x4 => ((getI marks x4).bind fun x5 => (gd (ok64 (s0_2 + 1)) ((z01q marks list kx0_0 n0) true (decide (0 < x5)) (s0_2 + 1))))) else (gd (ok64 (s0_2 + 1)) ((z01q marks list kx0_0 n0) true false (s0_2 + 1)))) else ((getI list s0_2).bind fun x8 => ((getI marks x8).bind fun x9 => (if s0_1 = true then ((getI list s0_2).bind fun x11 => ((getI marks x11).bind fun x12 => (gd (ok64 (s0_2 + 1)) ((z01q marks list kx0_0 n0) (decide (0 < x9)) (decide (0 < x12)) (s0_2 + 1))))) else (gd (ok64 (s0_2 + 1)) ((z01q marks list kx0_0 n0) (decide (0 < x9)) false (s0_2 + 1))))))) else (kx0_0 s0_0 s0_1)
def z0g1 (marks : List Int) (list : List Int) : Option (Bool × Bool) := z01q marks list z0ai FUEL false true 0
def z056 : Con := ⟨214, [.v (.sl .I) false, .v (.sl .I) false], [(.B, true), (.B, true)], [], fun x => z0g1 x.1 x.2.1⟩
def z1kl : Fs := ⟨[], []⟩
theorem z111 : z1kl.Ok Tryz.prog := fs0
def z0sy : Tmpl := ⟨[(0, .c (.s .I)), (1, .c (.s .I)), (6, .c .b), (7, .c .b), (8, .c .i)], []⟩
def z0pr : Tmpl := ⟨[(6, .c .b), (7, .c .b)], []⟩
def z1a8 (av : AV) (x : HP z056.ps) (n : Nat) (v : z0sy.den) (K : Ks (CR z056)) : Option (CR z056) := z01q v.1.1 v.1.2.1 (fun s0_0 s0_1 => z0pr.at none ((s0_0, s0_1, ()), ()) (K (.exit 0))) n v.1.2.2.1 v.1.2.2.2.1 v.1.2.2.2.2.1
def z0rf (av : AV) (x : HP z056.ps) : Hdl (CR z056) := hnd [] z0sy (z1a8 av x)
theorem z1bt : LP z056 Tryz.f214 [0] z0rf := lp_ok (W := []) (H := []) (xs := [z0pr]) z111 trivial rfl (fun av x v K => by kernel_rfl) (fun av x n v K => by kernel_rfl)
theorem z1oj : z056.Ok Tryz.prog := fn_ok (k := z056) (fn := Tryz.f214) (W := []) (H := [z0rf]) Tryz.func214 z111 ⟨z1bt, trivial⟩ rfl rfl (fun av x => by kernel_rfl)
def z03s (s1_0 : Int) (bk1 : Int → List Bool → Option Bool) (l2_1 : List Bool) : Option Bool := gd (ok64 (s1_0 + 1)) (bk1 (s1_0 + 1) l2_1)
def z02h (p2_0 : List GFlow) (kx2_0 : List Bool → Option Bool) : Nat → Int → List Bool → Option Bool
  | 0, _, _ => none
  | n2 + 1, s2_0, l2_1 => if decide (s2_0 < (p2_0.length : Int)) = true then ((getI p2_0 s2_0).bind fun x15 => ((getI l2_1 x15.to).bind fun x16 => (gd (ok64 (s2_0 + 1)) ((z02h p2_0 kx2_0 n2) (s2_0 + 1) (l2_1.set x15.to.toNat true))))) else (kx2_0 l2_1)
def z0bt  : Option Bool := some false
def z01z (n : GNet) (marks : List Int) (t : Int) (x19 : (List Bool)) (kx3_0 : Option Bool) : Nat → Int → Option Bool
  | 0, _ => none
  | n3 + 1, s3_0 => (getI n.tasks t).bind fun x20 => (if decide (s3_0 < (x20.in_.length : Int)) = true then ((getI n.tasks t).bind fun x22 => ((getI x22.in_ s3_0).bind fun x23 => ((getI marks x23).bind fun x24 => (if decide (x24 = 0) = true then ((getI n.tasks t).bind fun x26 => ((getI x26.in_ s3_0).bind fun x27 => ((getI x19 x27).bind fun x28 => (if x28 = true then (some true) else (gd (ok64 (s3_0 + 1)) ((z01z n marks t x19 kx3_0 n3) (s3_0 + 1))))))) else (gd (ok64 (s3_0 + 1)) ((z01z n marks t x19 kx3_0 n3) (s3_0 + 1))))))) else (kx3_0))
def z01x (n : GNet) (marks : List Int) (t : Int) (l1_1 : List Bool) : Option Bool := (z0c9 n l1_1 t).bind fun x19 => (z01z n marks t x19 z0bt FUEL 0)
def z010 (n : GNet) (busy : List GItem) (kx1_0 : List Bool → Option Bool) : Nat → Int → List Bool → Option Bool
  | 0, _, _ => none
  | n1 + 1, s1_0, l1_1 => if decide (s1_0 < (busy.length : Int)) = true then ((getI busy s1_0).bind fun x12 => ((getI n.tasks x12.task).bind fun x13 => (z02h x13.out (z03s s1_0 (z010 n busy kx1_0 n1)) FUEL 0 l1_1))) else (kx1_0 l1_1)
def z03r (n : GNet) (marks : List Int) (busy : List GItem) (t : Int) (l0_1 : List Bool) : Option Bool := z010 n busy (z01x n marks t) FUEL 0 l0_1
def z01y (n : GNet) (marks : List Int) (t : Int) (kx0_0 : List Bool → Option Bool) : Nat → Int → List Bool → Option Bool
  | 0, _, _ => none
  | n0 + 1, s0_0, l0_1 => if decide (s0_0 < n.places) = true then ((getI marks s0_0).bind fun x3 => (if decide (0 < x3) = true then ((getI n.tasks t).bind fun x5 => ((z0bp x5.in_ s0_0).bind fun x6 => ((getI l0_1 s0_0).bind fun x7 => (gd (ok64 (s0_0 + 1)) ((z01y n marks t kx0_0 n0) (s0_0 + 1) (l0_1.set s0_0.toNat (!x6))))))) else ((getI l0_1 s0_0).bind fun x9 => (gd (ok64 (s0_0 + 1)) ((z01y n marks t kx0_0 n0) (s0_0 + 1) (l0_1.set s0_0.toNat false)))))) else (kx0_0 l0_1)
def z0ca (n : GNet) (marks : List Int) (busy : List GItem) (t : Int) : Option Bool := gd ((0 : Int) ≤ n.places ∧ n.places ≤ (1000000000 : Int)) (z01y n marks t (z03r n marks busy t) FUEL 0 (List.replicate n.places.toNat false))
def z006 : Con := ⟨215, [.v (.s .net) false, .v (.sl .I) false, .v (.sl (.s .item)) false, .v .I false], [(.B, true)], [], fun x => z0ca x.1 x.2.1 x.2.2.1 x.2.2.2.1⟩
def z1ar : Fs := ⟨[z03v, z005], []⟩
theorem z08r : z1ar.Ok Tryz.prog := (fsK z0v5 (fsK z1c8 fs0))
def z0gg : Tmpl := ⟨[(1, .c (.s .I)), (2, .c (.s (.s .item))), (3, .c .i), (4, .c (.bx 4 0)), (9, .c (.ref 18)), (11, .c .i), (12, .c (.s (.s .flow))), (13, .c .i)], [(4, .boxT (.s .net)), (18, .arr .B true)]⟩
def z0ez : Tmpl := ⟨[(1, .c (.s .I)), (2, .c (.s (.s .item))), (3, .c .i), (4, .c (.bx 4 0)), (9, .c (.ref 18)), (11, .c .i)], [(4, .boxT (.s .net)), (18, .arr .B true)]⟩
def z0ve (av : AV) (x : HP z006.ps) (n : Nat) (v : z0gg.den) (K : Ks (CR z006)) : Option (CR z006) := z02h v.1.2.2.2.2.2.2.1 (fun l2_1 => z0ez.at none ((v.1.1, v.1.2.1, v.1.2.2.1, (), (), v.1.2.2.2.2.2.1, ()), (v.2.1, l2_1, ())) (K (.exit 4))) n v.1.2.2.2.2.2.2.2.1 v.2.2.1
def z0f8 (av : AV) (x : HP z006.ps) : Hdl (CR z006) := hnd [] z0gg (z0ve av x)
theorem z0xf : LP z006 Tryz.f215 [1, 0] z0f8 := lp_ok (W := []) (H := []) (xs := [z0ez]) z08r trivial rfl (fun av x v K => by kernel_rfl) (fun av x n v K => by kernel_rfl)
def z0jw : Tmpl := ⟨[(1, .c (.s .I)), (2, .c (.s (.s .item))), (3, .c .i), (4, .c (.bx 4 0)), (9, .c (.ref 18)), (10, .c .i)], [(4, .boxT (.s .net)), (18, .arr .B true)]⟩
def z0hj : Tmpl := ⟨[(1, .c (.s .I)), (2, .c (.s (.s .item))), (3, .c .i), (4, .c (.bx 4 0)), (9, .c (.ref 18))], [(4, .boxT (.s .net)), (18, .arr .B true)]⟩
def z12l (av : AV) (x : HP z006.ps) (n : Nat) (v : z0jw.den) (K : Ks (CR z006)) : Option (CR z006) := z01y v.2.1 v.1.1 v.1.2.2.1 (fun l0_1 => z0hj.at none ((v.1.1, v.1.2.1, v.1.2.2.1, (), (), ()), (v.2.1, l0_1, ())) (K (.exit 0))) n v.1.2.2.2.2.2.1 v.2.2.1
def z0j8 (av : AV) (x : HP z006.ps) : Hdl (CR z006) := hnd [] z0jw (z12l av x)
theorem z12y : LP z006 Tryz.f215 [0] z0j8 := lp_ok (W := []) (H := []) (xs := [z0hj]) z08r trivial rfl (fun av x v K => by kernel_rfl) (fun av x n v K => by kernel_rfl)
def z0jx : Tmpl := ⟨[(1, .c (.s .I)), (2, .c (.s (.s .item))), (3, .c .i), (4, .c (.bx 4 0)), (9, .c (.ref 18)), (11, .c .i)], [(4, .boxT (.s .net)), (18, .arr .B true)]⟩
def z0hk : Tmpl := ⟨[(1, .c (.s .I)), (3, .c .i), (4, .c (.bx 4 0)), (9, .c (.ref 18))], [(4, .boxT (.s .net)), (18, .arr .B true)]⟩
def z12m (av : AV) (x : HP z006.ps) (n : Nat) (v : z0jx.den) (K : Ks (CR z006)) : Option (CR z006) := z010 v.2.1 v.1.2.1 (fun l1_1 => z0hk.at none ((v.1.1, v.1.2.2.1, (), (), ()), (v.2.1, l1_1, ())) (K (.exit 2))) n v.1.2.2.2.2.2.1 v.2.2.1
def z0j9 (av : AV) (x : HP z006.ps) : Hdl (CR z006) := hnd [] z0jx (z12m av x)
theorem z12z : LP z006 Tryz.f215 [1] z0j9 := lp_ok (W := []) (H := [z0f8]) (xs := [z0hk]) z08r ⟨z0xf, trivial⟩ rfl (fun av x v K => by kernel_rfl) (fun av x n v K => by kernel_rfl)
def z0jy : Tmpl := ⟨[(1, .c (.s .I)), (3, .c .i), (4, .c (.bx 4 0)), (14, .c (.ref 76)), (15, .c .i)], [(4, .boxT (.s .net)), (76, .arr .B true)]⟩
def z0hl : Tmpl := ⟨[], []⟩
def z12n (av : AV) (x : HP z006.ps) (n : Nat) (v : z0jy.den) (K : Ks (CR z006)) : Option (CR z006) := z01z v.2.1 v.1.1 v.1.2.1 v.2.2.1 (z0hl.at none ((), ()) (K (.exit 6))) n v.1.2.2.2.2.1
def z0ja (av : AV) (x : HP z006.ps) : Hdl (CR z006) := hnd [] z0jy (z12n av x)
theorem z130 : LP z006 Tryz.f215 [2] z0ja := lp_ok (W := []) (H := []) (xs := [z0hl]) z08r trivial rfl (fun av x v K => by kernel_rfl) (fun av x n v K => by kernel_rfl)
theorem z1c9 : z006.Ok Tryz.prog := fn_ok (k := z006) (fn := Tryz.f215) (W := []) (H := [z0j8, z0j9, z0ja]) Tryz.func215 z08r ⟨z12y, z12z, z130, trivial⟩ rfl rfl (fun av x => by kernel_rfl)
def z0ik (n : GNet) (marks : List Int) (busy : List GItem) (t : Int) : Option Bool := (getI n.tasks t).bind fun x1 => ((z0g1 marks x1.in_).bind fun x2 => ((getI n.tasks t).bind fun x3 => (if decide (x3.join = 1) = true then (some x2.2) else (if decide (x3.join = 2) = true then (some x2.1) else (if x2.1 = true then (if x2.2 = true then (some true) else ((z0ca n marks busy t).bind fun x8 => (some (!x8)))) else (some false))))))
def z0u4 : Con := ⟨172, [.v (.s .net) false, .v (.sl .I) false, .v (.sl (.s .item)) false, .v .I false], [(.B, true)], [], fun x => z0ik x.1 x.2.1 x.2.2.1 x.2.2.2.1⟩
def z1r4 : Fs := ⟨[z056, z006], []⟩
theorem z1rq : z1r4.Ok Tryz.prog := (fsK z1oj (fsK z1c9 fs0))
theorem z1t4 : z0u4.Ok Tryz.prog := fn_ok (k := z0u4) (fn := Tryz.f172) (W := []) (H := []) Tryz.func172 z1rq trivial rfl rfl (fun av x => by kernel_rfl)
def z0nv  : Option Bool := some true
def z063 (n : GNet) (busy : List GItem) (kx0_0 : Option Bool) : Nat → Int → Option Bool
  | 0, _ => none
  | n0 + 1, s0_0 => if decide (s0_0 < (busy.length : Int)) = true then ((getI busy s0_0).bind fun x3 => (gd (ok64 ((n.tasks.length : Int) - 1)) ((z002 x3.task 0 ((n.tasks.length : Int) - 1)).bind fun x5 => (if x5 = true then ((getI busy s0_0).bind fun x7 => ((z002 x7.who 1 4).bind fun x8 => (if x8 = true then ((getI busy s0_0).bind fun x10 => ((getI busy s0_0).bind fun x11 => ((getI n.tasks x11.task).bind fun x12 => (gd (ok64 (x12.need - 1)) ((z002 x10.did 0 (x12.need - 1)).bind fun x14 => (if x14 = true then (gd (ok64 (s0_0 + 1)) ((z063 n busy kx0_0 n0) (s0_0 + 1))) else (some false))))))) else (some false)))) else (some false))))) else (kx0_0)
def z0cl (n : GNet) (busy : List GItem) : Option Bool := if decide (6 < (busy.length : Int)) = true then (some false) else (z063 n busy z0nv FUEL 0)
def z03n : Con := ⟨158, [.v (.s .net) false, .v (.sl (.s .item)) false], [(.B, true)], [], fun x => z0cl x.1 x.2.1⟩
def z1kk : Fs := ⟨[z00o], []⟩
theorem z110 : z1kk.Ok Tryz.prog := (fsK z00t fs0)
def z0sx : Tmpl := ⟨[(1, .c (.s (.s .item))), (2, .c (.bx 2 0)), (5, .c .i)], [(2, .boxT (.s .net))]⟩
def z0pq : Tmpl := ⟨[], []⟩
def z1a7 (av : AV) (x : HP z03n.ps) (n : Nat) (v : z0sx.den) (K : Ks (CR z03n)) : Option (CR z03n) := z063 v.2.1 v.1.1 (z0pq.at none ((), ()) (K (.exit 0))) n v.1.2.2.1
def z0re (av : AV) (x : HP z03n.ps) : Hdl (CR z03n) := hnd [] z0sx (z1a7 av x)
theorem z1bs : LP z03n Tryz.f158 [0] z0re := lp_ok (W := []) (H := []) (xs := [z0pq]) z110 trivial rfl (fun av x v K => by kernel_rfl) (fun av x n v K => by kernel_rfl)
theorem z126 : z03n.Ok Tryz.prog := fn_ok (k := z03n) (fn := Tryz.f158) (W := []) (H := [z0re]) Tryz.func158 z110 ⟨z1bs, trivial⟩ rfl rfl (fun av x => by kernel_rfl)
def z0fu (n : GNet) (marks : List Int) (busy : List GItem) (t : Int) : Option Bool := (z09k n marks).bind fun x1 => (if x1 = true then ((z0cl n busy).bind fun x3 => (if x3 = true then (gd (ok64 ((n.tasks.length : Int) - 1)) ((z002 t 0 ((n.tasks.length : Int) - 1)).bind fun x6 => (if x6 = true then ((z0ik n marks busy t).bind fun x8 => (some x8)) else (some false)))) else (some false))) else (some false))
def z0ms : Con := ⟨98, [.v (.s .net) false, .v (.sl .I) false, .v (.sl (.s .item)) false, .v .I false], [(.B, true)], [], fun x => z0fu x.1 x.2.1 x.2.2.1 x.2.2.2.1⟩
def z1kd : Fs := ⟨[z02w, z03n, z00o, z0u4], []⟩
theorem z1lp : z1kd.Ok Tryz.prog := (fsK z0ir (fsK z126 (fsK z00t (fsK z1t4 fs0))))
theorem z1oc : z0ms.Ok Tryz.prog := fn_ok (k := z0ms) (fn := Tryz.f98) (W := []) (H := []) Tryz.func98 z1lp trivial rfl rfl (fun av x => by kernel_rfl)
def z0jm (l0_1 : List Int) (x10 : Int) (x13 : Int) : Option (List Int) := some (l0_1.set x10.toNat (x13 - 1))
def z0jn (l0_1 : List Int) : Option (List Int) := some l0_1
def z02z (n : GNet) (t : Int) (kx0_0 : List Int → Int → Int → Option (List Int)) (kx0_1 : List Int → Option (List Int)) : Nat → Int → List Int → Option (List Int)
  | 0, _, _ => none
  | n0 + 1, s0_0, l0_1 => (getI n.tasks t).bind fun x7 => (if decide (s0_0 < (x7.in_.length : Int)) = true then ((getI n.tasks t).bind fun x9 => ((getI x9.in_ s0_0).bind fun x10 => ((getI l0_1 x10).bind fun x11 => (if decide (0 < x11) = true then ((getI l0_1 x10).bind fun x13 => (gd (ok64 (x13 - 1)) ((getI l0_1 x10).bind fun x15 => ((getI n.tasks t).bind fun x16 => (if decide (x16.join = 2) = true then (kx0_0 l0_1 x10 x13) else (gd (ok64 (s0_0 + 1)) ((z02z n t kx0_0 kx0_1 n0) (s0_0 + 1) (l0_1.set x10.toNat (x13 - 1))))))))) else (gd (ok64 (s0_0 + 1)) ((z02z n t kx0_0 kx0_1 n0) (s0_0 + 1) l0_1)))))) else (kx0_1 l0_1))
def z0ds (n : GNet) (marks : List Int) (t : Int) : Option (List Int) := (z09k n marks).bind fun x1 => (if x1 = true then (gd (ok64 ((n.tasks.length : Int) - 1)) ((z002 t 0 ((n.tasks.length : Int) - 1)).bind fun x4 => (if x4 = true then (gd (([] : List Int).length + marks.length ≤ SMALL) (z02z n t z0jm z0jn FUEL 0 (([] : List Int) ++ marks))) else (some ([] : List Int))))) else (some ([] : List Int)))
def z03f : Con := ⟨101, [.v (.s .net) false, .v (.sl .I) false, .v .I false], [((.sl .I), true)], [], fun x => z0ds x.1 x.2.1 x.2.2.1⟩
def z1fl : Fs := ⟨[z02w, z00o], []⟩
theorem z0wf : z1fl.Ok Tryz.prog := (fsK z0ir (fsK z00t fs0))
def z0ot : Tmpl := ⟨[(2, .c .i), (3, .c (.bx 3 0)), (7, .c (.ref 26)), (8, .c .i)], [(3, .boxT (.s .net)), (26, .arr .I true)]⟩
def z0cz : Tmpl := ⟨[(7, .c (.ref 26))], [(26, .arr .I true)]⟩
def z14d (av : AV) (x : HP z03f.ps) (n : Nat) (v : z0ot.den) (K : Ks (CR z03f)) : Option (CR z03f) := z02z v.2.1 v.1.1 (fun l0_1 x10 x13 => z0cz.at none (((), ()), ((l0_1.set x10.toNat (x13 - 1)), ())) (K (.exit 0))) (fun l0_1 => z0cz.at none (((), ()), (l0_1, ())) (K (.exit 0))) n v.1.2.2.2.1 v.2.2.1
def z0mb (av : AV) (x : HP z03f.ps) : Hdl (CR z03f) := hnd [] z0ot (z14d av x)
theorem z17c : LP z03f Tryz.f101 [0] z0mb := lp_ok (W := []) (H := []) (xs := [z0cz]) z0wf trivial rfl (fun av x v K => by kernel_rfl) (fun av x n v K => by kernel_rfl)
theorem z1i8 : z03f.Ok Tryz.prog := fn_ok (k := z03f) (fn := Tryz.f101) (W := []) (H := [z0mb]) Tryz.func101 z0wf ⟨z17c, trivial⟩ rfl rfl (fun av x => by kernel_rfl)
def z08v (who : Int) : Option Bool := (z00b who 1 4).bind fun x1 => (some x1)
def z0bx : Con := ⟨170, [.v .I false], [(.B, true)], [], fun x => z08v x.1⟩
def z1am : Fs := ⟨[z029], []⟩
theorem z1ay : z1am.Ok Tryz.prog := (fsK z02u fs0)
theorem z0s4 : z0bx.Ok Tryz.prog := fn_ok (k := z0bx) (fn := Tryz.f170) (W := []) (H := []) Tryz.func170 z1ay trivial rfl rfl (fun av x => by kernel_rfl)
def z0c6 (l0_1 : List Int) (x8 : GFlow) : Option (List Int) := some (l0_1 ++ [x8.to])
def z0c7 (l0_1 : List Int) (x13 : GFlow) : Option (List Int) := some (l0_1 ++ [x13.to])
def z0c8 (l0_1 : List Int) (x18 : GFlow) : Option (List Int) := some (l0_1 ++ [x18.to])
def z0gs (l0_1 : List Int) : Option (List Int) := some l0_1
def z01p (t : GTask) (data : List Int) (kx0_0 : List Int → GFlow → Option (List Int)) (kx0_1 : List Int → GFlow → Option (List Int)) (kx0_2 : List Int → GFlow → Option (List Int)) (kx0_3 : List Int → Option (List Int)) : Nat → Int → List Int → Option (List Int)
  | 0, _, _ => none
  | n0 + 1, s0_0, l0_1 => if decide (s0_0 < (t.out.length : Int)) = true then ((getI t.out s0_0).bind fun x2 => ((z01o x2.if_ data).bind fun x3 => (if x3 = true then (if decide (t.split = 3) = true then (gd (ok64 ((t.out.length : Int) - 1)) (if decide (s0_0 < ((t.out.length : Int) - 1)) = true then ((getI t.out s0_0).bind fun x8 => (gd (l0_1.length + [x8.to].length ≤ SMALL) (if decide (t.split = 2) = true then (kx0_0 l0_1 x8) else (gd (ok64 (s0_0 + 1)) ((z01p t data kx0_0 kx0_1 kx0_2 kx0_3 n0) (s0_0 + 1) (l0_1 ++ [x8.to])))))) else (if decide ((l0_1.length : Int) = 0) = true then ((getI t.out s0_0).bind fun x13 => (gd (l0_1.length + [x13.to].length ≤ SMALL) (if decide (t.split = 2) = true then (kx0_1 l0_1 x13) else (gd (ok64 (s0_0 + 1)) ((z01p t data kx0_0 kx0_1 kx0_2 kx0_3 n0) (s0_0 + 1) (l0_1 ++ [x13.to])))))) else (gd (ok64 (s0_0 + 1)) ((z01p t data kx0_0 kx0_1 kx0_2 kx0_3 n0) (s0_0 + 1) l0_1))))) else ((getI t.out s0_0).bind fun x18 => (gd (l0_1.length + [x18.to].length ≤ SMALL) (if decide (t.split = 2) = true then (kx0_2 l0_1 x18) else (gd (ok64 (s0_0 + 1)) ((z01p t data kx0_0 kx0_1 kx0_2 kx0_3 n0) (s0_0 + 1) (l0_1 ++ [x18.to]))))))) else (gd (ok64 (s0_0 + 1)) ((z01p t data kx0_0 kx0_1 kx0_2 kx0_3 n0) (s0_0 + 1) l0_1))))) else (kx0_3 l0_1)
def z0ij (t : GTask) (data : List Int) : Option (List Int) := z01p t data z0c6 z0c7 z0c8 z0gs FUEL 0 ([] : List Int)
def z06s : Con := ⟨221, [.v (.s .task) false, .v (.sl .I) false], [((.sl .I), true)], [], fun x => z0ij x.1 x.2.1⟩
def z1r2 : Fs := ⟨[z05f], []⟩
theorem z15b : z1r2.Ok Tryz.prog := (fsK z08x fs0)
def z0yr : Tmpl := ⟨[(1, .c (.s .I)), (2, .c (.bx 2 0)), (5, .c (.ref 7)), (6, .c .i)], [(2, .boxT (.s .task)), (7, .arr .I true)]⟩
def z090 : Tmpl := ⟨[(5, .c (.ref 49))], [(49, .arr .I true)]⟩
def z1e4 (av : AV) (x : HP z06s.ps) (n : Nat) (v : z0yr.den) (K : Ks (CR z06s)) : Option (CR z06s) := z01p v.2.1 v.1.1 (fun l0_1 x8 => z090.at none (((), ()), ((l0_1 ++ [x8.to]), ())) (K (.exit 0))) (fun l0_1 x13 => z090.at none (((), ()), ((l0_1 ++ [x13.to]), ())) (K (.exit 0))) (fun l0_1 x18 => z090.at none (((), ()), ((l0_1 ++ [x18.to]), ())) (K (.exit 0))) (fun l0_1 => z090.at none (((), ()), (l0_1, ())) (K (.exit 0))) n v.1.2.2.2.1 v.2.2.1
def z0ww (av : AV) (x : HP z06s.ps) : Hdl (CR z06s) := hnd [] z0yr (z1e4 av x)
theorem z1gy : LP z06s Tryz.f221 [0] z0ww := lp_ok (W := []) (H := []) (xs := [z090]) z15b trivial rfl (fun av x v K => by kernel_rfl) (fun av x n v K => by kernel_rfl)
theorem z1t3 : z06s.Ok Tryz.prog := fn_ok (k := z06s) (fn := Tryz.f221) (W := []) (H := [z0ww]) Tryz.func221 z15b ⟨z1gy, trivial⟩ rfl rfl (fun av x => by kernel_rfl)
def z09a (l1_1 : List Int) : Option ((List Int) × Bool) := some (l1_1, true)
def z04h (x16 : (List Int)) (kx1_0 : List Int → Option ((List Int) × Bool)) : Nat → Int → List Int → Option ((List Int) × Bool)
  | 0, _, _ => none
  | n1 + 1, s1_0, l1_1 => if decide (s1_0 < (x16.length : Int)) = true then ((getI x16 s1_0).bind fun x18 => ((getI l1_1 x18).bind fun x19 => (if decide (x19 = 4) = true then (some (([] : List Int), false)) else ((getI x16 s1_0).bind fun x21 => ((getI x16 s1_0).bind fun x22 => ((getI l1_1 x22).bind fun x23 => (gd (ok64 (x23 + 1)) ((getI l1_1 x21).bind fun x25 => (gd (ok64 (s1_0 + 1)) ((z04h x16 kx1_0 n1) (s1_0 + 1) (l1_1.set x21.toNat (x23 + 1)))))))))))) else (kx1_0 l1_1)
def z099 (n : GNet) (t : Int) (data : List Int) (l0_1 : List Int) : Option ((List Int) × Bool) := (getI n.tasks t).bind fun x15 => ((z0ij x15 data).bind fun x16 => (z04h x16 z09a FUEL 0 l0_1))
def z04g (n : GNet) (t : Int) (kx0_0 : List Int → Option ((List Int) × Bool)) : Nat → Int → List Int → Option ((List Int) × Bool)
  | 0, _, _ => none
  | n0 + 1, s0_0, l0_1 => (getI n.tasks t).bind fun x9 => (if decide (s0_0 < (x9.clear.length : Int)) = true then ((getI n.tasks t).bind fun x11 => ((getI x11.clear s0_0).bind fun x12 => ((getI l0_1 x12).bind fun x13 => (gd (ok64 (s0_0 + 1)) ((z04g n t kx0_0 n0) (s0_0 + 1) (l0_1.set x12.toNat 0)))))) else (kx0_0 l0_1))
def z0dt (n : GNet) (marks : List Int) (t : Int) (data : List Int) : Option ((List Int) × Bool) := (z09k n marks).bind fun x1 => (if x1 = true then (gd (ok64 ((n.tasks.length : Int) - 1)) ((z002 t 0 ((n.tasks.length : Int) - 1)).bind fun x4 => (if x4 = true then ((z02g data).bind fun x6 => (if x6 = true then (gd (([] : List Int).length + marks.length ≤ SMALL) (z04g n t (z099 n t data) FUEL 0 (([] : List Int) ++ marks))) else (some (([] : List Int), false)))) else (some (([] : List Int), false))))) else (some (([] : List Int), false)))
def z00w : Con := ⟨191, [.v (.s .net) false, .v (.sl .I) false, .v .I false, .v (.sl .I) false], [((.sl .I), true), (.B, true)], [], fun x => z0dt x.1 x.2.1 x.2.2.1 x.2.2.2.1⟩
def z1fm : Fs := ⟨[z02w, z00o, z014, z06s], []⟩
theorem z0hp : z1fm.Ok Tryz.prog := (fsK z0ir (fsK z00t (fsK z071 (fsK z1t3 fs0))))
def z0ou : Tmpl := ⟨[(2, .c .i), (3, .c (.s .I)), (4, .c (.bx 4 0)), (10, .c (.ref 35)), (11, .c .i)], [(4, .boxT (.s .net)), (35, .arr .I true)]⟩
def z0kn : Tmpl := ⟨[(2, .c .i), (3, .c (.s .I)), (4, .c (.bx 4 0)), (10, .c (.ref 35))], [(4, .boxT (.s .net)), (35, .arr .I true)]⟩
def z14e (av : AV) (x : HP z00w.ps) (n : Nat) (v : z0ou.den) (K : Ks (CR z00w)) : Option (CR z00w) := z04g v.2.1 v.1.1 (fun l0_1 => z0kn.at none ((v.1.1, v.1.2.1, (), (), ()), (v.2.1, l0_1, ())) (K (.exit 0))) n v.1.2.2.2.2.1 v.2.2.1
def z0mc (av : AV) (x : HP z00w.ps) : Hdl (CR z00w) := hnd [] z0ou (z14e av x)
theorem z17d : LP z00w Tryz.f191 [0] z0mc := lp_ok (W := []) (H := []) (xs := [z0kn]) z0hp trivial rfl (fun av x v K => by kernel_rfl) (fun av x n v K => by kernel_rfl)
def z0ov : Tmpl := ⟨[(10, .c (.ref 35)), (12, .c (.ref 64)), (13, .c .i)], [(35, .arr .I true), (64, .arr .I true)]⟩
def z0ko : Tmpl := ⟨[(10, .c (.ref 35))], [(35, .arr .I true)]⟩
def z14f (av : AV) (x : HP z00w.ps) (n : Nat) (v : z0ov.den) (K : Ks (CR z00w)) : Option (CR z00w) := z04h v.2.2.1 (fun l1_1 => z0ko.at none (((), ()), (l1_1, ())) (K (.exit 2))) n v.1.2.2.1 v.2.1
def z0md (av : AV) (x : HP z00w.ps) : Hdl (CR z00w) := hnd [] z0ov (z14f av x)
theorem z17e : LP z00w Tryz.f191 [1] z0md := lp_ok (W := []) (H := []) (xs := [z0ko]) z0hp trivial rfl (fun av x v K => by kernel_rfl) (fun av x n v K => by kernel_rfl)
theorem z1i9 : z00w.Ok Tryz.prog := fn_ok (k := z00w) (fn := Tryz.f191) (W := []) (H := [z0mc, z0md]) Tryz.func191 z0hp ⟨z17d, z17e, trivial⟩ rfl rfl (fun av x => by kernel_rfl)
def z0rx  : Option Bool := some true
def z07m (people : List Int) (kx0_0 : Option Bool) : Nat → Int → Option Bool
  | 0, _ => none
  | n0 + 1, s0_0 => if decide (s0_0 < (people.length : Int)) = true then ((getI people s0_0).bind fun x4 => ((z002 x4 0 7).bind fun x5 => (if x5 = true then (gd (ok64 (s0_0 + 1)) ((z07m people kx0_0 n0) (s0_0 + 1))) else (some false)))) else (kx0_0)
def z0bo (people : List Int) : Option Bool := (z002 (people.length : Int) 1 4).bind fun x1 => (if x1 = true then (z07m people z0rx FUEL 0) else (some false))
def z03u : Con := ⟨83, [.v (.sl .I) false], [(.B, true)], [], fun x => z0bo x.1⟩
def z1r0 : Fs := ⟨[z00o], []⟩
theorem z15a : z1r0.Ok Tryz.prog := (fsK z00t fs0)
def z0yp : Tmpl := ⟨[(0, .c (.s .I)), (3, .c .i)], []⟩
def z0ti : Tmpl := ⟨[], []⟩
def z1e2 (av : AV) (x : HP z03u.ps) (n : Nat) (v : z0yp.den) (K : Ks (CR z03u)) : Option (CR z03u) := z07m v.1.1 (z0ti.at none ((), ()) (K (.exit 0))) n v.1.2.1
def z0wu (av : AV) (x : HP z03u.ps) : Hdl (CR z03u) := hnd [] z0yp (z1e2 av x)
theorem z1gw : LP z03u Tryz.f83 [0] z0wu := lp_ok (W := []) (H := []) (xs := [z0ti]) z15a trivial rfl (fun av x v K => by kernel_rfl) (fun av x n v K => by kernel_rfl)
theorem z0v3 : z03u.Ok Tryz.prog := fn_ok (k := z03u) (fn := Tryz.f83) (W := []) (H := [z0wu]) Tryz.func83 z15a ⟨z1gw, trivial⟩ rfl rfl (fun av x => by kernel_rfl)
def z0nt (s0_0 : Int) : Option Bool := gd ((2 : Int) ≠ 0) (some (decide ((Int.tmod s0_0 2) = 1)))
def z0af (role : Int) (kx0_0 : Int → Option Bool) : Nat → Int → Int → Option Bool
  | 0, _, _ => none
  | n0 + 1, s0_0, s0_1 => if decide (s0_1 < role) = true then (gd ((2 : Int) ≠ 0 ∧ ok64 (Int.tdiv s0_0 2)) (gd (ok64 (s0_1 + 1)) ((z0af role kx0_0 n0) (Int.tdiv s0_0 2) (s0_1 + 1)))) else (kx0_0 s0_0)
def z0fw (people : List Int) (who : Int) (role : Int) : Option Bool := (z0bo people).bind fun x1 => (if x1 = true then ((z002 who 1 (people.length : Int)).bind fun x3 => (if x3 = true then ((z002 role 1 3).bind fun x5 => (if x5 = true then (gd (ok64 (who - 1)) ((getI people (who - 1)).bind fun x8 => (z0af role z0nt FUEL x8 1))) else (some false))) else (some false))) else (some false))
def z054 : Con := ⟨173, [.v (.sl .I) false, .v .I false, .v .I false], [(.B, true)], [], fun x => z0fw x.1 x.2.1 x.2.2.1⟩
def z1kf : Fs := ⟨[z03u, z00o], []⟩
theorem z10y : z1kf.Ok Tryz.prog := (fsK z0v3 (fsK z00t fs0))
def z0su : Tmpl := ⟨[(2, .c .i), (7, .c .i), (8, .c .i)], []⟩
def z0pn : Tmpl := ⟨[(7, .c .i)], []⟩
def z1a4 (av : AV) (x : HP z054.ps) (n : Nat) (v : z0su.den) (K : Ks (CR z054)) : Option (CR z054) := z0af v.1.1 (fun s0_0 => z0pn.at none ((s0_0, ()), ()) (K (.exit 0))) n v.1.2.1 v.1.2.2.1
def z0rb (av : AV) (x : HP z054.ps) : Hdl (CR z054) := hnd [] z0su (z1a4 av x)
theorem z1bp : LP z054 Tryz.f173 [0] z0rb := lp_ok (W := []) (H := []) (xs := [z0pn]) z10y trivial rfl (fun av x v K => by kernel_rfl) (fun av x n v K => by kernel_rfl)
theorem z1oe : z054.Ok Tryz.prog := fn_ok (k := z054) (fn := Tryz.f173) (W := []) (H := [z0rb]) Tryz.func173 z10y ⟨z1bp, trivial⟩ rfl rfl (fun av x => by kernel_rfl)
def z0ns  : Option Bool := some false
def z03z (did : List GDid) (who : Int) (task : Int) (kx0_0 : Option Bool) : Nat → Int → Option Bool
  | 0, _ => none
  | n0 + 1, s0_0 => if decide (s0_0 < (did.length : Int)) = true then ((getI did s0_0).bind fun x2 => (if decide (x2.who = who) = true then ((getI did s0_0).bind fun x4 => (if decide (x4.task = task) = true then (some true) else (gd (ok64 (s0_0 + 1)) ((z03z did who task kx0_0 n0) (s0_0 + 1))))) else (gd (ok64 (s0_0 + 1)) ((z03z did who task kx0_0 n0) (s0_0 + 1))))) else (kx0_0)
def z0fv (did : List GDid) (who : Int) (task : Int) : Option Bool := z03z did who task z0ns FUEL 0
def z053 : Con := ⟨174, [.v (.sl (.s .did)) false, .v .I false, .v .I false], [(.B, true)], [], fun x => z0fv x.1 x.2.1 x.2.2.1⟩
def z1ke : Fs := ⟨[], []⟩
theorem z10x : z1ke.Ok Tryz.prog := fs0
def z0st : Tmpl := ⟨[(0, .c (.s (.s .did))), (1, .c .i), (2, .c .i), (7, .c .i)], []⟩
def z0pm : Tmpl := ⟨[], []⟩
def z1a3 (av : AV) (x : HP z053.ps) (n : Nat) (v : z0st.den) (K : Ks (CR z053)) : Option (CR z053) := z03z v.1.1 v.1.2.1 v.1.2.2.1 (z0pm.at none ((), ()) (K (.exit 0))) n v.1.2.2.2.1
def z0ra (av : AV) (x : HP z053.ps) : Hdl (CR z053) := hnd [] z0st (z1a3 av x)
theorem z1bo : LP z053 Tryz.f174 [0] z0ra := lp_ok (W := []) (H := []) (xs := [z0pm]) z10x trivial rfl (fun av x v K => by kernel_rfl) (fun av x n v K => by kernel_rfl)
theorem z1od : z053.Ok Tryz.prog := fn_ok (k := z053) (fn := Tryz.f174) (W := []) (H := [z0ra]) Tryz.func174 z10x ⟨z1bo, trivial⟩ rfl rfl (fun av x => by kernel_rfl)
def z0nu (n : GNet) (people : List Int) (did : List GDid) (t : Int) (s0_0 : Int) (l0_1 : List Int) (bk0 : Int → List Int → Option (List Int)) (s1_0 : Bool) : Option (List Int) := (getI n.tasks t).bind fun x18 => ((z0fw people s0_0 x18.role).bind fun x19 => (if x19 = true then (if s1_0 = true then (gd (ok64 (s0_0 + 1)) (bk0 (s0_0 + 1) l0_1)) else ((getI n.tasks t).bind fun x23 => ((z0fv did s0_0 x23.apart).bind fun x24 => (if x24 = true then (gd (ok64 (s0_0 + 1)) (bk0 (s0_0 + 1) l0_1)) else (gd (l0_1.length + [s0_0].length ≤ SMALL) (gd (ok64 (s0_0 + 1)) (bk0 (s0_0 + 1) (l0_1 ++ [s0_0])))))))) else (gd (ok64 (s0_0 + 1)) (bk0 (s0_0 + 1) l0_1))))
def z024 (n : GNet) (busy : List GItem) (t : Int) (s0_0 : Int) (kx1_0 : Bool → Option (List Int)) : Nat → Bool → Int → Option (List Int)
  | 0, _, _ => none
  | n1 + 1, s1_0, s1_1 => if decide (s1_1 < (busy.length : Int)) = true then (if s1_0 = true then (gd (ok64 (s1_1 + 1)) ((z024 n busy t s0_0 kx1_0 n1) true (s1_1 + 1))) else ((getI busy s1_1).bind fun x12 => (if decide (x12.who = s0_0) = true then ((getI busy s1_1).bind fun x14 => ((getI n.tasks t).bind fun x15 => (gd (ok64 (s1_1 + 1)) ((z024 n busy t s0_0 kx1_0 n1) (decide (x14.task = x15.apart)) (s1_1 + 1))))) else (gd (ok64 (s1_1 + 1)) ((z024 n busy t s0_0 kx1_0 n1) false (s1_1 + 1)))))) else (kx1_0 s1_0)
def z0ej (l0_1 : List Int) : Option (List Int) := some l0_1
def z062 (n : GNet) (people : List Int) (did : List GDid) (busy : List GItem) (t : Int) (kx0_0 : List Int → Option (List Int)) : Nat → Int → List Int → Option (List Int)
  | 0, _, _ => none
  | n0 + 1, s0_0, l0_1 => if decide (s0_0 ≤ (people.length : Int)) = true then (z024 n busy t s0_0 (z0nu n people did t s0_0 l0_1 (z062 n people did busy t kx0_0 n0)) FUEL false 0) else (kx0_0 l0_1)
def z0fx (n : GNet) (people : List Int) (did : List GDid) (busy : List GItem) (t : Int) : Option (List Int) := (z09l n).bind fun x1 => (if x1 = true then ((z0bo people).bind fun x3 => (if x3 = true then (gd (ok64 ((n.tasks.length : Int) - 1)) ((z002 t 0 ((n.tasks.length : Int) - 1)).bind fun x6 => (if x6 = true then (z062 n people did busy t z0ej FUEL 1 ([] : List Int)) else (some ([] : List Int))))) else (some ([] : List Int)))) else (some ([] : List Int)))
def z015 : Con := ⟨100, [.v (.s .net) false, .v (.sl .I) false, .v (.sl (.s .did)) false, .v (.sl (.s .item)) false, .v .I false], [((.sl .I), true)], [], fun x => z0fx x.1 x.2.1 x.2.2.1 x.2.2.2.1 x.2.2.2.2.1⟩
def z1kg : Fs := ⟨[z02x, z03u, z00o, z054, z053], []⟩
theorem z0lk : z1kg.Ok Tryz.prog := (fsK z0is (fsK z0v3 (fsK z00t (fsK z1oe (fsK z1od fs0)))))
def z0ju : Tmpl := ⟨[(1, .c (.s .I)), (2, .c (.s (.s .did))), (3, .c (.s (.s .item))), (4, .c .i), (5, .c (.bx 5 0)), (11, .c (.ref 15)), (12, .c .i), (13, .c .b), (14, .c .i)], [(5, .boxT (.s .net)), (15, .arr .I true)]⟩
def z0hh : Tmpl := ⟨[(1, .c (.s .I)), (2, .c (.s (.s .did))), (3, .c (.s (.s .item))), (4, .c .i), (5, .c (.bx 5 0)), (11, .c (.ref 15)), (12, .c .i), (13, .c .b)], [(5, .boxT (.s .net)), (15, .arr .I true)]⟩
def z12j (av : AV) (x : HP z015.ps) (n : Nat) (v : z0ju.den) (K : Ks (CR z015)) : Option (CR z015) := z024 v.2.1 v.1.2.2.1 v.1.2.2.2.1 v.1.2.2.2.2.2.2.1 (fun s1_0 => z0hh.at none ((v.1.1, v.1.2.1, v.1.2.2.1, v.1.2.2.2.1, (), (), v.1.2.2.2.2.2.2.1, s1_0, ()), (v.2.1, v.2.2.1, ())) (K (.exit 2))) n v.1.2.2.2.2.2.2.2.1 v.1.2.2.2.2.2.2.2.2.1
def z0j6 (av : AV) (x : HP z015.ps) : Hdl (CR z015) := hnd [] z0ju (z12j av x)
theorem z12w : LP z015 Tryz.f100 [0, 0] z0j6 := lp_ok (W := []) (H := []) (xs := [z0hh]) z0lk trivial rfl (fun av x v K => by kernel_rfl) (fun av x n v K => by kernel_rfl)
def z0sv : Tmpl := ⟨[(1, .c (.s .I)), (2, .c (.s (.s .did))), (3, .c (.s (.s .item))), (4, .c .i), (5, .c (.bx 5 0)), (11, .c (.ref 15)), (12, .c .i)], [(5, .boxT (.s .net)), (15, .arr .I true)]⟩
def z0po : Tmpl := ⟨[(11, .c (.ref 15))], [(15, .arr .I true)]⟩
def z1a5 (av : AV) (x : HP z015.ps) (n : Nat) (v : z0sv.den) (K : Ks (CR z015)) : Option (CR z015) := z062 v.2.1 v.1.1 v.1.2.1 v.1.2.2.1 v.1.2.2.2.1 (fun l0_1 => z0po.at none (((), ()), (l0_1, ())) (K (.exit 0))) n v.1.2.2.2.2.2.2.1 v.2.2.1
def z0rc (av : AV) (x : HP z015.ps) : Hdl (CR z015) := hnd [] z0sv (z1a5 av x)
theorem z1bq : LP z015 Tryz.f100 [0] z0rc := lp_ok (W := []) (H := [z0j6]) (xs := [z0po]) z0lk ⟨z12w, trivial⟩ rfl (fun av x v K => by kernel_rfl) (fun av x n v K => by kernel_rfl)
theorem z1of : z015.Ok Tryz.prog := fn_ok (k := z015) (fn := Tryz.f100) (W := []) (H := [z0rc]) Tryz.func100 z0lk ⟨z1bq, trivial⟩ rfl rfl (fun av x => by kernel_rfl)
def z0ck (n : GNet) (data : List Int) : Option GCase := (z09l n).bind fun x1 => (if x1 = true then ((z02g data).bind fun x3 => (if x3 = true then (gd ((0 : Int) ≤ n.places ∧ n.places ≤ (1000000000 : Int)) (gd (([] : List Int).length + data.length ≤ SMALL) ((getI (List.replicate n.places.toNat (0 : Int)) 0).bind fun x7 => (some (GCase.mk 1 ((List.replicate n.places.toNat (0 : Int)).set (0 : Int).toNat 1) [] (([] : List Int) ++ data) []))))) else (some (GCase.mk 0 [] [] [] [])))) else (some (GCase.mk 0 [] [] [] [])))
def z0mq : Con := ⟨131, [.v (.s .net) false, .v (.sl .I) false], [((.s .kase), true)], [], fun x => z0ck x.1 x.2.1⟩
def z1kb : Fs := ⟨[z02x, z014], []⟩
theorem z1ln : z1kb.Ok Tryz.prog := (fsK z0is (fsK z071 fs0))
theorem z1oa : z0mq.Ok Tryz.prog := fn_ok (k := z0mq) (fn := Tryz.f131) (W := []) (H := []) Tryz.func131 z1ln trivial rfl rfl (fun av x => by kernel_rfl)
def z0c3 (c : GCase) : Option Bool := if decide (c.state = 1) = true then ((getI c.marks 1).bind fun x20 => (some (decide (x20 = 0)))) else (if decide ((c.busy.length : Int) = 0) = true then ((getI c.marks 1).bind fun x22 => (some ((decide (c.state = 2)) == (decide (0 < x22))))) else (some false))
def z07g (n : GNet) (c : GCase) (kx0_0 : Option Bool) : Nat → Int → Option Bool
  | 0, _ => none
  | n0 + 1, s0_0 => if decide (s0_0 < (c.did.length : Int)) = true then ((getI c.did s0_0).bind fun x11 => (gd (ok64 ((n.tasks.length : Int) - 1)) ((z002 x11.task 0 ((n.tasks.length : Int) - 1)).bind fun x13 => (if x13 = true then ((getI c.did s0_0).bind fun x15 => ((z002 x15.who 1 4).bind fun x16 => (if x16 = true then (gd (ok64 (s0_0 + 1)) ((z07g n c kx0_0 n0) (s0_0 + 1))) else (some false)))) else (some false))))) else (kx0_0)
def z09j (n : GNet) (c : GCase) : Option Bool := (z09k n c.marks).bind fun x1 => (if x1 = true then ((z0cl n c.busy).bind fun x3 => (if x3 = true then ((z02g c.data).bind fun x5 => (if x5 = true then (if decide (60 < (c.did.length : Int)) = true then (some false) else ((z002 c.state 1 3).bind fun x8 => (if x8 = true then (z07g n c (z0c3 c) FUEL 0) else (some false)))) else (some false))) else (some false))) else (some false))
def z02v : Con := ⟨86, [.v (.s .net) false, .v (.s .kase) false], [(.B, true)], [], fun x => z09j x.1 x.2.1⟩
def z1qt : Fs := ⟨[z02w, z03n, z014, z00o], []⟩
theorem z154 : z1qt.Ok Tryz.prog := (fsK z0ir (fsK z126 (fsK z071 (fsK z00t fs0))))
def z0yj : Tmpl := ⟨[(2, .c (.bx 2 0)), (3, .c (.bx 3 0)), (5, .c .i)], [(2, .boxT (.s .net)), (3, .boxT (.s .kase))]⟩
def z0tc : Tmpl := ⟨[(3, .c (.bx 3 0))], [(3, .boxT (.s .kase))]⟩
def z1dw (av : AV) (x : HP z02v.ps) (n : Nat) (v : z0yj.den) (K : Ks (CR z02v)) : Option (CR z02v) := z07g v.2.1 v.2.2.1 (z0tc.at none (((), ()), (v.2.2.1, ())) (K (.exit 0))) n v.1.2.2.1
def z0wo (av : AV) (x : HP z02v.ps) : Hdl (CR z02v) := hnd [] z0yj (z1dw av x)
theorem z1gq : LP z02v Tryz.f86 [0] z0wo := lp_ok (W := []) (H := []) (xs := [z0tc]) z154 trivial rfl (fun av x v K => by kernel_rfl) (fun av x n v K => by kernel_rfl)
theorem z0ip : z02v.Ok Tryz.prog := fn_ok (k := z02v) (fn := Tryz.f86) (W := []) (H := [z0wo]) Tryz.func86 z154 ⟨z1gq, trivial⟩ rfl rfl (fun av x => by kernel_rfl)
def z06l (c : GCase) : Option GCase := gd (([] : List Int).length + c.marks.length ≤ SMALL) (gd (([] : List GItem).length + c.busy.length ≤ SMALL) (gd (([] : List Int).length + c.data.length ≤ SMALL) (gd (([] : List GDid).length + c.did.length ≤ SMALL) (some (GCase.mk c.state (([] : List Int) ++ c.marks) (([] : List GItem) ++ c.busy) (([] : List Int) ++ c.data) (([] : List GDid) ++ c.did))))))
def z09s : Con := ⟨97, [.v (.s .kase) false], [((.s .kase), true)], [], fun x => z06l x.1⟩
def z1km : Fs := ⟨[], []⟩
theorem z1ls : z1km.Ok Tryz.prog := fs0
theorem z0g7 : z09s.Ok Tryz.prog := fn_ok (k := z09s) (fn := Tryz.f97) (W := []) (H := []) Tryz.func97 z1ls trivial rfl rfl (fun av x => by kernel_rfl)
def z0c4 (n : GNet) (people : List Int) (c : GCase) (t : Int) (who : Int) : Option (GCase × Bool) := (z06l c).bind fun x1 => ((z09j n c).bind fun x2 => (if x2 = true then (if decide (c.state = 1) = true then ((z0fu n c.marks c.busy t).bind fun x5 => (if x5 = true then ((z0fx n people c.did c.busy t).bind fun x7 => ((z0bp x7 who).bind fun x8 => (if x8 = true then (if decide ((c.busy.length : Int) = 6) = true then (some (x1, false)) else ((z0ds n c.marks t).bind fun x11 => (gd (x1.busy.length + [(GItem.mk t who 0)].length ≤ SMALL) (some ((GCase.mk x1.state x11 (x1.busy ++ [(GItem.mk t who 0)]) x1.data x1.did), true))))) else (some (x1, false))))) else (some (x1, false)))) else (some (x1, false))) else (some (x1, false))))
def z0gp : Con := ⟨35, [.v (.s .net) false, .v (.sl .I) false, .v (.s .kase) false, .v .I false, .v .I false], [((.s .kase), true), (.B, true)], [], fun x => z0c4 x.1 x.2.1 x.2.2.1 x.2.2.2.1 x.2.2.2.2.1⟩
def z1an : Fs := ⟨[z09s, z02v, z0ms, z015, z03v, z03f], []⟩
theorem z1az : z1an.Ok Tryz.prog := (fsK z0g7 (fsK z0ip (fsK z1oc (fsK z1of (fsK z0v5 (fsK z1i8 fs0))))))
theorem z1c6 : z0gp.Ok Tryz.prog := fn_ok (k := z0gp) (fn := Tryz.f35) (W := []) (H := []) Tryz.func35 z1az trivial rfl rfl (fun av x => by kernel_rfl)
def z0dr (n : GNet) (c : GCase) (k : Int) (v : Int) (num : Int) : Option (GCase × Bool) := (z06l c).bind fun x1 => ((z09j n c).bind fun x2 => (if x2 = true then (if decide (c.state = 1) = true then (gd (ok64 ((c.busy.length : Int) - 1)) ((z002 k 0 ((c.busy.length : Int) - 1)).bind fun x6 => (if x6 = true then ((z002 v (-1) 2).bind fun x8 => (if x8 = true then ((z002 num (-99) 99).bind fun x10 => (if x10 = true then (if decide ((c.did.length : Int) = 60) = true then (some (x1, false)) else ((getI c.busy k).bind fun x13 => ((z0ft c.data v num).bind fun x14 => (gd (ok64 (x13.did + 1)) ((getI x1.busy k).bind fun x16 => (gd (ok64 (x13.did + 1)) ((getI n.tasks x13.task).bind fun x18 => (if decide ((x13.did + 1) < x18.need) = true then (some ((GCase.mk x1.state x1.marks (x1.busy.set k.toNat (GItem.mk x16.task x16.who (x13.did + 1))) x14 x1.did), true)) else ((z0dt n c.marks x13.task x14).bind fun x20 => (if x20.2 = true then (gd (0 ≤ k ∧ k ≤ (c.busy.length : Int)) (gd (([] : List GItem).length + (c.busy.take k.toNat).length ≤ SMALL) (gd (ok64 (k + 1)) (gd (0 ≤ (k + 1) ∧ (k + 1) ≤ (c.busy.length : Int)) (gd ((([] : List GItem) ++ (c.busy.take k.toNat)).length + (c.busy.drop (k + 1).toNat).length ≤ SMALL) (gd (x1.did.length + [(GDid.mk x13.task x13.who)].length ≤ SMALL) ((getI x20.1 1).bind fun x28 => (if decide (0 < x28) = true then (some ((GCase.mk 2 x20.1 ([] : List GItem) x14 (x1.did ++ [(GDid.mk x13.task x13.who)])), true)) else (some ((GCase.mk x1.state x20.1 ((([] : List GItem) ++ (c.busy.take k.toNat)) ++ (c.busy.drop (k + 1).toNat)) x14 (x1.did ++ [(GDid.mk x13.task x13.who)])), true)))))))))) else ((z06l c).bind fun x30 => (some (x30, false))))))))))))) else (some (x1, false)))) else (some (x1, false)))) else (some (x1, false))))) else (some (x1, false))) else (some (x1, false))))
def z0i3 : Con := ⟨120, [.v (.s .net) false, .v (.s .kase) false, .v .I false, .v .I false, .v .I false], [((.s .kase), true), (.B, true)], [], fun x => z0dr x.1 x.2.1 x.2.2.1 x.2.2.2.1 x.2.2.2.2.1⟩
def z1fk : Fs := ⟨[z09s, z02v, z00o, z0mr, z00w], []⟩
theorem z1ge : z1fk.Ok Tryz.prog := (fsK z0g7 (fsK z0ip (fsK z00t (fsK z1ob (fsK z1i9 fs0)))))
theorem z1i7 : z0i3.Ok Tryz.prog := fn_ok (k := z0i3) (fn := Tryz.f120) (W := []) (H := []) Tryz.func120 z1ge trivial rfl rfl (fun av x => by kernel_rfl)
def z0dq (n : GNet) (c : GCase) : Option (GCase × Bool) := (z06l c).bind fun x1 => ((z09j n c).bind fun x2 => (if x2 = true then (if decide (c.state = 1) = true then (some ((GCase.mk 3 x1.marks ([] : List GItem) x1.data x1.did), true)) else (some (x1, false))) else (some (x1, false))))
def z0i2 : Con := ⟨197, [.v (.s .net) false, .v (.s .kase) false], [((.s .kase), true), (.B, true)], [], fun x => z0dq x.1 x.2.1⟩
def z1fj : Fs := ⟨[z09s, z02v], []⟩
theorem z1gd : z1fj.Ok Tryz.prog := (fsK z0g7 (fsK z0ip fs0))
theorem z1i6 : z0i2.Ok Tryz.prog := fn_ok (k := z0i2) (fn := Tryz.f197) (W := []) (H := []) Tryz.func197 z1gd trivial rfl rfl (fun av x => by kernel_rfl)
def z007 (c : GCase) : Option GCase := (z00c c.marks).bind fun x1 => (gd (([] : List GItem).length + c.busy.length ≤ SMALL) ((z00c c.data).bind fun x3 => (gd (([] : List GDid).length + c.did.length ≤ SMALL) (some (GCase.mk c.state x1 (([] : List GItem) ++ c.busy) x3 (([] : List GDid) ++ c.did))))))
def z02b : Con := ⟨105, [.v (.s .kase) false], [((.s .kase), true)], [], fun x => z007 x.1⟩
def z0tr : Fs := ⟨[z013], []⟩
theorem z0tx : z0tr.Ok Tryz.prog := (fsK z025 fs0)
theorem z070 : z02b.Ok Tryz.prog := fn_ok (k := z02b) (fn := Tryz.f105) (W := []) (H := []) Tryz.func105 z0tx trivial rfl rfl (fun av x => by kernel_rfl)
def z0ry (s0_0 : Int) (bk0 : Int → Option Bool) (s1_0 : Int) : Option Bool := if ((decide (s0_0 = 0)) == (decide (s1_0 = 0))) = true then (if decide (1 < s1_0) = true then (some false) else (gd (ok64 (s0_0 + 1)) (bk0 (s0_0 + 1)))) else (some false)
def z00z (tree : List GNode) (s0_0 : Int) (kx1_0 : Int → Option Bool) : Nat → Int → Int → Option Bool
  | 0, _, _ => none
  | n1 + 1, s1_0, s1_1 => if decide (s1_1 < (tree.length : Int)) = true then ((getI tree s1_1).bind fun x15 => (if decide (x15.yes = s0_0) = true then (gd (ok64 (s1_0 + 1)) ((getI tree s1_1).bind fun x18 => (if decide (x18.no = s0_0) = true then (gd (ok64 ((s1_0 + 1) + 1)) (gd (ok64 (s1_1 + 1)) ((z00z tree s0_0 kx1_0 n1) ((s1_0 + 1) + 1) (s1_1 + 1)))) else (gd (ok64 (s1_1 + 1)) ((z00z tree s0_0 kx1_0 n1) (s1_0 + 1) (s1_1 + 1)))))) else ((getI tree s1_1).bind fun x23 => (if decide (x23.no = s0_0) = true then (gd (ok64 (s1_0 + 1)) (gd (ok64 (s1_1 + 1)) ((z00z tree s0_0 kx1_0 n1) (s1_0 + 1) (s1_1 + 1)))) else (gd (ok64 (s1_1 + 1)) ((z00z tree s0_0 kx1_0 n1) s1_0 (s1_1 + 1))))))) else (kx1_0 s1_0)
def z0rz (s0_0 : Int) (bk0 : Int → Option Bool) (s2_0 : Int) : Option Bool := if ((decide (s0_0 = 0)) == (decide (s2_0 = 0))) = true then (if decide (1 < s2_0) = true then (some false) else (gd (ok64 (s0_0 + 1)) (bk0 (s0_0 + 1)))) else (some false)
def z0s0 (s0_0 : Int) (bk0 : Int → Option Bool) (s3_0 : Int) : Option Bool := if ((decide (s0_0 = 0)) == (decide (s3_0 = 0))) = true then (if decide (1 < s3_0) = true then (some false) else (gd (ok64 (s0_0 + 1)) (bk0 (s0_0 + 1)))) else (some false)
def z0s1 (s0_0 : Int) (bk0 : Int → Option Bool) (s4_0 : Int) : Option Bool := if ((decide (s0_0 = 0)) == (decide (s4_0 = 0))) = true then (if decide (1 < s4_0) = true then (some false) else (gd (ok64 (s0_0 + 1)) (bk0 (s0_0 + 1)))) else (some false)
def z0s2  : Option Bool := some true
def z02l (tree : List GNode) (kx0_0 : Option Bool) : Nat → Int → Option Bool
  | 0, _ => none
  | n0 + 1, s0_0 => if decide (s0_0 < (tree.length : Int)) = true then ((getI tree s0_0).bind fun x3 => ((z08e x3.if_).bind fun x4 => (if x4 = true then ((z002 x3.ans 0 2).bind fun x6 => (if x6 = true then ((z02g x3.stone).bind fun x8 => (if x8 = true then ((z01o x3.if_ x3.stone).bind fun x10 => (if x10 = true then (if decide (x3.yes = (-1)) = true then (if decide (x3.no = (-1)) = true then (z00z tree s0_0 (z0ry s0_0 (z02l tree kx0_0 n0)) FUEL 0 0) else (gd (ok64 (s0_0 + 1)) (gd (ok64 ((tree.length : Int) - 1)) ((z002 x3.no (s0_0 + 1) ((tree.length : Int) - 1)).bind fun x33 => (if x33 = true then (z00z tree s0_0 (z0rz s0_0 (z02l tree kx0_0 n0)) FUEL 0 0) else (some false)))))) else (gd (ok64 (s0_0 + 1)) (gd (ok64 ((tree.length : Int) - 1)) ((z002 x3.yes (s0_0 + 1) ((tree.length : Int) - 1)).bind fun x54 => (if x54 = true then (if decide (x3.no = (-1)) = true then (z00z tree s0_0 (z0s0 s0_0 (z02l tree kx0_0 n0)) FUEL 0 0) else (gd (ok64 (s0_0 + 1)) (gd (ok64 ((tree.length : Int) - 1)) ((z002 x3.no (s0_0 + 1) ((tree.length : Int) - 1)).bind fun x76 => (if x76 = true then (z00z tree s0_0 (z0s1 s0_0 (z02l tree kx0_0 n0)) FUEL 0 0) else (some false)))))) else (some false)))))) else (some false))) else (some false))) else (some false))) else (some false)))) else (kx0_0)
def z09m (tree : List GNode) : Option Bool := if decide (12 < (tree.length : Int)) = true then (some false) else (z02l tree z0s2 FUEL 0)
def z016 : Con := ⟨84, [.v (.sl (.s .node)) false], [(.B, true)], [], fun x => z09m x.1⟩
def z1r1 : Fs := ⟨[z0bh, z00o, z014, z05f], []⟩
theorem z0tz : z1r1.Ok Tryz.prog := (fsK z0iq (fsK z00t (fsK z071 (fsK z08x fs0))))
def z0ox : Tmpl := ⟨[(0, .c (.s (.s .node))), (3, .c .i), (5, .c .i), (6, .c .i)], []⟩
def z0kq : Tmpl := ⟨[(0, .c (.s (.s .node))), (3, .c .i), (5, .c .i)], []⟩
def z14h (av : AV) (x : HP z016.ps) (n : Nat) (v : z0ox.den) (K : Ks (CR z016)) : Option (CR z016) := z00z v.1.1 v.1.2.1 (fun s1_0 => z0kq.at none ((v.1.1, v.1.2.1, s1_0, ()), ()) (K (.exit 2))) n v.1.2.2.1 v.1.2.2.2.1
def z0mf (av : AV) (x : HP z016.ps) : Hdl (CR z016) := hnd [] z0ox (z14h av x)
theorem z17g : LP z016 Tryz.f84 [0, 0] z0mf := lp_ok (W := []) (H := []) (xs := [z0kq]) z0tz trivial rfl (fun av x v K => by kernel_rfl) (fun av x n v K => by kernel_rfl)
def z0yq : Tmpl := ⟨[(0, .c (.s (.s .node))), (3, .c .i)], []⟩
def z0tj : Tmpl := ⟨[], []⟩
def z1e3 (av : AV) (x : HP z016.ps) (n : Nat) (v : z0yq.den) (K : Ks (CR z016)) : Option (CR z016) := z02l v.1.1 (z0tj.at none ((), ()) (K (.exit 0))) n v.1.2.1
def z0wv (av : AV) (x : HP z016.ps) : Hdl (CR z016) := hnd [] z0yq (z1e3 av x)
theorem z1gx : LP z016 Tryz.f84 [0] z0wv := lp_ok (W := []) (H := [z0mf]) (xs := [z0tj]) z0tz ⟨z17g, trivial⟩ rfl (fun av x v K => by kernel_rfl) (fun av x n v K => by kernel_rfl)
theorem z0v4 : z016.Ok Tryz.prog := fn_ok (k := z016) (fn := Tryz.f84) (W := []) (H := [z0wv]) Tryz.func84 z0tz ⟨z1gx, trivial⟩ rfl rfl (fun av x => by kernel_rfl)
def z0nw (s0_0 : Int) (s0_1 : Int) : Option (Int × Int) := some (s0_0, s0_1)
def z0nx (s0_0 : Int) (s0_1 : Int) : Option (Int × Int) := some (s0_0, s0_1)
def z02o (tree : List GNode) (data : List Int) (kx0_0 : Int → Int → Option (Int × Int)) (kx0_1 : Int → Int → Option (Int × Int)) : Nat → Int → Int → Int → Int → Option (Int × Int)
  | 0, _, _, _, _ => none
  | n0 + 1, s0_0, s0_1, s0_2, s0_3 => if decide (s0_3 < 12) = true then (if decide (s0_2 = (-1)) = true then (kx0_0 s0_0 s0_1) else ((getI tree s0_2).bind fun x4 => ((z01o x4.if_ data).bind fun x5 => (if x5 = true then ((getI tree s0_2).bind fun x7 => (gd (ok64 (s0_3 + 1)) ((z02o tree data kx0_0 kx0_1 n0) s0_2 s0_2 x7.yes (s0_3 + 1)))) else ((getI tree s0_2).bind fun x9 => (gd (ok64 (s0_3 + 1)) ((z02o tree data kx0_0 kx0_1 n0) s0_0 s0_2 x9.no (s0_3 + 1)))))))) else (kx0_1 s0_0 s0_1)
def z0ny (s1_0 : Int) (s1_1 : Int) : Option (Int × Int) := some (s1_0, s1_1)
def z0nz (s1_0 : Int) (s1_1 : Int) : Option (Int × Int) := some (s1_0, s1_1)
def z08f (tree : List GNode) (data : List Int) : Option (Int × Int) := if decide ((tree.length : Int) = 0) = true then (z02o tree data z0nw z0nx FUEL (-1) (-1) (-1) 0) else (z02o tree data z0ny z0nz FUEL (-1) (-1) 0 0)
def z02m : Con := ⟨195, [.v (.sl (.s .node)) false, .v (.sl .I) false], [(.I, true), (.I, true)], [], fun x => z08f x.1 x.2.1⟩
def z1kp : Fs := ⟨[z05f], []⟩
theorem z113 : z1kp.Ok Tryz.prog := (fsK z08x fs0)
def z0t0 : Tmpl := ⟨[(0, .c (.s (.s .node))), (1, .c (.s .I)), (6, .c .i), (7, .c .i), (8, .c .i), (9, .c .i)], []⟩
def z0f0 : Tmpl := ⟨[(6, .c .i), (7, .c .i)], []⟩
def z1aa (av : AV) (x : HP z02m.ps) (n : Nat) (v : z0t0.den) (K : Ks (CR z02m)) : Option (CR z02m) := z02o v.1.1 v.1.2.1 (fun s0_0 s0_1 => z0f0.at none ((s0_0, s0_1, ()), ()) (K (.exit 0))) (fun s0_0 s0_1 => z0f0.at none ((s0_0, s0_1, ()), ()) (K (.exit 0))) n v.1.2.2.1 v.1.2.2.2.1 v.1.2.2.2.2.1 v.1.2.2.2.2.2.1
def z0rh (av : AV) (x : HP z02m.ps) : Hdl (CR z02m) := hnd [] z0t0 (z1aa av x)
theorem z1bv : LP z02m Tryz.f195 [0] z0rh := lp_ok (W := []) (H := []) (xs := [z0f0]) z113 trivial rfl (fun av x v K => by kernel_rfl) (fun av x n v K => by kernel_rfl)
theorem z0o4 : z02m.Ok Tryz.prog := fn_ok (k := z02m) (fn := Tryz.f195) (W := []) (H := [z0rh]) Tryz.func195 z113 ⟨z1bv, trivial⟩ rfl rfl (fun av x => by kernel_rfl)
def z0fz (tree : List GNode) (data : List Int) : Option Int := (z09m tree).bind fun x1 => (if x1 = true then ((z02g data).bind fun x3 => (if x3 = true then ((z08f tree data).bind fun x5 => (if decide (x5.1 = (-1)) = true then (some 0) else ((getI tree x5.1).bind fun x7 => (some x7.ans)))) else (some 0))) else (some 0))
def z0mt : Con := ⟨130, [.v (.sl (.s .node)) false, .v (.sl .I) false], [(.I, true)], [], fun x => z0fz x.1 x.2.1⟩
def z1ki : Fs := ⟨[z016, z014, z02m], []⟩
theorem z1lq : z1ki.Ok Tryz.prog := (fsK z0v4 (fsK z071 (fsK z0o4 fs0)))
theorem z1oh : z0mt.Ok Tryz.prog := fn_ok (k := z0mt) (fn := Tryz.f130) (W := []) (H := []) Tryz.func130 z1lq trivial rfl rfl (fun av x => by kernel_rfl)
def z0g2 (tree : List GNode) (a : List Int) (b : List Int) : Option Bool := (z08f tree a).bind fun x1 => ((z08f tree b).bind fun x2 => (if decide (x1.2 = x2.2) = true then (if decide (x1.2 = (-1)) = true then (some true) else ((getI tree x1.2).bind fun x5 => ((z01o x5.if_ a).bind fun x6 => ((getI tree x1.2).bind fun x7 => ((z01o x7.if_ b).bind fun x8 => (some (x6 == x8))))))) else (some false)))
def z0mv : Con := ⟨196, [.v (.sl (.s .node)) false, .v (.sl .I) false, .v (.sl .I) false], [(.B, true)], [], fun x => z0g2 x.1 x.2.1 x.2.2.1⟩
def z1ko : Fs := ⟨[z02m, z05f], []⟩
theorem z1lt : z1ko.Ok Tryz.prog := (fsK z0o4 (fsK z08x fs0))
theorem z1ok : z0mv.Ok Tryz.prog := fn_ok (k := z0mv) (fn := Tryz.f196) (W := []) (H := []) Tryz.func196 z1lt trivial rfl rfl (fun av x => by kernel_rfl)
end
end Go.Am
