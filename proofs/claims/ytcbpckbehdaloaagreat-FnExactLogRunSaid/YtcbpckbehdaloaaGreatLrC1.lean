/- Mirrors and contracts, printed. Own work. -/
import Derived.Test.YtcbpckbehdaloaaGreatLrD1
set_option linter.unusedSimpArgs false
set_option maxRecDepth 100000
set_option maxHeartbeats 4000000
set_option linter.unusedVariables false
namespace Go.Am
noncomputable section
open Go Go.Proofs
def z1iy (l : List Int) (left : Int) : Option Int := gd (ok64 (left - (l.length : Int))) (if decide ((left - (l.length : Int)) < 0) = true then (some (-1)) else (some (left - (l.length : Int))))
def z1m0 : Con := ⟨57, [.v (.sl .I) false, .v .I false], [(.I, true)], [], fun x => z1iy x.1 x.2.1⟩
def z22z : Fs := ⟨[], []⟩
theorem z23r : z22z.Ok Tryz.prog := fs0
theorem z21q : z1m0.Ok Tryz.prog := fn_ok (k := z1m0) (fn := Tryz.f57) (W := []) (H := []) Tryz.func57 z23r trivial rfl rfl (fun av x => by kernel_rfl)
noncomputable def z0i6 (l : List Int) (left : Int) : Option Int := @gd ((0 ≤ left) ∧ (left ≤ 1048576) ∧ (l.length ≤ 9223372036854775807)) (Classical.propDecidable _) _ (some (szR left l.length))
theorem z0v8 (l : List Int) (left : Int) (h : (0 ≤ left) ∧ (left ≤ 1048576) ∧ (l.length ≤ 9223372036854775807)) : z0i6 l left = some (szR left l.length) := gdC h
theorem z27n (l : List Int) (left : Int) (h : (0 ≤ left) ∧ (left ≤ 1048576) ∧ (l.length ≤ 9223372036854775807)) : z1iy l left = some (szR left l.length) := by
  exact z1wj h.1 h.2.1 h.2.2
noncomputable def z0zd : Con := ⟨57, [.v (.sl .I) false, .v .I false], [(.I, true)], [], fun x => z0i6 x.1 x.2.1⟩
theorem z17y : z0zd.Ok Tryz.prog := z00p z21q fun x z hz => by
  obtain ⟨h, e⟩ := z00a hz
  subst e
  exact z27n _ _ h
def z0xp (l : List GFlow) (left : Int) : Option Int := gd (ok64 (left - (l.length : Int))) (if decide ((left - (l.length : Int)) < 0) = true then (some (-1)) else (some (left - (l.length : Int))))
def z0xe : Con := ⟨213, [.v (.sl (.s .flow)) false, .v .I false], [(.I, true)], [], fun x => z0xp x.1 x.2.1⟩
def z1f4 : Fs := ⟨[], []⟩
theorem z1eo : z1f4.Ok Tryz.prog := fs0
theorem z1f1 : z0xe.Ok Tryz.prog := fn_ok (k := z0xe) (fn := Tryz.f213) (W := []) (H := []) Tryz.func213 z1eo trivial rfl rfl (fun av x => by kernel_rfl)
noncomputable def z0ue (l : List GFlow) (left : Int) : Option Int := @gd ((0 ≤ left) ∧ (left ≤ 1048576) ∧ (l.length ≤ 9223372036854775807)) (Classical.propDecidable _) _ (some (szR left l.length))
theorem z1qe (l : List GFlow) (left : Int) (h : (0 ≤ left) ∧ (left ≤ 1048576) ∧ (l.length ≤ 9223372036854775807)) : z0ue l left = some (szR left l.length) := gdC h
theorem z1ua (l : List GFlow) (left : Int) (h : (0 ≤ left) ∧ (left ≤ 1048576) ∧ (l.length ≤ 9223372036854775807)) : z0xp l left = some (szR left l.length) := by
  exact z1wj h.1 h.2.1 h.2.2
noncomputable def z16b : Con := ⟨213, [.v (.sl (.s .flow)) false, .v .I false], [(.I, true)], [], fun x => z0ue x.1 x.2.1⟩
theorem z1so : z16b.Ok Tryz.prog := z00p z1f1 fun x z hz => by
  obtain ⟨h, e⟩ := z00a hz
  subst e
  exact z1ua _ _ h
def z0o3 (x : GTask) (left : Int) : Option Int := (z0i6 x.in_ left).bind fun x1 => (if decide (x1 < 0) = true then (some (-1)) else ((z0ue x.out x1).bind fun x3 => (if decide (x3 < 0) = true then (some (-1)) else ((z0i6 x.clear x3).bind fun x5 => (if decide (x5 < 0) = true then (some (-1)) else (some x5))))))
def z12j : Con := ⟨171, [.v (.s .task) false, .v .I false], [(.I, true)], [], fun x => z0o3 x.1 x.2.1⟩
def z1k0 : Fs := ⟨[z0zd, z16b], []⟩
theorem z1pk : z1k0.Ok Tryz.prog := (fsK z17y (fsK z1so fs0))
theorem z1jw : z12j.Ok Tryz.prog := fn_ok (k := z12j) (fn := Tryz.f171) (W := []) (H := []) Tryz.func171 z1pk trivial rfl rfl (fun av x => by kernel_rfl)
noncomputable def z0zw (x : GTask) (left : Int) : Option Int := @gd ((0 ≤ left) ∧ (left ≤ 1048576) ∧ (GTask.lens (· ≤ 9223372036854775807) x)) (Classical.propDecidable _) _ (some (szR left (GTask.W x)))
theorem z1yz (x : GTask) (left : Int) (h : (0 ≤ left) ∧ (left ≤ 1048576) ∧ (GTask.lens (· ≤ 9223372036854775807) x)) : z0zw x left = some (szR left (GTask.W x)) := gdC h
theorem z1zt (x : GTask) (left : Int) (h : (0 ≤ left) ∧ (left ≤ 1048576) ∧ (GTask.lens (· ≤ 9223372036854775807) x)) : z0o3 x left = some (szR left (GTask.W x)) := by
  have e : GTask.W x = (x.in_.length + (x.out.length + (x.clear.length + 0))) := by simp only [GTask.W]; omega
  rw [e]
  have g1 := h.1
  have g2 := h.2.1
  unfold z0o3
  rw [z0v8 _ _ ⟨g1, g2, h.2.2.1⟩]; refine z0ed g1 g2 fun left g1 g2 => ?_
  rw [z1qe _ _ ⟨g1, g2, h.2.2.2.1⟩]; refine z0ed g1 g2 fun left g1 g2 => ?_
  rw [z0v8 _ _ ⟨g1, g2, h.2.2.2.2⟩]; refine z0ed g1 g2 fun left g1 g2 => ?_
  exact z0u6 g1
noncomputable def z1dp : Con := ⟨171, [.v (.s .task) false, .v .I false], [(.I, true)], [], fun x => z0zw x.1 x.2.1⟩
theorem z1yn : z1dp.Ok Tryz.prog := z00p z1jw fun x z hz => by
  obtain ⟨h, e⟩ := z00a hz
  subst e
  exact z1zt _ _ h
def z0ki (s0_0 : Int) : Option Int := some s0_0
def z04d (l : List GTask) (kx0_0 : Int → Option Int) : Nat → Int → Int → Option Int
  | 0, _, _ => none
  | n0 + 1, s0_0, s0_1 => if decide (s0_1 < (l.length : Int)) = true then ((getI l s0_1).bind fun x4 => ((z0zw x4 s0_0).bind fun x5 => (if decide (x5 < 0) = true then (some (-1)) else (gd (ok64 (s0_1 + 1)) ((z04d l kx0_0 n0) x5 (s0_1 + 1)))))) else (kx0_0 s0_0)
def z0xn (l : List GTask) (left : Int) : Option Int := gd (ok64 (left - (l.length : Int))) (if decide ((left - (l.length : Int)) < 0) = true then (some (-1)) else (z04d l z0ki FUEL (left - (l.length : Int)) 0))
def z057 : Con := ⟨94, [.v (.sl (.s .task)) false, .v .I false], [(.I, true)], [], fun x => z0xn x.1 x.2.1⟩
def z1gw : Fs := ⟨[z1dp], []⟩
theorem z0x1 : z1gw.Ok Tryz.prog := (fsK z1yn fs0)
def z0mh : Tmpl := ⟨[(0, .c (.s (.s .task))), (1, .c .i), (5, .c .i)], []⟩
def z0j5 : Tmpl := ⟨[(1, .c .i)], []⟩
def z19h (av : AV) (x : HP z057.ps) (n : Nat) (v : z0mh.den) (K : Ks (CR z057)) : Option (CR z057) := z04d v.1.1 (fun s0_0 => z0j5.at none ((s0_0, ()), ()) (K (.exit 0))) n v.1.2.1 v.1.2.2.1
def z0p0 (av : AV) (x : HP z057.ps) : Hdl (CR z057) := hnd [] z0mh (z19h av x)
theorem z151 : LP z057 Tryz.f94 [0] z0p0 := lp_ok (W := []) (H := []) (xs := [z0j5]) z0x1 trivial rfl (fun av x v K => by kernel_rfl) (fun av x n v K => by kernel_rfl)
theorem z1el : z057.Ok Tryz.prog := fn_ok (k := z057) (fn := Tryz.f94) (W := []) (H := [z0p0]) Tryz.func94 z0x1 ⟨z151, trivial⟩ rfl rfl (fun av x => by kernel_rfl)
noncomputable def z0uh (l : List GTask) (left : Int) : Option Int := @gd ((0 ≤ left) ∧ (left ≤ 1048576) ∧ (l.length ≤ 9223372036854775807) ∧ (∀ y ∈ l, GTask.lens (· ≤ 9223372036854775807) y)) (Classical.propDecidable _) _ (some (szR left (l.length + sumW GTask.W l)))
theorem z1r3 (l : List GTask) (left : Int) (h : (0 ≤ left) ∧ (left ≤ 1048576) ∧ (l.length ≤ 9223372036854775807) ∧ (∀ y ∈ l, GTask.lens (· ≤ 9223372036854775807) y)) : z0uh l left = some (szR left (l.length + sumW GTask.W l)) := gdC h
theorem z1qn (l : List GTask) (left : Int) (h : (0 ≤ left) ∧ (left ≤ 1048576) ∧ (l.length ≤ 9223372036854775807) ∧ (∀ y ∈ l, GTask.lens (· ≤ 9223372036854775807) y)) : z0xn l left = some (szR left (l.length + sumW GTask.W l)) := by
  refine z1k9 (f := z04d l z0ki) h.1 h.2.1 h.2.2.1 (fun n i m hi hn g1 g2 => ?_) (fun n m => ?_)
  · rw [z04d, if_pos (decide_eq_true (Int.ofNat_lt.2 hi)), z01w hi, Option.bind_some, z1yz _ _ ⟨g1, g2, h.2.2.2 _ (List.getElem_mem _)⟩, Option.bind_some, z000 (ok64i hi hn)]; rfl
  · rw [z04d, if_neg (by simp)]; rfl
noncomputable def z16m : Con := ⟨94, [.v (.sl (.s .task)) false, .v .I false], [(.I, true)], [], fun x => z0uh x.1 x.2.1⟩
theorem z1sv : z16m.Ok Tryz.prog := z00p z1el fun x z hz => by
  obtain ⟨h, e⟩ := z00a hz
  subst e
  exact z1qn _ _ h
def z0uz (x : GNet) (left : Int) : Option Int := (z0uh x.tasks left).bind fun x1 => (if decide (x1 < 0) = true then (some (-1)) else (some x1))
def z184 : Con := ⟨33, [.v (.s .net) false, .v .I false], [(.I, true)], [], fun x => z0uz x.1 x.2.1⟩
def z1r4 : Fs := ⟨[z16m], []⟩
theorem z1tx : z1r4.Ok Tryz.prog := (fsK z1sv fs0)
theorem z1qs : z184.Ok Tryz.prog := fn_ok (k := z184) (fn := Tryz.f33) (W := []) (H := []) Tryz.func33 z1tx trivial rfl rfl (fun av x => by kernel_rfl)
noncomputable def z17z (x : GNet) (left : Int) : Option Int := @gd ((0 ≤ left) ∧ (left ≤ 1048576) ∧ (GNet.lens (· ≤ 9223372036854775807) x)) (Classical.propDecidable _) _ (some (szR left (GNet.W x)))
theorem z21e (x : GNet) (left : Int) (h : (0 ≤ left) ∧ (left ≤ 1048576) ∧ (GNet.lens (· ≤ 9223372036854775807) x)) : z17z x left = some (szR left (GNet.W x)) := gdC h
theorem z23h (x : GNet) (left : Int) (h : (0 ≤ left) ∧ (left ≤ 1048576) ∧ (GNet.lens (· ≤ 9223372036854775807) x)) : z0uz x left = some (szR left (GNet.W x)) := by
  have e : GNet.W x = ((x.tasks.length + sumW GTask.W x.tasks) + 0) := by simp only [GNet.W]; omega
  rw [e]
  have g1 := h.1
  have g2 := h.2.1
  unfold z0uz
  rw [z1r3 _ _ ⟨g1, g2, h.2.2.1, h.2.2.2⟩]; refine z0ed g1 g2 fun left g1 g2 => ?_
  exact z0u6 g1
noncomputable def z1mc : Con := ⟨33, [.v (.s .net) false, .v .I false], [(.I, true)], [], fun x => z17z x.1 x.2.1⟩
theorem z23t : z1mc.Ok Tryz.prog := z00p z1qs fun x z hz => by
  obtain ⟨h, e⟩ := z00a hz
  subst e
  exact z23h _ _ h
def z0mw (s0_0 : Int) : Option Int := some s0_0
def z067 (l : List GNet) (kx0_0 : Int → Option Int) : Nat → Int → Int → Option Int
  | 0, _, _ => none
  | n0 + 1, s0_0, s0_1 => if decide (s0_1 < (l.length : Int)) = true then ((getI l s0_1).bind fun x4 => ((z17z x4 s0_0).bind fun x5 => (if decide (x5 < 0) = true then (some (-1)) else (gd (ok64 (s0_1 + 1)) ((z067 l kx0_0 n0) x5 (s0_1 + 1)))))) else (kx0_0 s0_0)
def z124 (l : List GNet) (left : Int) : Option Int := gd (ok64 (left - (l.length : Int))) (if decide ((left - (l.length : Int)) < 0) = true then (some (-1)) else (z067 l z0mw FUEL (left - (l.length : Int)) 0))
def z06m : Con := ⟨47, [.v (.sl (.s .net)) false, .v .I false], [(.I, true)], [], fun x => z124 x.1 x.2.1⟩
def z1oj : Fs := ⟨[z1mc], []⟩
theorem z11t : z1oj.Ok Tryz.prog := (fsK z23t fs0)
def z0sa : Tmpl := ⟨[(0, .c (.s (.s .net))), (1, .c .i), (5, .c .i)], []⟩
def z0nm : Tmpl := ⟨[(1, .c .i)], []⟩
def z1c7 (av : AV) (x : HP z06m.ps) (n : Nat) (v : z0sa.den) (K : Ks (CR z06m)) : Option (CR z06m) := z067 v.1.1 (fun s0_0 => z0nm.at none ((s0_0, ()), ()) (K (.exit 0))) n v.1.2.1 v.1.2.2.1
def z0rb (av : AV) (x : HP z06m.ps) : Hdl (CR z06m) := hnd [] z0sa (z1c7 av x)
theorem z1be : LP z06m Tryz.f47 [0] z0rb := lp_ok (W := []) (H := []) (xs := [z0nm]) z11t trivial rfl (fun av x v K => by kernel_rfl) (fun av x n v K => by kernel_rfl)
theorem z1jv : z06m.Ok Tryz.prog := fn_ok (k := z06m) (fn := Tryz.f47) (W := []) (H := [z0rb]) Tryz.func47 z11t ⟨z1be, trivial⟩ rfl rfl (fun av x => by kernel_rfl)
noncomputable def z0zi (l : List GNet) (left : Int) : Option Int := @gd ((0 ≤ left) ∧ (left ≤ 1048576) ∧ (l.length ≤ 9223372036854775807) ∧ (∀ y ∈ l, GNet.lens (· ≤ 9223372036854775807) y)) (Classical.propDecidable _) _ (some (szR left (l.length + sumW GNet.W l)))
theorem z1zd (l : List GNet) (left : Int) (h : (0 ≤ left) ∧ (left ≤ 1048576) ∧ (l.length ≤ 9223372036854775807) ∧ (∀ y ∈ l, GNet.lens (· ≤ 9223372036854775807) y)) : z0zi l left = some (szR left (l.length + sumW GNet.W l)) := gdC h
theorem z1ya (l : List GNet) (left : Int) (h : (0 ≤ left) ∧ (left ≤ 1048576) ∧ (l.length ≤ 9223372036854775807) ∧ (∀ y ∈ l, GNet.lens (· ≤ 9223372036854775807) y)) : z124 l left = some (szR left (l.length + sumW GNet.W l)) := by
  refine z1k9 (f := z067 l z0mw) h.1 h.2.1 h.2.2.1 (fun n i m hi hn g1 g2 => ?_) (fun n m => ?_)
  · rw [z067, if_pos (decide_eq_true (Int.ofNat_lt.2 hi)), z01w hi, Option.bind_some, z21e _ _ ⟨g1, g2, h.2.2.2 _ (List.getElem_mem _)⟩, Option.bind_some, z000 (ok64i hi hn)]; rfl
  · rw [z067, if_neg (by simp)]; rfl
noncomputable def z1cz : Con := ⟨47, [.v (.sl (.s .net)) false, .v .I false], [(.I, true)], [], fun x => z0zi x.1 x.2.1⟩
theorem z20a : z1cz.Ok Tryz.prog := z00p z1jv fun x z hz => by
  obtain ⟨h, e⟩ := z00a hz
  subst e
  exact z1ya _ _ h
def z0x2 (l : List GItem) (left : Int) : Option Int := gd (ok64 (left - (l.length : Int))) (if decide ((left - (l.length : Int)) < 0) = true then (some (-1)) else (some (left - (l.length : Int))))
def z0yy : Con := ⟨95, [.v (.sl (.s .item)) false, .v .I false], [(.I, true)], [], fun x => z0x2 x.1 x.2.1⟩
def z1ge : Fs := ⟨[], []⟩
theorem z1e5 : z1ge.Ok Tryz.prog := fs0
theorem z1dx : z0yy.Ok Tryz.prog := fn_ok (k := z0yy) (fn := Tryz.f95) (W := []) (H := []) Tryz.func95 z1e5 trivial rfl rfl (fun av x => by kernel_rfl)
noncomputable def z0vc (l : List GItem) (left : Int) : Option Int := @gd ((0 ≤ left) ∧ (left ≤ 1048576) ∧ (l.length ≤ 9223372036854775807)) (Classical.propDecidable _) _ (some (szR left l.length))
theorem z1po (l : List GItem) (left : Int) (h : (0 ≤ left) ∧ (left ≤ 1048576) ∧ (l.length ≤ 9223372036854775807)) : z0vc l left = some (szR left l.length) := gdC h
theorem z1qq (l : List GItem) (left : Int) (h : (0 ≤ left) ∧ (left ≤ 1048576) ∧ (l.length ≤ 9223372036854775807)) : z0x2 l left = some (szR left l.length) := by
  exact z1wj h.1 h.2.1 h.2.2
noncomputable def z164 : Con := ⟨95, [.v (.sl (.s .item)) false, .v .I false], [(.I, true)], [], fun x => z0vc x.1 x.2.1⟩
theorem z1tl : z164.Ok Tryz.prog := z00p z1dx fun x z hz => by
  obtain ⟨h, e⟩ := z00a hz
  subst e
  exact z1qq _ _ h
def z12m (l : List GDid) (left : Int) : Option Int := gd (ok64 (left - (l.length : Int))) (if decide ((left - (l.length : Int)) < 0) = true then (some (-1)) else (some (left - (l.length : Int))))
def z12c : Con := ⟨96, [.v (.sl (.s .did)) false, .v .I false], [(.I, true)], [], fun x => z12m x.1 x.2.1⟩
def z1lu : Fs := ⟨[], []⟩
theorem z1mj : z1lu.Ok Tryz.prog := fs0
theorem z1n2 : z12c.Ok Tryz.prog := fn_ok (k := z12c) (fn := Tryz.f96) (W := []) (H := []) Tryz.func96 z1mj trivial rfl rfl (fun av x => by kernel_rfl)
noncomputable def z0z5 (l : List GDid) (left : Int) : Option Int := @gd ((0 ≤ left) ∧ (left ≤ 1048576) ∧ (l.length ≤ 9223372036854775807)) (Classical.propDecidable _) _ (some (szR left l.length))
theorem z1x3 (l : List GDid) (left : Int) (h : (0 ≤ left) ∧ (left ≤ 1048576) ∧ (l.length ≤ 9223372036854775807)) : z0z5 l left = some (szR left l.length) := gdC h
theorem z1xf (l : List GDid) (left : Int) (h : (0 ≤ left) ∧ (left ≤ 1048576) ∧ (l.length ≤ 9223372036854775807)) : z12m l left = some (szR left l.length) := by
  exact z1wj h.1 h.2.1 h.2.2
noncomputable def z1dm : Con := ⟨96, [.v (.sl (.s .did)) false, .v .I false], [(.I, true)], [], fun x => z0z5 x.1 x.2.1⟩
theorem z207 : z1dm.Ok Tryz.prog := z00p z1n2 fun x z hz => by
  obtain ⟨h, e⟩ := z00a hz
  subst e
  exact z1xf _ _ h
def z0p9 (x : GNode) (left : Int) : Option Int := (z0i6 x.stone left).bind fun x1 => (if decide (x1 < 0) = true then (some (-1)) else (some x1))
def z126 : Con := ⟨124, [.v (.s .node) false, .v .I false], [(.I, true)], [], fun x => z0p9 x.1 x.2.1⟩
def z1ja : Fs := ⟨[z0zd], []⟩
theorem z1pe : z1ja.Ok Tryz.prog := (fsK z17y fs0)
theorem z1ox : z126.Ok Tryz.prog := fn_ok (k := z126) (fn := Tryz.f124) (W := []) (H := []) Tryz.func124 z1pe trivial rfl rfl (fun av x => by kernel_rfl)
noncomputable def z0zl (x : GNode) (left : Int) : Option Int := @gd ((0 ≤ left) ∧ (left ≤ 1048576) ∧ (GNode.lens (· ≤ 9223372036854775807) x)) (Classical.propDecidable _) _ (some (szR left (GNode.W x)))
theorem z209 (x : GNode) (left : Int) (h : (0 ≤ left) ∧ (left ≤ 1048576) ∧ (GNode.lens (· ≤ 9223372036854775807) x)) : z0zl x left = some (szR left (GNode.W x)) := gdC h
theorem z201 (x : GNode) (left : Int) (h : (0 ≤ left) ∧ (left ≤ 1048576) ∧ (GNode.lens (· ≤ 9223372036854775807) x)) : z0p9 x left = some (szR left (GNode.W x)) := by
  have e : GNode.W x = (x.stone.length + 0) := by simp only [GNode.W]; omega
  rw [e]
  have g1 := h.1
  have g2 := h.2.1
  unfold z0p9
  rw [z0v8 _ _ ⟨g1, g2, h.2.2⟩]; refine z0ed g1 g2 fun left g1 g2 => ?_
  exact z0u6 g1
noncomputable def z1dv : Con := ⟨124, [.v (.s .node) false, .v .I false], [(.I, true)], [], fun x => z0zl x.1 x.2.1⟩
theorem z1xx : z1dv.Ok Tryz.prog := z00p z1ox fun x z hz => by
  obtain ⟨h, e⟩ := z00a hz
  subst e
  exact z201 _ _ h
def z0ju (s0_0 : Int) : Option Int := some s0_0
def z04f (l : List GNode) (kx0_0 : Int → Option Int) : Nat → Int → Int → Option Int
  | 0, _, _ => none
  | n0 + 1, s0_0, s0_1 => if decide (s0_1 < (l.length : Int)) = true then ((getI l s0_1).bind fun x4 => ((z0zl x4 s0_0).bind fun x5 => (if decide (x5 < 0) = true then (some (-1)) else (gd (ok64 (s0_1 + 1)) ((z04f l kx0_0 n0) x5 (s0_1 + 1)))))) else (kx0_0 s0_0)
def z0vy (l : List GNode) (left : Int) : Option Int := gd (ok64 (left - (l.length : Int))) (if decide ((left - (l.length : Int)) < 0) = true then (some (-1)) else (z04f l z0ju FUEL (left - (l.length : Int)) 0))
def z04p : Con := ⟨58, [.v (.sl (.s .node)) false, .v .I false], [(.I, true)], [], fun x => z0vy x.1 x.2.1⟩
def z1hi : Fs := ⟨[z1dv], []⟩
theorem z0y3 : z1hi.Ok Tryz.prog := (fsK z1xx fs0)
def z0nt : Tmpl := ⟨[(0, .c (.s (.s .node))), (1, .c .i), (5, .c .i)], []⟩
def z0k0 : Tmpl := ⟨[(1, .c .i)], []⟩
def z15k (av : AV) (x : HP z04p.ps) (n : Nat) (v : z0nt.den) (K : Ks (CR z04p)) : Option (CR z04p) := z04f v.1.1 (fun s0_0 => z0k0.at none ((s0_0, ()), ()) (K (.exit 0))) n v.1.2.1 v.1.2.2.1
def z0lm (av : AV) (x : HP z04p.ps) : Hdl (CR z04p) := hnd [] z0nt (z15k av x)
theorem z156 : LP z04p Tryz.f58 [0] z0lm := lp_ok (W := []) (H := []) (xs := [z0k0]) z0y3 trivial rfl (fun av x v K => by kernel_rfl) (fun av x n v K => by kernel_rfl)
theorem z1hw : z04p.Ok Tryz.prog := fn_ok (k := z04p) (fn := Tryz.f58) (W := []) (H := [z0lm]) Tryz.func58 z0y3 ⟨z156, trivial⟩ rfl rfl (fun av x => by kernel_rfl)
noncomputable def z0tp (l : List GNode) (left : Int) : Option Int := @gd ((0 ≤ left) ∧ (left ≤ 1048576) ∧ (l.length ≤ 9223372036854775807) ∧ (∀ y ∈ l, GNode.lens (· ≤ 9223372036854775807) y)) (Classical.propDecidable _) _ (some (szR left (l.length + sumW GNode.W l)))
theorem z1ry (l : List GNode) (left : Int) (h : (0 ≤ left) ∧ (left ≤ 1048576) ∧ (l.length ≤ 9223372036854775807) ∧ (∀ y ∈ l, GNode.lens (· ≤ 9223372036854775807) y)) : z0tp l left = some (szR left (l.length + sumW GNode.W l)) := gdC h
theorem z1s9 (l : List GNode) (left : Int) (h : (0 ≤ left) ∧ (left ≤ 1048576) ∧ (l.length ≤ 9223372036854775807) ∧ (∀ y ∈ l, GNode.lens (· ≤ 9223372036854775807) y)) : z0vy l left = some (szR left (l.length + sumW GNode.W l)) := by
  refine z1k9 (f := z04f l z0ju) h.1 h.2.1 h.2.2.1 (fun n i m hi hn g1 g2 => ?_) (fun n m => ?_)
  · rw [z04f, if_pos (decide_eq_true (Int.ofNat_lt.2 hi)), z01w hi, Option.bind_some, z209 _ _ ⟨g1, g2, h.2.2.2 _ (List.getElem_mem _)⟩, Option.bind_some, z000 (ok64i hi hn)]; rfl
  · rw [z04f, if_neg (by simp)]; rfl
noncomputable def z15f : Con := ⟨58, [.v (.sl (.s .node)) false, .v .I false], [(.I, true)], [], fun x => z0tp x.1 x.2.1⟩
theorem z1rr : z15f.Ok Tryz.prog := z00p z1hw fun x z hz => by
  obtain ⟨h, e⟩ := z00a hz
  subst e
  exact z1s9 _ _ h
def z0o5 (x : GCase) (left : Int) : Option Int := (z0i6 x.marks left).bind fun x1 => (if decide (x1 < 0) = true then (some (-1)) else ((z0vc x.busy x1).bind fun x3 => (if decide (x3 < 0) = true then (some (-1)) else ((z0i6 x.data x3).bind fun x5 => (if decide (x5 < 0) = true then (some (-1)) else ((z0z5 x.did x5).bind fun x7 => (if decide (x7 < 0) = true then (some (-1)) else (some x7))))))))
def z10r : Con := ⟨34, [.v (.s .kase) false, .v .I false], [(.I, true)], [], fun x => z0o5 x.1 x.2.1⟩
def z1ma : Fs := ⟨[z0zd, z164, z1dm], []⟩
theorem z1nx : z1ma.Ok Tryz.prog := (fsK z17y (fsK z1tl (fsK z207 fs0)))
theorem z1mz : z10r.Ok Tryz.prog := fn_ok (k := z10r) (fn := Tryz.f34) (W := []) (H := []) Tryz.func34 z1nx trivial rfl rfl (fun av x => by kernel_rfl)
noncomputable def z102 (x : GCase) (left : Int) : Option Int := @gd ((0 ≤ left) ∧ (left ≤ 1048576) ∧ (GCase.lens (· ≤ 9223372036854775807) x)) (Classical.propDecidable _) _ (some (szR left (GCase.W x)))
theorem z1wq (x : GCase) (left : Int) (h : (0 ≤ left) ∧ (left ≤ 1048576) ∧ (GCase.lens (· ≤ 9223372036854775807) x)) : z102 x left = some (szR left (GCase.W x)) := gdC h
theorem z1y4 (x : GCase) (left : Int) (h : (0 ≤ left) ∧ (left ≤ 1048576) ∧ (GCase.lens (· ≤ 9223372036854775807) x)) : z0o5 x left = some (szR left (GCase.W x)) := by
  have e : GCase.W x = (x.marks.length + (x.busy.length + (x.data.length + (x.did.length + 0)))) := by simp only [GCase.W]; omega
  rw [e]
  have g1 := h.1
  have g2 := h.2.1
  unfold z0o5
  rw [z0v8 _ _ ⟨g1, g2, h.2.2.1⟩]; refine z0ed g1 g2 fun left g1 g2 => ?_
  rw [z1po _ _ ⟨g1, g2, h.2.2.2.1⟩]; refine z0ed g1 g2 fun left g1 g2 => ?_
  rw [z0v8 _ _ ⟨g1, g2, h.2.2.2.2.1⟩]; refine z0ed g1 g2 fun left g1 g2 => ?_
  rw [z1x3 _ _ ⟨g1, g2, h.2.2.2.2.2⟩]; refine z0ed g1 g2 fun left g1 g2 => ?_
  exact z0u6 g1
noncomputable def z1d8 : Con := ⟨34, [.v (.s .kase) false, .v .I false], [(.I, true)], [], fun x => z102 x.1 x.2.1⟩
theorem z1zo : z1d8.Ok Tryz.prog := z00p z1mz fun x z hz => by
  obtain ⟨h, e⟩ := z00a hz
  subst e
  exact z1y4 _ _ h
def z0vd (x : GRun) (left : Int) : Option Int := (z102 x.case left).bind fun x1 => (if decide (x1 < 0) = true then (some (-1)) else (some x1))
def z17c : Con := ⟨125, [.v (.s .run) false, .v .I false], [(.I, true)], [], fun x => z0vd x.1 x.2.1⟩
def z1t3 : Fs := ⟨[z1d8], []⟩
theorem z1pq : z1t3.Ok Tryz.prog := (fsK z1zo fs0)
theorem z1tg : z17c.Ok Tryz.prog := fn_ok (k := z17c) (fn := Tryz.f125) (W := []) (H := []) Tryz.func125 z1pq trivial rfl rfl (fun av x => by kernel_rfl)
noncomputable def z169 (x : GRun) (left : Int) : Option Int := @gd ((0 ≤ left) ∧ (left ≤ 1048576) ∧ (GRun.lens (· ≤ 9223372036854775807) x)) (Classical.propDecidable _) _ (some (szR left (GRun.W x)))
theorem z20n (x : GRun) (left : Int) (h : (0 ≤ left) ∧ (left ≤ 1048576) ∧ (GRun.lens (· ≤ 9223372036854775807) x)) : z169 x left = some (szR left (GRun.W x)) := gdC h
theorem z21c (x : GRun) (left : Int) (h : (0 ≤ left) ∧ (left ≤ 1048576) ∧ (GRun.lens (· ≤ 9223372036854775807) x)) : z0vd x left = some (szR left (GRun.W x)) := by
  have e : GRun.W x = (GCase.W x.case + 0) := by simp only [GRun.W]; omega
  rw [e]
  have g1 := h.1
  have g2 := h.2.1
  unfold z0vd
  rw [z1wq _ _ ⟨g1, g2, h.2.2⟩]; refine z0ed g1 g2 fun left g1 g2 => ?_
  exact z0u6 g1
noncomputable def z1oy : Con := ⟨125, [.v (.s .run) false, .v .I false], [(.I, true)], [], fun x => z169 x.1 x.2.1⟩
theorem z246 : z1oy.Ok Tryz.prog := z00p z1tg fun x z hz => by
  obtain ⟨h, e⟩ := z00a hz
  subst e
  exact z21c _ _ h
def z0mx (s0_0 : Int) : Option Int := some s0_0
def z05z (l : List GRun) (kx0_0 : Int → Option Int) : Nat → Int → Int → Option Int
  | 0, _, _ => none
  | n0 + 1, s0_0, s0_1 => if decide (s0_1 < (l.length : Int)) = true then ((getI l s0_1).bind fun x4 => ((z169 x4 s0_0).bind fun x5 => (if decide (x5 < 0) = true then (some (-1)) else (gd (ok64 (s0_1 + 1)) ((z05z l kx0_0 n0) x5 (s0_1 + 1)))))) else (kx0_0 s0_0)
def z114 (l : List GRun) (left : Int) : Option Int := gd (ok64 (left - (l.length : Int))) (if decide ((left - (l.length : Int)) < 0) = true then (some (-1)) else (z05z l z0mx FUEL (left - (l.length : Int)) 0))
def z06d : Con := ⟨59, [.v (.sl (.s .run)) false, .v .I false], [(.I, true)], [], fun x => z114 x.1 x.2.1⟩
def z1mb : Fs := ⟨[z1oy], []⟩
theorem z10n : z1mb.Ok Tryz.prog := (fsK z246 fs0)
def z0sj : Tmpl := ⟨[(0, .c (.s (.s .run))), (1, .c .i), (5, .c .i)], []⟩
def z0pa : Tmpl := ⟨[(1, .c .i)], []⟩
def z1ba (av : AV) (x : HP z06d.ps) (n : Nat) (v : z0sj.den) (K : Ks (CR z06d)) : Option (CR z06d) := z05z v.1.1 (fun s0_0 => z0pa.at none ((s0_0, ()), ()) (K (.exit 0))) n v.1.2.1 v.1.2.2.1
def z0rh (av : AV) (x : HP z06d.ps) : Hdl (CR z06d) := hnd [] z0sj (z1ba av x)
theorem z1az : LP z06d Tryz.f59 [0] z0rh := lp_ok (W := []) (H := []) (xs := [z0pa]) z10n trivial rfl (fun av x v K => by kernel_rfl) (fun av x n v K => by kernel_rfl)
theorem z1mw : z06d.Ok Tryz.prog := fn_ok (k := z06d) (fn := Tryz.f59) (W := []) (H := [z0rh]) Tryz.func59 z10n ⟨z1az, trivial⟩ rfl rfl (fun av x => by kernel_rfl)
noncomputable def z0zo (l : List GRun) (left : Int) : Option Int := @gd ((0 ≤ left) ∧ (left ≤ 1048576) ∧ (l.length ≤ 9223372036854775807) ∧ (∀ y ∈ l, GRun.lens (· ≤ 9223372036854775807) y)) (Classical.propDecidable _) _ (some (szR left (l.length + sumW GRun.W l)))
theorem z1yx (l : List GRun) (left : Int) (h : (0 ≤ left) ∧ (left ≤ 1048576) ∧ (l.length ≤ 9223372036854775807) ∧ (∀ y ∈ l, GRun.lens (· ≤ 9223372036854775807) y)) : z0zo l left = some (szR left (l.length + sumW GRun.W l)) := gdC h
theorem z1xe (l : List GRun) (left : Int) (h : (0 ≤ left) ∧ (left ≤ 1048576) ∧ (l.length ≤ 9223372036854775807) ∧ (∀ y ∈ l, GRun.lens (· ≤ 9223372036854775807) y)) : z114 l left = some (szR left (l.length + sumW GRun.W l)) := by
  refine z1k9 (f := z05z l z0mx) h.1 h.2.1 h.2.2.1 (fun n i m hi hn g1 g2 => ?_) (fun n m => ?_)
  · rw [z05z, if_pos (decide_eq_true (Int.ofNat_lt.2 hi)), z01w hi, Option.bind_some, z20n _ _ ⟨g1, g2, h.2.2.2 _ (List.getElem_mem _)⟩, Option.bind_some, z000 (ok64i hi hn)]; rfl
  · rw [z05z, if_neg (by simp)]; rfl
noncomputable def z1ct : Con := ⟨59, [.v (.sl (.s .run)) false, .v .I false], [(.I, true)], [], fun x => z0zo x.1 x.2.1⟩
theorem z1z6 : z1ct.Ok Tryz.prog := z00p z1mw fun x z hz => by
  obtain ⟨h, e⟩ := z00a hz
  subst e
  exact z1xe _ _ h
def z0uj (x : GReq) (left : Int) : Option Int := (z0i6 x.data left).bind fun x1 => (if decide (x1 < 0) = true then (some (-1)) else (some x1))
def z177 : Con := ⟨12, [.v (.s .req) false, .v .I false], [(.I, true)], [], fun x => z0uj x.1 x.2.1⟩
def z1sl : Fs := ⟨[z0zd], []⟩
theorem z1s0 : z1sl.Ok Tryz.prog := (fsK z17y fs0)
theorem z1um : z177.Ok Tryz.prog := fn_ok (k := z177) (fn := Tryz.f12) (W := []) (H := []) Tryz.func12 z1s0 trivial rfl rfl (fun av x => by kernel_rfl)
noncomputable def z14f (x : GReq) (left : Int) : Option Int := @gd ((0 ≤ left) ∧ (left ≤ 1048576) ∧ (GReq.lens (· ≤ 9223372036854775807) x)) (Classical.propDecidable _) _ (some (szR left (GReq.W x)))
theorem z20b (x : GReq) (left : Int) (h : (0 ≤ left) ∧ (left ≤ 1048576) ∧ (GReq.lens (· ≤ 9223372036854775807) x)) : z14f x left = some (szR left (GReq.W x)) := gdC h
theorem z232 (x : GReq) (left : Int) (h : (0 ≤ left) ∧ (left ≤ 1048576) ∧ (GReq.lens (· ≤ 9223372036854775807) x)) : z0uj x left = some (szR left (GReq.W x)) := by
  have e : GReq.W x = (x.data.length + 0) := by simp only [GReq.W]; omega
  rw [e]
  have g1 := h.1
  have g2 := h.2.1
  unfold z0uj
  rw [z0v8 _ _ ⟨g1, g2, h.2.2⟩]; refine z0ed g1 g2 fun left g1 g2 => ?_
  exact z0u6 g1
noncomputable def z1og : Con := ⟨12, [.v (.s .req) false, .v .I false], [(.I, true)], [], fun x => z14f x.1 x.2.1⟩
theorem z21g : z1og.Ok Tryz.prog := z00p z1um fun x z hz => by
  obtain ⟨h, e⟩ := z00a hz
  subst e
  exact z232 _ _ h
def z0nb (s0_0 : Int) : Option Int := some s0_0
def z05w (l : List GReq) (kx0_0 : Int → Option Int) : Nat → Int → Int → Option Int
  | 0, _, _ => none
  | n0 + 1, s0_0, s0_1 => if decide (s0_1 < (l.length : Int)) = true then ((getI l s0_1).bind fun x4 => ((z14f x4 s0_0).bind fun x5 => (if decide (x5 < 0) = true then (some (-1)) else (gd (ok64 (s0_1 + 1)) ((z05w l kx0_0 n0) x5 (s0_1 + 1)))))) else (kx0_0 s0_0)
def z11k (l : List GReq) (left : Int) : Option Int := gd (ok64 (left - (l.length : Int))) (if decide ((left - (l.length : Int)) < 0) = true then (some (-1)) else (z05w l z0nb FUEL (left - (l.length : Int)) 0))
def z06i : Con := ⟨22, [.v (.sl (.s .req)) false, .v .I false], [(.I, true)], [], fun x => z11k x.1 x.2.1⟩
def z1nl : Fs := ⟨[z1og], []⟩
theorem z10q : z1nl.Ok Tryz.prog := (fsK z21g fs0)
def z0sc : Tmpl := ⟨[(0, .c (.s (.s .req))), (1, .c .i), (5, .c .i)], []⟩
def z0px : Tmpl := ⟨[(1, .c .i)], []⟩
def z1c1 (av : AV) (x : HP z06i.ps) (n : Nat) (v : z0sc.den) (K : Ks (CR z06i)) : Option (CR z06i) := z05w v.1.1 (fun s0_0 => z0px.at none ((s0_0, ()), ()) (K (.exit 0))) n v.1.2.1 v.1.2.2.1
def z0rk (av : AV) (x : HP z06i.ps) : Hdl (CR z06i) := hnd [] z0sc (z1c1 av x)
theorem z1bz : LP z06i Tryz.f22 [0] z0rk := lp_ok (W := []) (H := []) (xs := [z0px]) z10q trivial rfl (fun av x v K => by kernel_rfl) (fun av x n v K => by kernel_rfl)
theorem z1me : z06i.Ok Tryz.prog := fn_ok (k := z06i) (fn := Tryz.f22) (W := []) (H := [z0rk]) Tryz.func22 z10q ⟨z1bz, trivial⟩ rfl rfl (fun av x => by kernel_rfl)
noncomputable def z104 (l : List GReq) (left : Int) : Option Int := @gd ((0 ≤ left) ∧ (left ≤ 1048576) ∧ (l.length ≤ 9223372036854775807) ∧ (∀ y ∈ l, GReq.lens (· ≤ 9223372036854775807) y)) (Classical.propDecidable _) _ (some (szR left (l.length + sumW GReq.W l)))
theorem z1xc (l : List GReq) (left : Int) (h : (0 ≤ left) ∧ (left ≤ 1048576) ∧ (l.length ≤ 9223372036854775807) ∧ (∀ y ∈ l, GReq.lens (· ≤ 9223372036854775807) y)) : z104 l left = some (szR left (l.length + sumW GReq.W l)) := gdC h
theorem z1zz (l : List GReq) (left : Int) (h : (0 ≤ left) ∧ (left ≤ 1048576) ∧ (l.length ≤ 9223372036854775807) ∧ (∀ y ∈ l, GReq.lens (· ≤ 9223372036854775807) y)) : z11k l left = some (szR left (l.length + sumW GReq.W l)) := by
  refine z1k9 (f := z05w l z0nb) h.1 h.2.1 h.2.2.1 (fun n i m hi hn g1 g2 => ?_) (fun n m => ?_)
  · rw [z05w, if_pos (decide_eq_true (Int.ofNat_lt.2 hi)), z01w hi, Option.bind_some, z20b _ _ ⟨g1, g2, h.2.2.2 _ (List.getElem_mem _)⟩, Option.bind_some, z000 (ok64i hi hn)]; rfl
  · rw [z05w, if_neg (by simp)]; rfl
noncomputable def z1d7 : Con := ⟨22, [.v (.sl (.s .req)) false, .v .I false], [(.I, true)], [], fun x => z104 x.1 x.2.1⟩
theorem z1xg : z1d7.Ok Tryz.prog := z00p z1me fun x z hz => by
  obtain ⟨h, e⟩ := z00a hz
  subst e
  exact z1zz _ _ h
def z0iq (x : GHouse) (left : Int) : Option Int := (z0zi x.nets left).bind fun x1 => (if decide (x1 < 0) = true then (some (-1)) else ((z0i6 x.people x1).bind fun x3 => (if decide (x3 < 0) = true then (some (-1)) else ((z0tp x.tree x3).bind fun x5 => (if decide (x5 < 0) = true then (some (-1)) else ((z0zo x.runs x5).bind fun x7 => (if decide (x7 < 0) = true then (some (-1)) else (some x7))))))))
def z0w1 : Con := ⟨11, [.v (.s .house) false, .v .I false], [(.I, true)], [], fun x => z0iq x.1 x.2.1⟩
def z1e6 : Fs := ⟨[z1cz, z0zd, z15f, z1ct], []⟩
theorem z1i8 : z1e6.Ok Tryz.prog := (fsK z20a (fsK z17y (fsK z1rr (fsK z1z6 fs0))))
theorem z1dy : z0w1.Ok Tryz.prog := fn_ok (k := z0w1) (fn := Tryz.f11) (W := []) (H := []) Tryz.func11 z1i8 trivial rfl rfl (fun av x => by kernel_rfl)
noncomputable def z0tq (x : GHouse) (left : Int) : Option Int := @gd ((0 ≤ left) ∧ (left ≤ 1048576) ∧ (GHouse.lens (· ≤ 9223372036854775807) x)) (Classical.propDecidable _) _ (some (szR left (GHouse.W x)))
theorem z1sf (x : GHouse) (left : Int) (h : (0 ≤ left) ∧ (left ≤ 1048576) ∧ (GHouse.lens (· ≤ 9223372036854775807) x)) : z0tq x left = some (szR left (GHouse.W x)) := gdC h
theorem z1ux (x : GHouse) (left : Int) (h : (0 ≤ left) ∧ (left ≤ 1048576) ∧ (GHouse.lens (· ≤ 9223372036854775807) x)) : z0iq x left = some (szR left (GHouse.W x)) := by
  have e : GHouse.W x = ((x.nets.length + sumW GNet.W x.nets) + (x.people.length + ((x.tree.length + sumW GNode.W x.tree) + ((x.runs.length + sumW GRun.W x.runs) + 0)))) := by simp only [GHouse.W]; omega
  rw [e]
  have g1 := h.1
  have g2 := h.2.1
  unfold z0iq
  rw [z1zd _ _ ⟨g1, g2, h.2.2.1.1, h.2.2.1.2⟩]; refine z0ed g1 g2 fun left g1 g2 => ?_
  rw [z0v8 _ _ ⟨g1, g2, h.2.2.2.1⟩]; refine z0ed g1 g2 fun left g1 g2 => ?_
  rw [z1ry _ _ ⟨g1, g2, h.2.2.2.2.1.1, h.2.2.2.2.1.2⟩]; refine z0ed g1 g2 fun left g1 g2 => ?_
  rw [z1yx _ _ ⟨g1, g2, h.2.2.2.2.2.1, h.2.2.2.2.2.2⟩]; refine z0ed g1 g2 fun left g1 g2 => ?_
  exact z0u6 g1
noncomputable def z15y : Con := ⟨11, [.v (.s .house) false, .v .I false], [(.I, true)], [], fun x => z0tq x.1 x.2.1⟩
theorem z1pz : z15y.Ok Tryz.prog := z00p z1dy fun x z hz => by
  obtain ⟨h, e⟩ := z00a hz
  subst e
  exact z1ux _ _ h
def z10z (l0_1 : List Int) : Option (List Int) := some l0_1
def z09z (l : List Int) (kx0_0 : List Int → Option (List Int)) : Nat → Int → List Int → Option (List Int)
  | 0, _, _ => none
  | n0 + 1, s0_0, l0_1 => if decide (s0_0 < (l.length : Int)) = true then ((getI l s0_0).bind fun x3 => ((getI l0_1 s0_0).bind fun x4 => (gd (ok64 (s0_0 + 1)) ((z09z l kx0_0 n0) (s0_0 + 1) (l0_1.set s0_0.toNat x3))))) else (kx0_0 l0_1)
def z1o6 (l : List Int) : Option (List Int) := gd ((0 : Int) ≤ (l.length : Int) ∧ (l.length : Int) ≤ (1000000000 : Int)) (z09z l z10z FUEL 0 (List.replicate (l.length : Int).toNat (0 : Int)))
def z0cd : Con := ⟨37, [.v (.sl .I) false], [((.sl .I), true)], [], fun x => z1o6 x.1⟩
def z244 : Fs := ⟨[], []⟩
theorem z1ku : z244.Ok Tryz.prog := fs0
def z14c : Tmpl := ⟨[(0, .c (.s .I)), (3, .c (.ref 7)), (4, .c .i)], [(7, .arr .I true)]⟩
def z10i : Tmpl := ⟨[(3, .c (.ref 7))], [(7, .arr .I true)]⟩
def z1qm (av : AV) (x : HP z0cd.ps) (n : Nat) (v : z14c.den) (K : Ks (CR z0cd)) : Option (CR z0cd) := z09z v.1.1 (fun l0_1 => z10i.at none (((), ()), (l0_1, ())) (K (.exit 0))) n v.1.2.2.1 v.2.1
def z178 (av : AV) (x : HP z0cd.ps) : Hdl (CR z0cd) := hnd [] z14c (z1qm av x)
theorem z1t4 : LP z0cd Tryz.f37 [0] z178 := lp_ok (W := []) (H := []) (xs := [z10i]) z1ku trivial rfl (fun av x v K => by kernel_rfl) (fun av x n v K => by kernel_rfl)
theorem z20r : z0cd.Ok Tryz.prog := fn_ok (k := z0cd) (fn := Tryz.f37) (W := []) (H := [z178]) Tryz.func37 z1ku ⟨z1t4, trivial⟩ rfl rfl (fun av x => by kernel_rfl)
noncomputable def z0it (l : List Int) : Option (List Int) := @gd ((l.length ≤ 1048576)) (Classical.propDecidable _) _ (some l)
theorem z0ur (l : List Int) (h : (l.length ≤ 1048576)) : z0it l = some l := gdC h
theorem z28e (l : List Int) (h : (l.length ≤ 1048576)) : z1o6 l = some l := by
  refine (z000 (toOk h)).trans ?_
  have hl := h
  refine z1ha (f := z09z l z10z) (by omega) (fun n i acc hi ha => ?_) (fun n acc => ?_)
  · rw [z09z, if_pos (decide_eq_true (Int.ofNat_lt.2 hi)), z01w hi, Option.bind_some, z01w (by omega), Option.bind_some, z000 (ok64i hi h)]; rfl
  · rw [z09z, if_neg (by simp)]; rfl
noncomputable def z0z2 : Con := ⟨37, [.v (.sl .I) false], [((.sl .I), true)], [], fun x => z0it x.1⟩
theorem z152 : z0z2.Ok Tryz.prog := z00p z20r fun x z hz => by
  obtain ⟨h, e⟩ := z00a hz
  subst e
  exact z28e _ h
def z18r (x : GAsk) : Option GAsk := some x
def z14g : Con := ⟨65, [.v (.s .ask) false], [((.s .ask), true)], [], fun x => z18r x.1⟩
def z1rw : Fs := ⟨[], []⟩
theorem z1sn : z1rw.Ok Tryz.prog := fs0
theorem z1uc : z14g.Ok Tryz.prog := fn_ok (k := z14g) (fn := Tryz.f65) (W := []) (H := []) Tryz.func65 z1sn trivial rfl rfl (fun av x => by kernel_rfl)
noncomputable def z0m1 (x : GAsk) : Option GAsk := @gd (True) (Classical.propDecidable _) _ (some x)
theorem z16p (x : GAsk) (h : True) : z0m1 x = some x := gdC h
theorem z20x (x : GAsk) (h : True) : z18r x = some x := by
  rfl
noncomputable def z0xg : Con := ⟨65, [.v (.s .ask) false], [((.s .ask), true)], [], fun x => z0m1 x.1⟩
theorem z158 : z0xg.Ok Tryz.prog := z00p z1uc fun x z hz => by
  obtain ⟨h, e⟩ := z00a hz
  subst e
  exact z20x _ h
def z0lf (x : GFlow) : Option GFlow := (z0m1 x.if_).bind fun x1 => (some (GFlow.mk x.to x1))
def z10s : Con := ⟨229, [.v (.s .flow) false], [((.s .flow), true)], [], fun x => z0lf x.1⟩
def z1mg : Fs := ⟨[z0xg], []⟩
theorem z1ky : z1mg.Ok Tryz.prog := (fsK z158 fs0)
theorem z1nh : z10s.Ok Tryz.prog := fn_ok (k := z10s) (fn := Tryz.f229) (W := []) (H := []) Tryz.func229 z1ky trivial rfl rfl (fun av x => by kernel_rfl)
noncomputable def z0zu (x : GFlow) : Option GFlow := @gd (True) (Classical.propDecidable _) _ (some x)
theorem z1z8 (x : GFlow) (h : True) : z0zu x = some x := gdC h
theorem z1z7 (x : GFlow) (h : True) : z0lf x = some x := by
  rw [z0lf, z16p _ trivial, Option.bind_some]
noncomputable def z1d2 : Con := ⟨229, [.v (.s .flow) false], [((.s .flow), true)], [], fun x => z0zu x.1⟩
theorem z1zy : z1d2.Ok Tryz.prog := z00p z1nh fun x z hz => by
  obtain ⟨h, e⟩ := z00a hz
  subst e
  exact z1z7 _ h
def z0kd (l0_1 : List GFlow) : Option (List GFlow) := some l0_1
def z04c (l : List GFlow) (kx0_0 : List GFlow → Option (List GFlow)) : Nat → Int → List GFlow → Option (List GFlow)
  | 0, _, _ => none
  | n0 + 1, s0_0, l0_1 => if decide (s0_0 < (l.length : Int)) = true then ((getI l s0_0).bind fun x3 => ((z0zu x3).bind fun x4 => ((getI l0_1 s0_0).bind fun x5 => (gd (ok64 (s0_0 + 1)) ((z04c l kx0_0 n0) (s0_0 + 1) (l0_1.set s0_0.toNat x4)))))) else (kx0_0 l0_1)
def z0xw (l : List GFlow) : Option (List GFlow) := gd ((0 : Int) ≤ (l.length : Int) ∧ (l.length : Int) ≤ (1000000000 : Int)) (z04c l z0kd FUEL 0 (List.replicate (l.length : Int).toNat GFlow.zero))
def z04z : Con := ⟨216, [.v (.sl (.s .flow)) false], [((.sl (.s .flow)), true)], [], fun x => z0xw x.1⟩
def z1ic : Fs := ⟨[z1d2], []⟩
theorem z0wm : z1ic.Ok Tryz.prog := (fsK z1zy fs0)
def z0ph : Tmpl := ⟨[(0, .c (.s (.s .flow))), (3, .c (.ref 7)), (4, .c .i)], [(7, .arr (.s .flow) true)]⟩
def z0jp : Tmpl := ⟨[(3, .c (.ref 7))], [(7, .arr (.s .flow) true)]⟩
def z17a (av : AV) (x : HP z04z.ps) (n : Nat) (v : z0ph.den) (K : Ks (CR z04z)) : Option (CR z04z) := z04c v.1.1 (fun l0_1 => z0jp.at none (((), ()), (l0_1, ())) (K (.exit 0))) n v.1.2.2.1 v.2.1
def z0p3 (av : AV) (x : HP z04z.ps) : Hdl (CR z04z) := hnd [] z0ph (z17a av x)
theorem z15x : LP z04z Tryz.f216 [0] z0p3 := lp_ok (W := []) (H := []) (xs := [z0jp]) z0wm trivial rfl (fun av x v K => by kernel_rfl) (fun av x n v K => by kernel_rfl)
theorem z1hd : z04z.Ok Tryz.prog := fn_ok (k := z04z) (fn := Tryz.f216) (W := []) (H := [z0p3]) Tryz.func216 z0wm ⟨z15x, trivial⟩ rfl rfl (fun av x => by kernel_rfl)
noncomputable def z0tr (l : List GFlow) : Option (List GFlow) := @gd ((l.length ≤ 1048576)) (Classical.propDecidable _) _ (some l)
theorem z1ul (l : List GFlow) (h : (l.length ≤ 1048576)) : z0tr l = some l := gdC h
theorem z1rx (l : List GFlow) (h : (l.length ≤ 1048576)) : z0xw l = some l := by
  refine (z000 (toOk h)).trans ?_
  have hl := h
  refine z1ha (f := z04c l z0kd) (by omega) (fun n i acc hi ha => ?_) (fun n acc => ?_)
  · rw [z04c, if_pos (decide_eq_true (Int.ofNat_lt.2 hi)), z01w hi, Option.bind_some, z1z8 _ trivial, Option.bind_some, z01w (by omega), Option.bind_some, z000 (ok64i hi h)]; rfl
  · rw [z04c, if_neg (by simp)]; rfl
noncomputable def z17i : Con := ⟨216, [.v (.sl (.s .flow)) false], [((.sl (.s .flow)), true)], [], fun x => z0tr x.1⟩
theorem z1ss : z17i.Ok Tryz.prog := z00p z1hd fun x z hz => by
  obtain ⟨h, e⟩ := z00a hz
  subst e
  exact z1rx _ h
def z0lg (x : GTask) : Option GTask := (z0it x.in_).bind fun x1 => ((z0tr x.out).bind fun x2 => ((z0it x.clear).bind fun x3 => (some (GTask.mk x.join x.split x1 x2 x3 x.role x.apart x.all x.need))))
def z11u : Con := ⟨175, [.v (.s .task) false], [((.s .task), true)], [], fun x => z0lg x.1⟩
def z1oz : Fs := ⟨[z0z2, z17i], []⟩
theorem z1ji : z1oz.Ok Tryz.prog := (fsK z152 (fsK z1ss fs0))
theorem z1j2 : z11u.Ok Tryz.prog := fn_ok (k := z11u) (fn := Tryz.f175) (W := []) (H := []) Tryz.func175 z1ji trivial rfl rfl (fun av x => by kernel_rfl)
noncomputable def z0zg (x : GTask) : Option GTask := @gd ((GTask.lens (· ≤ 1048576) x)) (Classical.propDecidable _) _ (some x)
theorem z1yu (x : GTask) (h : (GTask.lens (· ≤ 1048576) x)) : z0zg x = some x := gdC h
theorem z1z4 (x : GTask) (h : (GTask.lens (· ≤ 1048576) x)) : z0lg x = some x := by
  rw [z0lg, z0ur _ h.1, Option.bind_some, z1ul _ h.2.1, Option.bind_some, z0ur _ h.2.2, Option.bind_some]
noncomputable def z1dg : Con := ⟨175, [.v (.s .task) false], [((.s .task), true)], [], fun x => z0zg x.1⟩
theorem z1x9 : z1dg.Ok Tryz.prog := z00p z1j2 fun x z hz => by
  obtain ⟨h, e⟩ := z00a hz
  subst e
  exact z1z4 _ h
def z0js (l0_1 : List GTask) : Option (List GTask) := some l0_1
def z04b (l : List GTask) (kx0_0 : List GTask → Option (List GTask)) : Nat → Int → List GTask → Option (List GTask)
  | 0, _, _ => none
  | n0 + 1, s0_0, l0_1 => if decide (s0_0 < (l.length : Int)) = true then ((getI l s0_0).bind fun x3 => ((z0zg x3).bind fun x4 => ((getI l0_1 s0_0).bind fun x5 => (gd (ok64 (s0_0 + 1)) ((z04b l kx0_0 n0) (s0_0 + 1) (l0_1.set s0_0.toNat x4)))))) else (kx0_0 l0_1)
def z0we (l : List GTask) : Option (List GTask) := gd ((0 : Int) ≤ (l.length : Int) ∧ (l.length : Int) ≤ (1000000000 : Int)) (z04b l z0js FUEL 0 (List.replicate (l.length : Int).toNat GTask.zero))
def z04u : Con := ⟨102, [.v (.sl (.s .task)) false], [((.sl (.s .task)), true)], [], fun x => z0we x.1⟩
def z1ix : Fs := ⟨[z1dg], []⟩
theorem z0xr : z1ix.Ok Tryz.prog := (fsK z1x9 fs0)
def z0os : Tmpl := ⟨[(0, .c (.s (.s .task))), (3, .c (.ref 7)), (4, .c .i)], [(7, .arr (.s .task) true)]⟩
def z0km : Tmpl := ⟨[(3, .c (.ref 7))], [(7, .arr (.s .task) true)]⟩
def z13w (av : AV) (x : HP z04u.ps) (n : Nat) (v : z0os.den) (K : Ks (CR z04u)) : Option (CR z04u) := z04b v.1.1 (fun l0_1 => z0km.at none (((), ()), (l0_1, ())) (K (.exit 0))) n v.1.2.2.1 v.2.1
def z0p1 (av : AV) (x : HP z04u.ps) : Hdl (CR z04u) := hnd [] z0os (z13w av x)
theorem z15a : LP z04u Tryz.f102 [0] z0p1 := lp_ok (W := []) (H := []) (xs := [z0km]) z0xr trivial rfl (fun av x v K => by kernel_rfl) (fun av x n v K => by kernel_rfl)
theorem z1e4 : z04u.Ok Tryz.prog := fn_ok (k := z04u) (fn := Tryz.f102) (W := []) (H := [z0p1]) Tryz.func102 z0xr ⟨z15a, trivial⟩ rfl rfl (fun av x => by kernel_rfl)
noncomputable def z0uc (l : List GTask) : Option (List GTask) := @gd ((l.length ≤ 1048576) ∧ (∀ y ∈ l, GTask.lens (· ≤ 1048576) y)) (Classical.propDecidable _) _ (some l)
theorem z1qp (l : List GTask) (h : (l.length ≤ 1048576) ∧ (∀ y ∈ l, GTask.lens (· ≤ 1048576) y)) : z0uc l = some l := gdC h
theorem z1ql (l : List GTask) (h : (l.length ≤ 1048576) ∧ (∀ y ∈ l, GTask.lens (· ≤ 1048576) y)) : z0we l = some l := by
  refine (z000 (toOk h.1)).trans ?_
  have hl := h.1
  refine z1ha (f := z04b l z0js) (by omega) (fun n i acc hi ha => ?_) (fun n acc => ?_)
  · rw [z04b, if_pos (decide_eq_true (Int.ofNat_lt.2 hi)), z01w hi, Option.bind_some, z1yu _ (h.2 _ (List.getElem_mem _)), Option.bind_some, z01w (by omega), Option.bind_some, z000 (ok64i hi h.1)]; rfl
  · rw [z04b, if_neg (by simp)]; rfl
noncomputable def z15l : Con := ⟨102, [.v (.sl (.s .task)) false], [((.sl (.s .task)), true)], [], fun x => z0uc x.1⟩
theorem z1rh : z15l.Ok Tryz.prog := z00p z1e4 fun x z hz => by
  obtain ⟨h, e⟩ := z00a hz
  subst e
  exact z1ql _ h
def z0ut (x : GNet) : Option GNet := (z0uc x.tasks).bind fun x1 => (some (GNet.mk x.places x1))
def z15b : Con := ⟨36, [.v (.s .net) false], [((.s .net), true)], [], fun x => z0ut x.1⟩
def z1ut : Fs := ⟨[z15l], []⟩
theorem z1ur : z1ut.Ok Tryz.prog := (fsK z1rh fs0)
theorem z1ty : z15b.Ok Tryz.prog := fn_ok (k := z15b) (fn := Tryz.f36) (W := []) (H := []) Tryz.func36 z1ur trivial rfl rfl (fun av x => by kernel_rfl)
noncomputable def z17n (x : GNet) : Option GNet := @gd ((GNet.lens (· ≤ 1048576) x)) (Classical.propDecidable _) _ (some x)
theorem z20p (x : GNet) (h : (GNet.lens (· ≤ 1048576) x)) : z17n x = some x := gdC h
theorem z22l (x : GNet) (h : (GNet.lens (· ≤ 1048576) x)) : z0ut x = some x := by
  rw [z0ut, z1qp _ ⟨h.1, h.2⟩, Option.bind_some]
noncomputable def z1j8 : Con := ⟨36, [.v (.s .net) false], [((.s .net), true)], [], fun x => z17n x.1⟩
theorem z23f : z1j8.Ok Tryz.prog := z00p z1ty fun x z hz => by
  obtain ⟨h, e⟩ := z00a hz
  subst e
  exact z22l _ h
def z0le (l0_1 : List GNet) : Option (List GNet) := some l0_1
def z066 (l : List GNet) (kx0_0 : List GNet → Option (List GNet)) : Nat → Int → List GNet → Option (List GNet)
  | 0, _, _ => none
  | n0 + 1, s0_0, l0_1 => if decide (s0_0 < (l.length : Int)) = true then ((getI l s0_0).bind fun x3 => ((z17n x3).bind fun x4 => ((getI l0_1 s0_0).bind fun x5 => (gd (ok64 (s0_0 + 1)) ((z066 l kx0_0 n0) (s0_0 + 1) (l0_1.set s0_0.toNat x4)))))) else (kx0_0 l0_1)
def z122 (l : List GNet) : Option (List GNet) := gd ((0 : Int) ≤ (l.length : Int) ∧ (l.length : Int) ≤ (1000000000 : Int)) (z066 l z0le FUEL 0 (List.replicate (l.length : Int).toNat GNet.zero))
def z06l : Con := ⟨49, [.v (.sl (.s .net)) false], [((.sl (.s .net)), true)], [], fun x => z122 x.1⟩
def z1k5 : Fs := ⟨[z1j8], []⟩
theorem z10h : z1k5.Ok Tryz.prog := (fsK z23f fs0)
def z0rn : Tmpl := ⟨[(0, .c (.s (.s .net))), (3, .c (.ref 7)), (4, .c .i)], [(7, .arr (.s .net) true)]⟩
def z0nq : Tmpl := ⟨[(3, .c (.ref 7))], [(7, .arr (.s .net) true)]⟩
def z1bn (av : AV) (x : HP z06l.ps) (n : Nat) (v : z0rn.den) (K : Ks (CR z06l)) : Option (CR z06l) := z066 v.1.1 (fun l0_1 => z0nq.at none (((), ()), (l0_1, ())) (K (.exit 0))) n v.1.2.2.1 v.2.1
def z0sy (av : AV) (x : HP z06l.ps) : Hdl (CR z06l) := hnd [] z0rn (z1bn av x)
theorem z19k : LP z06l Tryz.f49 [0] z0sy := lp_ok (W := []) (H := []) (xs := [z0nq]) z10h trivial rfl (fun av x v K => by kernel_rfl) (fun av x n v K => by kernel_rfl)
theorem z1o4 : z06l.Ok Tryz.prog := fn_ok (k := z06l) (fn := Tryz.f49) (W := []) (H := [z0sy]) Tryz.func49 z10h ⟨z19k, trivial⟩ rfl rfl (fun av x => by kernel_rfl)
noncomputable def z0zv (l : List GNet) : Option (List GNet) := @gd ((l.length ≤ 1048576) ∧ (∀ y ∈ l, GNet.lens (· ≤ 1048576) y)) (Classical.propDecidable _) _ (some l)
theorem z1y3 (l : List GNet) (h : (l.length ≤ 1048576) ∧ (∀ y ∈ l, GNet.lens (· ≤ 1048576) y)) : z0zv l = some l := gdC h
theorem z1yg (l : List GNet) (h : (l.length ≤ 1048576) ∧ (∀ y ∈ l, GNet.lens (· ≤ 1048576) y)) : z122 l = some l := by
  refine (z000 (toOk h.1)).trans ?_
  have hl := h.1
  refine z1ha (f := z066 l z0le) (by omega) (fun n i acc hi ha => ?_) (fun n acc => ?_)
  · rw [z066, if_pos (decide_eq_true (Int.ofNat_lt.2 hi)), z01w hi, Option.bind_some, z20p _ (h.2 _ (List.getElem_mem _)), Option.bind_some, z01w (by omega), Option.bind_some, z000 (ok64i hi h.1)]; rfl
  · rw [z066, if_neg (by simp)]; rfl
noncomputable def z1dj : Con := ⟨49, [.v (.sl (.s .net)) false], [((.sl (.s .net)), true)], [], fun x => z0zv x.1⟩
theorem z1ye : z1dj.Ok Tryz.prog := z00p z1o4 fun x z hz => by
  obtain ⟨h, e⟩ := z00a hz
  subst e
  exact z1yg _ h
def z11w (x : GItem) : Option GItem := some x
def z12n : Con := ⟨176, [.v (.s .item) false], [((.s .item), true)], [], fun x => z11w x.1⟩
def z1o1 : Fs := ⟨[], []⟩
theorem z1p3 : z1o1.Ok Tryz.prog := fs0
theorem z1p1 : z12n.Ok Tryz.prog := fn_ok (k := z12n) (fn := Tryz.f176) (W := []) (H := []) Tryz.func176 z1p3 trivial rfl rfl (fun av x => by kernel_rfl)
noncomputable def z0z8 (x : GItem) : Option GItem := @gd (True) (Classical.propDecidable _) _ (some x)
theorem z1ym (x : GItem) (h : True) : z0z8 x = some x := gdC h
theorem z1xp (x : GItem) (h : True) : z11w x = some x := by
  rfl
noncomputable def z1d6 : Con := ⟨176, [.v (.s .item) false], [((.s .item), true)], [], fun x => z0z8 x.1⟩
theorem z1zw : z1d6.Ok Tryz.prog := z00p z1p1 fun x z hz => by
  obtain ⟨h, e⟩ := z00a hz
  subst e
  exact z1xp _ h
def z0kq (l0_1 : List GItem) : Option (List GItem) := some l0_1
def z044 (l : List GItem) (kx0_0 : List GItem → Option (List GItem)) : Nat → Int → List GItem → Option (List GItem)
  | 0, _, _ => none
  | n0 + 1, s0_0, l0_1 => if decide (s0_0 < (l.length : Int)) = true then ((getI l s0_0).bind fun x3 => ((z0z8 x3).bind fun x4 => ((getI l0_1 s0_0).bind fun x5 => (gd (ok64 (s0_0 + 1)) ((z044 l kx0_0 n0) (s0_0 + 1) (l0_1.set s0_0.toNat x4)))))) else (kx0_0 l0_1)
def z0yl (l : List GItem) : Option (List GItem) := gd ((0 : Int) ≤ (l.length : Int) ∧ (l.length : Int) ≤ (1000000000 : Int)) (z044 l z0kq FUEL 0 (List.replicate (l.length : Int).toNat GItem.zero))
def z04k : Con := ⟨103, [.v (.sl (.s .item)) false], [((.sl (.s .item)), true)], [], fun x => z0yl x.1⟩
def z1ih : Fs := ⟨[z1d6], []⟩
theorem z0yo : z1ih.Ok Tryz.prog := (fsK z1zw fs0)
def z0lq : Tmpl := ⟨[(0, .c (.s (.s .item))), (3, .c (.ref 7)), (4, .c .i)], [(7, .arr (.s .item) true)]⟩
def z0k9 : Tmpl := ⟨[(3, .c (.ref 7))], [(7, .arr (.s .item) true)]⟩
def z19i (av : AV) (x : HP z04k.ps) (n : Nat) (v : z0lq.den) (K : Ks (CR z04k)) : Option (CR z04k) := z044 v.1.1 (fun l0_1 => z0k9.at none (((), ()), (l0_1, ())) (K (.exit 0))) n v.1.2.2.1 v.2.1
def z0lv (av : AV) (x : HP z04k.ps) : Hdl (CR z04k) := hnd [] z0lq (z19i av x)
theorem z185 : LP z04k Tryz.f103 [0] z0lv := lp_ok (W := []) (H := []) (xs := [z0k9]) z0yo trivial rfl (fun av x v K => by kernel_rfl) (fun av x n v K => by kernel_rfl)
theorem z1gx : z04k.Ok Tryz.prog := fn_ok (k := z04k) (fn := Tryz.f103) (W := []) (H := [z0lv]) Tryz.func103 z0yo ⟨z185, trivial⟩ rfl rfl (fun av x => by kernel_rfl)
noncomputable def z0un (l : List GItem) : Option (List GItem) := @gd ((l.length ≤ 1048576)) (Classical.propDecidable _) _ (some l)
theorem z1r8 (l : List GItem) (h : (l.length ≤ 1048576)) : z0un l = some l := gdC h
theorem z1td (l : List GItem) (h : (l.length ≤ 1048576)) : z0yl l = some l := by
  refine (z000 (toOk h)).trans ?_
  have hl := h
  refine z1ha (f := z044 l z0kq) (by omega) (fun n i acc hi ha => ?_) (fun n acc => ?_)
  · rw [z044, if_pos (decide_eq_true (Int.ofNat_lt.2 hi)), z01w hi, Option.bind_some, z1ym _ trivial, Option.bind_some, z01w (by omega), Option.bind_some, z000 (ok64i hi h)]; rfl
  · rw [z044, if_neg (by simp)]; rfl
noncomputable def z18n : Con := ⟨103, [.v (.sl (.s .item)) false], [((.sl (.s .item)), true)], [], fun x => z0un x.1⟩
theorem z1pr : z18n.Ok Tryz.prog := z00p z1gx fun x z hz => by
  obtain ⟨h, e⟩ := z00a hz
  subst e
  exact z1td _ h
def z15m (x : GDid) : Option GDid := some x
def z15t : Con := ⟨177, [.v (.s .did) false], [((.s .did), true)], [], fun x => z15m x.1⟩
def z1r9 : Fs := ⟨[], []⟩
theorem z1ra : z1r9.Ok Tryz.prog := fs0
theorem z1sb : z15t.Ok Tryz.prog := fn_ok (k := z15t) (fn := Tryz.f177) (W := []) (H := []) Tryz.func177 z1ra trivial rfl rfl (fun av x => by kernel_rfl)
noncomputable def z14p (x : GDid) : Option GDid := @gd (True) (Classical.propDecidable _) _ (some x)
theorem z23i (x : GDid) (h : True) : z14p x = some x := gdC h
theorem z20u (x : GDid) (h : True) : z15m x = some x := by
  rfl
noncomputable def z1m7 : Con := ⟨177, [.v (.s .did) false], [((.s .did), true)], [], fun x => z14p x.1⟩
theorem z211 : z1m7.Ok Tryz.prog := z00p z1sb fun x z hz => by
  obtain ⟨h, e⟩ := z00a hz
  subst e
  exact z20u _ h
def z0on (l0_1 : List GDid) : Option (List GDid) := some l0_1
def z062 (l : List GDid) (kx0_0 : List GDid → Option (List GDid)) : Nat → Int → List GDid → Option (List GDid)
  | 0, _, _ => none
  | n0 + 1, s0_0, l0_1 => if decide (s0_0 < (l.length : Int)) = true then ((getI l s0_0).bind fun x3 => ((z14p x3).bind fun x4 => ((getI l0_1 s0_0).bind fun x5 => (gd (ok64 (s0_0 + 1)) ((z062 l kx0_0 n0) (s0_0 + 1) (l0_1.set s0_0.toNat x4)))))) else (kx0_0 l0_1)
def z11e (l : List GDid) : Option (List GDid) := gd ((0 : Int) ≤ (l.length : Int) ∧ (l.length : Int) ≤ (1000000000 : Int)) (z062 l z0on FUEL 0 (List.replicate (l.length : Int).toNat GDid.zero))
def z06n : Con := ⟨104, [.v (.sl (.s .did)) false], [((.sl (.s .did)), true)], [], fun x => z11e x.1⟩
def z1jj : Fs := ⟨[z1m7], []⟩
theorem z10u : z1jj.Ok Tryz.prog := (fsK z211 fs0)
def z0qz : Tmpl := ⟨[(0, .c (.s (.s .did))), (3, .c (.ref 7)), (4, .c .i)], [(7, .arr (.s .did) true)]⟩
def z0pv : Tmpl := ⟨[(3, .c (.ref 7))], [(7, .arr (.s .did) true)]⟩
def z1ca (av : AV) (x : HP z06n.ps) (n : Nat) (v : z0qz.den) (K : Ks (CR z06n)) : Option (CR z06n) := z062 v.1.1 (fun l0_1 => z0pv.at none (((), ()), (l0_1, ())) (K (.exit 0))) n v.1.2.2.1 v.2.1
def z0si (av : AV) (x : HP z06n.ps) : Hdl (CR z06n) := hnd [] z0qz (z1ca av x)
theorem z1c2 : LP z06n Tryz.f104 [0] z0si := lp_ok (W := []) (H := []) (xs := [z0pv]) z10u trivial rfl (fun av x v K => by kernel_rfl) (fun av x n v K => by kernel_rfl)
theorem z1np : z06n.Ok Tryz.prog := fn_ok (k := z06n) (fn := Tryz.f104) (W := []) (H := [z0si]) Tryz.func104 z10u ⟨z1c2, trivial⟩ rfl rfl (fun av x => by kernel_rfl)
noncomputable def z0z4 (l : List GDid) : Option (List GDid) := @gd ((l.length ≤ 1048576)) (Classical.propDecidable _) _ (some l)
theorem z1yt (l : List GDid) (h : (l.length ≤ 1048576)) : z0z4 l = some l := gdC h
theorem z1yd (l : List GDid) (h : (l.length ≤ 1048576)) : z11e l = some l := by
  refine (z000 (toOk h)).trans ?_
  have hl := h
  refine z1ha (f := z062 l z0on) (by omega) (fun n i acc hi ha => ?_) (fun n acc => ?_)
  · rw [z062, if_pos (decide_eq_true (Int.ofNat_lt.2 hi)), z01w hi, Option.bind_some, z23i _ trivial, Option.bind_some, z01w (by omega), Option.bind_some, z000 (ok64i hi h)]; rfl
  · rw [z062, if_neg (by simp)]; rfl
noncomputable def z1cs : Con := ⟨104, [.v (.sl (.s .did)) false], [((.sl (.s .did)), true)], [], fun x => z0z4 x.1⟩
theorem z1zm : z1cs.Ok Tryz.prog := z00p z1np fun x z hz => by
  obtain ⟨h, e⟩ := z00a hz
  subst e
  exact z1yd _ h
def z0lp (x : GNode) : Option GNode := (z0m1 x.if_).bind fun x1 => ((z0it x.stone).bind fun x2 => (some (GNode.mk x1 x.yes x.no x.ans x2)))
def z10g : Con := ⟨135, [.v (.s .node) false], [((.s .node), true)], [], fun x => z0lp x.1⟩
def z1on : Fs := ⟨[z0xg, z0z2], []⟩
theorem z1n9 : z1on.Ok Tryz.prog := (fsK z158 (fsK z152 fs0))
theorem z1j1 : z10g.Ok Tryz.prog := fn_ok (k := z10g) (fn := Tryz.f135) (W := []) (H := []) Tryz.func135 z1n9 trivial rfl rfl (fun av x => by kernel_rfl)
noncomputable def z0zy (x : GNode) : Option GNode := @gd ((GNode.lens (· ≤ 1048576) x)) (Classical.propDecidable _) _ (some x)
theorem z1x0 (x : GNode) (h : (GNode.lens (· ≤ 1048576) x)) : z0zy x = some x := gdC h
theorem z200 (x : GNode) (h : (GNode.lens (· ≤ 1048576) x)) : z0lp x = some x := by
  rw [z0lp, z16p _ trivial, Option.bind_some, z0ur _ h, Option.bind_some]
noncomputable def z1dh : Con := ⟨135, [.v (.s .node) false], [((.s .node), true)], [], fun x => z0zy x.1⟩
theorem z1ww : z1dh.Ok Tryz.prog := z00p z1j1 fun x z hz => by
  obtain ⟨h, e⟩ := z00a hz
  subst e
  exact z200 _ h
def z0k2 (l0_1 : List GNode) : Option (List GNode) := some l0_1
def z048 (l : List GNode) (kx0_0 : List GNode → Option (List GNode)) : Nat → Int → List GNode → Option (List GNode)
  | 0, _, _ => none
  | n0 + 1, s0_0, l0_1 => if decide (s0_0 < (l.length : Int)) = true then ((getI l s0_0).bind fun x3 => ((z0zy x3).bind fun x4 => ((getI l0_1 s0_0).bind fun x5 => (gd (ok64 (s0_0 + 1)) ((z048 l kx0_0 n0) (s0_0 + 1) (l0_1.set s0_0.toNat x4)))))) else (kx0_0 l0_1)
def z0wr (l : List GNode) : Option (List GNode) := gd ((0 : Int) ≤ (l.length : Int) ∧ (l.length : Int) ≤ (1000000000 : Int)) (z048 l z0k2 FUEL 0 (List.replicate (l.length : Int).toNat GNode.zero))
def z058 : Con := ⟨63, [.v (.sl (.s .node)) false], [((.sl (.s .node)), true)], [], fun x => z0wr x.1⟩
def z1ea : Fs := ⟨[z1dh], []⟩
theorem z0yd : z1ea.Ok Tryz.prog := (fsK z1ww fs0)
def z0n1 : Tmpl := ⟨[(0, .c (.s (.s .node))), (3, .c (.ref 7)), (4, .c .i)], [(7, .arr (.s .node) true)]⟩
def z0je : Tmpl := ⟨[(3, .c (.ref 7))], [(7, .arr (.s .node) true)]⟩
def z14n (av : AV) (x : HP z058.ps) (n : Nat) (v : z0n1.den) (K : Ks (CR z058)) : Option (CR z058) := z048 v.1.1 (fun l0_1 => z0je.at none (((), ()), (l0_1, ())) (K (.exit 0))) n v.1.2.2.1 v.2.1
def z0mq (av : AV) (x : HP z058.ps) : Hdl (CR z058) := hnd [] z0n1 (z14n av x)
theorem z165 : LP z058 Tryz.f63 [0] z0mq := lp_ok (W := []) (H := []) (xs := [z0je]) z0yd trivial rfl (fun av x v K => by kernel_rfl) (fun av x n v K => by kernel_rfl)
theorem z1hg : z058.Ok Tryz.prog := fn_ok (k := z058) (fn := Tryz.f63) (W := []) (H := [z0mq]) Tryz.func63 z0yd ⟨z165, trivial⟩ rfl rfl (fun av x => by kernel_rfl)
noncomputable def z0uf (l : List GNode) : Option (List GNode) := @gd ((l.length ≤ 1048576) ∧ (∀ y ∈ l, GNode.lens (· ≤ 1048576) y)) (Classical.propDecidable _) _ (some l)
theorem z1u4 (l : List GNode) (h : (l.length ≤ 1048576) ∧ (∀ y ∈ l, GNode.lens (· ≤ 1048576) y)) : z0uf l = some l := gdC h
theorem z1u6 (l : List GNode) (h : (l.length ≤ 1048576) ∧ (∀ y ∈ l, GNode.lens (· ≤ 1048576) y)) : z0wr l = some l := by
  refine (z000 (toOk h.1)).trans ?_
  have hl := h.1
  refine z1ha (f := z048 l z0k2) (by omega) (fun n i acc hi ha => ?_) (fun n acc => ?_)
  · rw [z048, if_pos (decide_eq_true (Int.ofNat_lt.2 hi)), z01w hi, Option.bind_some, z1x0 _ (h.2 _ (List.getElem_mem _)), Option.bind_some, z01w (by omega), Option.bind_some, z000 (ok64i hi h.1)]; rfl
  · rw [z048, if_neg (by simp)]; rfl
noncomputable def z16s : Con := ⟨63, [.v (.sl (.s .node)) false], [((.sl (.s .node)), true)], [], fun x => z0uf x.1⟩
theorem z1qi : z16s.Ok Tryz.prog := z00p z1hg fun x z hz => by
  obtain ⟨h, e⟩ := z00a hz
  subst e
  exact z1u6 _ h
def z0oo (x : GCase) : Option GCase := (z0it x.marks).bind fun x1 => ((z0un x.busy).bind fun x2 => ((z0it x.data).bind fun x3 => ((z0z4 x.did).bind fun x4 => (some (GCase.mk x.state x1 x2 x3 x4)))))
def z11o : Con := ⟨38, [.v (.s .kase) false], [((.s .kase), true)], [], fun x => z0oo x.1⟩
def z1n6 : Fs := ⟨[z0z2, z18n, z1cs], []⟩
theorem z1p9 : z1n6.Ok Tryz.prog := (fsK z152 (fsK z1pr (fsK z1zm fs0)))
theorem z1p2 : z11o.Ok Tryz.prog := fn_ok (k := z11o) (fn := Tryz.f38) (W := []) (H := []) Tryz.func38 z1p9 trivial rfl rfl (fun av x => by kernel_rfl)
noncomputable def z10d (x : GCase) : Option GCase := @gd ((GCase.lens (· ≤ 1048576) x)) (Classical.propDecidable _) _ (some x)
theorem z1yw (x : GCase) (h : (GCase.lens (· ≤ 1048576) x)) : z10d x = some x := gdC h
theorem z1x4 (x : GCase) (h : (GCase.lens (· ≤ 1048576) x)) : z0oo x = some x := by
  rw [z0oo, z0ur _ h.1, Option.bind_some, z1r8 _ h.2.1, Option.bind_some, z0ur _ h.2.2.1, Option.bind_some, z1yt _ h.2.2.2, Option.bind_some]
noncomputable def z1dr : Con := ⟨38, [.v (.s .kase) false], [((.s .kase), true)], [], fun x => z10d x.1⟩
theorem z1zv : z1dr.Ok Tryz.prog := z00p z1p2 fun x z hz => by
  obtain ⟨h, e⟩ := z00a hz
  subst e
  exact z1x4 _ h
def z0vf (x : GRun) : Option GRun := (z10d x.case).bind fun x1 => (some (GRun.mk x.net x1))
def z15d : Con := ⟨136, [.v (.s .run) false], [((.s .run), true)], [], fun x => z0vf x.1⟩
def z1si : Fs := ⟨[z1dr], []⟩
theorem z1tm : z1si.Ok Tryz.prog := (fsK z1zv fs0)
theorem z1uj : z15d.Ok Tryz.prog := fn_ok (k := z15d) (fn := Tryz.f136) (W := []) (H := []) Tryz.func136 z1tm trivial rfl rfl (fun av x => by kernel_rfl)
noncomputable def z16d (x : GRun) : Option GRun := @gd ((GRun.lens (· ≤ 1048576) x)) (Classical.propDecidable _) _ (some x)
theorem z223 (x : GRun) (h : (GRun.lens (· ≤ 1048576) x)) : z16d x = some x := gdC h
theorem z215 (x : GRun) (h : (GRun.lens (· ≤ 1048576) x)) : z0vf x = some x := by
  rw [z0vf, z1yw _ h, Option.bind_some]
noncomputable def z1ot : Con := ⟨136, [.v (.s .run) false], [((.s .run), true)], [], fun x => z16d x.1⟩
theorem z22y : z1ot.Ok Tryz.prog := z00p z1uj fun x z hz => by
  obtain ⟨h, e⟩ := z00a hz
  subst e
  exact z215 _ h
def z0m6 (l0_1 : List GRun) : Option (List GRun) := some l0_1
def z068 (l : List GRun) (kx0_0 : List GRun → Option (List GRun)) : Nat → Int → List GRun → Option (List GRun)
  | 0, _, _ => none
  | n0 + 1, s0_0, l0_1 => if decide (s0_0 < (l.length : Int)) = true then ((getI l s0_0).bind fun x3 => ((z16d x3).bind fun x4 => ((getI l0_1 s0_0).bind fun x5 => (gd (ok64 (s0_0 + 1)) ((z068 l kx0_0 n0) (s0_0 + 1) (l0_1.set s0_0.toNat x4)))))) else (kx0_0 l0_1)
def z11z (l : List GRun) : Option (List GRun) := gd ((0 : Int) ≤ (l.length : Int) ∧ (l.length : Int) ≤ (1000000000 : Int)) (z068 l z0m6 FUEL 0 (List.replicate (l.length : Int).toNat GRun.zero))
def z06a : Con := ⟨64, [.v (.sl (.s .run)) false], [((.sl (.s .run)), true)], [], fun x => z11z x.1⟩
def z1nk : Fs := ⟨[z1ot], []⟩
theorem z12l : z1nk.Ok Tryz.prog := (fsK z22y fs0)
def z0rv : Tmpl := ⟨[(0, .c (.s (.s .run))), (3, .c (.ref 7)), (4, .c .i)], [(7, .arr (.s .run) true)]⟩
def z0mm : Tmpl := ⟨[(3, .c (.ref 7))], [(7, .arr (.s .run) true)]⟩
def z1b9 (av : AV) (x : HP z06a.ps) (n : Nat) (v : z0rv.den) (K : Ks (CR z06a)) : Option (CR z06a) := z068 v.1.1 (fun l0_1 => z0mm.at none (((), ()), (l0_1, ())) (K (.exit 0))) n v.1.2.2.1 v.2.1
def z0ta (av : AV) (x : HP z06a.ps) : Hdl (CR z06a) := hnd [] z0rv (z1b9 av x)
theorem z1av : LP z06a Tryz.f64 [0] z0ta := lp_ok (W := []) (H := []) (xs := [z0mm]) z12l trivial rfl (fun av x v K => by kernel_rfl) (fun av x n v K => by kernel_rfl)
theorem z1p7 : z06a.Ok Tryz.prog := fn_ok (k := z06a) (fn := Tryz.f64) (W := []) (H := [z0ta]) Tryz.func64 z12l ⟨z1av, trivial⟩ rfl rfl (fun av x => by kernel_rfl)
noncomputable def z0z6 (l : List GRun) : Option (List GRun) := @gd ((l.length ≤ 1048576) ∧ (∀ y ∈ l, GRun.lens (· ≤ 1048576) y)) (Classical.propDecidable _) _ (some l)
theorem z1yl (l : List GRun) (h : (l.length ≤ 1048576) ∧ (∀ y ∈ l, GRun.lens (· ≤ 1048576) y)) : z0z6 l = some l := gdC h
theorem z1x1 (l : List GRun) (h : (l.length ≤ 1048576) ∧ (∀ y ∈ l, GRun.lens (· ≤ 1048576) y)) : z11z l = some l := by
  refine (z000 (toOk h.1)).trans ?_
  have hl := h.1
  refine z1ha (f := z068 l z0m6) (by omega) (fun n i acc hi ha => ?_) (fun n acc => ?_)
  · rw [z068, if_pos (decide_eq_true (Int.ofNat_lt.2 hi)), z01w hi, Option.bind_some, z223 _ (h.2 _ (List.getElem_mem _)), Option.bind_some, z01w (by omega), Option.bind_some, z000 (ok64i hi h.1)]; rfl
  · rw [z068, if_neg (by simp)]; rfl
noncomputable def z1d5 : Con := ⟨64, [.v (.sl (.s .run)) false], [((.sl (.s .run)), true)], [], fun x => z0z6 x.1⟩
theorem z202 : z1d5.Ok Tryz.prog := z00p z1p7 fun x z hz => by
  obtain ⟨h, e⟩ := z00a hz
  subst e
  exact z1x1 _ h
def z0ua (x : GReq) : Option GReq := (z0it x.data).bind fun x1 => ((z0m1 x.if_).bind fun x2 => (some (GReq.mk x.kind x.who x.case x.task x.var x.num x1 x2 x.ans)))
def z15s : Con := ⟨15, [.v (.s .req) false], [((.s .req), true)], [], fun x => z0ua x.1⟩
def z1us : Fs := ⟨[z0z2, z0xg], []⟩
theorem z1t8 : z1us.Ok Tryz.prog := (fsK z152 (fsK z158 fs0))
theorem z1q0 : z15s.Ok Tryz.prog := fn_ok (k := z15s) (fn := Tryz.f15) (W := []) (H := []) Tryz.func15 z1t8 trivial rfl rfl (fun av x => by kernel_rfl)
noncomputable def z17h (x : GReq) : Option GReq := @gd ((GReq.lens (· ≤ 1048576) x)) (Classical.propDecidable _) _ (some x)
theorem z20q (x : GReq) (h : (GReq.lens (· ≤ 1048576) x)) : z17h x = some x := gdC h
theorem z220 (x : GReq) (h : (GReq.lens (· ≤ 1048576) x)) : z0ua x = some x := by
  rw [z0ua, z0ur _ h, Option.bind_some, z16p _ trivial, Option.bind_some]
noncomputable def z1ko : Con := ⟨15, [.v (.s .req) false], [((.s .req), true)], [], fun x => z17h x.1⟩
theorem z23j : z1ko.Ok Tryz.prog := z00p z1q0 fun x z hz => by
  obtain ⟨h, e⟩ := z00a hz
  subst e
  exact z220 _ h
def z0m8 (l0_1 : List GReq) : Option (List GReq) := some l0_1
def z05p (l : List GReq) (kx0_0 : List GReq → Option (List GReq)) : Nat → Int → List GReq → Option (List GReq)
  | 0, _, _ => none
  | n0 + 1, s0_0, l0_1 => if decide (s0_0 < (l.length : Int)) = true then ((getI l s0_0).bind fun x3 => ((z17h x3).bind fun x4 => ((getI l0_1 s0_0).bind fun x5 => (gd (ok64 (s0_0 + 1)) ((z05p l kx0_0 n0) (s0_0 + 1) (l0_1.set s0_0.toNat x4)))))) else (kx0_0 l0_1)
def z125 (l : List GReq) : Option (List GReq) := gd ((0 : Int) ≤ (l.length : Int) ∧ (l.length : Int) ≤ (1000000000 : Int)) (z05p l z0m8 FUEL 0 (List.replicate (l.length : Int).toNat GReq.zero))
def z06j : Con := ⟨24, [.v (.sl (.s .req)) false], [((.sl (.s .req)), true)], [], fun x => z125 x.1⟩
def z1md : Fs := ⟨[z1ko], []⟩
theorem z129 : z1md.Ok Tryz.prog := (fsK z23j fs0)
def z0so : Tmpl := ⟨[(0, .c (.s (.s .req))), (3, .c (.ref 7)), (4, .c .i)], [(7, .arr (.s .req) true)]⟩
def z0nd : Tmpl := ⟨[(3, .c (.ref 7))], [(7, .arr (.s .req) true)]⟩
def z19n (av : AV) (x : HP z06j.ps) (n : Nat) (v : z0so.den) (K : Ks (CR z06j)) : Option (CR z06j) := z05p v.1.1 (fun l0_1 => z0nd.at none (((), ()), (l0_1, ())) (K (.exit 0))) n v.1.2.2.1 v.2.1
def z0sk (av : AV) (x : HP z06j.ps) : Hdl (CR z06j) := hnd [] z0so (z19n av x)
theorem z19o : LP z06j Tryz.f24 [0] z0sk := lp_ok (W := []) (H := []) (xs := [z0nd]) z129 trivial rfl (fun av x v K => by kernel_rfl) (fun av x n v K => by kernel_rfl)
theorem z1jy : z06j.Ok Tryz.prog := fn_ok (k := z06j) (fn := Tryz.f24) (W := []) (H := [z0sk]) Tryz.func24 z129 ⟨z19o, trivial⟩ rfl rfl (fun av x => by kernel_rfl)
noncomputable def z0e2 (l : List GReq) : Option (List GReq) := @gd ((l.length ≤ 1048576) ∧ (∀ y ∈ l, GReq.lens (· ≤ 1048576) y)) (Classical.propDecidable _) _ (some l)
theorem z1zh (l : List GReq) (h : (l.length ≤ 1048576) ∧ (∀ y ∈ l, GReq.lens (· ≤ 1048576) y)) : z0e2 l = some l := gdC h
theorem z1yb (l : List GReq) (h : (l.length ≤ 1048576) ∧ (∀ y ∈ l, GReq.lens (· ≤ 1048576) y)) : z125 l = some l := by
  refine (z000 (toOk h.1)).trans ?_
  have hl := h.1
  refine z1ha (f := z05p l z0m8) (by omega) (fun n i acc hi ha => ?_) (fun n acc => ?_)
  · rw [z05p, if_pos (decide_eq_true (Int.ofNat_lt.2 hi)), z01w hi, Option.bind_some, z20q _ (h.2 _ (List.getElem_mem _)), Option.bind_some, z01w (by omega), Option.bind_some, z000 (ok64i hi h.1)]; rfl
  · rw [z05p, if_neg (by simp)]; rfl
noncomputable def z1dw : Con := ⟨24, [.v (.sl (.s .req)) false], [((.sl (.s .req)), true)], [], fun x => z0e2 x.1⟩
theorem z1xo : z1dw.Ok Tryz.prog := z00p z1jy fun x z hz => by
  obtain ⟨h, e⟩ := z00a hz
  subst e
  exact z1yb _ h
def z0i7 (x : GHouse) : Option GHouse := (z0zv x.nets).bind fun x1 => ((z0it x.people).bind fun x2 => ((z0uf x.tree).bind fun x3 => ((z0z6 x.runs).bind fun x4 => (some (GHouse.mk x1 x2 x3 x4)))))
def z0ym : Con := ⟨14, [.v (.s .house) false], [((.s .house), true)], [], fun x => z0i7 x.1⟩
def z1fc : Fs := ⟨[z1dj, z0z2, z16s, z1d5], []⟩
theorem z1ib : z1fc.Ok Tryz.prog := (fsK z1ye (fsK z152 (fsK z1qi (fsK z202 fs0))))
theorem z1i9 : z0ym.Ok Tryz.prog := fn_ok (k := z0ym) (fn := Tryz.f14) (W := []) (H := []) Tryz.func14 z1ib trivial rfl rfl (fun av x => by kernel_rfl)
noncomputable def z0bo (x : GHouse) : Option GHouse := @gd ((GHouse.lens (· ≤ 1048576) x)) (Classical.propDecidable _) _ (some x)
theorem z1ri (x : GHouse) (h : (GHouse.lens (· ≤ 1048576) x)) : z0bo x = some x := gdC h
theorem z1te (x : GHouse) (h : (GHouse.lens (· ≤ 1048576) x)) : z0i7 x = some x := by
  rw [z0i7, z1y3 _ ⟨h.1.1, h.1.2⟩, Option.bind_some, z0ur _ h.2.1, Option.bind_some, z1u4 _ ⟨h.2.2.1.1, h.2.2.1.2⟩, Option.bind_some, z1yl _ ⟨h.2.2.2.1, h.2.2.2.2⟩, Option.bind_some]
noncomputable def z17j : Con := ⟨14, [.v (.s .house) false], [((.s .house), true)], [], fun x => z0bo x.1⟩
theorem z1q3 : z17j.Ok Tryz.prog := z00p z1i9 fun x z hz => by
  obtain ⟨h, e⟩ := z00a hz
  subst e
  exact z1te _ h
def z12b  : Option Bool := some true
def z09w (a : List Int) (b : List Int) (kx0_0 : Option Bool) : Nat → Int → Option Bool
  | 0, _ => none
  | n0 + 1, s0_0 => if decide (s0_0 < (a.length : Int)) = true then ((getI a s0_0).bind fun x3 => ((getI b s0_0).bind fun x4 => (if decide (x3 = x4) = true then (gd (ok64 (s0_0 + 1)) ((z09w a b kx0_0 n0) (s0_0 + 1))) else (some false)))) else (kx0_0)
def z1mv (a : List Int) (b : List Int) : Option Bool := if decide ((a.length : Int) = (b.length : Int)) = true then (z09w a b z12b FUEL 0) else (some false)
def z0co : Con := ⟨42, [.v (.sl .I) false, .v (.sl .I) false], [(.B, true)], [], fun x => z1mv x.1 x.2.1⟩
def z23v : Fs := ⟨[], []⟩
theorem z1od : z23v.Ok Tryz.prog := fs0
def z16e : Tmpl := ⟨[(0, .c (.s .I)), (1, .c (.s .I)), (5, .c .i)], []⟩
def z119 : Tmpl := ⟨[], []⟩
def z1ub (av : AV) (x : HP z0co.ps) (n : Nat) (v : z16e.den) (K : Ks (CR z0co)) : Option (CR z0co) := z09w v.1.1 v.1.2.1 (z119.at none ((), ()) (K (.exit 0))) n v.1.2.2.1
def z18d (av : AV) (x : HP z0co.ps) : Hdl (CR z0co) := hnd [] z16e (z1ub av x)
theorem z1ug : LP z0co Tryz.f42 [0] z18d := lp_ok (W := []) (H := []) (xs := [z119]) z1od trivial rfl (fun av x v K => by kernel_rfl) (fun av x n v K => by kernel_rfl)
theorem z22v : z0co.Ok Tryz.prog := fn_ok (k := z0co) (fn := Tryz.f42) (W := []) (H := [z18d]) Tryz.func42 z1od ⟨z1ug, trivial⟩ rfl rfl (fun av x => by kernel_rfl)
noncomputable def z0j1 (a : List Int) (b : List Int) : Option Bool := @gd ((a.length ≤ 1048576)) (Classical.propDecidable _) _ (some (decide (a = b)))
theorem z0ux (a : List Int) (b : List Int) (h : (a.length ≤ 1048576)) : z0j1 a b = some (decide (a = b)) := gdC h
theorem z28d (a : List Int) (b : List Int) (h : (a.length ≤ 1048576)) : z1mv a b = some (decide (a = b)) := by
  have hl := h
  refine z1i2 fun hab => z1ec (f := z09w a b z12b) (by omega) hab (fun n i hi hj => ?_) (fun n => ?_)
  · rw [z09w, if_pos (decide_eq_true (Int.ofNat_lt.2 hi)), z01w hi, Option.bind_some, z01w hj, Option.bind_some, z000 (ok64i hi h)]; rfl
  · rw [z09w, if_neg (by simp)]; rfl
noncomputable def z0zh : Con := ⟨42, [.v (.sl .I) false, .v (.sl .I) false], [(.B, true)], [], fun x => z0j1 x.1 x.2.1⟩
theorem z157 : z0zh.Ok Tryz.prog := z00p z22v fun x z hz => by
  obtain ⟨h, e⟩ := z00a hz
  subst e
  exact z28d _ _ h
def z0u7 (x : GAsk) (y : GAsk) : Option Bool := if decide (x.op = y.op) = true then (if decide (x.var = y.var) = true then (if decide (x.k = y.k) = true then (some true) else (some false)) else (some false)) else (some false)
def z14z : Con := ⟨71, [.v (.s .ask) false, .v (.s .ask) false], [(.B, true)], [], fun x => z0u7 x.1 x.2.1⟩
def z1pv : Fs := ⟨[], []⟩
theorem z1sz : z1pv.Ok Tryz.prog := fs0
theorem z1u2 : z14z.Ok Tryz.prog := fn_ok (k := z14z) (fn := Tryz.f71) (W := []) (H := []) Tryz.func71 z1sz trivial rfl rfl (fun av x => by kernel_rfl)
noncomputable def z0ob (x : GAsk) (y : GAsk) : Option Bool := @gd (True) (Classical.propDecidable _) _ (some (decide (x = y)))
theorem z14u (x : GAsk) (y : GAsk) (h : True) : z0ob x y = some (decide (x = y)) := gdC h
theorem z236 (x : GAsk) (y : GAsk) (h : True) : z0u7 x y = some (decide (x = y)) := by
  unfold z0u7
  refine (z00h (z00h (z00h z153))).trans (congrArg some (decide_eq_decide.2 ⟨fun ⟨h0, h1, h2, _⟩ => ?_, fun h => by subst h; simp⟩))
  cases x; cases y; simp_all
noncomputable def z0vm : Con := ⟨71, [.v (.s .ask) false, .v (.s .ask) false], [(.B, true)], [], fun x => z0ob x.1 x.2.1⟩
theorem z16n : z0vm.Ok Tryz.prog := z00p z1u2 fun x z hz => by
  obtain ⟨h, e⟩ := z00a hz
  subst e
  exact z236 _ _ h
def z0oe (x : GFlow) (y : GFlow) : Option Bool := if decide (x.to = y.to) = true then ((z0ob x.if_ y.if_).bind fun x2 => (if x2 = true then (some true) else (some false))) else (some false)
def z12h : Con := ⟨233, [.v (.s .flow) false, .v (.s .flow) false], [(.B, true)], [], fun x => z0oe x.1 x.2.1⟩
def z1mq : Fs := ⟨[z0vm], []⟩
theorem z1km : z1mq.Ok Tryz.prog := (fsK z16n fs0)
theorem z1ol : z12h.Ok Tryz.prog := fn_ok (k := z12h) (fn := Tryz.f233) (W := []) (H := []) Tryz.func233 z1km trivial rfl rfl (fun av x => by kernel_rfl)
noncomputable def z0zt (x : GFlow) (y : GFlow) : Option Bool := @gd (True) (Classical.propDecidable _) _ (some (decide (x = y)))
theorem z1y2 (x : GFlow) (y : GFlow) (h : True) : z0zt x y = some (decide (x = y)) := gdC h
theorem z1xr (x : GFlow) (y : GFlow) (h : True) : z0oe x y = some (decide (x = y)) := by
  rw [z0oe, z14u _ _ trivial, Option.bind_some]
  refine (z00h (z00h z153)).trans (congrArg some (decide_eq_decide.2 ⟨fun ⟨h0, h1, _⟩ => ?_, fun h => by subst h; simp⟩))
  cases x; cases y; simp_all
noncomputable def z1de : Con := ⟨233, [.v (.s .flow) false, .v (.s .flow) false], [(.B, true)], [], fun x => z0zt x.1 x.2.1⟩
theorem z1z9 : z1de.Ok Tryz.prog := z00p z1ol fun x z hz => by
  obtain ⟨h, e⟩ := z00a hz
  subst e
  exact z1xr _ _ h
def z0jm  : Option Bool := some true
def z047 (a : List GFlow) (b : List GFlow) (kx0_0 : Option Bool) : Nat → Int → Option Bool
  | 0, _ => none
  | n0 + 1, s0_0 => if decide (s0_0 < (a.length : Int)) = true then ((getI a s0_0).bind fun x3 => ((getI b s0_0).bind fun x4 => ((z0zt x3 x4).bind fun x5 => (if x5 = true then (gd (ok64 (s0_0 + 1)) ((z047 a b kx0_0 n0) (s0_0 + 1))) else (some false))))) else (kx0_0)
def z0xx (a : List GFlow) (b : List GFlow) : Option Bool := if decide ((a.length : Int) = (b.length : Int)) = true then (z047 a b z0jm FUEL 0) else (some false)
def z05b : Con := ⟨220, [.v (.sl (.s .flow)) false, .v (.sl (.s .flow)) false], [(.B, true)], [], fun x => z0xx x.1 x.2.1⟩
def z1ie : Fs := ⟨[z1de], []⟩
theorem z0ww : z1ie.Ok Tryz.prog := (fsK z1z9 fs0)
def z0ld : Tmpl := ⟨[(0, .c (.s (.s .flow))), (1, .c (.s (.s .flow))), (5, .c .i)], []⟩
def z0k4 : Tmpl := ⟨[], []⟩
def z14s (av : AV) (x : HP z05b.ps) (n : Nat) (v : z0ld.den) (K : Ks (CR z05b)) : Option (CR z05b) := z047 v.1.1 v.1.2.1 (z0k4.at none ((), ()) (K (.exit 0))) n v.1.2.2.1
def z0om (av : AV) (x : HP z05b.ps) : Hdl (CR z05b) := hnd [] z0ld (z14s av x)
theorem z18t : LP z05b Tryz.f220 [0] z0om := lp_ok (W := []) (H := []) (xs := [z0k4]) z0ww trivial rfl (fun av x v K => by kernel_rfl) (fun av x n v K => by kernel_rfl)
theorem z1ip : z05b.Ok Tryz.prog := fn_ok (k := z05b) (fn := Tryz.f220) (W := []) (H := [z0om]) Tryz.func220 z0ww ⟨z18t, trivial⟩ rfl rfl (fun av x => by kernel_rfl)
noncomputable def z0v6 (a : List GFlow) (b : List GFlow) : Option Bool := @gd ((a.length ≤ 1048576)) (Classical.propDecidable _) _ (some (decide (a = b)))
theorem z1tu (a : List GFlow) (b : List GFlow) (h : (a.length ≤ 1048576)) : z0v6 a b = some (decide (a = b)) := gdC h
theorem z1pt (a : List GFlow) (b : List GFlow) (h : (a.length ≤ 1048576)) : z0xx a b = some (decide (a = b)) := by
  have hl := h
  refine z1i2 fun hab => z1ec (f := z047 a b z0jm) (by omega) hab (fun n i hi hj => ?_) (fun n => ?_)
  · rw [z047, if_pos (decide_eq_true (Int.ofNat_lt.2 hi)), z01w hi, Option.bind_some, z01w hj, Option.bind_some, z1y2 _ _ trivial, Option.bind_some, z000 (ok64i hi h)]; rfl
  · rw [z047, if_neg (by simp)]; rfl
noncomputable def z15p : Con := ⟨220, [.v (.sl (.s .flow)) false, .v (.sl (.s .flow)) false], [(.B, true)], [], fun x => z0v6 x.1 x.2.1⟩
theorem z1sx : z15p.Ok Tryz.prog := z00p z1ip fun x z hz => by
  obtain ⟨h, e⟩ := z00a hz
  subst e
  exact z1pt _ _ h
def z0pk (x : GTask) (y : GTask) : Option Bool := if decide (x.join = y.join) = true then (if decide (x.split = y.split) = true then ((z0j1 x.in_ y.in_).bind fun x3 => (if x3 = true then ((z0v6 x.out y.out).bind fun x5 => (if x5 = true then ((z0j1 x.clear y.clear).bind fun x7 => (if x7 = true then (if decide (x.role = y.role) = true then (if decide (x.apart = y.apart) = true then (if decide (x.all = y.all) = true then (if decide (x.need = y.need) = true then (some true) else (some false)) else (some false)) else (some false)) else (some false)) else (some false))) else (some false))) else (some false))) else (some false)) else (some false)
def z10k : Con := ⟨188, [.v (.s .task) false, .v (.s .task) false], [(.B, true)], [], fun x => z0pk x.1 x.2.1⟩
def z1n0 : Fs := ⟨[z0zh, z15p], []⟩
theorem z1nn : z1n0.Ok Tryz.prog := (fsK z157 (fsK z1sx fs0))
theorem z1jp : z10k.Ok Tryz.prog := fn_ok (k := z10k) (fn := Tryz.f188) (W := []) (H := []) Tryz.func188 z1nn trivial rfl rfl (fun av x => by kernel_rfl)
noncomputable def z0zn (x : GTask) (y : GTask) : Option Bool := @gd ((GTask.lens (· ≤ 1048576) x) ∧ (GTask.lens (· ≤ 1048576) y)) (Classical.propDecidable _) _ (some (decide (x = y)))
theorem z1yv (x : GTask) (y : GTask) (h : (GTask.lens (· ≤ 1048576) x) ∧ (GTask.lens (· ≤ 1048576) y)) : z0zn x y = some (decide (x = y)) := gdC h
theorem z1xs (x : GTask) (y : GTask) (h : (GTask.lens (· ≤ 1048576) x) ∧ (GTask.lens (· ≤ 1048576) y)) : z0pk x y = some (decide (x = y)) := by
  rw [z0pk, z0ux _ _ h.1.1, Option.bind_some, z1tu _ _ h.1.2.1, Option.bind_some, z0ux _ _ h.1.2.2, Option.bind_some]
  refine (z00h (z00h (z00h (z00h (z00h (z00h (z00h (z00h (z00h z153))))))))).trans (congrArg some (decide_eq_decide.2 ⟨fun ⟨h0, h1, h2, h3, h4, h5, h6, h7, h8, _⟩ => ?_, fun h => by subst h; simp⟩))
  cases x; cases y; simp_all
noncomputable def z1cr : Con := ⟨188, [.v (.s .task) false, .v (.s .task) false], [(.B, true)], [], fun x => z0zn x.1 x.2.1⟩
theorem z1z1 : z1cr.Ok Tryz.prog := z00p z1jp fun x z hz => by
  obtain ⟨h, e⟩ := z00a hz
  subst e
  exact z1xs _ _ h
def z0jc  : Option Bool := some true
def z04a (a : List GTask) (b : List GTask) (kx0_0 : Option Bool) : Nat → Int → Option Bool
  | 0, _ => none
  | n0 + 1, s0_0 => if decide (s0_0 < (a.length : Int)) = true then ((getI a s0_0).bind fun x3 => ((getI b s0_0).bind fun x4 => ((z0zn x3 x4).bind fun x5 => (if x5 = true then (gd (ok64 (s0_0 + 1)) ((z04a a b kx0_0 n0) (s0_0 + 1))) else (some false))))) else (kx0_0)
def z0xd (a : List GTask) (b : List GTask) : Option Bool := if decide ((a.length : Int) = (b.length : Int)) = true then (z04a a b z0jc FUEL 0) else (some false)
def z04r : Con := ⟨113, [.v (.sl (.s .task)) false, .v (.sl (.s .task)) false], [(.B, true)], [], fun x => z0xd x.1 x.2.1⟩
def z1g9 : Fs := ⟨[z1cr], []⟩
theorem z0xs : z1g9.Ok Tryz.prog := (fsK z1z1 fs0)
def z0og : Tmpl := ⟨[(0, .c (.s (.s .task))), (1, .c (.s (.s .task))), (5, .c .i)], []⟩
def z0kb : Tmpl := ⟨[], []⟩
def z16i (av : AV) (x : HP z04r.ps) (n : Nat) (v : z0og.den) (K : Ks (CR z04r)) : Option (CR z04r) := z04a v.1.1 v.1.2.1 (z0kb.at none ((), ()) (K (.exit 0))) n v.1.2.2.1
def z0mp (av : AV) (x : HP z04r.ps) : Hdl (CR z04r) := hnd [] z0og (z16i av x)
theorem z16z : LP z04r Tryz.f113 [0] z0mp := lp_ok (W := []) (H := []) (xs := [z0kb]) z0xs trivial rfl (fun av x v K => by kernel_rfl) (fun av x n v K => by kernel_rfl)
theorem z1eu : z04r.Ok Tryz.prog := fn_ok (k := z04r) (fn := Tryz.f113) (W := []) (H := [z0mp]) Tryz.func113 z0xs ⟨z16z, trivial⟩ rfl rfl (fun av x => by kernel_rfl)
noncomputable def z0v1 (a : List GTask) (b : List GTask) : Option Bool := @gd ((a.length ≤ 1048576) ∧ (∀ y ∈ a, GTask.lens (· ≤ 1048576) y) ∧ (∀ y ∈ b, GTask.lens (· ≤ 1048576) y)) (Classical.propDecidable _) _ (some (decide (a = b)))
theorem z1s5 (a : List GTask) (b : List GTask) (h : (a.length ≤ 1048576) ∧ (∀ y ∈ a, GTask.lens (· ≤ 1048576) y) ∧ (∀ y ∈ b, GTask.lens (· ≤ 1048576) y)) : z0v1 a b = some (decide (a = b)) := gdC h
theorem z1qt (a : List GTask) (b : List GTask) (h : (a.length ≤ 1048576) ∧ (∀ y ∈ a, GTask.lens (· ≤ 1048576) y) ∧ (∀ y ∈ b, GTask.lens (· ≤ 1048576) y)) : z0xd a b = some (decide (a = b)) := by
  have hl := h.1
  refine z1i2 fun hab => z1ec (f := z04a a b z0jc) (by omega) hab (fun n i hi hj => ?_) (fun n => ?_)
  · rw [z04a, if_pos (decide_eq_true (Int.ofNat_lt.2 hi)), z01w hi, Option.bind_some, z01w hj, Option.bind_some, z1yv _ _ ⟨h.2.1 _ (List.getElem_mem _), h.2.2 _ (List.getElem_mem _)⟩, Option.bind_some, z000 (ok64i hi h.1)]; rfl
  · rw [z04a, if_neg (by simp)]; rfl
noncomputable def z17f : Con := ⟨113, [.v (.sl (.s .task)) false, .v (.sl (.s .task)) false], [(.B, true)], [], fun x => z0v1 x.1 x.2.1⟩
theorem z1s6 : z17f.Ok Tryz.prog := z00p z1eu fun x z hz => by
  obtain ⟨h, e⟩ := z00a hz
  subst e
  exact z1qt _ _ h
def z0uu (x : GNet) (y : GNet) : Option Bool := if decide (x.places = y.places) = true then ((z0v1 x.tasks y.tasks).bind fun x2 => (if x2 = true then (some true) else (some false))) else (some false)
def z175 : Con := ⟨41, [.v (.s .net) false, .v (.s .net) false], [(.B, true)], [], fun x => z0uu x.1 x.2.1⟩
def z1uf : Fs := ⟨[z17f], []⟩
theorem z1q7 : z1uf.Ok Tryz.prog := (fsK z1s6 fs0)
theorem z1py : z175.Ok Tryz.prog := fn_ok (k := z175) (fn := Tryz.f41) (W := []) (H := []) Tryz.func41 z1q7 trivial rfl rfl (fun av x => by kernel_rfl)
noncomputable def z18q (x : GNet) (y : GNet) : Option Bool := @gd ((GNet.lens (· ≤ 1048576) x) ∧ (GNet.lens (· ≤ 1048576) y)) (Classical.propDecidable _) _ (some (decide (x = y)))
theorem z22k (x : GNet) (y : GNet) (h : (GNet.lens (· ≤ 1048576) x) ∧ (GNet.lens (· ≤ 1048576) y)) : z18q x y = some (decide (x = y)) := gdC h
theorem z216 (x : GNet) (y : GNet) (h : (GNet.lens (· ≤ 1048576) x) ∧ (GNet.lens (· ≤ 1048576) y)) : z0uu x y = some (decide (x = y)) := by
  rw [z0uu, z1s5 _ _ ⟨h.1.1, h.1.2, h.2.2⟩, Option.bind_some]
  refine (z00h (z00h z153)).trans (congrArg some (decide_eq_decide.2 ⟨fun ⟨h0, h1, _⟩ => ?_, fun h => by subst h; simp⟩))
  cases x; cases y; simp_all
noncomputable def z1kx : Con := ⟨41, [.v (.s .net) false, .v (.s .net) false], [(.B, true)], [], fun x => z18q x.1 x.2.1⟩
theorem z23k : z1kx.Ok Tryz.prog := z00p z1py fun x z hz => by
  obtain ⟨h, e⟩ := z00a hz
  subst e
  exact z216 _ _ h
def z0o9  : Option Bool := some true
def z05r (a : List GNet) (b : List GNet) (kx0_0 : Option Bool) : Nat → Int → Option Bool
  | 0, _ => none
  | n0 + 1, s0_0 => if decide (s0_0 < (a.length : Int)) = true then ((getI a s0_0).bind fun x3 => ((getI b s0_0).bind fun x4 => ((z18q x3 x4).bind fun x5 => (if x5 = true then (gd (ok64 (s0_0 + 1)) ((z05r a b kx0_0 n0) (s0_0 + 1))) else (some false))))) else (kx0_0)
def z10v (a : List GNet) (b : List GNet) : Option Bool := if decide ((a.length : Int) = (b.length : Int)) = true then (z05r a b z0o9 FUEL 0) else (some false)
def z069 : Con := ⟨51, [.v (.sl (.s .net)) false, .v (.sl (.s .net)) false], [(.B, true)], [], fun x => z10v x.1 x.2.1⟩
def z1nb : Fs := ⟨[z1kx], []⟩
theorem z11j : z1nb.Ok Tryz.prog := (fsK z23k fs0)
def z0sv : Tmpl := ⟨[(0, .c (.s (.s .net))), (1, .c (.s (.s .net))), (5, .c .i)], []⟩
def z0ns : Tmpl := ⟨[], []⟩
def z1bd (av : AV) (x : HP z069.ps) (n : Nat) (v : z0sv.den) (K : Ks (CR z069)) : Option (CR z069) := z05r v.1.1 v.1.2.1 (z0ns.at none ((), ()) (K (.exit 0))) n v.1.2.2.1
def z0rr (av : AV) (x : HP z069.ps) : Hdl (CR z069) := hnd [] z0sv (z1bd av x)
theorem z19s : LP z069 Tryz.f51 [0] z0rr := lp_ok (W := []) (H := []) (xs := [z0ns]) z11j trivial rfl (fun av x v K => by kernel_rfl) (fun av x n v K => by kernel_rfl)
theorem z1jc : z069.Ok Tryz.prog := fn_ok (k := z069) (fn := Tryz.f51) (W := []) (H := [z0rr]) Tryz.func51 z11j ⟨z19s, trivial⟩ rfl rfl (fun av x => by kernel_rfl)
noncomputable def z0z1 (a : List GNet) (b : List GNet) : Option Bool := @gd ((a.length ≤ 1048576) ∧ (∀ y ∈ a, GNet.lens (· ≤ 1048576) y) ∧ (∀ y ∈ b, GNet.lens (· ≤ 1048576) y)) (Classical.propDecidable _) _ (some (decide (a = b)))
theorem z1y7 (a : List GNet) (b : List GNet) (h : (a.length ≤ 1048576) ∧ (∀ y ∈ a, GNet.lens (· ≤ 1048576) y) ∧ (∀ y ∈ b, GNet.lens (· ≤ 1048576) y)) : z0z1 a b = some (decide (a = b)) := gdC h
theorem z1z3 (a : List GNet) (b : List GNet) (h : (a.length ≤ 1048576) ∧ (∀ y ∈ a, GNet.lens (· ≤ 1048576) y) ∧ (∀ y ∈ b, GNet.lens (· ≤ 1048576) y)) : z10v a b = some (decide (a = b)) := by
  have hl := h.1
  refine z1i2 fun hab => z1ec (f := z05r a b z0o9) (by omega) hab (fun n i hi hj => ?_) (fun n => ?_)
  · rw [z05r, if_pos (decide_eq_true (Int.ofNat_lt.2 hi)), z01w hi, Option.bind_some, z01w hj, Option.bind_some, z22k _ _ ⟨h.2.1 _ (List.getElem_mem _), h.2.2 _ (List.getElem_mem _)⟩, Option.bind_some, z000 (ok64i hi h.1)]; rfl
  · rw [z05r, if_neg (by simp)]; rfl
noncomputable def z1do : Con := ⟨51, [.v (.sl (.s .net)) false, .v (.sl (.s .net)) false], [(.B, true)], [], fun x => z0z1 x.1 x.2.1⟩
theorem z1xd : z1do.Ok Tryz.prog := z00p z1jc fun x z hz => by
  obtain ⟨h, e⟩ := z00a hz
  subst e
  exact z1z3 _ _ h
def z0me (x : GItem) (y : GItem) : Option Bool := if decide (x.task = y.task) = true then (if decide (x.who = y.who) = true then (if decide (x.did = y.did) = true then (some true) else (some false)) else (some false)) else (some false)
def z120 : Con := ⟨186, [.v (.s .item) false, .v (.s .item) false], [(.B, true)], [], fun x => z0me x.1 x.2.1⟩
def z1nm : Fs := ⟨[], []⟩
theorem z1mu : z1nm.Ok Tryz.prog := fs0
theorem z1m9 : z120.Ok Tryz.prog := fn_ok (k := z120) (fn := Tryz.f186) (W := []) (H := []) Tryz.func186 z1mu trivial rfl rfl (fun av x => by kernel_rfl)
noncomputable def z10c (x : GItem) (y : GItem) : Option Bool := @gd (True) (Classical.propDecidable _) _ (some (decide (x = y)))
theorem z1zu (x : GItem) (y : GItem) (h : True) : z10c x y = some (decide (x = y)) := gdC h
theorem z1zl (x : GItem) (y : GItem) (h : True) : z0me x y = some (decide (x = y)) := by
  unfold z0me
  refine (z00h (z00h (z00h z153))).trans (congrArg some (decide_eq_decide.2 ⟨fun ⟨h0, h1, h2, _⟩ => ?_, fun h => by subst h; simp⟩))
  cases x; cases y; simp_all
noncomputable def z1dk : Con := ⟨186, [.v (.s .item) false, .v (.s .item) false], [(.B, true)], [], fun x => z10c x.1 x.2.1⟩
theorem z1yi : z1dk.Ok Tryz.prog := z00p z1m9 fun x z hz => by
  obtain ⟨h, e⟩ := z00a hz
  subst e
  exact z1zl _ _ h
def z0jk  : Option Bool := some true
def z045 (a : List GItem) (b : List GItem) (kx0_0 : Option Bool) : Nat → Int → Option Bool
  | 0, _ => none
  | n0 + 1, s0_0 => if decide (s0_0 < (a.length : Int)) = true then ((getI a s0_0).bind fun x3 => ((getI b s0_0).bind fun x4 => ((z10c x3 x4).bind fun x5 => (if x5 = true then (gd (ok64 (s0_0 + 1)) ((z045 a b kx0_0 n0) (s0_0 + 1))) else (some false))))) else (kx0_0)
def z0wv (a : List GItem) (b : List GItem) : Option Bool := if decide ((a.length : Int) = (b.length : Int)) = true then (z045 a b z0jk FUEL 0) else (some false)
def z04o : Con := ⟨111, [.v (.sl (.s .item)) false, .v (.sl (.s .item)) false], [(.B, true)], [], fun x => z0wv x.1 x.2.1⟩
def z1g0 : Fs := ⟨[z1dk], []⟩
theorem z0yv : z1g0.Ok Tryz.prog := (fsK z1yi fs0)
def z0p7 : Tmpl := ⟨[(0, .c (.s (.s .item))), (1, .c (.s (.s .item))), (5, .c .i)], []⟩
def z0j9 : Tmpl := ⟨[], []⟩
def z17l (av : AV) (x : HP z04o.ps) (n : Nat) (v : z0p7.den) (K : Ks (CR z04o)) : Option (CR z04o) := z045 v.1.1 v.1.2.1 (z0j9.at none ((), ()) (K (.exit 0))) n v.1.2.2.1
def z0n8 (av : AV) (x : HP z04o.ps) : Hdl (CR z04o) := hnd [] z0p7 (z17l av x)
theorem z174 : LP z04o Tryz.f111 [0] z0n8 := lp_ok (W := []) (H := []) (xs := [z0j9]) z0yv trivial rfl (fun av x v K => by kernel_rfl) (fun av x n v K => by kernel_rfl)
theorem z1gs : z04o.Ok Tryz.prog := fn_ok (k := z04o) (fn := Tryz.f111) (W := []) (H := [z0n8]) Tryz.func111 z0yv ⟨z174, trivial⟩ rfl rfl (fun av x => by kernel_rfl)
noncomputable def z0u8 (a : List GItem) (b : List GItem) : Option Bool := @gd ((a.length ≤ 1048576)) (Classical.propDecidable _) _ (some (decide (a = b)))
theorem z1q2 (a : List GItem) (b : List GItem) (h : (a.length ≤ 1048576)) : z0u8 a b = some (decide (a = b)) := gdC h
theorem z1tt (a : List GItem) (b : List GItem) (h : (a.length ≤ 1048576)) : z0wv a b = some (decide (a = b)) := by
  have hl := h
  refine z1i2 fun hab => z1ec (f := z045 a b z0jk) (by omega) hab (fun n i hi hj => ?_) (fun n => ?_)
  · rw [z045, if_pos (decide_eq_true (Int.ofNat_lt.2 hi)), z01w hi, Option.bind_some, z01w hj, Option.bind_some, z1zu _ _ trivial, Option.bind_some, z000 (ok64i hi h)]; rfl
  · rw [z045, if_neg (by simp)]; rfl
noncomputable def z16l : Con := ⟨111, [.v (.sl (.s .item)) false, .v (.sl (.s .item)) false], [(.B, true)], [], fun x => z0u8 x.1 x.2.1⟩
theorem z1t9 : z16l.Ok Tryz.prog := z00p z1gs fun x z hz => by
  obtain ⟨h, e⟩ := z00a hz
  subst e
  exact z1tt _ _ h
def z0ts (x : GDid) (y : GDid) : Option Bool := if decide (x.task = y.task) = true then (if decide (x.who = y.who) = true then (some true) else (some false)) else (some false)
def z19g : Con := ⟨187, [.v (.s .did) false, .v (.s .did) false], [(.B, true)], [], fun x => z0ts x.1 x.2.1⟩
def z1u5 : Fs := ⟨[], []⟩
theorem z1sr : z1u5.Ok Tryz.prog := fs0
theorem z1qb : z19g.Ok Tryz.prog := fn_ok (k := z19g) (fn := Tryz.f187) (W := []) (H := []) Tryz.func187 z1sr trivial rfl rfl (fun av x => by kernel_rfl)
noncomputable def z17w (x : GDid) (y : GDid) : Option Bool := @gd (True) (Classical.propDecidable _) _ (some (decide (x = y)))
theorem z20i (x : GDid) (y : GDid) (h : True) : z17w x y = some (decide (x = y)) := gdC h
theorem z221 (x : GDid) (y : GDid) (h : True) : z0ts x y = some (decide (x = y)) := by
  unfold z0ts
  refine (z00h (z00h z153)).trans (congrArg some (decide_eq_decide.2 ⟨fun ⟨h0, h1, _⟩ => ?_, fun h => by subst h; simp⟩))
  cases x; cases y; simp_all
noncomputable def z1jk : Con := ⟨187, [.v (.s .did) false, .v (.s .did) false], [(.B, true)], [], fun x => z17w x.1 x.2.1⟩
theorem z21f : z1jk.Ok Tryz.prog := z00p z1qb fun x z hz => by
  obtain ⟨h, e⟩ := z00a hz
  subst e
  exact z221 _ _ h
def z0mi  : Option Bool := some true
def z065 (a : List GDid) (b : List GDid) (kx0_0 : Option Bool) : Nat → Int → Option Bool
  | 0, _ => none
  | n0 + 1, s0_0 => if decide (s0_0 < (a.length : Int)) = true then ((getI a s0_0).bind fun x3 => ((getI b s0_0).bind fun x4 => ((z17w x3 x4).bind fun x5 => (if x5 = true then (gd (ok64 (s0_0 + 1)) ((z065 a b kx0_0 n0) (s0_0 + 1))) else (some false))))) else (kx0_0)
def z11m (a : List GDid) (b : List GDid) : Option Bool := if decide ((a.length : Int) = (b.length : Int)) = true then (z065 a b z0mi FUEL 0) else (some false)
def z06h : Con := ⟨112, [.v (.sl (.s .did)) false, .v (.sl (.s .did)) false], [(.B, true)], [], fun x => z11m x.1 x.2.1⟩
def z1l9 : Fs := ⟨[z1jk], []⟩
theorem z12i : z1l9.Ok Tryz.prog := (fsK z21f fs0)
def z0t3 : Tmpl := ⟨[(0, .c (.s (.s .did))), (1, .c (.s (.s .did))), (5, .c .i)], []⟩
def z0op : Tmpl := ⟨[], []⟩
def z1bf (av : AV) (x : HP z06h.ps) (n : Nat) (v : z0t3.den) (K : Ks (CR z06h)) : Option (CR z06h) := z065 v.1.1 v.1.2.1 (z0op.at none ((), ()) (K (.exit 0))) n v.1.2.2.1
def z0tk (av : AV) (x : HP z06h.ps) : Hdl (CR z06h) := hnd [] z0t3 (z1bf av x)
theorem z1b1 : LP z06h Tryz.f112 [0] z0tk := lp_ok (W := []) (H := []) (xs := [z0op]) z12i trivial rfl (fun av x v K => by kernel_rfl) (fun av x n v K => by kernel_rfl)
theorem z1p0 : z06h.Ok Tryz.prog := fn_ok (k := z06h) (fn := Tryz.f112) (W := []) (H := [z0tk]) Tryz.func112 z12i ⟨z1b1, trivial⟩ rfl rfl (fun av x => by kernel_rfl)
noncomputable def z100 (a : List GDid) (b : List GDid) : Option Bool := @gd ((a.length ≤ 1048576)) (Classical.propDecidable _) _ (some (decide (a = b)))
theorem z1y0 (a : List GDid) (b : List GDid) (h : (a.length ≤ 1048576)) : z100 a b = some (decide (a = b)) := gdC h
theorem z1wz (a : List GDid) (b : List GDid) (h : (a.length ≤ 1048576)) : z11m a b = some (decide (a = b)) := by
  have hl := h
  refine z1i2 fun hab => z1ec (f := z065 a b z0mi) (by omega) hab (fun n i hi hj => ?_) (fun n => ?_)
  · rw [z065, if_pos (decide_eq_true (Int.ofNat_lt.2 hi)), z01w hi, Option.bind_some, z01w hj, Option.bind_some, z20i _ _ trivial, Option.bind_some, z000 (ok64i hi h)]; rfl
  · rw [z065, if_neg (by simp)]; rfl
noncomputable def z1db : Con := ⟨112, [.v (.sl (.s .did)) false, .v (.sl (.s .did)) false], [(.B, true)], [], fun x => z100 x.1 x.2.1⟩
theorem z1wt : z1db.Ok Tryz.prog := z00p z1p0 fun x z hz => by
  obtain ⟨h, e⟩ := z00a hz
  subst e
  exact z1wz _ _ h
def z0m3 (x : GNode) (y : GNode) : Option Bool := (z0ob x.if_ y.if_).bind fun x1 => (if x1 = true then (if decide (x.yes = y.yes) = true then (if decide (x.no = y.no) = true then (if decide (x.ans = y.ans) = true then ((z0j1 x.stone y.stone).bind fun x6 => (if x6 = true then (some true) else (some false))) else (some false)) else (some false)) else (some false)) else (some false))
def z11g : Con := ⟨150, [.v (.s .node) false, .v (.s .node) false], [(.B, true)], [], fun x => z0m3 x.1 x.2.1⟩
def z1ld : Fs := ⟨[z0vm, z0zh], []⟩
theorem z1lx : z1ld.Ok Tryz.prog := (fsK z16n (fsK z157 fs0))
theorem z1lr : z11g.Ok Tryz.prog := fn_ok (k := z11g) (fn := Tryz.f150) (W := []) (H := []) Tryz.func150 z1lx trivial rfl rfl (fun av x => by kernel_rfl)
noncomputable def z0z7 (x : GNode) (y : GNode) : Option Bool := @gd ((GNode.lens (· ≤ 1048576) x) ∧ (GNode.lens (· ≤ 1048576) y)) (Classical.propDecidable _) _ (some (decide (x = y)))
theorem z1zc (x : GNode) (y : GNode) (h : (GNode.lens (· ≤ 1048576) x) ∧ (GNode.lens (· ≤ 1048576) y)) : z0z7 x y = some (decide (x = y)) := gdC h
theorem z1zf (x : GNode) (y : GNode) (h : (GNode.lens (· ≤ 1048576) x) ∧ (GNode.lens (· ≤ 1048576) y)) : z0m3 x y = some (decide (x = y)) := by
  rw [z0m3, z14u _ _ trivial, Option.bind_some, z0ux _ _ h.1, Option.bind_some]
  refine (z00h (z00h (z00h (z00h (z00h z153))))).trans (congrArg some (decide_eq_decide.2 ⟨fun ⟨h0, h1, h2, h3, h4, _⟩ => ?_, fun h => by subst h; simp⟩))
  cases x; cases y; simp_all
noncomputable def z1cy : Con := ⟨150, [.v (.s .node) false, .v (.s .node) false], [(.B, true)], [], fun x => z0z7 x.1 x.2.1⟩
theorem z1wy : z1cy.Ok Tryz.prog := z00p z1lr fun x z hz => by
  obtain ⟨h, e⟩ := z00a hz
  subst e
  exact z1zf _ _ h
def z0jb  : Option Bool := some true
def z04g (a : List GNode) (b : List GNode) (kx0_0 : Option Bool) : Nat → Int → Option Bool
  | 0, _ => none
  | n0 + 1, s0_0 => if decide (s0_0 < (a.length : Int)) = true then ((getI a s0_0).bind fun x3 => ((getI b s0_0).bind fun x4 => ((z0z7 x3 x4).bind fun x5 => (if x5 = true then (gd (ok64 (s0_0 + 1)) ((z04g a b kx0_0 n0) (s0_0 + 1))) else (some false))))) else (kx0_0)
def z0wc (a : List GNode) (b : List GNode) : Option Bool := if decide ((a.length : Int) = (b.length : Int)) = true then (z04g a b z0jb FUEL 0) else (some false)
def z04n : Con := ⟨69, [.v (.sl (.s .node)) false, .v (.sl (.s .node)) false], [(.B, true)], [], fun x => z0wc x.1 x.2.1⟩
def z1et : Fs := ⟨[z1cy], []⟩
theorem z0vg : z1et.Ok Tryz.prog := (fsK z1wy fs0)
def z0lz : Tmpl := ⟨[(0, .c (.s (.s .node))), (1, .c (.s (.s .node))), (5, .c .i)], []⟩
def z0jv : Tmpl := ⟨[], []⟩
def z17x (av : AV) (x : HP z04n.ps) (n : Nat) (v : z0lz.den) (K : Ks (CR z04n)) : Option (CR z04n) := z04g v.1.1 v.1.2.1 (z0jv.at none ((), ()) (K (.exit 0))) n v.1.2.2.1
def z0nx (av : AV) (x : HP z04n.ps) : Hdl (CR z04n) := hnd [] z0lz (z17x av x)
theorem z19b : LP z04n Tryz.f69 [0] z0nx := lp_ok (W := []) (H := []) (xs := [z0jv]) z0vg trivial rfl (fun av x v K => by kernel_rfl) (fun av x n v K => by kernel_rfl)
theorem z1hm : z04n.Ok Tryz.prog := fn_ok (k := z04n) (fn := Tryz.f69) (W := []) (H := [z0nx]) Tryz.func69 z0vg ⟨z19b, trivial⟩ rfl rfl (fun av x => by kernel_rfl)
noncomputable def z0v7 (a : List GNode) (b : List GNode) : Option Bool := @gd ((a.length ≤ 1048576) ∧ (∀ y ∈ a, GNode.lens (· ≤ 1048576) y) ∧ (∀ y ∈ b, GNode.lens (· ≤ 1048576) y)) (Classical.propDecidable _) _ (some (decide (a = b)))
theorem z1pn (a : List GNode) (b : List GNode) (h : (a.length ≤ 1048576) ∧ (∀ y ∈ a, GNode.lens (· ≤ 1048576) y) ∧ (∀ y ∈ b, GNode.lens (· ≤ 1048576) y)) : z0v7 a b = some (decide (a = b)) := gdC h
theorem z1rz (a : List GNode) (b : List GNode) (h : (a.length ≤ 1048576) ∧ (∀ y ∈ a, GNode.lens (· ≤ 1048576) y) ∧ (∀ y ∈ b, GNode.lens (· ≤ 1048576) y)) : z0wc a b = some (decide (a = b)) := by
  have hl := h.1
  refine z1i2 fun hab => z1ec (f := z04g a b z0jb) (by omega) hab (fun n i hi hj => ?_) (fun n => ?_)
  · rw [z04g, if_pos (decide_eq_true (Int.ofNat_lt.2 hi)), z01w hi, Option.bind_some, z01w hj, Option.bind_some, z1zc _ _ ⟨h.2.1 _ (List.getElem_mem _), h.2.2 _ (List.getElem_mem _)⟩, Option.bind_some, z000 (ok64i hi h.1)]; rfl
  · rw [z04g, if_neg (by simp)]; rfl
noncomputable def z18m : Con := ⟨69, [.v (.sl (.s .node)) false, .v (.sl (.s .node)) false], [(.B, true)], [], fun x => z0v7 x.1 x.2.1⟩
theorem z1su : z18m.Ok Tryz.prog := z00p z1hm fun x z hz => by
  obtain ⟨h, e⟩ := z00a hz
  subst e
  exact z1rz _ _ h
def z0m2 (x : GCase) (y : GCase) : Option Bool := if decide (x.state = y.state) = true then ((z0j1 x.marks y.marks).bind fun x2 => (if x2 = true then ((z0u8 x.busy y.busy).bind fun x4 => (if x4 = true then ((z0j1 x.data y.data).bind fun x6 => (if x6 = true then ((z100 x.did y.did).bind fun x8 => (if x8 = true then (some true) else (some false))) else (some false))) else (some false))) else (some false))) else (some false)
def z11c : Con := ⟨40, [.v (.s .kase) false, .v (.s .kase) false], [(.B, true)], [], fun x => z0m2 x.1 x.2.1⟩
def z1nt : Fs := ⟨[z0zh, z16l, z1db], []⟩
theorem z1ly : z1nt.Ok Tryz.prog := (fsK z157 (fsK z1t9 (fsK z1wt fs0)))
theorem z1lo : z11c.Ok Tryz.prog := fn_ok (k := z11c) (fn := Tryz.f40) (W := []) (H := []) Tryz.func40 z1ly trivial rfl rfl (fun av x => by kernel_rfl)
noncomputable def z0za (x : GCase) (y : GCase) : Option Bool := @gd ((GCase.lens (· ≤ 1048576) x) ∧ (GCase.lens (· ≤ 1048576) y)) (Classical.propDecidable _) _ (some (decide (x = y)))
theorem z1zr (x : GCase) (y : GCase) (h : (GCase.lens (· ≤ 1048576) x) ∧ (GCase.lens (· ≤ 1048576) y)) : z0za x y = some (decide (x = y)) := gdC h
theorem z1zp (x : GCase) (y : GCase) (h : (GCase.lens (· ≤ 1048576) x) ∧ (GCase.lens (· ≤ 1048576) y)) : z0m2 x y = some (decide (x = y)) := by
  rw [z0m2, z0ux _ _ h.1.1, Option.bind_some, z1q2 _ _ h.1.2.1, Option.bind_some, z0ux _ _ h.1.2.2.1, Option.bind_some, z1y0 _ _ h.1.2.2.2, Option.bind_some]
  refine (z00h (z00h (z00h (z00h (z00h z153))))).trans (congrArg some (decide_eq_decide.2 ⟨fun ⟨h0, h1, h2, h3, h4, _⟩ => ?_, fun h => by subst h; simp⟩))
  cases x; cases y; simp_all
noncomputable def z1dt : Con := ⟨40, [.v (.s .kase) false, .v (.s .kase) false], [(.B, true)], [], fun x => z0za x.1 x.2.1⟩
theorem z1wu : z1dt.Ok Tryz.prog := z00p z1lo fun x z hz => by
  obtain ⟨h, e⟩ := z00a hz
  subst e
  exact z1zp _ _ h
def z0u1 (x : GRun) (y : GRun) : Option Bool := if decide (x.net = y.net) = true then ((z0za x.case y.case).bind fun x2 => (if x2 = true then (some true) else (some false))) else (some false)
def z161 : Con := ⟨151, [.v (.s .run) false, .v (.s .run) false], [(.B, true)], [], fun x => z0u1 x.1 x.2.1⟩
def z1t2 : Fs := ⟨[z1dt], []⟩
theorem z1qf : z1t2.Ok Tryz.prog := (fsK z1wu fs0)
theorem z1ru : z161.Ok Tryz.prog := fn_ok (k := z161) (fn := Tryz.f151) (W := []) (H := []) Tryz.func151 z1qf trivial rfl rfl (fun av x => by kernel_rfl)
noncomputable def z15h (x : GRun) (y : GRun) : Option Bool := @gd ((GRun.lens (· ≤ 1048576) x) ∧ (GRun.lens (· ≤ 1048576) y)) (Classical.propDecidable _) _ (some (decide (x = y)))
theorem z22c (x : GRun) (y : GRun) (h : (GRun.lens (· ≤ 1048576) x) ∧ (GRun.lens (· ≤ 1048576) y)) : z15h x y = some (decide (x = y)) := gdC h
theorem z20e (x : GRun) (y : GRun) (h : (GRun.lens (· ≤ 1048576) x) ∧ (GRun.lens (· ≤ 1048576) y)) : z0u1 x y = some (decide (x = y)) := by
  rw [z0u1, z1zr _ _ ⟨h.1, h.2⟩, Option.bind_some]
  refine (z00h (z00h z153)).trans (congrArg some (decide_eq_decide.2 ⟨fun ⟨h0, h1, _⟩ => ?_, fun h => by subst h; simp⟩))
  cases x; cases y; simp_all
noncomputable def z1p8 : Con := ⟨151, [.v (.s .run) false, .v (.s .run) false], [(.B, true)], [], fun x => z15h x.1 x.2.1⟩
theorem z21n : z1p8.Ok Tryz.prog := z00p z1ru fun x z hz => by
  obtain ⟨h, e⟩ := z00a hz
  subst e
  exact z20e _ _ h
def z0n4  : Option Bool := some true
def z05t (a : List GRun) (b : List GRun) (kx0_0 : Option Bool) : Nat → Int → Option Bool
  | 0, _ => none
  | n0 + 1, s0_0 => if decide (s0_0 < (a.length : Int)) = true then ((getI a s0_0).bind fun x3 => ((getI b s0_0).bind fun x4 => ((z15h x3 x4).bind fun x5 => (if x5 = true then (gd (ok64 (s0_0 + 1)) ((z05t a b kx0_0 n0) (s0_0 + 1))) else (some false))))) else (kx0_0)
def z112 (a : List GRun) (b : List GRun) : Option Bool := if decide ((a.length : Int) = (b.length : Int)) = true then (z05t a b z0n4 FUEL 0) else (some false)
def z06b : Con := ⟨70, [.v (.sl (.s .run)) false, .v (.sl (.s .run)) false], [(.B, true)], [], fun x => z112 x.1 x.2.1⟩
def z1n4 : Fs := ⟨[z1p8], []⟩
theorem z11f : z1n4.Ok Tryz.prog := (fsK z21n fs0)
def z0th : Tmpl := ⟨[(0, .c (.s (.s .run))), (1, .c (.s (.s .run))), (5, .c .i)], []⟩
def z0mo : Tmpl := ⟨[], []⟩
def z1bc (av : AV) (x : HP z06b.ps) (n : Nat) (v : z0th.den) (K : Ks (CR z06b)) : Option (CR z06b) := z05t v.1.1 v.1.2.1 (z0mo.at none ((), ()) (K (.exit 0))) n v.1.2.2.1
def z0r4 (av : AV) (x : HP z06b.ps) : Hdl (CR z06b) := hnd [] z0th (z1bc av x)
theorem z1ag : LP z06b Tryz.f70 [0] z0r4 := lp_ok (W := []) (H := []) (xs := [z0mo]) z11f trivial rfl (fun av x v K => by kernel_rfl) (fun av x n v K => by kernel_rfl)
theorem z1ln : z06b.Ok Tryz.prog := fn_ok (k := z06b) (fn := Tryz.f70) (W := []) (H := [z0r4]) Tryz.func70 z11f ⟨z1ag, trivial⟩ rfl rfl (fun av x => by kernel_rfl)
noncomputable def z106 (a : List GRun) (b : List GRun) : Option Bool := @gd ((a.length ≤ 1048576) ∧ (∀ y ∈ a, GRun.lens (· ≤ 1048576) y) ∧ (∀ y ∈ b, GRun.lens (· ≤ 1048576) y)) (Classical.propDecidable _) _ (some (decide (a = b)))
theorem z205 (a : List GRun) (b : List GRun) (h : (a.length ≤ 1048576) ∧ (∀ y ∈ a, GRun.lens (· ≤ 1048576) y) ∧ (∀ y ∈ b, GRun.lens (· ≤ 1048576) y)) : z106 a b = some (decide (a = b)) := gdC h
theorem z208 (a : List GRun) (b : List GRun) (h : (a.length ≤ 1048576) ∧ (∀ y ∈ a, GRun.lens (· ≤ 1048576) y) ∧ (∀ y ∈ b, GRun.lens (· ≤ 1048576) y)) : z112 a b = some (decide (a = b)) := by
  have hl := h.1
  refine z1i2 fun hab => z1ec (f := z05t a b z0n4) (by omega) hab (fun n i hi hj => ?_) (fun n => ?_)
  · rw [z05t, if_pos (decide_eq_true (Int.ofNat_lt.2 hi)), z01w hi, Option.bind_some, z01w hj, Option.bind_some, z22c _ _ ⟨h.2.1 _ (List.getElem_mem _), h.2.2 _ (List.getElem_mem _)⟩, Option.bind_some, z000 (ok64i hi h.1)]; rfl
  · rw [z05t, if_neg (by simp)]; rfl
noncomputable def z1d9 : Con := ⟨70, [.v (.sl (.s .run)) false, .v (.sl (.s .run)) false], [(.B, true)], [], fun x => z106 x.1 x.2.1⟩
theorem z1zq : z1d9.Ok Tryz.prog := z00p z1ln fun x z hz => by
  obtain ⟨h, e⟩ := z00a hz
  subst e
  exact z208 _ _ h
def z0u3 (x : GReq) (y : GReq) : Option Bool := if decide (x.kind = y.kind) = true then (if decide (x.who = y.who) = true then (if decide (x.case = y.case) = true then (if decide (x.task = y.task) = true then (if decide (x.var = y.var) = true then (if decide (x.num = y.num) = true then ((z0j1 x.data y.data).bind fun x7 => (if x7 = true then ((z0ob x.if_ y.if_).bind fun x9 => (if x9 = true then (if decide (x.ans = y.ans) = true then (some true) else (some false)) else (some false))) else (some false))) else (some false)) else (some false)) else (some false)) else (some false)) else (some false)) else (some false)
def z140 : Con := ⟨18, [.v (.s .req) false, .v (.s .req) false], [(.B, true)], [], fun x => z0u3 x.1 x.2.1⟩
def z1u7 : Fs := ⟨[z0zh, z0vm], []⟩
theorem z1rm : z1u7.Ok Tryz.prog := (fsK z157 (fsK z16n fs0))
theorem z1s8 : z140.Ok Tryz.prog := fn_ok (k := z140) (fn := Tryz.f18) (W := []) (H := []) Tryz.func18 z1rm trivial rfl rfl (fun av x => by kernel_rfl)
noncomputable def z16o (x : GReq) (y : GReq) : Option Bool := @gd ((GReq.lens (· ≤ 1048576) x) ∧ (GReq.lens (· ≤ 1048576) y)) (Classical.propDecidable _) _ (some (decide (x = y)))
theorem z218 (x : GReq) (y : GReq) (h : (GReq.lens (· ≤ 1048576) x) ∧ (GReq.lens (· ≤ 1048576) y)) : z16o x y = some (decide (x = y)) := gdC h
theorem z214 (x : GReq) (y : GReq) (h : (GReq.lens (· ≤ 1048576) x) ∧ (GReq.lens (· ≤ 1048576) y)) : z0u3 x y = some (decide (x = y)) := by
  rw [z0u3, z0ux _ _ h.1, Option.bind_some, z14u _ _ trivial, Option.bind_some]
  refine (z00h (z00h (z00h (z00h (z00h (z00h (z00h (z00h (z00h z153))))))))).trans (congrArg some (decide_eq_decide.2 ⟨fun ⟨h0, h1, h2, h3, h4, h5, h6, h7, h8, _⟩ => ?_, fun h => by subst h; simp⟩))
  cases x; cases y; simp_all
noncomputable def z1mn : Con := ⟨18, [.v (.s .req) false, .v (.s .req) false], [(.B, true)], [], fun x => z16o x.1 x.2.1⟩
theorem z23p : z1mn.Ok Tryz.prog := z00p z1s8 fun x z hz => by
  obtain ⟨h, e⟩ := z00a hz
  subst e
  exact z214 _ _ h
def z0o4  : Option Bool := some true
def z061 (a : List GReq) (b : List GReq) (kx0_0 : Option Bool) : Nat → Int → Option Bool
  | 0, _ => none
  | n0 + 1, s0_0 => if decide (s0_0 < (a.length : Int)) = true then ((getI a s0_0).bind fun x3 => ((getI b s0_0).bind fun x4 => ((z16o x3 x4).bind fun x5 => (if x5 = true then (gd (ok64 (s0_0 + 1)) ((z061 a b kx0_0 n0) (s0_0 + 1))) else (some false))))) else (kx0_0)
def z10l (a : List GReq) (b : List GReq) : Option Bool := if decide ((a.length : Int) = (b.length : Int)) = true then (z061 a b z0o4 FUEL 0) else (some false)
def z06f : Con := ⟨26, [.v (.sl (.s .req)) false, .v (.sl (.s .req)) false], [(.B, true)], [], fun x => z10l x.1 x.2.1⟩
def z1lk : Fs := ⟨[z1mn], []⟩
theorem z116 : z1lk.Ok Tryz.prog := (fsK z23p fs0)
def z0t7 : Tmpl := ⟨[(0, .c (.s (.s .req))), (1, .c (.s (.s .req))), (5, .c .i)], []⟩
def z0pu : Tmpl := ⟨[], []⟩
def z1a3 (av : AV) (x : HP z06f.ps) (n : Nat) (v : z0t7.den) (K : Ks (CR z06f)) : Option (CR z06f) := z061 v.1.1 v.1.2.1 (z0pu.at none ((), ()) (K (.exit 0))) n v.1.2.2.1
def z0sg (av : AV) (x : HP z06f.ps) : Hdl (CR z06f) := hnd [] z0t7 (z1a3 av x)
theorem z1b8 : LP z06f Tryz.f26 [0] z0sg := lp_ok (W := []) (H := []) (xs := [z0pu]) z116 trivial rfl (fun av x v K => by kernel_rfl) (fun av x n v K => by kernel_rfl)
theorem z1pg : z06f.Ok Tryz.prog := fn_ok (k := z06f) (fn := Tryz.f26) (W := []) (H := [z0sg]) Tryz.func26 z116 ⟨z1b8, trivial⟩ rfl rfl (fun av x => by kernel_rfl)
noncomputable def z0e1 (a : List GReq) (b : List GReq) : Option Bool := @gd ((a.length ≤ 1048576) ∧ (∀ y ∈ a, GReq.lens (· ≤ 1048576) y) ∧ (∀ y ∈ b, GReq.lens (· ≤ 1048576) y)) (Classical.propDecidable _) _ (some (decide (a = b)))
theorem z1cp (a : List GReq) (b : List GReq) (h : (a.length ≤ 1048576) ∧ (∀ y ∈ a, GReq.lens (· ≤ 1048576) y) ∧ (∀ y ∈ b, GReq.lens (· ≤ 1048576) y)) : z0e1 a b = some (decide (a = b)) := gdC h
theorem z1yf (a : List GReq) (b : List GReq) (h : (a.length ≤ 1048576) ∧ (∀ y ∈ a, GReq.lens (· ≤ 1048576) y) ∧ (∀ y ∈ b, GReq.lens (· ≤ 1048576) y)) : z10l a b = some (decide (a = b)) := by
  have hl := h.1
  refine z1i2 fun hab => z1ec (f := z061 a b z0o4) (by omega) hab (fun n i hi hj => ?_) (fun n => ?_)
  · rw [z061, if_pos (decide_eq_true (Int.ofNat_lt.2 hi)), z01w hi, Option.bind_some, z01w hj, Option.bind_some, z218 _ _ ⟨h.2.1 _ (List.getElem_mem _), h.2.2 _ (List.getElem_mem _)⟩, Option.bind_some, z000 (ok64i hi h.1)]; rfl
  · rw [z061, if_neg (by simp)]; rfl
noncomputable def z1dc : Con := ⟨26, [.v (.sl (.s .req)) false, .v (.sl (.s .req)) false], [(.B, true)], [], fun x => z0e1 x.1 x.2.1⟩
theorem z1y9 : z1dc.Ok Tryz.prog := z00p z1pg fun x z hz => by
  obtain ⟨h, e⟩ := z00a hz
  subst e
  exact z1yf _ _ h
def z0hx (x : GHouse) (y : GHouse) : Option Bool := (z0z1 x.nets y.nets).bind fun x1 => (if x1 = true then ((z0j1 x.people y.people).bind fun x3 => (if x3 = true then ((z0v7 x.tree y.tree).bind fun x5 => (if x5 = true then ((z106 x.runs y.runs).bind fun x7 => (if x7 = true then (some true) else (some false))) else (some false))) else (some false))) else (some false))
def z0x9 : Con := ⟨17, [.v (.s .house) false, .v (.s .house) false], [(.B, true)], [], fun x => z0hx x.1 x.2.1⟩
def z1hl : Fs := ⟨[z1do, z0zh, z18m, z1d9], []⟩
theorem z1en : z1hl.Ok Tryz.prog := (fsK z1xd (fsK z157 (fsK z1su (fsK z1zq fs0))))
theorem z1fk : z0x9.Ok Tryz.prog := fn_ok (k := z0x9) (fn := Tryz.f17) (W := []) (H := []) Tryz.func17 z1en trivial rfl rfl (fun av x => by kernel_rfl)
noncomputable def z0bl (x : GHouse) (y : GHouse) : Option Bool := @gd ((GHouse.lens (· ≤ 1048576) x) ∧ (GHouse.lens (· ≤ 1048576) y)) (Classical.propDecidable _) _ (some (decide (x = y)))
theorem z14h (x : GHouse) (y : GHouse) (h : (GHouse.lens (· ≤ 1048576) x) ∧ (GHouse.lens (· ≤ 1048576) y)) : z0bl x y = some (decide (x = y)) := gdC h
theorem z1sh (x : GHouse) (y : GHouse) (h : (GHouse.lens (· ≤ 1048576) x) ∧ (GHouse.lens (· ≤ 1048576) y)) : z0hx x y = some (decide (x = y)) := by
  rw [z0hx, z1y7 _ _ ⟨h.1.1.1, h.1.1.2, h.2.1.2⟩, Option.bind_some, z0ux _ _ h.1.2.1, Option.bind_some, z1pn _ _ ⟨h.1.2.2.1.1, h.1.2.2.1.2, h.2.2.2.1.2⟩, Option.bind_some, z205 _ _ ⟨h.1.2.2.2.1, h.1.2.2.2.2, h.2.2.2.2.2⟩, Option.bind_some]
  refine (z00h (z00h (z00h (z00h z153)))).trans (congrArg some (decide_eq_decide.2 ⟨fun ⟨h0, h1, h2, h3, _⟩ => ?_, fun h => by subst h; simp⟩))
  cases x; cases y; simp_all
noncomputable def z18l : Con := ⟨17, [.v (.s .house) false, .v (.s .house) false], [(.B, true)], [], fun x => z0bl x.1 x.2.1⟩
theorem z1t5 : z18l.Ok Tryz.prog := z00p z1fk fun x z hz => by
  obtain ⟨h, e⟩ := z00a hz
  subst e
  exact z1sh _ _ h
def z002 (n : Int) (low : Int) (high : Int) : Option Bool := if decide (low ≤ n) = true then (some (decide (n ≤ high))) else (some false)
def z00o : Con := ⟨85, [.v .I false, .v .I false, .v .I false], [(.B, true)], [], fun x => z002 x.1 x.2.1 x.2.2.1⟩
def z1z2 : Fs := ⟨[], []⟩
theorem z1xa : z1z2.Ok Tryz.prog := fs0
theorem z00t : z00o.Ok Tryz.prog := fn_ok (k := z00o) (fn := Tryz.f85) (W := []) (H := []) Tryz.func85 z1xa trivial rfl rfl (fun av x => by kernel_rfl)
def z0tb  : Option Bool := some true
def z07g (data : List Int) (kx0_0 : Option Bool) : Nat → Int → Option Bool
  | 0, _ => none
  | n0 + 1, s0_0 => if decide (s0_0 < (data.length : Int)) = true then ((getI data s0_0).bind fun x3 => ((z002 x3 (-99) 99).bind fun x4 => (if x4 = true then (gd (ok64 (s0_0 + 1)) ((z07g data kx0_0 n0) (s0_0 + 1))) else (some false)))) else (kx0_0)
def z02c (data : List Int) : Option Bool := if decide ((data.length : Int) = 3) = true then (z07g data z0tb FUEL 0) else (some false)
def z014 : Con := ⟨129, [.v (.sl .I) false], [(.B, true)], [], fun x => z02c x.1⟩
def z1s4 : Fs := ⟨[z00o], []⟩
theorem z18h : z1s4.Ok Tryz.prog := (fsK z00t fs0)
def z0y7 : Tmpl := ⟨[(0, .c (.s .I)), (3, .c .i)], []⟩
def z0ra : Tmpl := ⟨[], []⟩
def z1gi (av : AV) (x : HP z014.ps) (n : Nat) (v : z0y7.den) (K : Ks (CR z014)) : Option (CR z014) := z07g v.1.1 (z0ra.at none ((), ()) (K (.exit 0))) n v.1.2.1
def z0xb (av : AV) (x : HP z014.ps) : Hdl (CR z014) := hnd [] z0y7 (z1gi av x)
theorem z1gz : LP z014 Tryz.f129 [0] z0xb := lp_ok (W := []) (H := []) (xs := [z0ra]) z18h trivial rfl (fun av x v K => by kernel_rfl) (fun av x n v K => by kernel_rfl)
theorem z072 : z014.Ok Tryz.prog := fn_ok (k := z014) (fn := Tryz.f129) (W := []) (H := [z0xb]) Tryz.func129 z18h ⟨z1gz, trivial⟩ rfl rfl (fun av x => by kernel_rfl)
def z0g3 (data : List Int) (k : Int) (n : Int) : Option (List Int) := (z02c data).bind fun x1 => (if x1 = true then ((z002 k 0 2).bind fun x3 => (if x3 = true then ((z002 n (-99) 99).bind fun x5 => (if x5 = true then (gd (([] : List Int).length + data.length ≤ SMALL) ((getI (([] : List Int) ++ data) k).bind fun x8 => (some ((([] : List Int) ++ data).set k.toNat n)))) else (gd (([] : List Int).length + data.length ≤ SMALL) (some (([] : List Int) ++ data))))) else (gd (([] : List Int).length + data.length ≤ SMALL) (some (([] : List Int) ++ data))))) else (gd (([] : List Int).length + data.length ≤ SMALL) (some (([] : List Int) ++ data))))
def z0ls : Con := ⟨190, [.v (.sl .I) false, .v .I false, .v .I false], [((.sl .I), true)], [], fun x => z0g3 x.1 x.2.1 x.2.2.1⟩
def z1j5 : Fs := ⟨[z014, z00o], []⟩
theorem z1m3 : z1j5.Ok Tryz.prog := (fsK z072 (fsK z00t fs0))
theorem z1kt : z0ls.Ok Tryz.prog := fn_ok (k := z0ls) (fn := Tryz.f190) (W := []) (H := []) Tryz.func190 z1m3 trivial rfl rfl (fun av x => by kernel_rfl)
def z086 (e : GAsk) : Option Bool := if decide (e.op = 0) = true then (some (decide ([e.op, e.var, e.k] = [0, 0, 0]))) else ((z002 e.op 1 3).bind fun x2 => (if x2 = true then ((z002 e.var 0 2).bind fun x4 => (if x4 = true then ((z002 e.k (-99) 99).bind fun x6 => (some x6)) else (some false))) else (some false)))
def z0be : Con := ⟨128, [.v (.s .ask) false], [(.B, true)], [], fun x => z086 x.1⟩
def z1se : Fs := ⟨[z00o], []⟩
theorem z1u1 : z1se.Ok Tryz.prog := (fsK z00t fs0)
theorem z0ir : z0be.Ok Tryz.prog := fn_ok (k := z0be) (fn := Tryz.f128) (W := []) (H := []) Tryz.func128 z1u1 trivial rfl rfl (fun av x => by kernel_rfl)
def z01q (e : GAsk) (data : List Int) : Option Bool := (z086 e).bind fun x1 => (if x1 = true then ((z02c data).bind fun x3 => (if x3 = true then (if decide (e.op = 1) = true then ((getI data e.var).bind fun x6 => (some (decide (x6 < e.k)))) else (if decide (e.op = 2) = true then ((getI data e.var).bind fun x8 => (some (decide (x8 = e.k)))) else (if decide (e.op = 3) = true then ((getI data e.var).bind fun x10 => (some (decide (e.k < x10)))) else (some true)))) else (some false))) else (some false))
def z05f : Con := ⟨156, [.v (.s .ask) false, .v (.sl .I) false], [(.B, true)], [], fun x => z01q x.1 x.2.1⟩
def z1ao : Fs := ⟨[z0be, z014], []⟩
theorem z1a0 : z1ao.Ok Tryz.prog := (fsK z0ir (fsK z072 fs0))
theorem z08s : z05f.Ok Tryz.prog := fn_ok (k := z05f) (fn := Tryz.f156) (W := []) (H := []) Tryz.func156 z1a0 trivial rfl rfl (fun av x => by kernel_rfl)
def z00b (n : Int) (low : Int) (high : Int) : Option Bool := if decide (low ≤ n) = true then (some (decide (n ≤ high))) else (some false)
def z029 : Con := ⟨87, [.v .I false, .v .I false, .v .I false], [(.B, true)], [], fun x => z00b x.1 x.2.1 x.2.2.1⟩
def z24u : Fs := ⟨[], []⟩
theorem z25c : z24u.Ok Tryz.prog := fs0
theorem z02t : z029.Ok Tryz.prog := fn_ok (k := z029) (fn := Tryz.f87) (W := []) (H := []) Tryz.func87 z25c trivial rfl rfl (fun av x => by kernel_rfl)
def z05d (n : Int) : Option Bool := (z00b n (-99) 99).bind fun x1 => (some x1)
def z08l : Con := ⟨137, [.v .I false], [(.B, true)], [], fun x => z05d x.1⟩
def z1fs : Fs := ⟨[z029], []⟩
theorem z1ek : z1fs.Ok Tryz.prog := (fsK z02t fs0)
theorem z0do : z08l.Ok Tryz.prog := fn_ok (k := z08l) (fn := Tryz.f137) (W := []) (H := []) Tryz.func137 z1ek trivial rfl rfl (fun av x => by kernel_rfl)
def z00c (list : List Int) : Option (List Int) := gd (([] : List Int).length + list.length ≤ SMALL) (some (([] : List Int) ++ list))
def z013 : Con := ⟨143, [.v (.sl .I) false], [((.sl .I), true)], [], fun x => z00c x.1⟩
def z16f : Fs := ⟨[], []⟩
theorem z199 : z16f.Ok Tryz.prog := fs0
theorem z023 : z013.Ok Tryz.prog := fn_ok (k := z013) (fn := Tryz.f143) (W := []) (H := []) Tryz.func143 z199 trivial rfl rfl (fun av x => by kernel_rfl)
def z085 (e : GAsk) : Option Bool := if decide (e.op = 0) = true then (if decide (e.var = 0) = true then (some (decide (e.k = 0))) else (some false)) else ((z00b e.op 1 3).bind fun x3 => (if x3 = true then ((z00b e.var 0 2).bind fun x5 => (if x5 = true then ((z05d e.k).bind fun x7 => (some x7)) else (some false))) else (some false)))
def z0ea : Con := ⟨138, [.v (.s .ask) false], [(.B, true)], [], fun x => z085 x.1⟩
def z1tz : Fs := ⟨[z029, z08l], []⟩
theorem z1sp : z1tz.Ok Tryz.prog := (fsK z02t (fsK z0do fs0))
theorem z0up : z0ea.Ok Tryz.prog := fn_ok (k := z0ea) (fn := Tryz.f138) (W := []) (H := []) Tryz.func138 z1sp trivial rfl rfl (fun av x => by kernel_rfl)
def z0jd  : Option Bool := some true
def z02w (list : List Int) (low : Int) (high : Int) (kx0_0 : Option Bool) : Nat → Int → Option Bool
  | 0, _ => none
  | n0 + 1, s0_0 => if decide (s0_0 < (list.length : Int)) = true then ((getI list s0_0).bind fun x4 => ((z002 x4 low high).bind fun x5 => (if x5 = true then (if decide (0 < s0_0) = true then (gd (ok64 (s0_0 - 1)) ((getI list (s0_0 - 1)).bind fun x9 => ((getI list s0_0).bind fun x10 => (if decide (x10 ≤ x9) = true then (some false) else (gd (ok64 (s0_0 + 1)) ((z02w list low high kx0_0 n0) (s0_0 + 1))))))) else (gd (ok64 (s0_0 + 1)) ((z02w list low high kx0_0 n0) (s0_0 + 1)))) else (some false)))) else (kx0_0)
def z0av (list : List Int) (least : Int) (most : Int) (low : Int) (high : Int) : Option Bool := (z002 (list.length : Int) least most).bind fun x1 => (if x1 = true then (z02w list low high z0jd FUEL 0) else (some false))
def z037 : Con := ⟨225, [.v (.sl .I) false, .v .I false, .v .I false, .v .I false, .v .I false], [(.B, true)], [], fun x => z0av x.1 x.2.1 x.2.2.1 x.2.2.2.1 x.2.2.2.2.1⟩
def z1h3 : Fs := ⟨[z00o], []⟩
theorem z0xa : z1h3.Ok Tryz.prog := (fsK z00t fs0)
def z0nh : Tmpl := ⟨[(0, .c (.s .I)), (3, .c .i), (4, .c .i), (11, .c .i)], []⟩
def z0jz : Tmpl := ⟨[], []⟩
def z179 (av : AV) (x : HP z037.ps) (n : Nat) (v : z0nh.den) (K : Ks (CR z037)) : Option (CR z037) := z02w v.1.1 v.1.2.1 v.1.2.2.1 (z0jz.at none ((), ()) (K (.exit 0))) n v.1.2.2.2.1
def z0pn (av : AV) (x : HP z037.ps) : Hdl (CR z037) := hnd [] z0nh (z179 av x)
theorem z15e : LP z037 Tryz.f225 [0] z0pn := lp_ok (W := []) (H := []) (xs := [z0jz]) z0xa trivial rfl (fun av x v K => by kernel_rfl) (fun av x n v K => by kernel_rfl)
theorem z1hc : z037.Ok Tryz.prog := fn_ok (k := z037) (fn := Tryz.f225) (W := []) (H := [z0pn]) Tryz.func225 z0xa ⟨z15e, trivial⟩ rfl rfl (fun av x => by kernel_rfl)
def z0su  : Option Bool := some false
def z07e (list : List Int) (n : Int) (kx0_0 : Option Bool) : Nat → Int → Option Bool
  | 0, _ => none
  | n0 + 1, s0_0 => if decide (s0_0 < (list.length : Int)) = true then ((getI list s0_0).bind fun x2 => (if decide (x2 = n) = true then (some true) else (gd (ok64 (s0_0 + 1)) ((z07e list n kx0_0 n0) (s0_0 + 1))))) else (kx0_0)
def z0bp (list : List Int) (n : Int) : Option Bool := z07e list n z0su FUEL 0
def z03w : Con := ⟨99, [.v (.sl .I) false, .v .I false], [(.B, true)], [], fun x => z0bp x.1 x.2.1⟩
def z1uz : Fs := ⟨[], []⟩
theorem z19j : z1uz.Ok Tryz.prog := fs0
def z0wp : Tmpl := ⟨[(0, .c (.s .I)), (1, .c .i), (5, .c .i)], []⟩
def z0s2 : Tmpl := ⟨[], []⟩
def z1gu (av : AV) (x : HP z03w.ps) (n : Nat) (v : z0wp.den) (K : Ks (CR z03w)) : Option (CR z03w) := z07e v.1.1 v.1.2.1 (z0s2.at none ((), ()) (K (.exit 0))) n v.1.2.2.1
def z0ws (av : AV) (x : HP z03w.ps) : Hdl (CR z03w) := hnd [] z0wp (z1gu av x)
theorem z1eb : LP z03w Tryz.f99 [0] z0ws := lp_ok (W := []) (H := []) (xs := [z0s2]) z19j trivial rfl (fun av x v K => by kernel_rfl) (fun av x n v K => by kernel_rfl)
theorem z0uq : z03w.Ok Tryz.prog := fn_ok (k := z03w) (fn := Tryz.f99) (W := []) (H := [z0ws]) Tryz.func99 z19j ⟨z1eb, trivial⟩ rfl rfl (fun av x => by kernel_rfl)
def z0kf (s0_0 : Int) (bk0 : Int → Option Bool) : Option Bool := gd (ok64 (s0_0 + 1)) (bk0 (s0_0 + 1))
def z027 (t : GTask) (s0_0 : Int) (x4 : GFlow) (kx1_0 : Option Bool) : Nat → Int → Option Bool
  | 0, _ => none
  | n1 + 1, s1_0 => if decide (s1_0 < s0_0) = true then ((getI t.out s1_0).bind fun x14 => (if decide (x14.to = x4.to) = true then (some false) else (gd (ok64 (s1_0 + 1)) ((z027 t s0_0 x4 kx1_0 n1) (s1_0 + 1))))) else (kx1_0)
def z0jf (s0_0 : Int) (bk0 : Int → Option Bool) : Option Bool := gd (ok64 (s0_0 + 1)) (bk0 (s0_0 + 1))
def z0ka  : Option Bool := some true
def z02v (t : GTask) (places : Int) (kx0_0 : Option Bool) : Nat → Int → Option Bool
  | 0, _ => none
  | n0 + 1, s0_0 => if decide (s0_0 < (t.out.length : Int)) = true then ((getI t.out s0_0).bind fun x4 => (gd (ok64 ((t.out.length : Int) - 1)) (if decide (s0_0 = ((t.out.length : Int) - 1)) = true then (gd (ok64 (places - 1)) ((z002 x4.to 1 (places - 1)).bind fun x8 => (if x8 = true then ((z086 x4.if_).bind fun x10 => (if x10 = true then (if (true == (decide (x4.if_.op = 0))) = true then (z027 t s0_0 x4 (z0kf s0_0 (z02v t places kx0_0 n0)) FUEL 0) else (some false)) else (some false))) else (some false)))) else (gd (ok64 (places - 1)) ((z002 x4.to 1 (places - 1)).bind fun x19 => (if x19 = true then ((z086 x4.if_).bind fun x21 => (if x21 = true then (if ((decide (t.split = 1)) == (decide (x4.if_.op = 0))) = true then (z027 t s0_0 x4 (z0jf s0_0 (z02v t places kx0_0 n0)) FUEL 0) else (some false)) else (some false))) else (some false))))))) else (kx0_0)
def z0dp (t : GTask) (places : Int) : Option Bool := (z002 (t.out.length : Int) 1 3).bind fun x1 => (if x1 = true then (z02v t places z0ka FUEL 0) else (some false))
def z00u : Con := ⟨226, [.v (.s .task) false, .v .I false], [(.B, true)], [], fun x => z0dp x.1 x.2.1⟩
def z1e9 : Fs := ⟨[z00o, z0be], []⟩
theorem z0i5 : z1e9.Ok Tryz.prog := (fsK z00t (fsK z0ir fs0))
def z0h4 : Tmpl := ⟨[(1, .c .i), (2, .c (.bx 2 0)), (5, .c .i), (6, .c (.bx 6 0)), (8, .c .i)], [(2, .boxT (.s .task)), (6, .boxT (.s .flow))]⟩
def z0f4 : Tmpl := ⟨[(1, .c .i), (2, .c (.bx 2 0)), (5, .c .i)], [(2, .boxT (.s .task))]⟩
def z0zb (av : AV) (x : HP z00u.ps) (n : Nat) (v : z0h4.den) (K : Ks (CR z00u)) : Option (CR z00u) := z027 v.2.1 v.1.2.2.1 v.2.2.1 (z0f4.at none ((v.1.1, (), v.1.2.2.1, ()), (v.2.1, ())) (K (.exit 2))) n v.1.2.2.2.2.1
def z0hm (av : AV) (x : HP z00u.ps) : Hdl (CR z00u) := hnd [] z0h4 (z0zb av x)
theorem z108 : LP z00u Tryz.f226 [0, 0] z0hm := lp_ok (W := []) (H := []) (xs := [z0f4]) z0i5 trivial rfl (fun av x v K => by kernel_rfl) (fun av x n v K => by kernel_rfl)
def z0ow : Tmpl := ⟨[(1, .c .i), (2, .c (.bx 2 0)), (5, .c .i)], [(2, .boxT (.s .task))]⟩
def z0kr : Tmpl := ⟨[], []⟩
def z14t (av : AV) (x : HP z00u.ps) (n : Nat) (v : z0ow.den) (K : Ks (CR z00u)) : Option (CR z00u) := z02v v.2.1 v.1.1 (z0kr.at none ((), ()) (K (.exit 0))) n v.1.2.2.1
def z0n6 (av : AV) (x : HP z00u.ps) : Hdl (CR z00u) := hnd [] z0ow (z14t av x)
theorem z189 : LP z00u Tryz.f226 [0] z0n6 := lp_ok (W := []) (H := [z0hm]) (xs := [z0kr]) z0i5 ⟨z108, trivial⟩ rfl (fun av x v K => by kernel_rfl) (fun av x n v K => by kernel_rfl)
theorem z1gl : z00u.Ok Tryz.prog := fn_ok (k := z00u) (fn := Tryz.f226) (W := []) (H := [z0n6]) Tryz.func226 z0i5 ⟨z189, trivial⟩ rfl rfl (fun av x => by kernel_rfl)
def z0fn (t : GTask) (places : Int) (tasks : Int) : Option Bool := (z002 t.join 1 3).bind fun x1 => (if x1 = true then ((z002 t.split 1 3).bind fun x3 => (if x3 = true then (gd (ok64 (places - 1)) ((z0av t.in_ 1 3 0 (places - 1)).bind fun x6 => (if x6 = true then ((z0bp t.in_ 1).bind fun x8 => (if x8 = true then (some false) else ((z0dp t places).bind fun x10 => (if x10 = true then (gd (ok64 (places - 1)) ((z0av t.clear 0 places 2 (places - 1)).bind fun x13 => (if x13 = true then ((z002 t.role 1 3).bind fun x15 => (if x15 = true then (gd (ok64 (tasks - 1)) ((z002 t.apart (-1) (tasks - 1)).bind fun x18 => (if x18 = true then ((z002 t.all 1 3).bind fun x20 => (if x20 = true then ((z002 t.need 1 t.all).bind fun x22 => (some x22)) else (some false))) else (some false)))) else (some false))) else (some false)))) else (some false))))) else (some false)))) else (some false))) else (some false))
def z0pe : Con := ⟨205, [.v (.s .task) false, .v .I false, .v .I false], [(.B, true)], [], fun x => z0fn x.1 x.2.1 x.2.2.1⟩
def z1kd : Fs := ⟨[z00o, z037, z03w, z00u], []⟩
theorem z1oe : z1kd.Ok Tryz.prog := (fsK z00t (fsK z1hc (fsK z0uq (fsK z1gl fs0))))
theorem z1l8 : z0pe.Ok Tryz.prog := fn_ok (k := z0pe) (fn := Tryz.f205) (W := []) (H := []) Tryz.func205 z1oe trivial rfl rfl (fun av x => by kernel_rfl)
def z0r9  : Option Bool := some true
def z07i (n : GNet) (kx0_0 : Option Bool) : Nat → Int → Option Bool
  | 0, _ => none
  | n0 + 1, s0_0 => if decide (s0_0 < (n.tasks.length : Int)) = true then ((getI n.tasks s0_0).bind fun x6 => ((z0fn x6 n.places (n.tasks.length : Int)).bind fun x7 => (if x7 = true then (gd (ok64 (s0_0 + 1)) ((z07i n kx0_0 n0) (s0_0 + 1))) else (some false)))) else (kx0_0)
def z09j (n : GNet) : Option Bool := (z002 n.places 2 8).bind fun x1 => (if x1 = true then ((z002 (n.tasks.length : Int) 1 6).bind fun x3 => (if x3 = true then (z07i n z0r9 FUEL 0) else (some false))) else (some false))
def z031 : Con := ⟨155, [.v (.s .net) false], [(.B, true)], [], fun x => z09j x.1⟩
def z1up : Fs := ⟨[z00o, z0pe], []⟩
theorem z16v : z1up.Ok Tryz.prog := (fsK z00t (fsK z1l8 fs0))
def z0yf : Tmpl := ⟨[(1, .c (.bx 1 0)), (3, .c .i)], [(1, .boxT (.s .net))]⟩
def z0te : Tmpl := ⟨[], []⟩
def z1gb (av : AV) (x : HP z031.ps) (n : Nat) (v : z0yf.den) (K : Ks (CR z031)) : Option (CR z031) := z07i v.2.1 (z0te.at none ((), ()) (K (.exit 0))) n v.1.2.1
def z0wi (av : AV) (x : HP z031.ps) : Hdl (CR z031) := hnd [] z0yf (z1gb av x)
theorem z1il : LP z031 Tryz.f155 [0] z0wi := lp_ok (W := []) (H := []) (xs := [z0te]) z16v trivial rfl (fun av x v K => by kernel_rfl) (fun av x n v K => by kernel_rfl)
theorem z0if : z031.Ok Tryz.prog := fn_ok (k := z031) (fn := Tryz.f155) (W := []) (H := [z0wi]) Tryz.func155 z16v ⟨z1il, trivial⟩ rfl rfl (fun av x => by kernel_rfl)
def z0bg (s1_0 : Int) (bk1 : Int → List Bool → Option (List Bool)) (l3_1 : List Bool) : Option (List Bool) := gd (ok64 (s1_0 + 1)) (bk1 (s1_0 + 1) l3_1)
def z0bm (s1_0 : Int) (bk1 : Int → List Bool → Option (List Bool)) (l3_1 : List Bool) : Option (List Bool) := gd (ok64 (s1_0 + 1)) (bk1 (s1_0 + 1) l3_1)
def z0bs (s1_0 : Int) (bk1 : Int → List Bool → Option (List Bool)) (l3_1 : List Bool) : Option (List Bool) := gd (ok64 (s1_0 + 1)) (bk1 (s1_0 + 1) l3_1)
def z01e (n : GNet) (but : Int) (s1_0 : Int) (s2_0 : Bool) (kx3_0 : List Bool → Option (List Bool)) (kx3_1 : List Bool → Option (List Bool)) (kx3_2 : List Bool → Option (List Bool)) : Nat → Int → List Bool → Option (List Bool)
  | 0, _, _ => none
  | n3 + 1, s3_0, l3_1 => (getI n.tasks s1_0).bind fun x12 => (if decide (s3_0 < (x12.out.length : Int)) = true then (if s2_0 = true then (if decide (s1_0 = but) = true then (kx3_0 l3_1) else ((getI n.tasks s1_0).bind fun x17 => ((getI x17.out s3_0).bind fun x18 => ((getI l3_1 x18.to).bind fun x19 => (gd (ok64 (s3_0 + 1)) ((z01e n but s1_0 s2_0 kx3_0 kx3_1 kx3_2 n3) (s3_0 + 1) (l3_1.set x18.to.toNat true))))))) else (kx3_1 l3_1)) else (kx3_2 l3_1))
def z0hg (n : GNet) (but : Int) (s1_0 : Int) (l1_1 : List Bool) (bk1 : Int → List Bool → Option (List Bool)) (s2_0 : Bool) : Option (List Bool) := z01e n but s1_0 s2_0 (z0bg s1_0 bk1) (z0bm s1_0 bk1) (z0bs s1_0 bk1) FUEL 0 l1_1
def z01y (n : GNet) (s1_0 : Int) (l1_1 : List Bool) (kx2_0 : Bool → Option (List Bool)) : Nat → Bool → Int → Option (List Bool)
  | 0, _, _ => none
  | n2 + 1, s2_0, s2_1 => (getI n.tasks s1_0).bind fun x4 => (if decide (s2_1 < (x4.in_.length : Int)) = true then (if s2_0 = true then (gd (ok64 (s2_1 + 1)) ((z01y n s1_0 l1_1 kx2_0 n2) true (s2_1 + 1))) else ((getI n.tasks s1_0).bind fun x8 => ((getI x8.in_ s2_1).bind fun x9 => ((getI l1_1 x9).bind fun x10 => (gd (ok64 (s2_1 + 1)) ((z01y n s1_0 l1_1 kx2_0 n2) x10 (s2_1 + 1))))))) else (kx2_0 s2_0))
def z0hn (s0_0 : Int) (bk0 : Int → List Bool → Option (List Bool)) (l1_1 : List Bool) : Option (List Bool) := gd (ok64 (s0_0 + 1)) (bk0 (s0_0 + 1) l1_1)
def z00e (n : GNet) (but : Int) (kx1_0 : List Bool → Option (List Bool)) : Nat → Int → List Bool → Option (List Bool)
  | 0, _, _ => none
  | n1 + 1, s1_0, l1_1 => if decide (s1_0 < (n.tasks.length : Int)) = true then (z01y n s1_0 l1_1 (z0hg n but s1_0 l1_1 (z00e n but kx1_0 n1)) FUEL false 0) else (kx1_0 l1_1)
def z0h2 (l0_1 : List Bool) : Option (List Bool) := some l0_1
def z03q (n : GNet) (but : Int) (kx0_0 : List Bool → Option (List Bool)) : Nat → Int → List Bool → Option (List Bool)
  | 0, _, _ => none
  | n0 + 1, s0_0, l0_1 => if decide (s0_0 < n.places) = true then (z00e n but (z0hn s0_0 (z03q n but kx0_0 n0)) FUEL 0 l0_1) else (kx0_0 l0_1)
def z0c2 (n : GNet) (marked : List Bool) (but : Int) : Option (List Bool) := gd (([] : List Bool).length + marked.length ≤ SMALL) (z03q n but z0h2 FUEL 0 (([] : List Bool) ++ marked))
def z006 : Con := ⟨228, [.v (.s .net) false, .v (.sl .B) false, .v .I false], [((.sl .B), true)], [], fun x => z0c2 x.1 x.2.1 x.2.2.1⟩
def z1ah : Fs := ⟨[], []⟩
theorem z091 : z1ah.Ok Tryz.prog := fs0
def z0d8 : Tmpl := ⟨[(2, .c .i), (3, .c (.bx 3 0)), (7, .c (.ref 15)), (8, .c .i), (9, .c .i), (10, .c .b), (11, .c .i)], [(3, .boxT (.s .net)), (15, .arr .B true)]⟩
def z0cs : Tmpl := ⟨[(2, .c .i), (3, .c (.bx 3 0)), (7, .c (.ref 15)), (8, .c .i), (9, .c .i), (10, .c .b)], [(3, .boxT (.s .net)), (15, .arr .B true)]⟩
def z0q8 (av : AV) (x : HP z006.ps) (n : Nat) (v : z0d8.den) (K : Ks (CR z006)) : Option (CR z006) := z01y v.2.1 v.1.2.2.2.2.1 v.2.2.1 (fun s2_0 => z0cs.at none ((v.1.1, (), (), v.1.2.2.2.1, v.1.2.2.2.2.1, s2_0, ()), (v.2.1, v.2.2.1, ())) (K (.exit 4))) n v.1.2.2.2.2.2.1 v.1.2.2.2.2.2.2.1
def z0d9 (av : AV) (x : HP z006.ps) : Hdl (CR z006) := hnd [] z0d8 (z0q8 av x)
theorem z0q7 : LP z006 Tryz.f228 [0, 0, 0] z0d9 := lp_ok (W := []) (H := []) (xs := [z0cs]) z091 trivial rfl (fun av x v K => by kernel_rfl) (fun av x n v K => by kernel_rfl)
def z0d6 : Tmpl := ⟨[(2, .c .i), (3, .c (.bx 3 0)), (7, .c (.ref 15)), (8, .c .i), (9, .c .i), (10, .c .b), (12, .c .i)], [(3, .boxT (.s .net)), (15, .arr .B true)]⟩
def z04l : Tmpl := ⟨[(2, .c .i), (3, .c (.bx 3 0)), (7, .c (.ref 15)), (8, .c .i), (9, .c .i)], [(3, .boxT (.s .net)), (15, .arr .B true)]⟩
def z0qh (av : AV) (x : HP z006.ps) (n : Nat) (v : z0d6.den) (K : Ks (CR z006)) : Option (CR z006) := z01e v.2.1 v.1.1 v.1.2.2.2.2.1 v.1.2.2.2.2.2.1 (fun l3_1 => z04l.at none ((v.1.1, (), (), v.1.2.2.2.1, v.1.2.2.2.2.1, ()), (v.2.1, l3_1, ())) (K (.exit 6))) (fun l3_1 => z04l.at none ((v.1.1, (), (), v.1.2.2.2.1, v.1.2.2.2.2.1, ()), (v.2.1, l3_1, ())) (K (.exit 6))) (fun l3_1 => z04l.at none ((v.1.1, (), (), v.1.2.2.2.1, v.1.2.2.2.2.1, ()), (v.2.1, l3_1, ())) (K (.exit 6))) n v.1.2.2.2.2.2.2.1 v.2.2.1
def z0db (av : AV) (x : HP z006.ps) : Hdl (CR z006) := hnd [] z0d6 (z0qh av x)
theorem z0q6 : LP z006 Tryz.f228 [0, 0, 1] z0db := lp_ok (W := []) (H := []) (xs := [z04l]) z091 trivial rfl (fun av x v K => by kernel_rfl) (fun av x n v K => by kernel_rfl)
def z0fz : Tmpl := ⟨[(2, .c .i), (3, .c (.bx 3 0)), (7, .c (.ref 15)), (8, .c .i), (9, .c .i)], [(3, .boxT (.s .net)), (15, .arr .B true)]⟩
def z0ej : Tmpl := ⟨[(2, .c .i), (3, .c (.bx 3 0)), (7, .c (.ref 15)), (8, .c .i)], [(3, .boxT (.s .net)), (15, .arr .B true)]⟩
def z0y8 (av : AV) (x : HP z006.ps) (n : Nat) (v : z0fz.den) (K : Ks (CR z006)) : Option (CR z006) := z00e v.2.1 v.1.1 (fun l1_1 => z0ej.at none ((v.1.1, (), (), v.1.2.2.2.1, ()), (v.2.1, l1_1, ())) (K (.exit 2))) n v.1.2.2.2.2.1 v.2.2.1
def z0gc (av : AV) (x : HP z006.ps) : Hdl (CR z006) := hnd [] z0fz (z0y8 av x)
theorem z0vo : LP z006 Tryz.f228 [0, 0] z0gc := lp_ok (W := []) (H := [z0d9, z0db]) (xs := [z0ej]) z091 ⟨z0q7, z0q6, trivial⟩ rfl (fun av x v K => by kernel_rfl) (fun av x n v K => by kernel_rfl)
def z0jo : Tmpl := ⟨[(2, .c .i), (3, .c (.bx 3 0)), (7, .c (.ref 15)), (8, .c .i)], [(3, .boxT (.s .net)), (15, .arr .B true)]⟩
def z0gy : Tmpl := ⟨[(7, .c (.ref 15))], [(15, .arr .B true)]⟩
def z13h (av : AV) (x : HP z006.ps) (n : Nat) (v : z0jo.den) (K : Ks (CR z006)) : Option (CR z006) := z03q v.2.1 v.1.1 (fun l0_1 => z0gy.at none (((), ()), (l0_1, ())) (K (.exit 0))) n v.1.2.2.2.1 v.2.2.1
def z0k1 (av : AV) (x : HP z006.ps) : Hdl (CR z006) := hnd [] z0jo (z13h av x)
theorem z136 : LP z006 Tryz.f228 [0] z0k1 := lp_ok (W := []) (H := [z0gc]) (xs := [z0gy]) z091 ⟨z0vo, trivial⟩ rfl (fun av x v K => by kernel_rfl) (fun av x n v K => by kernel_rfl)
theorem z1cn : z006.Ok Tryz.prog := fn_ok (k := z006) (fn := Tryz.f228) (W := []) (H := [z0k1]) Tryz.func228 z091 ⟨z136, trivial⟩ rfl rfl (fun av x => by kernel_rfl)
def z0g5 (kind : Int) : Option Bool := (z00b kind 1 3).bind fun x1 => (some x1)
def z0ml : Con := ⟨207, [.v .I false], [(.B, true)], [], fun x => z0g5 x.1⟩
def z1ls : Fs := ⟨[z029], []⟩
theorem z1nq : z1ls.Ok Tryz.prog := (fsK z02t fs0)
theorem z1j9 : z0ml.Ok Tryz.prog := fn_ok (k := z0ml) (fn := Tryz.f207) (W := []) (H := []) Tryz.func207 z1nq trivial rfl rfl (fun av x => by kernel_rfl)
def z0ct (role : Int) : Option Bool := (z00b role 1 3).bind fun x1 => (some x1)
def z0g2 : Con := ⟨210, [.v .I false], [(.B, true)], [], fun x => z0ct x.1⟩
def z1o7 : Fs := ⟨[z029], []⟩
theorem z1m1 : z1o7.Ok Tryz.prog := (fsK z02t fs0)
theorem z10f : z0g2.Ok Tryz.prog := fn_ok (k := z0g2) (fn := Tryz.f210) (W := []) (H := []) Tryz.func210 z1m1 trivial rfl rfl (fun av x => by kernel_rfl)
def z0iy (places : Int) (tasks : Int) : Option Bool := (z00b places 2 8).bind fun x1 => (if x1 = true then ((z00b tasks 1 6).bind fun x3 => (some x3)) else (some false))
def z0ie : Con := ⟨160, [.v .I false, .v .I false], [(.B, true)], [], fun x => z0iy x.1 x.2.1⟩
def z1fa : Fs := ⟨[z029], []⟩
theorem z1hp : z1fa.Ok Tryz.prog := (fsK z02t fs0)
theorem z1ga : z0ie.Ok Tryz.prog := fn_ok (k := z0ie) (fn := Tryz.f160) (W := []) (H := []) Tryz.func160 z1hp trivial rfl rfl (fun av x => by kernel_rfl)
def z00i (n : GNet) (t : Int) : Option Bool := gd (ok64 ((n.tasks.length : Int) - 1)) ((z00b t 0 ((n.tasks.length : Int) - 1)).bind fun x2 => (some x2))
def z01i : Con := ⟨169, [.v (.s .net) false, .v .I false], [(.B, true)], [], fun x => z00i x.1 x.2.1⟩
def z0qk : Fs := ⟨[z029], []⟩
theorem z0qf : z0qk.Ok Tryz.prog := (fsK z02t fs0)
theorem z032 : z01i.Ok Tryz.prog := fn_ok (k := z01i) (fn := Tryz.f169) (W := []) (H := []) Tryz.func169 z0qf trivial rfl rfl (fun av x => by kernel_rfl)
def z071 (t : GTask) : Option GTask := (z00c t.in_).bind fun x1 => (gd (([] : List GFlow).length + t.out.length ≤ SMALL) ((z00c t.clear).bind fun x3 => (some (GTask.mk t.join t.split x1 (([] : List GFlow) ++ t.out) x3 t.role t.apart t.all t.need))))
def z09f : Con := ⟨200, [.v (.s .task) false], [((.s .task), true)], [], fun x => z071 x.1⟩
def z0v5 : Fs := ⟨[z013], []⟩
theorem z0um : z0v5.Ok Tryz.prog := (fsK z023 fs0)
theorem z0tv : z09f.Ok Tryz.prog := fn_ok (k := z09f) (fn := Tryz.f200) (W := []) (H := []) Tryz.func200 z0um trivial rfl rfl (fun av x => by kernel_rfl)
def z08d (p0_3 : Int) (l0_1 : List GTask) : Option GNet := some (GNet.mk p0_3 l0_1)
def z01u (p0_0 : List GTask) (p0_1 : Int) (kx0_0 : List GTask → Option GNet) : Nat → Int → List GTask → Option GNet
  | 0, _, _ => none
  | n0 + 1, s0_0, l0_1 => if decide (s0_0 < p0_1) = true then ((getI p0_0 s0_0).bind fun x2 => ((z071 x2).bind fun x3 => (gd (l0_1.length + [x3].length ≤ SMALL) (gd (ok64 (s0_0 + 1)) ((z01u p0_0 p0_1 kx0_0 n0) (s0_0 + 1) (l0_1 ++ [x3])))))) else (kx0_0 l0_1)
def z07x (n : GNet) : Option GNet := z01u n.tasks (n.tasks.length : Int) (z08d n.places) FUEL 0 ([] : List GTask)
def z012 : Con := ⟨145, [.v (.s .net) false], [((.s .net), true)], [], fun x => z07x x.1⟩
def z0wa : Fs := ⟨[z09f], []⟩
theorem z0gf : z0wa.Ok Tryz.prog := (fsK z0tv fs0)
def z0da : Tmpl := ⟨[(2, .c (.bx 2 0)), (3, .c (.bx 3 0)), (10, .c (.s (.s .task))), (11, .c .i), (12, .c .i)], [(2, .box [.i, .nl]), (3, .box [.i, .ref 510301]), (510301, .arr (.s .task) true)]⟩
def z0cg : Tmpl := ⟨[(2, .c (.bx 2 0)), (3, .c (.bx 3 0))], [(2, .box [.i, .nl]), (3, .box [.i, .ref 510301]), (510301, .arr (.s .task) true)]⟩
def z0q9 (av : AV) (x : HP z012.ps) (n : Nat) (v : z0da.den) (K : Ks (CR z012)) : Option (CR z012) := z01u v.1.2.2.1 v.1.2.2.2.1 (fun l0_1 => z0cg.at none (((), (), ()), ((v.2.1.1, (), ()), (v.2.2.1.1, (), ()), l0_1, ())) (K (.exit 0))) n v.1.2.2.2.2.1 v.2.2.2.1
def z0d5 (av : AV) (x : HP z012.ps) : Hdl (CR z012) := hnd [.b 3 1 510301 (.s .task)] z0da (z0q9 av x)
theorem z0q4 : LP z012 Tryz.f145 [0] z0d5 := lp_ok (W := []) (H := []) (xs := [z0cg]) z0gf trivial rfl (fun av x v K => by kernel_rfl) (fun av x n v K => by kernel_rfl)
theorem z0w5 : z012.Ok Tryz.prog := fn_ok (k := z012) (fn := Tryz.f145) (W := []) (H := [z0d5]) Tryz.func145 z0gf ⟨z0q4, trivial⟩ rfl rfl (fun av x => by kernel_rfl)
def z0ti  : Option Bool := some true
def z07k (marks : List Int) (kx0_0 : Option Bool) : Nat → Int → Option Bool
  | 0, _ => none
  | n0 + 1, s0_0 => if decide (s0_0 < (marks.length : Int)) = true then ((getI marks s0_0).bind fun x5 => ((z002 x5 0 4).bind fun x6 => (if x6 = true then (gd (ok64 (s0_0 + 1)) ((z07k marks kx0_0 n0) (s0_0 + 1))) else (some false)))) else (kx0_0)
def z09n (n : GNet) (marks : List Int) : Option Bool := (z09j n).bind fun x1 => (if x1 = true then (if decide ((marks.length : Int) = n.places) = true then (z07k marks z0ti FUEL 0) else (some false)) else (some false))
def z02z : Con := ⟨157, [.v (.s .net) false, .v (.sl .I) false], [(.B, true)], [], fun x => z09n x.1 x.2.1⟩
def z1uw : Fs := ⟨[z031, z00o], []⟩
theorem z171 : z1uw.Ok Tryz.prog := (fsK z0if (fsK z00t fs0))
def z0xc : Tmpl := ⟨[(1, .c (.s .I)), (5, .c .i)], []⟩
def z0ro : Tmpl := ⟨[], []⟩
def z1g1 (av : AV) (x : HP z02z.ps) (n : Nat) (v : z0xc.den) (K : Ks (CR z02z)) : Option (CR z02z) := z07k v.1.1 (z0ro.at none ((), ()) (K (.exit 0))) n v.1.2.1
def z0x6 (av : AV) (x : HP z02z.ps) : Hdl (CR z02z) := hnd [] z0xc (z1g1 av x)
theorem z1in : LP z02z Tryz.f157 [0] z0x6 := lp_ok (W := []) (H := []) (xs := [z0ro]) z171 trivial rfl (fun av x v K => by kernel_rfl) (fun av x n v K => by kernel_rfl)
theorem z0ii : z02z.Ok Tryz.prog := fn_ok (k := z02z) (fn := Tryz.f157) (W := []) (H := [z0x6]) Tryz.func157 z171 ⟨z1in, trivial⟩ rfl rfl (fun av x => by kernel_rfl)
def z0aw (s0_0 : Bool) (s0_1 : Bool) : Option (Bool × Bool) := some (s0_0, s0_1)
def z01n (marks : List Int) (list : List Int) (kx0_0 : Bool → Bool → Option (Bool × Bool)) : Nat → Bool → Bool → Int → Option (Bool × Bool)
  | 0, _, _, _ => none
  | n0 + 1, s0_0, s0_1, s0_2 => if decide (s0_2 < (list.length : Int)) = true then (if s0_0 = true then (if s0_1 = true then ((getI list s0_2).bind fun x4 => ((getI marks x4).bind fun x5 => (gd (ok64 (s0_2 + 1)) ((z01n marks list kx0_0 n0) true (decide (0 < x5)) (s0_2 + 1))))) else (gd (ok64 (s0_2 + 1)) ((z01n marks list kx0_0 n0) true false (s0_2 + 1)))) else ((getI list s0_2).bind fun x8 => ((getI marks x8).bind fun x9 => (if s0_1 = true then ((getI list s0_2).bind fun x11 => ((getI marks x11).bind fun x12 => (gd (ok64 (s0_2 + 1)) ((z01n marks list kx0_0 n0) (decide (0 < x9)) (decide (0 < x12)) (s0_2 + 1))))) else (gd (ok64 (s0_2 + 1)) ((z01n marks list kx0_0 n0) (decide (0 < x9)) false (s0_2 + 1))))))) else (kx0_0 s0_0 s0_1)
def z0f6 (marks : List Int) (list : List Int) : Option (Bool × Bool) := z01n marks list z0aw FUEL false true 0
def z04t : Con := ⟨214, [.v (.sl .I) false, .v (.sl .I) false], [(.B, true), (.B, true)], [], fun x => z0f6 x.1 x.2.1⟩
def z1lv : Fs := ⟨[], []⟩
theorem z11b : z1lv.Ok Tryz.prog := fs0
def z0tf : Tmpl := ⟨[(0, .c (.s .I)), (1, .c (.s .I)), (6, .c .b), (7, .c .b), (8, .c .i)], []⟩
def z0lj : Tmpl := ⟨[(6, .c .b), (7, .c .b)], []⟩
def z19u (av : AV) (x : HP z04t.ps) (n : Nat) (v : z0tf.den) (K : Ks (CR z04t)) : Option (CR z04t) := z01n v.1.1 v.1.2.1 (fun s0_0 s0_1 => z0lj.at none ((s0_0, s0_1, ()), ()) (K (.exit 0))) n v.1.2.2.1 v.1.2.2.2.1 v.1.2.2.2.2.1
def z0s6 (av : AV) (x : HP z04t.ps) : Hdl (CR z04t) := hnd [] z0tf (z19u av x)
theorem z1bu : LP z04t Tryz.f214 [0] z0s6 := lp_ok (W := []) (H := []) (xs := [z0lj]) z11b trivial rfl (fun av x v K => by kernel_rfl) (fun av x n v K => by kernel_rfl)
theorem z1l2 : z04t.Ok Tryz.prog := fn_ok (k := z04t) (fn := Tryz.f214) (W := []) (H := [z0s6]) Tryz.func214 z11b ⟨z1bu, trivial⟩ rfl rfl (fun av x => by kernel_rfl)
def z03p (s1_0 : Int) (bk1 : Int → List Bool → Option Bool) (l2_1 : List Bool) : Option Bool := gd (ok64 (s1_0 + 1)) (bk1 (s1_0 + 1) l2_1)
def z02e (p2_0 : List GFlow) (kx2_0 : List Bool → Option Bool) : Nat → Int → List Bool → Option Bool
  | 0, _, _ => none
  | n2 + 1, s2_0, l2_1 => if decide (s2_0 < (p2_0.length : Int)) = true then ((getI p2_0 s2_0).bind fun x15 => ((getI l2_1 x15.to).bind fun x16 => (gd (ok64 (s2_0 + 1)) ((z02e p2_0 kx2_0 n2) (s2_0 + 1) (l2_1.set x15.to.toNat true))))) else (kx2_0 l2_1)
def z0bj  : Option Bool := some false
def z01v (n : GNet) (marks : List Int) (t : Int) (x19 : (List Bool)) (kx3_0 : Option Bool) : Nat → Int → Option Bool
  | 0, _ => none
  | n3 + 1, s3_0 => (getI n.tasks t).bind fun x20 => (if decide (s3_0 < (x20.in_.length : Int)) = true then ((getI n.tasks t).bind fun x22 => ((getI x22.in_ s3_0).bind fun x23 => ((getI marks x23).bind fun x24 => (if decide (x24 = 0) = true then ((getI n.tasks t).bind fun x26 => ((getI x26.in_ s3_0).bind fun x27 => ((getI x19 x27).bind fun x28 => (if x28 = true then (some true) else (gd (ok64 (s3_0 + 1)) ((z01v n marks t x19 kx3_0 n3) (s3_0 + 1))))))) else (gd (ok64 (s3_0 + 1)) ((z01v n marks t x19 kx3_0 n3) (s3_0 + 1))))))) else (kx3_0))
def z01x (n : GNet) (marks : List Int) (t : Int) (l1_1 : List Bool) : Option Bool := (z0c2 n l1_1 t).bind fun x19 => (z01v n marks t x19 z0bj FUEL 0)
def z010 (n : GNet) (busy : List GItem) (kx1_0 : List Bool → Option Bool) : Nat → Int → List Bool → Option Bool
  | 0, _, _ => none
  | n1 + 1, s1_0, l1_1 => if decide (s1_0 < (busy.length : Int)) = true then ((getI busy s1_0).bind fun x12 => ((getI n.tasks x12.task).bind fun x13 => (z02e x13.out (z03p s1_0 (z010 n busy kx1_0 n1)) FUEL 0 l1_1))) else (kx1_0 l1_1)
def z03r (n : GNet) (marks : List Int) (busy : List GItem) (t : Int) (l0_1 : List Bool) : Option Bool := z010 n busy (z01x n marks t) FUEL 0 l0_1
def z01z (n : GNet) (marks : List Int) (t : Int) (kx0_0 : List Bool → Option Bool) : Nat → Int → List Bool → Option Bool
  | 0, _, _ => none
  | n0 + 1, s0_0, l0_1 => if decide (s0_0 < n.places) = true then ((getI marks s0_0).bind fun x3 => (if decide (0 < x3) = true then ((getI n.tasks t).bind fun x5 => ((z0bp x5.in_ s0_0).bind fun x6 => ((getI l0_1 s0_0).bind fun x7 => (gd (ok64 (s0_0 + 1)) ((z01z n marks t kx0_0 n0) (s0_0 + 1) (l0_1.set s0_0.toNat (!x6))))))) else ((getI l0_1 s0_0).bind fun x9 => (gd (ok64 (s0_0 + 1)) ((z01z n marks t kx0_0 n0) (s0_0 + 1) (l0_1.set s0_0.toNat false)))))) else (kx0_0 l0_1)
def z0c9 (n : GNet) (marks : List Int) (busy : List GItem) (t : Int) : Option Bool := gd ((0 : Int) ≤ n.places ∧ n.places ≤ (1000000000 : Int)) (z01z n marks t (z03r n marks busy t) FUEL 0 (List.replicate n.places.toNat false))
def z005 : Con := ⟨215, [.v (.s .net) false, .v (.sl .I) false, .v (.sl (.s .item)) false, .v .I false], [(.B, true)], [], fun x => z0c9 x.1 x.2.1 x.2.2.1 x.2.2.2.1⟩
def z1ax : Fs := ⟨[z03w, z006], []⟩
theorem z092 : z1ax.Ok Tryz.prog := (fsK z0uq (fsK z1cn fs0))
def z0fx : Tmpl := ⟨[(1, .c (.s .I)), (2, .c (.s (.s .item))), (3, .c .i), (4, .c (.bx 4 0)), (9, .c (.ref 18)), (11, .c .i), (12, .c (.s (.s .flow))), (13, .c .i)], [(4, .boxT (.s .net)), (18, .arr .B true)]⟩
def z0ee : Tmpl := ⟨[(1, .c (.s .I)), (2, .c (.s (.s .item))), (3, .c .i), (4, .c (.bx 4 0)), (9, .c (.ref 18)), (11, .c .i)], [(4, .boxT (.s .net)), (18, .arr .B true)]⟩
def z0yz (av : AV) (x : HP z005.ps) (n : Nat) (v : z0fx.den) (K : Ks (CR z005)) : Option (CR z005) := z02e v.1.2.2.2.2.2.2.1 (fun l2_1 => z0ee.at none ((v.1.1, v.1.2.1, v.1.2.2.1, (), (), v.1.2.2.2.2.2.1, ()), (v.2.1, l2_1, ())) (K (.exit 4))) n v.1.2.2.2.2.2.2.2.1 v.2.2.1
def z0g8 (av : AV) (x : HP z005.ps) : Hdl (CR z005) := hnd [] z0fx (z0yz av x)
theorem z0xh : LP z005 Tryz.f215 [1, 0] z0g8 := lp_ok (W := []) (H := []) (xs := [z0ee]) z092 trivial rfl (fun av x v K => by kernel_rfl) (fun av x n v K => by kernel_rfl)
def z0j7 : Tmpl := ⟨[(1, .c (.s .I)), (2, .c (.s (.s .item))), (3, .c .i), (4, .c (.bx 4 0)), (9, .c (.ref 18)), (10, .c .i)], [(4, .boxT (.s .net)), (18, .arr .B true)]⟩
def z0gz : Tmpl := ⟨[(1, .c (.s .I)), (2, .c (.s (.s .item))), (3, .c .i), (4, .c (.bx 4 0)), (9, .c (.ref 18))], [(4, .boxT (.s .net)), (18, .arr .B true)]⟩
def z135 (av : AV) (x : HP z005.ps) (n : Nat) (v : z0j7.den) (K : Ks (CR z005)) : Option (CR z005) := z01z v.2.1 v.1.1 v.1.2.2.1 (fun l0_1 => z0gz.at none ((v.1.1, v.1.2.1, v.1.2.2.1, (), (), ()), (v.2.1, l0_1, ())) (K (.exit 0))) n v.1.2.2.2.2.2.1 v.2.2.1
def z0j4 (av : AV) (x : HP z005.ps) : Hdl (CR z005) := hnd [] z0j7 (z135 av x)
theorem z12p : LP z005 Tryz.f215 [0] z0j4 := lp_ok (W := []) (H := []) (xs := [z0gz]) z092 trivial rfl (fun av x v K => by kernel_rfl) (fun av x n v K => by kernel_rfl)
def z0kn : Tmpl := ⟨[(1, .c (.s .I)), (2, .c (.s (.s .item))), (3, .c .i), (4, .c (.bx 4 0)), (9, .c (.ref 18)), (11, .c .i)], [(4, .boxT (.s .net)), (18, .arr .B true)]⟩
def z0h1 : Tmpl := ⟨[(1, .c (.s .I)), (3, .c .i), (4, .c (.bx 4 0)), (9, .c (.ref 18))], [(4, .boxT (.s .net)), (18, .arr .B true)]⟩
def z12z (av : AV) (x : HP z005.ps) (n : Nat) (v : z0kn.den) (K : Ks (CR z005)) : Option (CR z005) := z010 v.2.1 v.1.2.1 (fun l1_1 => z0h1.at none ((v.1.1, v.1.2.2.1, (), (), ()), (v.2.1, l1_1, ())) (K (.exit 2))) n v.1.2.2.2.2.2.1 v.2.2.1
def z0kk (av : AV) (x : HP z005.ps) : Hdl (CR z005) := hnd [] z0kn (z12z av x)
theorem z13a : LP z005 Tryz.f215 [1] z0kk := lp_ok (W := []) (H := [z0g8]) (xs := [z0h1]) z092 ⟨z0xh, trivial⟩ rfl (fun av x v K => by kernel_rfl) (fun av x n v K => by kernel_rfl)
def z0kl : Tmpl := ⟨[(1, .c (.s .I)), (3, .c .i), (4, .c (.bx 4 0)), (14, .c (.ref 76)), (15, .c .i)], [(4, .boxT (.s .net)), (76, .arr .B true)]⟩
def z0hf : Tmpl := ⟨[], []⟩
def z13f (av : AV) (x : HP z005.ps) (n : Nat) (v : z0kl.den) (K : Ks (CR z005)) : Option (CR z005) := z01v v.2.1 v.1.1 v.1.2.1 v.2.2.1 (z0hf.at none ((), ()) (K (.exit 6))) n v.1.2.2.2.2.1
def z0jj (av : AV) (x : HP z005.ps) : Hdl (CR z005) := hnd [] z0kl (z13f av x)
theorem z13d : LP z005 Tryz.f215 [2] z0jj := lp_ok (W := []) (H := []) (xs := [z0hf]) z092 trivial rfl (fun av x v K => by kernel_rfl) (fun av x n v K => by kernel_rfl)
theorem z1af : z005.Ok Tryz.prog := fn_ok (k := z005) (fn := Tryz.f215) (W := []) (H := [z0j4, z0kk, z0jj]) Tryz.func215 z092 ⟨z12p, z13a, z13d, trivial⟩ rfl rfl (fun av x => by kernel_rfl)
def z0ih (n : GNet) (marks : List Int) (busy : List GItem) (t : Int) : Option Bool := (getI n.tasks t).bind fun x1 => ((z0f6 marks x1.in_).bind fun x2 => ((getI n.tasks t).bind fun x3 => (if decide (x3.join = 1) = true then (some x2.2) else (if decide (x3.join = 2) = true then (some x2.1) else (if x2.1 = true then (if x2.2 = true then (some true) else ((z0c9 n marks busy t).bind fun x8 => (some (!x8)))) else (some false))))))
def z0tx : Con := ⟨172, [.v (.s .net) false, .v (.sl .I) false, .v (.sl (.s .item)) false, .v .I false], [(.B, true)], [], fun x => z0ih x.1 x.2.1 x.2.2.1 x.2.2.2.1⟩
def z1tc : Fs := ⟨[z04t, z005], []⟩
theorem z1tq : z1tc.Ok Tryz.prog := (fsK z1l2 (fsK z1af fs0))
theorem z1qd : z0tx.Ok Tryz.prog := fn_ok (k := z0tx) (fn := Tryz.f172) (W := []) (H := []) Tryz.func172 z1tq trivial rfl rfl (fun av x => by kernel_rfl)
def z0n7  : Option Bool := some true
def z05u (n : GNet) (busy : List GItem) (kx0_0 : Option Bool) : Nat → Int → Option Bool
  | 0, _ => none
  | n0 + 1, s0_0 => if decide (s0_0 < (busy.length : Int)) = true then ((getI busy s0_0).bind fun x3 => (gd (ok64 ((n.tasks.length : Int) - 1)) ((z002 x3.task 0 ((n.tasks.length : Int) - 1)).bind fun x5 => (if x5 = true then ((getI busy s0_0).bind fun x7 => ((z002 x7.who 1 4).bind fun x8 => (if x8 = true then ((getI busy s0_0).bind fun x10 => ((getI busy s0_0).bind fun x11 => ((getI n.tasks x11.task).bind fun x12 => (gd (ok64 (x12.need - 1)) ((z002 x10.did 0 (x12.need - 1)).bind fun x14 => (if x14 = true then (gd (ok64 (s0_0 + 1)) ((z05u n busy kx0_0 n0) (s0_0 + 1))) else (some false))))))) else (some false)))) else (some false))))) else (kx0_0)
def z0cf (n : GNet) (busy : List GItem) : Option Bool := if decide (6 < (busy.length : Int)) = true then (some false) else (z05u n busy z0n7 FUEL 0)
def z03m : Con := ⟨158, [.v (.s .net) false, .v (.sl (.s .item)) false], [(.B, true)], [], fun x => z0cf x.1 x.2.1⟩
def z1lm : Fs := ⟨[z00o], []⟩
theorem z11x : z1lm.Ok Tryz.prog := (fsK z00t fs0)
def z0sd : Tmpl := ⟨[(1, .c (.s (.s .item))), (2, .c (.bx 2 0)), (5, .c .i)], [(2, .boxT (.s .net))]⟩
def z0no : Tmpl := ⟨[], []⟩
def z19m (av : AV) (x : HP z03m.ps) (n : Nat) (v : z0sd.den) (K : Ks (CR z03m)) : Option (CR z03m) := z05u v.2.1 v.1.1 (z0no.at none ((), ()) (K (.exit 0))) n v.1.2.2.1
def z0rx (av : AV) (x : HP z03m.ps) : Hdl (CR z03m) := hnd [] z0sd (z19m av x)
theorem z19w : LP z03m Tryz.f158 [0] z0rx := lp_ok (W := []) (H := []) (xs := [z0no]) z11x trivial rfl (fun av x v K => by kernel_rfl) (fun av x n v K => by kernel_rfl)
theorem z11a : z03m.Ok Tryz.prog := fn_ok (k := z03m) (fn := Tryz.f158) (W := []) (H := [z0rx]) Tryz.func158 z11x ⟨z19w, trivial⟩ rfl rfl (fun av x => by kernel_rfl)
def z0g4 (n : GNet) (marks : List Int) (busy : List GItem) (t : Int) : Option Bool := (z09n n marks).bind fun x1 => (if x1 = true then ((z0cf n busy).bind fun x3 => (if x3 = true then (gd (ok64 ((n.tasks.length : Int) - 1)) ((z002 t 0 ((n.tasks.length : Int) - 1)).bind fun x6 => (if x6 = true then ((z0ih n marks busy t).bind fun x8 => (some x8)) else (some false)))) else (some false))) else (some false))
def z0o2 : Con := ⟨98, [.v (.s .net) false, .v (.sl .I) false, .v (.sl (.s .item)) false, .v .I false], [(.B, true)], [], fun x => z0g4 x.1 x.2.1 x.2.2.1 x.2.2.2.1⟩
def z1p6 : Fs := ⟨[z02z, z03m, z00o, z0tx], []⟩
theorem z1nr : z1p6.Ok Tryz.prog := (fsK z0ii (fsK z11a (fsK z00t (fsK z1qd fs0))))
theorem z1ju : z0o2.Ok Tryz.prog := fn_ok (k := z0o2) (fn := Tryz.f98) (W := []) (H := []) Tryz.func98 z1nr trivial rfl rfl (fun av x => by kernel_rfl)
def z0k7 (l0_1 : List Int) (x10 : Int) (x13 : Int) : Option (List Int) := some (l0_1.set x10.toNat (x13 - 1))
def z0j8 (l0_1 : List Int) : Option (List Int) := some l0_1
def z030 (n : GNet) (t : Int) (kx0_0 : List Int → Int → Int → Option (List Int)) (kx0_1 : List Int → Option (List Int)) : Nat → Int → List Int → Option (List Int)
  | 0, _, _ => none
  | n0 + 1, s0_0, l0_1 => (getI n.tasks t).bind fun x7 => (if decide (s0_0 < (x7.in_.length : Int)) = true then ((getI n.tasks t).bind fun x9 => ((getI x9.in_ s0_0).bind fun x10 => ((getI l0_1 x10).bind fun x11 => (if decide (0 < x11) = true then ((getI l0_1 x10).bind fun x13 => (gd (ok64 (x13 - 1)) ((getI l0_1 x10).bind fun x15 => ((getI n.tasks t).bind fun x16 => (if decide (x16.join = 2) = true then (kx0_0 l0_1 x10 x13) else (gd (ok64 (s0_0 + 1)) ((z030 n t kx0_0 kx0_1 n0) (s0_0 + 1) (l0_1.set x10.toNat (x13 - 1))))))))) else (gd (ok64 (s0_0 + 1)) ((z030 n t kx0_0 kx0_1 n0) (s0_0 + 1) l0_1)))))) else (kx0_1 l0_1))
def z0dq (n : GNet) (marks : List Int) (t : Int) : Option (List Int) := (z09n n marks).bind fun x1 => (if x1 = true then (gd (ok64 ((n.tasks.length : Int) - 1)) ((z002 t 0 ((n.tasks.length : Int) - 1)).bind fun x4 => (if x4 = true then (gd (([] : List Int).length + marks.length ≤ SMALL) (z030 n t z0k7 z0j8 FUEL 0 (([] : List Int) ++ marks))) else (some ([] : List Int))))) else (some ([] : List Int)))
def z036 : Con := ⟨101, [.v (.s .net) false, .v (.sl .I) false, .v .I false], [((.sl .I), true)], [], fun x => z0dq x.1 x.2.1 x.2.2.1⟩
def z1ik : Fs := ⟨[z02z, z00o], []⟩
theorem z0x3 : z1ik.Ok Tryz.prog := (fsK z0ii (fsK z00t fs0))
def z0pf : Tmpl := ⟨[(2, .c .i), (3, .c (.bx 3 0)), (7, .c (.ref 26)), (8, .c .i)], [(3, .boxT (.s .net)), (26, .arr .I true)]⟩
def z0d2 : Tmpl := ⟨[(7, .c (.ref 26))], [(26, .arr .I true)]⟩
def z159 (av : AV) (x : HP z036.ps) (n : Nat) (v : z0pf.den) (K : Ks (CR z036)) : Option (CR z036) := z030 v.2.1 v.1.1 (fun l0_1 x10 x13 => z0d2.at none (((), ()), ((l0_1.set x10.toNat (x13 - 1)), ())) (K (.exit 0))) (fun l0_1 => z0d2.at none (((), ()), (l0_1, ())) (K (.exit 0))) n v.1.2.2.2.1 v.2.2.1
def z0mr (av : AV) (x : HP z036.ps) : Hdl (CR z036) := hnd [] z0pf (z159 av x)
theorem z170 : LP z036 Tryz.f101 [0] z0mr := lp_ok (W := []) (H := []) (xs := [z0d2]) z0x3 trivial rfl (fun av x v K => by kernel_rfl) (fun av x n v K => by kernel_rfl)
theorem z1f7 : z036.Ok Tryz.prog := fn_ok (k := z036) (fn := Tryz.f101) (W := []) (H := [z0mr]) Tryz.func101 z0x3 ⟨z170, trivial⟩ rfl rfl (fun av x => by kernel_rfl)
def z08u (who : Int) : Option Bool := (z00b who 1 4).bind fun x1 => (some x1)
def z0by : Con := ⟨170, [.v .I false], [(.B, true)], [], fun x => z08u x.1⟩
def z1bj : Fs := ⟨[z029], []⟩
theorem z1bs : z1bj.Ok Tryz.prog := (fsK z02t fs0)
theorem z0qo : z0by.Ok Tryz.prog := fn_ok (k := z0by) (fn := Tryz.f170) (W := []) (H := []) Tryz.func170 z1bs trivial rfl rfl (fun av x => by kernel_rfl)
def z0c3 (l0_1 : List Int) (x8 : GFlow) : Option (List Int) := some (l0_1 ++ [x8.to])
def z0c4 (l0_1 : List Int) (x13 : GFlow) : Option (List Int) := some (l0_1 ++ [x13.to])
def z0c6 (l0_1 : List Int) (x18 : GFlow) : Option (List Int) := some (l0_1 ++ [x18.to])
def z0gp (l0_1 : List Int) : Option (List Int) := some l0_1
def z01l (t : GTask) (data : List Int) (kx0_0 : List Int → GFlow → Option (List Int)) (kx0_1 : List Int → GFlow → Option (List Int)) (kx0_2 : List Int → GFlow → Option (List Int)) (kx0_3 : List Int → Option (List Int)) : Nat → Int → List Int → Option (List Int)
  | 0, _, _ => none
  | n0 + 1, s0_0, l0_1 => if decide (s0_0 < (t.out.length : Int)) = true then ((getI t.out s0_0).bind fun x2 => ((z01q x2.if_ data).bind fun x3 => (if x3 = true then (if decide (t.split = 3) = true then (gd (ok64 ((t.out.length : Int) - 1)) (if decide (s0_0 < ((t.out.length : Int) - 1)) = true then ((getI t.out s0_0).bind fun x8 => (gd (l0_1.length + [x8.to].length ≤ SMALL) (if decide (t.split = 2) = true then (kx0_0 l0_1 x8) else (gd (ok64 (s0_0 + 1)) ((z01l t data kx0_0 kx0_1 kx0_2 kx0_3 n0) (s0_0 + 1) (l0_1 ++ [x8.to])))))) else (if decide ((l0_1.length : Int) = 0) = true then ((getI t.out s0_0).bind fun x13 => (gd (l0_1.length + [x13.to].length ≤ SMALL) (if decide (t.split = 2) = true then (kx0_1 l0_1 x13) else (gd (ok64 (s0_0 + 1)) ((z01l t data kx0_0 kx0_1 kx0_2 kx0_3 n0) (s0_0 + 1) (l0_1 ++ [x13.to])))))) else (gd (ok64 (s0_0 + 1)) ((z01l t data kx0_0 kx0_1 kx0_2 kx0_3 n0) (s0_0 + 1) l0_1))))) else ((getI t.out s0_0).bind fun x18 => (gd (l0_1.length + [x18.to].length ≤ SMALL) (if decide (t.split = 2) = true then (kx0_2 l0_1 x18) else (gd (ok64 (s0_0 + 1)) ((z01l t data kx0_0 kx0_1 kx0_2 kx0_3 n0) (s0_0 + 1) (l0_1 ++ [x18.to]))))))) else (gd (ok64 (s0_0 + 1)) ((z01l t data kx0_0 kx0_1 kx0_2 kx0_3 n0) (s0_0 + 1) l0_1))))) else (kx0_3 l0_1)
def z0ip (t : GTask) (data : List Int) : Option (List Int) := z01l t data z0c3 z0c4 z0c6 z0gp FUEL 0 ([] : List Int)
def z06o : Con := ⟨221, [.v (.s .task) false, .v (.sl .I) false], [((.sl .I), true)], [], fun x => z0ip x.1 x.2.1⟩
def z1t6 : Fs := ⟨[z05f], []⟩
theorem z15v : z1t6.Ok Tryz.prog := (fsK z08s fs0)
def z0xq : Tmpl := ⟨[(1, .c (.s .I)), (2, .c (.bx 2 0)), (5, .c (.ref 7)), (6, .c .i)], [(2, .boxT (.s .task)), (7, .arr .I true)]⟩
def z08w : Tmpl := ⟨[(5, .c (.ref 49))], [(49, .arr .I true)]⟩
def z1g8 (av : AV) (x : HP z06o.ps) (n : Nat) (v : z0xq.den) (K : Ks (CR z06o)) : Option (CR z06o) := z01l v.2.1 v.1.1 (fun l0_1 x8 => z08w.at none (((), ()), ((l0_1 ++ [x8.to]), ())) (K (.exit 0))) (fun l0_1 x13 => z08w.at none (((), ()), ((l0_1 ++ [x13.to]), ())) (K (.exit 0))) (fun l0_1 x18 => z08w.at none (((), ()), ((l0_1 ++ [x18.to]), ())) (K (.exit 0))) (fun l0_1 => z08w.at none (((), ()), (l0_1, ())) (K (.exit 0))) n v.1.2.2.2.1 v.2.2.1
def z0wx (av : AV) (x : HP z06o.ps) : Hdl (CR z06o) := hnd [] z0xq (z1g8 av x)
theorem z1eq : LP z06o Tryz.f221 [0] z0wx := lp_ok (W := []) (H := []) (xs := [z08w]) z15v trivial rfl (fun av x v K => by kernel_rfl) (fun av x n v K => by kernel_rfl)
theorem z1uk : z06o.Ok Tryz.prog := fn_ok (k := z06o) (fn := Tryz.f221) (W := []) (H := [z0wx]) Tryz.func221 z15v ⟨z1eq, trivial⟩ rfl rfl (fun av x => by kernel_rfl)
def z09a (l1_1 : List Int) : Option ((List Int) × Bool) := some (l1_1, true)
def z043 (x16 : (List Int)) (kx1_0 : List Int → Option ((List Int) × Bool)) : Nat → Int → List Int → Option ((List Int) × Bool)
  | 0, _, _ => none
  | n1 + 1, s1_0, l1_1 => if decide (s1_0 < (x16.length : Int)) = true then ((getI x16 s1_0).bind fun x18 => ((getI l1_1 x18).bind fun x19 => (if decide (x19 = 4) = true then (some (([] : List Int), false)) else ((getI x16 s1_0).bind fun x21 => ((getI x16 s1_0).bind fun x22 => ((getI l1_1 x22).bind fun x23 => (gd (ok64 (x23 + 1)) ((getI l1_1 x21).bind fun x25 => (gd (ok64 (s1_0 + 1)) ((z043 x16 kx1_0 n1) (s1_0 + 1) (l1_1.set x21.toNat (x23 + 1)))))))))))) else (kx1_0 l1_1)
def z096 (n : GNet) (t : Int) (data : List Int) (l0_1 : List Int) : Option ((List Int) × Bool) := (getI n.tasks t).bind fun x15 => ((z0ip x15 data).bind fun x16 => (z043 x16 z09a FUEL 0 l0_1))
def z049 (n : GNet) (t : Int) (kx0_0 : List Int → Option ((List Int) × Bool)) : Nat → Int → List Int → Option ((List Int) × Bool)
  | 0, _, _ => none
  | n0 + 1, s0_0, l0_1 => (getI n.tasks t).bind fun x9 => (if decide (s0_0 < (x9.clear.length : Int)) = true then ((getI n.tasks t).bind fun x11 => ((getI x11.clear s0_0).bind fun x12 => ((getI l0_1 x12).bind fun x13 => (gd (ok64 (s0_0 + 1)) ((z049 n t kx0_0 n0) (s0_0 + 1) (l0_1.set x12.toNat 0)))))) else (kx0_0 l0_1))
def z0di (n : GNet) (marks : List Int) (t : Int) (data : List Int) : Option ((List Int) × Bool) := (z09n n marks).bind fun x1 => (if x1 = true then (gd (ok64 ((n.tasks.length : Int) - 1)) ((z002 t 0 ((n.tasks.length : Int) - 1)).bind fun x4 => (if x4 = true then ((z02c data).bind fun x6 => (if x6 = true then (gd (([] : List Int).length + marks.length ≤ SMALL) (z049 n t (z096 n t data) FUEL 0 (([] : List Int) ++ marks))) else (some (([] : List Int), false)))) else (some (([] : List Int), false))))) else (some (([] : List Int), false)))
def z00v : Con := ⟨191, [.v (.s .net) false, .v (.sl .I) false, .v .I false, .v (.sl .I) false], [((.sl .I), true), (.B, true)], [], fun x => z0di x.1 x.2.1 x.2.2.1 x.2.2.2.1⟩
def z1gy : Fs := ⟨[z02z, z00o, z014, z06o], []⟩
theorem z0ik : z1gy.Ok Tryz.prog := (fsK z0ii (fsK z00t (fsK z072 (fsK z1uk fs0))))
def z0ne : Tmpl := ⟨[(2, .c .i), (3, .c (.s .I)), (4, .c (.bx 4 0)), (10, .c (.ref 35)), (11, .c .i)], [(4, .boxT (.s .net)), (35, .arr .I true)]⟩
def z0ji : Tmpl := ⟨[(2, .c .i), (3, .c (.s .I)), (4, .c (.bx 4 0)), (10, .c (.ref 35))], [(4, .boxT (.s .net)), (35, .arr .I true)]⟩
def z15z (av : AV) (x : HP z00v.ps) (n : Nat) (v : z0ne.den) (K : Ks (CR z00v)) : Option (CR z00v) := z049 v.2.1 v.1.1 (fun l0_1 => z0ji.at none ((v.1.1, v.1.2.1, (), (), ()), (v.2.1, l0_1, ())) (K (.exit 0))) n v.1.2.2.2.2.1 v.2.2.1
def z0nw (av : AV) (x : HP z00v.ps) : Hdl (CR z00v) := hnd [] z0ne (z15z av x)
theorem z15o : LP z00v Tryz.f191 [0] z0nw := lp_ok (W := []) (H := []) (xs := [z0ji]) z0ik trivial rfl (fun av x v K => by kernel_rfl) (fun av x n v K => by kernel_rfl)
def z0my : Tmpl := ⟨[(10, .c (.ref 35)), (12, .c (.ref 64)), (13, .c .i)], [(35, .arr .I true), (64, .arr .I true)]⟩
def z0kc : Tmpl := ⟨[(10, .c (.ref 35))], [(35, .arr .I true)]⟩
def z18w (av : AV) (x : HP z00v.ps) (n : Nat) (v : z0my.den) (K : Ks (CR z00v)) : Option (CR z00v) := z043 v.2.2.1 (fun l1_1 => z0kc.at none (((), ()), (l1_1, ())) (K (.exit 2))) n v.1.2.2.1 v.2.1
def z0oh (av : AV) (x : HP z00v.ps) : Hdl (CR z00v) := hnd [] z0my (z18w av x)
theorem z143 : LP z00v Tryz.f191 [1] z0oh := lp_ok (W := []) (H := []) (xs := [z0kc]) z0ik trivial rfl (fun av x v K => by kernel_rfl) (fun av x n v K => by kernel_rfl)
theorem z1i5 : z00v.Ok Tryz.prog := fn_ok (k := z00v) (fn := Tryz.f191) (W := []) (H := [z0nw, z0oh]) Tryz.func191 z0ik ⟨z15o, z143, trivial⟩ rfl rfl (fun av x => by kernel_rfl)
def z0ru  : Option Bool := some true
def z07p (people : List Int) (kx0_0 : Option Bool) : Nat → Int → Option Bool
  | 0, _ => none
  | n0 + 1, s0_0 => if decide (s0_0 < (people.length : Int)) = true then ((getI people s0_0).bind fun x4 => ((z002 x4 0 7).bind fun x5 => (if x5 = true then (gd (ok64 (s0_0 + 1)) ((z07p people kx0_0 n0) (s0_0 + 1))) else (some false)))) else (kx0_0)
def z0bu (people : List Int) : Option Bool := (z002 (people.length : Int) 1 4).bind fun x1 => (if x1 = true then (z07p people z0ru FUEL 0) else (some false))
def z041 : Con := ⟨83, [.v (.sl .I) false], [(.B, true)], [], fun x => z0bu x.1⟩
def z1ti : Fs := ⟨[z00o], []⟩
theorem z17e : z1ti.Ok Tryz.prog := (fsK z00t fs0)
def z0yi : Tmpl := ⟨[(0, .c (.s .I)), (3, .c .i)], []⟩
def z0sm : Tmpl := ⟨[], []⟩
def z1f6 (av : AV) (x : HP z041.ps) (n : Nat) (v : z0yi.den) (K : Ks (CR z041)) : Option (CR z041) := z07p v.1.1 (z0sm.at none ((), ()) (K (.exit 0))) n v.1.2.1
def z0xu (av : AV) (x : HP z041.ps) : Hdl (CR z041) := hnd [] z0yi (z1f6 av x)
theorem z1it : LP z041 Tryz.f83 [0] z0xu := lp_ok (W := []) (H := []) (xs := [z0sm]) z17e trivial rfl (fun av x v K => by kernel_rfl) (fun av x n v K => by kernel_rfl)
theorem z0u2 : z041.Ok Tryz.prog := fn_ok (k := z041) (fn := Tryz.f83) (W := []) (H := [z0xu]) Tryz.func83 z17e ⟨z1it, trivial⟩ rfl rfl (fun av x => by kernel_rfl)
def z0pr (s0_0 : Int) : Option Bool := gd ((2 : Int) ≠ 0) (some (decide ((Int.tmod s0_0 2) = 1)))
def z0ae (role : Int) (kx0_0 : Int → Option Bool) : Nat → Int → Int → Option Bool
  | 0, _, _ => none
  | n0 + 1, s0_0, s0_1 => if decide (s0_1 < role) = true then (gd ((2 : Int) ≠ 0 ∧ ok64 (Int.tdiv s0_0 2)) (gd (ok64 (s0_1 + 1)) ((z0ae role kx0_0 n0) (Int.tdiv s0_0 2) (s0_1 + 1)))) else (kx0_0 s0_0)
def z0gg (people : List Int) (who : Int) (role : Int) : Option Bool := (z0bu people).bind fun x1 => (if x1 = true then ((z002 who 1 (people.length : Int)).bind fun x3 => (if x3 = true then ((z002 role 1 3).bind fun x5 => (if x5 = true then (gd (ok64 (who - 1)) ((getI people (who - 1)).bind fun x8 => (z0ae role z0pr FUEL x8 1))) else (some false))) else (some false))) else (some false))
def z04v : Con := ⟨173, [.v (.sl .I) false, .v .I false, .v .I false], [(.B, true)], [], fun x => z0gg x.1 x.2.1 x.2.2.1⟩
def z1ke : Fs := ⟨[z041, z00o], []⟩
theorem z12d : z1ke.Ok Tryz.prog := (fsK z0u2 (fsK z00t fs0))
def z0sw : Tmpl := ⟨[(2, .c .i), (7, .c .i), (8, .c .i)], []⟩
def z0ms : Tmpl := ⟨[(7, .c .i)], []⟩
def z19q (av : AV) (x : HP z04v.ps) (n : Nat) (v : z0sw.den) (K : Ks (CR z04v)) : Option (CR z04v) := z0ae v.1.1 (fun s0_0 => z0ms.at none ((s0_0, ()), ()) (K (.exit 0))) n v.1.2.1 v.1.2.2.1
def z0s8 (av : AV) (x : HP z04v.ps) : Hdl (CR z04v) := hnd [] z0sw (z19q av x)
theorem z1c4 : LP z04v Tryz.f173 [0] z0s8 := lp_ok (W := []) (H := []) (xs := [z0ms]) z12d trivial rfl (fun av x v K => by kernel_rfl) (fun av x n v K => by kernel_rfl)
theorem z1kn : z04v.Ok Tryz.prog := fn_ok (k := z04v) (fn := Tryz.f173) (W := []) (H := [z0s8]) Tryz.func173 z12d ⟨z1c4, trivial⟩ rfl rfl (fun av x => by kernel_rfl)
def z0nj  : Option Bool := some false
def z03x (did : List GDid) (who : Int) (task : Int) (kx0_0 : Option Bool) : Nat → Int → Option Bool
  | 0, _ => none
  | n0 + 1, s0_0 => if decide (s0_0 < (did.length : Int)) = true then ((getI did s0_0).bind fun x2 => (if decide (x2.who = who) = true then ((getI did s0_0).bind fun x4 => (if decide (x4.task = task) = true then (some true) else (gd (ok64 (s0_0 + 1)) ((z03x did who task kx0_0 n0) (s0_0 + 1))))) else (gd (ok64 (s0_0 + 1)) ((z03x did who task kx0_0 n0) (s0_0 + 1))))) else (kx0_0)
def z0fp (did : List GDid) (who : Int) (task : Int) : Option Bool := z03x did who task z0nj FUEL 0
def z04y : Con := ⟨174, [.v (.sl (.s .did)) false, .v .I false, .v .I false], [(.B, true)], [], fun x => z0fp x.1 x.2.1 x.2.2.1⟩
def z1k1 : Fs := ⟨[], []⟩
theorem z115 : z1k1.Ok Tryz.prog := fs0
def z0qt : Tmpl := ⟨[(0, .c (.s (.s .did))), (1, .c .i), (2, .c .i), (7, .c .i)], []⟩
def z0ny : Tmpl := ⟨[], []⟩
def z1c3 (av : AV) (x : HP z04y.ps) (n : Nat) (v : z0qt.den) (K : Ks (CR z04y)) : Option (CR z04y) := z03x v.1.1 v.1.2.1 v.1.2.2.1 (z0ny.at none ((), ()) (K (.exit 0))) n v.1.2.2.2.1
def z0s5 (av : AV) (x : HP z04y.ps) : Hdl (CR z04y) := hnd [] z0qt (z1c3 av x)
theorem z1c5 : LP z04y Tryz.f174 [0] z0s5 := lp_ok (W := []) (H := []) (xs := [z0ny]) z115 trivial rfl (fun av x v K => by kernel_rfl) (fun av x n v K => by kernel_rfl)
theorem z1n7 : z04y.Ok Tryz.prog := fn_ok (k := z04y) (fn := Tryz.f174) (W := []) (H := [z0s5]) Tryz.func174 z115 ⟨z1c5, trivial⟩ rfl rfl (fun av x => by kernel_rfl)
def z0ok (n : GNet) (people : List Int) (did : List GDid) (t : Int) (s0_0 : Int) (l0_1 : List Int) (bk0 : Int → List Int → Option (List Int)) (s1_0 : Bool) : Option (List Int) := (getI n.tasks t).bind fun x18 => ((z0gg people s0_0 x18.role).bind fun x19 => (if x19 = true then (if s1_0 = true then (gd (ok64 (s0_0 + 1)) (bk0 (s0_0 + 1) l0_1)) else ((getI n.tasks t).bind fun x23 => ((z0fp did s0_0 x23.apart).bind fun x24 => (if x24 = true then (gd (ok64 (s0_0 + 1)) (bk0 (s0_0 + 1) l0_1)) else (gd (l0_1.length + [s0_0].length ≤ SMALL) (gd (ok64 (s0_0 + 1)) (bk0 (s0_0 + 1) (l0_1 ++ [s0_0])))))))) else (gd (ok64 (s0_0 + 1)) (bk0 (s0_0 + 1) l0_1))))
def z021 (n : GNet) (busy : List GItem) (t : Int) (s0_0 : Int) (kx1_0 : Bool → Option (List Int)) : Nat → Bool → Int → Option (List Int)
  | 0, _, _ => none
  | n1 + 1, s1_0, s1_1 => if decide (s1_1 < (busy.length : Int)) = true then (if s1_0 = true then (gd (ok64 (s1_1 + 1)) ((z021 n busy t s0_0 kx1_0 n1) true (s1_1 + 1))) else ((getI busy s1_1).bind fun x12 => (if decide (x12.who = s0_0) = true then ((getI busy s1_1).bind fun x14 => ((getI n.tasks t).bind fun x15 => (gd (ok64 (s1_1 + 1)) ((z021 n busy t s0_0 kx1_0 n1) (decide (x14.task = x15.apart)) (s1_1 + 1))))) else (gd (ok64 (s1_1 + 1)) ((z021 n busy t s0_0 kx1_0 n1) false (s1_1 + 1)))))) else (kx1_0 s1_0)
def z0ek (l0_1 : List Int) : Option (List Int) := some l0_1
def z063 (n : GNet) (people : List Int) (did : List GDid) (busy : List GItem) (t : Int) (kx0_0 : List Int → Option (List Int)) : Nat → Int → List Int → Option (List Int)
  | 0, _, _ => none
  | n0 + 1, s0_0, l0_1 => if decide (s0_0 ≤ (people.length : Int)) = true then (z021 n busy t s0_0 (z0ok n people did t s0_0 l0_1 (z063 n people did busy t kx0_0 n0)) FUEL false 0) else (kx0_0 l0_1)
def z0fh (n : GNet) (people : List Int) (did : List GDid) (busy : List GItem) (t : Int) : Option (List Int) := (z09j n).bind fun x1 => (if x1 = true then ((z0bu people).bind fun x3 => (if x3 = true then (gd (ok64 ((n.tasks.length : Int) - 1)) ((z002 t 0 ((n.tasks.length : Int) - 1)).bind fun x6 => (if x6 = true then (z063 n people did busy t z0ek FUEL 1 ([] : List Int)) else (some ([] : List Int))))) else (some ([] : List Int)))) else (some ([] : List Int)))
def z015 : Con := ⟨100, [.v (.s .net) false, .v (.sl .I) false, .v (.sl (.s .did)) false, .v (.sl (.s .item)) false, .v .I false], [((.sl .I), true)], [], fun x => z0fh x.1 x.2.1 x.2.2.1 x.2.2.2.1 x.2.2.2.2.1⟩
def z1oh : Fs := ⟨[z031, z041, z00o, z04v, z04y], []⟩
theorem z0pp : z1oh.Ok Tryz.prog := (fsK z0if (fsK z0u2 (fsK z00t (fsK z1kn (fsK z1n7 fs0)))))
def z0jw : Tmpl := ⟨[(1, .c (.s .I)), (2, .c (.s (.s .did))), (3, .c (.s (.s .item))), (4, .c .i), (5, .c (.bx 5 0)), (11, .c (.ref 15)), (12, .c .i), (13, .c .b), (14, .c .i)], [(5, .boxT (.s .net)), (15, .arr .I true)]⟩
def z0hj : Tmpl := ⟨[(1, .c (.s .I)), (2, .c (.s (.s .did))), (3, .c (.s (.s .item))), (4, .c .i), (5, .c (.bx 5 0)), (11, .c (.ref 15)), (12, .c .i), (13, .c .b)], [(5, .boxT (.s .net)), (15, .arr .I true)]⟩
def z130 (av : AV) (x : HP z015.ps) (n : Nat) (v : z0jw.den) (K : Ks (CR z015)) : Option (CR z015) := z021 v.2.1 v.1.2.2.1 v.1.2.2.2.1 v.1.2.2.2.2.2.2.1 (fun s1_0 => z0hj.at none ((v.1.1, v.1.2.1, v.1.2.2.1, v.1.2.2.2.1, (), (), v.1.2.2.2.2.2.2.1, s1_0, ()), (v.2.1, v.2.2.1, ())) (K (.exit 2))) n v.1.2.2.2.2.2.2.2.1 v.1.2.2.2.2.2.2.2.2.1
def z0k6 (av : AV) (x : HP z015.ps) : Hdl (CR z015) := hnd [] z0jw (z130 av x)
theorem z12y : LP z015 Tryz.f100 [0, 0] z0k6 := lp_ok (W := []) (H := []) (xs := [z0hj]) z0pp trivial rfl (fun av x v K => by kernel_rfl) (fun av x n v K => by kernel_rfl)
def z0sq : Tmpl := ⟨[(1, .c (.s .I)), (2, .c (.s (.s .did))), (3, .c (.s (.s .item))), (4, .c .i), (5, .c (.bx 5 0)), (11, .c (.ref 15)), (12, .c .i)], [(5, .boxT (.s .net)), (15, .arr .I true)]⟩
def z0ly : Tmpl := ⟨[(11, .c (.ref 15))], [(15, .arr .I true)]⟩
def z19p (av : AV) (x : HP z015.ps) (n : Nat) (v : z0sq.den) (K : Ks (CR z015)) : Option (CR z015) := z063 v.2.1 v.1.1 v.1.2.1 v.1.2.2.1 v.1.2.2.2.1 (fun l0_1 => z0ly.at none (((), ()), (l0_1, ())) (K (.exit 0))) n v.1.2.2.2.2.2.2.1 v.2.2.1
def z0qv (av : AV) (x : HP z015.ps) : Hdl (CR z015) := hnd [] z0sq (z19p av x)
theorem z1am : LP z015 Tryz.f100 [0] z0qv := lp_ok (W := []) (H := [z0k6]) (xs := [z0ly]) z0pp ⟨z12y, trivial⟩ rfl (fun av x v K => by kernel_rfl) (fun av x n v K => by kernel_rfl)
theorem z1iz : z015.Ok Tryz.prog := fn_ok (k := z015) (fn := Tryz.f100) (W := []) (H := [z0qv]) Tryz.func100 z0pp ⟨z1am, trivial⟩ rfl rfl (fun av x => by kernel_rfl)
def z0ck (n : GNet) (data : List Int) : Option GCase := (z09j n).bind fun x1 => (if x1 = true then ((z02c data).bind fun x3 => (if x3 = true then (gd ((0 : Int) ≤ n.places ∧ n.places ≤ (1000000000 : Int)) (gd (([] : List Int).length + data.length ≤ SMALL) ((getI (List.replicate n.places.toNat (0 : Int)) 0).bind fun x7 => (some (GCase.mk 1 ((List.replicate n.places.toNat (0 : Int)).set (0 : Int).toNat 1) [] (([] : List Int) ++ data) []))))) else (some (GCase.mk 0 [] [] [] [])))) else (some (GCase.mk 0 [] [] [] [])))
def z0pz : Con := ⟨131, [.v (.s .net) false, .v (.sl .I) false], [((.s .kase), true)], [], fun x => z0ck x.1 x.2.1⟩
def z1kj : Fs := ⟨[z031, z014], []⟩
theorem z1le : z1kj.Ok Tryz.prog := (fsK z0if (fsK z072 fs0))
theorem z1kv : z0pz.Ok Tryz.prog := fn_ok (k := z0pz) (fn := Tryz.f131) (W := []) (H := []) Tryz.func131 z1le trivial rfl rfl (fun av x => by kernel_rfl)
def z0cc (c : GCase) : Option Bool := if decide (c.state = 1) = true then ((getI c.marks 1).bind fun x20 => (some (decide (x20 = 0)))) else (if decide ((c.busy.length : Int) = 0) = true then ((getI c.marks 1).bind fun x22 => (some ((decide (c.state = 2)) == (decide (0 < x22))))) else (some false))
def z07l (n : GNet) (c : GCase) (kx0_0 : Option Bool) : Nat → Int → Option Bool
  | 0, _ => none
  | n0 + 1, s0_0 => if decide (s0_0 < (c.did.length : Int)) = true then ((getI c.did s0_0).bind fun x11 => (gd (ok64 ((n.tasks.length : Int) - 1)) ((z002 x11.task 0 ((n.tasks.length : Int) - 1)).bind fun x13 => (if x13 = true then ((getI c.did s0_0).bind fun x15 => ((z002 x15.who 1 4).bind fun x16 => (if x16 = true then (gd (ok64 (s0_0 + 1)) ((z07l n c kx0_0 n0) (s0_0 + 1))) else (some false)))) else (some false))))) else (kx0_0)
def z09e (n : GNet) (c : GCase) : Option Bool := (z09n n c.marks).bind fun x1 => (if x1 = true then ((z0cf n c.busy).bind fun x3 => (if x3 = true then ((z02c c.data).bind fun x5 => (if x5 = true then (if decide (60 < (c.did.length : Int)) = true then (some false) else ((z002 c.state 1 3).bind fun x8 => (if x8 = true then (z07l n c (z0cc c) FUEL 0) else (some false)))) else (some false))) else (some false))) else (some false))
def z02x : Con := ⟨86, [.v (.s .net) false, .v (.s .kase) false], [(.B, true)], [], fun x => z09e x.1 x.2.1⟩
def z1sy : Fs := ⟨[z02z, z03m, z014, z00o], []⟩
theorem z14q : z1sy.Ok Tryz.prog := (fsK z0ii (fsK z11a (fsK z072 (fsK z00t fs0))))
def z0wz : Tmpl := ⟨[(2, .c (.bx 2 0)), (3, .c (.bx 3 0)), (5, .c .i)], [(2, .boxT (.s .net)), (3, .boxT (.s .kase))]⟩
def z0sf : Tmpl := ⟨[(3, .c (.bx 3 0))], [(3, .boxT (.s .kase))]⟩
def z1i4 (av : AV) (x : HP z02x.ps) (n : Nat) (v : z0wz.den) (K : Ks (CR z02x)) : Option (CR z02x) := z07l v.2.1 v.2.2.1 (z0sf.at none (((), ()), (v.2.2.1, ())) (K (.exit 0))) n v.1.2.2.1
def z0x4 (av : AV) (x : HP z02x.ps) : Hdl (CR z02x) := hnd [] z0wz (z1i4 av x)
theorem z1ev : LP z02x Tryz.f86 [0] z0x4 := lp_ok (W := []) (H := []) (xs := [z0sf]) z14q trivial rfl (fun av x v K => by kernel_rfl) (fun av x n v K => by kernel_rfl)
theorem z0ij : z02x.Ok Tryz.prog := fn_ok (k := z02x) (fn := Tryz.f86) (W := []) (H := [z0x4]) Tryz.func86 z14q ⟨z1ev, trivial⟩ rfl rfl (fun av x => by kernel_rfl)
def z06c (c : GCase) : Option GCase := gd (([] : List Int).length + c.marks.length ≤ SMALL) (gd (([] : List GItem).length + c.busy.length ≤ SMALL) (gd (([] : List Int).length + c.data.length ≤ SMALL) (gd (([] : List GDid).length + c.did.length ≤ SMALL) (some (GCase.mk c.state (([] : List Int) ++ c.marks) (([] : List GItem) ++ c.busy) (([] : List Int) ++ c.data) (([] : List GDid) ++ c.did))))))
def z09t : Con := ⟨97, [.v (.s .kase) false], [((.s .kase), true)], [], fun x => z06c x.1⟩
def z1kk : Fs := ⟨[], []⟩
theorem z1pd : z1kk.Ok Tryz.prog := fs0
theorem z0ga : z09t.Ok Tryz.prog := fn_ok (k := z09t) (fn := Tryz.f97) (W := []) (H := []) Tryz.func97 z1pd trivial rfl rfl (fun av x => by kernel_rfl)
def z0cb (n : GNet) (people : List Int) (c : GCase) (t : Int) (who : Int) : Option (GCase × Bool) := (z06c c).bind fun x1 => ((z09e n c).bind fun x2 => (if x2 = true then (if decide (c.state = 1) = true then ((z0g4 n c.marks c.busy t).bind fun x5 => (if x5 = true then ((z0fh n people c.did c.busy t).bind fun x7 => ((z0bp x7 who).bind fun x8 => (if x8 = true then (if decide ((c.busy.length : Int) = 6) = true then (some (x1, false)) else ((z0dq n c.marks t).bind fun x11 => (gd (x1.busy.length + [(GItem.mk t who 0)].length ≤ SMALL) (some ((GCase.mk x1.state x11 (x1.busy ++ [(GItem.mk t who 0)]) x1.data x1.did), true))))) else (some (x1, false))))) else (some (x1, false)))) else (some (x1, false))) else (some (x1, false))))
def z0gt : Con := ⟨35, [.v (.s .net) false, .v (.sl .I) false, .v (.s .kase) false, .v .I false, .v .I false], [((.s .kase), true), (.B, true)], [], fun x => z0cb x.1 x.2.1 x.2.2.1 x.2.2.2.1 x.2.2.2.2.1⟩
def z1bw : Fs := ⟨[z09t, z02x, z0o2, z015, z03w, z036], []⟩
theorem z1b5 : z1bw.Ok Tryz.prog := (fsK z0ga (fsK z0ij (fsK z1ju (fsK z1iz (fsK z0uq (fsK z1f7 fs0))))))
theorem z1a7 : z0gt.Ok Tryz.prog := fn_ok (k := z0gt) (fn := Tryz.f35) (W := []) (H := []) Tryz.func35 z1b5 trivial rfl rfl (fun av x => by kernel_rfl)
def z0dr (n : GNet) (c : GCase) (k : Int) (v : Int) (num : Int) : Option (GCase × Bool) := (z06c c).bind fun x1 => ((z09e n c).bind fun x2 => (if x2 = true then (if decide (c.state = 1) = true then (gd (ok64 ((c.busy.length : Int) - 1)) ((z002 k 0 ((c.busy.length : Int) - 1)).bind fun x6 => (if x6 = true then ((z002 v (-1) 2).bind fun x8 => (if x8 = true then ((z002 num (-99) 99).bind fun x10 => (if x10 = true then (if decide ((c.did.length : Int) = 60) = true then (some (x1, false)) else ((getI c.busy k).bind fun x13 => ((z0g3 c.data v num).bind fun x14 => (gd (ok64 (x13.did + 1)) ((getI x1.busy k).bind fun x16 => (gd (ok64 (x13.did + 1)) ((getI n.tasks x13.task).bind fun x18 => (if decide ((x13.did + 1) < x18.need) = true then (some ((GCase.mk x1.state x1.marks (x1.busy.set k.toNat (GItem.mk x16.task x16.who (x13.did + 1))) x14 x1.did), true)) else ((z0di n c.marks x13.task x14).bind fun x20 => (if x20.2 = true then (gd (0 ≤ k ∧ k ≤ (c.busy.length : Int)) (gd (([] : List GItem).length + (c.busy.take k.toNat).length ≤ SMALL) (gd (ok64 (k + 1)) (gd (0 ≤ (k + 1) ∧ (k + 1) ≤ (c.busy.length : Int)) (gd ((([] : List GItem) ++ (c.busy.take k.toNat)).length + (c.busy.drop (k + 1).toNat).length ≤ SMALL) (gd (x1.did.length + [(GDid.mk x13.task x13.who)].length ≤ SMALL) ((getI x20.1 1).bind fun x28 => (if decide (0 < x28) = true then (some ((GCase.mk 2 x20.1 ([] : List GItem) x14 (x1.did ++ [(GDid.mk x13.task x13.who)])), true)) else (some ((GCase.mk x1.state x20.1 ((([] : List GItem) ++ (c.busy.take k.toNat)) ++ (c.busy.drop (k + 1).toNat)) x14 (x1.did ++ [(GDid.mk x13.task x13.who)])), true)))))))))) else ((z06c c).bind fun x30 => (some (x30, false))))))))))))) else (some (x1, false)))) else (some (x1, false)))) else (some (x1, false))))) else (some (x1, false))) else (some (x1, false))))
def z0hp : Con := ⟨120, [.v (.s .net) false, .v (.s .kase) false, .v .I false, .v .I false, .v .I false], [((.s .kase), true), (.B, true)], [], fun x => z0dr x.1 x.2.1 x.2.2.1 x.2.2.2.1 x.2.2.2.2.1⟩
def z1er : Fs := ⟨[z09t, z02x, z00o, z0ls, z00v], []⟩
theorem z1ep : z1er.Ok Tryz.prog := (fsK z0ga (fsK z0ij (fsK z00t (fsK z1kt (fsK z1i5 fs0)))))
theorem z1fq : z0hp.Ok Tryz.prog := fn_ok (k := z0hp) (fn := Tryz.f120) (W := []) (H := []) Tryz.func120 z1ep trivial rfl rfl (fun av x => by kernel_rfl)
def z0dw (n : GNet) (c : GCase) : Option (GCase × Bool) := (z06c c).bind fun x1 => ((z09e n c).bind fun x2 => (if x2 = true then (if decide (c.state = 1) = true then (some ((GCase.mk 3 x1.marks ([] : List GItem) x1.data x1.did), true)) else (some (x1, false))) else (some (x1, false))))
def z0iv : Con := ⟨197, [.v (.s .net) false, .v (.s .kase) false], [((.s .kase), true), (.B, true)], [], fun x => z0dw x.1 x.2.1⟩
def z1hn : Fs := ⟨[z09t, z02x], []⟩
theorem z1ia : z1hn.Ok Tryz.prog := (fsK z0ga (fsK z0ij fs0))
theorem z1he : z0iv.Ok Tryz.prog := fn_ok (k := z0iv) (fn := Tryz.f197) (W := []) (H := []) Tryz.func197 z1ia trivial rfl rfl (fun av x => by kernel_rfl)
def z007 (c : GCase) : Option GCase := (z00c c.marks).bind fun x1 => (gd (([] : List GItem).length + c.busy.length ≤ SMALL) ((z00c c.data).bind fun x3 => (gd (([] : List GDid).length + c.did.length ≤ SMALL) (some (GCase.mk c.state x1 (([] : List GItem) ++ c.busy) x3 (([] : List GDid) ++ c.did))))))
def z02g : Con := ⟨105, [.v (.s .kase) false], [((.s .kase), true)], [], fun x => z007 x.1⟩
def z0tu : Fs := ⟨[z013], []⟩
theorem z0v9 : z0tu.Ok Tryz.prog := (fsK z023 fs0)
theorem z06s : z02g.Ok Tryz.prog := fn_ok (k := z02g) (fn := Tryz.f105) (W := []) (H := []) Tryz.func105 z0v9 trivial rfl rfl (fun av x => by kernel_rfl)
def z0rp (s0_0 : Int) (bk0 : Int → Option Bool) (s1_0 : Int) : Option Bool := if ((decide (s0_0 = 0)) == (decide (s1_0 = 0))) = true then (if decide (1 < s1_0) = true then (some false) else (gd (ok64 (s0_0 + 1)) (bk0 (s0_0 + 1)))) else (some false)
def z00z (tree : List GNode) (s0_0 : Int) (kx1_0 : Int → Option Bool) : Nat → Int → Int → Option Bool
  | 0, _, _ => none
  | n1 + 1, s1_0, s1_1 => if decide (s1_1 < (tree.length : Int)) = true then ((getI tree s1_1).bind fun x15 => (if decide (x15.yes = s0_0) = true then (gd (ok64 (s1_0 + 1)) ((getI tree s1_1).bind fun x18 => (if decide (x18.no = s0_0) = true then (gd (ok64 ((s1_0 + 1) + 1)) (gd (ok64 (s1_1 + 1)) ((z00z tree s0_0 kx1_0 n1) ((s1_0 + 1) + 1) (s1_1 + 1)))) else (gd (ok64 (s1_1 + 1)) ((z00z tree s0_0 kx1_0 n1) (s1_0 + 1) (s1_1 + 1)))))) else ((getI tree s1_1).bind fun x23 => (if decide (x23.no = s0_0) = true then (gd (ok64 (s1_0 + 1)) (gd (ok64 (s1_1 + 1)) ((z00z tree s0_0 kx1_0 n1) (s1_0 + 1) (s1_1 + 1)))) else (gd (ok64 (s1_1 + 1)) ((z00z tree s0_0 kx1_0 n1) s1_0 (s1_1 + 1))))))) else (kx1_0 s1_0)
def z0re (s0_0 : Int) (bk0 : Int → Option Bool) (s2_0 : Int) : Option Bool := if ((decide (s0_0 = 0)) == (decide (s2_0 = 0))) = true then (if decide (1 < s2_0) = true then (some false) else (gd (ok64 (s0_0 + 1)) (bk0 (s0_0 + 1)))) else (some false)
def z0t5 (s0_0 : Int) (bk0 : Int → Option Bool) (s3_0 : Int) : Option Bool := if ((decide (s0_0 = 0)) == (decide (s3_0 = 0))) = true then (if decide (1 < s3_0) = true then (some false) else (gd (ok64 (s0_0 + 1)) (bk0 (s0_0 + 1)))) else (some false)
def z0rm (s0_0 : Int) (bk0 : Int → Option Bool) (s4_0 : Int) : Option Bool := if ((decide (s0_0 = 0)) == (decide (s4_0 = 0))) = true then (if decide (1 < s4_0) = true then (some false) else (gd (ok64 (s0_0 + 1)) (bk0 (s0_0 + 1)))) else (some false)
def z0sr  : Option Bool := some true
def z02j (tree : List GNode) (kx0_0 : Option Bool) : Nat → Int → Option Bool
  | 0, _ => none
  | n0 + 1, s0_0 => if decide (s0_0 < (tree.length : Int)) = true then ((getI tree s0_0).bind fun x3 => ((z086 x3.if_).bind fun x4 => (if x4 = true then ((z002 x3.ans 0 2).bind fun x6 => (if x6 = true then ((z02c x3.stone).bind fun x8 => (if x8 = true then ((z01q x3.if_ x3.stone).bind fun x10 => (if x10 = true then (if decide (x3.yes = (-1)) = true then (if decide (x3.no = (-1)) = true then (z00z tree s0_0 (z0rp s0_0 (z02j tree kx0_0 n0)) FUEL 0 0) else (gd (ok64 (s0_0 + 1)) (gd (ok64 ((tree.length : Int) - 1)) ((z002 x3.no (s0_0 + 1) ((tree.length : Int) - 1)).bind fun x33 => (if x33 = true then (z00z tree s0_0 (z0re s0_0 (z02j tree kx0_0 n0)) FUEL 0 0) else (some false)))))) else (gd (ok64 (s0_0 + 1)) (gd (ok64 ((tree.length : Int) - 1)) ((z002 x3.yes (s0_0 + 1) ((tree.length : Int) - 1)).bind fun x54 => (if x54 = true then (if decide (x3.no = (-1)) = true then (z00z tree s0_0 (z0t5 s0_0 (z02j tree kx0_0 n0)) FUEL 0 0) else (gd (ok64 (s0_0 + 1)) (gd (ok64 ((tree.length : Int) - 1)) ((z002 x3.no (s0_0 + 1) ((tree.length : Int) - 1)).bind fun x76 => (if x76 = true then (z00z tree s0_0 (z0rm s0_0 (z02j tree kx0_0 n0)) FUEL 0 0) else (some false)))))) else (some false)))))) else (some false))) else (some false))) else (some false))) else (some false)))) else (kx0_0)
def z09l (tree : List GNode) : Option Bool := if decide (12 < (tree.length : Int)) = true then (some false) else (z02j tree z0sr FUEL 0)
def z017 : Con := ⟨84, [.v (.sl (.s .node)) false], [(.B, true)], [], fun x => z09l x.1⟩
def z1ts : Fs := ⟨[z0be, z00o, z014, z05f], []⟩
theorem z0ve : z1ts.Ok Tryz.prog := (fsK z0ir (fsK z00t (fsK z072 (fsK z08s fs0))))
def z0ll : Tmpl := ⟨[(0, .c (.s (.s .node))), (3, .c .i), (5, .c .i), (6, .c .i)], []⟩
def z0jt : Tmpl := ⟨[(0, .c (.s (.s .node))), (3, .c .i), (5, .c .i)], []⟩
def z15i (av : AV) (x : HP z017.ps) (n : Nat) (v : z0ll.den) (K : Ks (CR z017)) : Option (CR z017) := z00z v.1.1 v.1.2.1 (fun s1_0 => z0jt.at none ((v.1.1, v.1.2.1, s1_0, ()), ()) (K (.exit 2))) n v.1.2.2.1 v.1.2.2.2.1
def z0p8 (av : AV) (x : HP z017.ps) : Hdl (CR z017) := hnd [] z0ll (z15i av x)
theorem z17u : LP z017 Tryz.f84 [0, 0] z0p8 := lp_ok (W := []) (H := []) (xs := [z0jt]) z0ve trivial rfl (fun av x v K => by kernel_rfl) (fun av x n v K => by kernel_rfl)
def z0yw : Tmpl := ⟨[(0, .c (.s (.s .node))), (3, .c .i)], []⟩
def z0rt : Tmpl := ⟨[], []⟩
def z1im (av : AV) (x : HP z017.ps) (n : Nat) (v : z0yw.den) (K : Ks (CR z017)) : Option (CR z017) := z02j v.1.1 (z0rt.at none ((), ()) (K (.exit 0))) n v.1.2.1
def z0vq (av : AV) (x : HP z017.ps) : Hdl (CR z017) := hnd [] z0yw (z1im av x)
theorem z1ho : LP z017 Tryz.f84 [0] z0vq := lp_ok (W := []) (H := [z0p8]) (xs := [z0rt]) z0ve ⟨z17u, trivial⟩ rfl (fun av x v K => by kernel_rfl) (fun av x n v K => by kernel_rfl)
theorem z0tz : z017.Ok Tryz.prog := fn_ok (k := z017) (fn := Tryz.f84) (W := []) (H := [z0vq]) Tryz.func84 z0ve ⟨z1ho, trivial⟩ rfl rfl (fun av x => by kernel_rfl)
def z0ol (s0_0 : Int) (s0_1 : Int) : Option (Int × Int) := some (s0_0, s0_1)
def z0ma (s0_0 : Int) (s0_1 : Int) : Option (Int × Int) := some (s0_0, s0_1)
def z02o (tree : List GNode) (data : List Int) (kx0_0 : Int → Int → Option (Int × Int)) (kx0_1 : Int → Int → Option (Int × Int)) : Nat → Int → Int → Int → Int → Option (Int × Int)
  | 0, _, _, _, _ => none
  | n0 + 1, s0_0, s0_1, s0_2, s0_3 => if decide (s0_3 < 12) = true then (if decide (s0_2 = (-1)) = true then (kx0_0 s0_0 s0_1) else ((getI tree s0_2).bind fun x4 => ((z01q x4.if_ data).bind fun x5 => (if x5 = true then ((getI tree s0_2).bind fun x7 => (gd (ok64 (s0_3 + 1)) ((z02o tree data kx0_0 kx0_1 n0) s0_2 s0_2 x7.yes (s0_3 + 1)))) else ((getI tree s0_2).bind fun x9 => (gd (ok64 (s0_3 + 1)) ((z02o tree data kx0_0 kx0_1 n0) s0_0 s0_2 x9.no (s0_3 + 1)))))))) else (kx0_1 s0_0 s0_1)
def z0py (s1_0 : Int) (s1_1 : Int) : Option (Int × Int) := some (s1_0, s1_1)
def z0pi (s1_0 : Int) (s1_1 : Int) : Option (Int × Int) := some (s1_0, s1_1)
def z08e (tree : List GNode) (data : List Int) : Option (Int × Int) := if decide ((tree.length : Int) = 0) = true then (z02o tree data z0ol z0ma FUEL (-1) (-1) (-1) 0) else (z02o tree data z0py z0pi FUEL (-1) (-1) 0 0)
def z02m : Con := ⟨195, [.v (.sl (.s .node)) false, .v (.sl .I) false], [(.I, true), (.I, true)], [], fun x => z08e x.1 x.2.1⟩
def z1ou : Fs := ⟨[z05f], []⟩
theorem z127 : z1ou.Ok Tryz.prog := (fsK z08s fs0)
def z0sz : Tmpl := ⟨[(0, .c (.s (.s .node))), (1, .c (.s .I)), (6, .c .i), (7, .c .i), (8, .c .i), (9, .c .i)], []⟩
def z0f2 : Tmpl := ⟨[(6, .c .i), (7, .c .i)], []⟩
def z1at (av : AV) (x : HP z02m.ps) (n : Nat) (v : z0sz.den) (K : Ks (CR z02m)) : Option (CR z02m) := z02o v.1.1 v.1.2.1 (fun s0_0 s0_1 => z0f2.at none ((s0_0, s0_1, ()), ()) (K (.exit 0))) (fun s0_0 s0_1 => z0f2.at none ((s0_0, s0_1, ()), ()) (K (.exit 0))) n v.1.2.2.1 v.1.2.2.2.1 v.1.2.2.2.2.1 v.1.2.2.2.2.2.1
def z0tn (av : AV) (x : HP z02m.ps) : Hdl (CR z02m) := hnd [] z0sz (z1at av x)
theorem z1cf : LP z02m Tryz.f195 [0] z0tn := lp_ok (W := []) (H := []) (xs := [z0f2]) z127 trivial rfl (fun av x v K => by kernel_rfl) (fun av x n v K => by kernel_rfl)
theorem z0na : z02m.Ok Tryz.prog := fn_ok (k := z02m) (fn := Tryz.f195) (W := []) (H := [z0tn]) Tryz.func195 z127 ⟨z1cf, trivial⟩ rfl rfl (fun av x => by kernel_rfl)
def z0g7 (tree : List GNode) (data : List Int) : Option Int := (z09l tree).bind fun x1 => (if x1 = true then ((z02c data).bind fun x3 => (if x3 = true then ((z08e tree data).bind fun x5 => (if decide (x5.1 = (-1)) = true then (some 0) else ((getI tree x5.1).bind fun x7 => (some x7.ans)))) else (some 0))) else (some 0))
def z0pt : Con := ⟨130, [.v (.sl (.s .node)) false, .v (.sl .I) false], [(.I, true)], [], fun x => z0g7 x.1 x.2.1⟩
def z1mi : Fs := ⟨[z017, z014, z02m], []⟩
theorem z1jr : z1mi.Ok Tryz.prog := (fsK z0tz (fsK z072 (fsK z0na fs0)))
theorem z1l1 : z0pt.Ok Tryz.prog := fn_ok (k := z0pt) (fn := Tryz.f130) (W := []) (H := []) Tryz.func130 z1jr trivial rfl rfl (fun av x => by kernel_rfl)
def z0ft (tree : List GNode) (a : List Int) (b : List Int) : Option Bool := (z08e tree a).bind fun x1 => ((z08e tree b).bind fun x2 => (if decide (x1.2 = x2.2) = true then (if decide (x1.2 = (-1)) = true then (some true) else ((getI tree x1.2).bind fun x5 => ((z01q x5.if_ a).bind fun x6 => ((getI tree x1.2).bind fun x7 => ((z01q x7.if_ b).bind fun x8 => (some (x6 == x8))))))) else (some false)))
def z0or : Con := ⟨196, [.v (.sl (.s .node)) false, .v (.sl .I) false, .v (.sl .I) false], [(.B, true)], [], fun x => z0ft x.1 x.2.1 x.2.2.1⟩
def z1la : Fs := ⟨[z02m, z05f], []⟩
theorem z1jo : z1la.Ok Tryz.prog := (fsK z0na (fsK z08s fs0))
theorem z1oa : z0or.Ok Tryz.prog := fn_ok (k := z0or) (fn := Tryz.f196) (W := []) (H := []) Tryz.func196 z1jo trivial rfl rfl (fun av x => by kernel_rfl)
end
end Go.Am
