/- Mirrors and walks, printed by gox.py. Own work. -/
import Derived.Test.YtcbpckbehdaloaaCsC2
set_option maxRecDepth 100000
set_option maxHeartbeats 4000000
set_option linter.unusedVariables false
set_option linter.unusedSimpArgs false
namespace Go.Am
open Go Go.Proofs

def m_markNetTaskS_k1 (s0_0 : Int) (l0_2 : List GTask) : Option (Int × (List GTask)) := some (s0_0, l0_2)
def m_markNetTaskS_l0 (kx0_0 : Int → List GTask → Option (Int × (List GTask))) : Nat → Int → Int → List GTask → Option (Int × (List GTask))
  | 0, _, _, _ => none
  | n0 + 1, s0_0, s0_1, l0_2 => if decide (s0_1 < (l0_2.length : Int)) = true then ((getI l0_2 s0_1).bind fun x2 => (gd (ok64 (s0_0 + 1)) ((getI (l0_2.set s0_1.toNat (GTask.mk s0_0 x2.split x2.in_ x2.out x2.clear x2.role x2.apart x2.all x2.need)) s0_1).bind fun x4 => (gd (ok64 ((s0_0 + 1) + 1)) ((getI ((l0_2.set s0_1.toNat (GTask.mk s0_0 x2.split x2.in_ x2.out x2.clear x2.role x2.apart x2.all x2.need)).set s0_1.toNat (GTask.mk x4.join (s0_0 + 1) x4.in_ x4.out x4.clear x4.role x4.apart x4.all x4.need)) s0_1).bind fun x6 => ((m_markIntS x6.in_ ((s0_0 + 1) + 1)).bind fun x7 => ((getI (((l0_2.set s0_1.toNat (GTask.mk s0_0 x2.split x2.in_ x2.out x2.clear x2.role x2.apart x2.all x2.need)).set s0_1.toNat (GTask.mk x4.join (s0_0 + 1) x4.in_ x4.out x4.clear x4.role x4.apart x4.all x4.need)).set s0_1.toNat (GTask.mk x6.join x6.split x7.2 x6.out x6.clear x6.role x6.apart x6.all x6.need)) s0_1).bind fun x8 => ((m_markNetFlowS x8.out x7.1).bind fun x9 => ((getI ((((l0_2.set s0_1.toNat (GTask.mk s0_0 x2.split x2.in_ x2.out x2.clear x2.role x2.apart x2.all x2.need)).set s0_1.toNat (GTask.mk x4.join (s0_0 + 1) x4.in_ x4.out x4.clear x4.role x4.apart x4.all x4.need)).set s0_1.toNat (GTask.mk x6.join x6.split x7.2 x6.out x6.clear x6.role x6.apart x6.all x6.need)).set s0_1.toNat (GTask.mk x8.join x8.split x8.in_ x9.2 x8.clear x8.role x8.apart x8.all x8.need)) s0_1).bind fun x10 => ((m_markIntS x10.clear x9.1).bind fun x11 => ((getI (((((l0_2.set s0_1.toNat (GTask.mk s0_0 x2.split x2.in_ x2.out x2.clear x2.role x2.apart x2.all x2.need)).set s0_1.toNat (GTask.mk x4.join (s0_0 + 1) x4.in_ x4.out x4.clear x4.role x4.apart x4.all x4.need)).set s0_1.toNat (GTask.mk x6.join x6.split x7.2 x6.out x6.clear x6.role x6.apart x6.all x6.need)).set s0_1.toNat (GTask.mk x8.join x8.split x8.in_ x9.2 x8.clear x8.role x8.apart x8.all x8.need)).set s0_1.toNat (GTask.mk x10.join x10.split x10.in_ x10.out x11.2 x10.role x10.apart x10.all x10.need)) s0_1).bind fun x12 => (gd (ok64 (x11.1 + 1)) ((getI ((((((l0_2.set s0_1.toNat (GTask.mk s0_0 x2.split x2.in_ x2.out x2.clear x2.role x2.apart x2.all x2.need)).set s0_1.toNat (GTask.mk x4.join (s0_0 + 1) x4.in_ x4.out x4.clear x4.role x4.apart x4.all x4.need)).set s0_1.toNat (GTask.mk x6.join x6.split x7.2 x6.out x6.clear x6.role x6.apart x6.all x6.need)).set s0_1.toNat (GTask.mk x8.join x8.split x8.in_ x9.2 x8.clear x8.role x8.apart x8.all x8.need)).set s0_1.toNat (GTask.mk x10.join x10.split x10.in_ x10.out x11.2 x10.role x10.apart x10.all x10.need)).set s0_1.toNat (GTask.mk x12.join x12.split x12.in_ x12.out x12.clear x11.1 x12.apart x12.all x12.need)) s0_1).bind fun x14 => (gd (ok64 ((x11.1 + 1) + 1)) ((getI (((((((l0_2.set s0_1.toNat (GTask.mk s0_0 x2.split x2.in_ x2.out x2.clear x2.role x2.apart x2.all x2.need)).set s0_1.toNat (GTask.mk x4.join (s0_0 + 1) x4.in_ x4.out x4.clear x4.role x4.apart x4.all x4.need)).set s0_1.toNat (GTask.mk x6.join x6.split x7.2 x6.out x6.clear x6.role x6.apart x6.all x6.need)).set s0_1.toNat (GTask.mk x8.join x8.split x8.in_ x9.2 x8.clear x8.role x8.apart x8.all x8.need)).set s0_1.toNat (GTask.mk x10.join x10.split x10.in_ x10.out x11.2 x10.role x10.apart x10.all x10.need)).set s0_1.toNat (GTask.mk x12.join x12.split x12.in_ x12.out x12.clear x11.1 x12.apart x12.all x12.need)).set s0_1.toNat (GTask.mk x14.join x14.split x14.in_ x14.out x14.clear x14.role (x11.1 + 1) x14.all x14.need)) s0_1).bind fun x16 => (gd (ok64 (((x11.1 + 1) + 1) + 1)) ((getI ((((((((l0_2.set s0_1.toNat (GTask.mk s0_0 x2.split x2.in_ x2.out x2.clear x2.role x2.apart x2.all x2.need)).set s0_1.toNat (GTask.mk x4.join (s0_0 + 1) x4.in_ x4.out x4.clear x4.role x4.apart x4.all x4.need)).set s0_1.toNat (GTask.mk x6.join x6.split x7.2 x6.out x6.clear x6.role x6.apart x6.all x6.need)).set s0_1.toNat (GTask.mk x8.join x8.split x8.in_ x9.2 x8.clear x8.role x8.apart x8.all x8.need)).set s0_1.toNat (GTask.mk x10.join x10.split x10.in_ x10.out x11.2 x10.role x10.apart x10.all x10.need)).set s0_1.toNat (GTask.mk x12.join x12.split x12.in_ x12.out x12.clear x11.1 x12.apart x12.all x12.need)).set s0_1.toNat (GTask.mk x14.join x14.split x14.in_ x14.out x14.clear x14.role (x11.1 + 1) x14.all x14.need)).set s0_1.toNat (GTask.mk x16.join x16.split x16.in_ x16.out x16.clear x16.role x16.apart ((x11.1 + 1) + 1) x16.need)) s0_1).bind fun x18 => (gd (ok64 ((((x11.1 + 1) + 1) + 1) + 1)) (gd (ok64 (s0_1 + 1)) ((m_markNetTaskS_l0 kx0_0 n0) ((((x11.1 + 1) + 1) + 1) + 1) (s0_1 + 1) (((((((((l0_2.set s0_1.toNat (GTask.mk s0_0 x2.split x2.in_ x2.out x2.clear x2.role x2.apart x2.all x2.need)).set s0_1.toNat (GTask.mk x4.join (s0_0 + 1) x4.in_ x4.out x4.clear x4.role x4.apart x4.all x4.need)).set s0_1.toNat (GTask.mk x6.join x6.split x7.2 x6.out x6.clear x6.role x6.apart x6.all x6.need)).set s0_1.toNat (GTask.mk x8.join x8.split x8.in_ x9.2 x8.clear x8.role x8.apart x8.all x8.need)).set s0_1.toNat (GTask.mk x10.join x10.split x10.in_ x10.out x11.2 x10.role x10.apart x10.all x10.need)).set s0_1.toNat (GTask.mk x12.join x12.split x12.in_ x12.out x12.clear x11.1 x12.apart x12.all x12.need)).set s0_1.toNat (GTask.mk x14.join x14.split x14.in_ x14.out x14.clear x14.role (x11.1 + 1) x14.all x14.need)).set s0_1.toNat (GTask.mk x16.join x16.split x16.in_ x16.out x16.clear x16.role x16.apart ((x11.1 + 1) + 1) x16.need)).set s0_1.toNat (GTask.mk x18.join x18.split x18.in_ x18.out x18.clear x18.role x18.apart x18.all (((x11.1 + 1) + 1) + 1))))))))))))))))))))))) else (kx0_0 s0_0 l0_2)
def m_markNetTaskS (a : List GTask) (k : Int) : Option (Int × (List GTask)) := m_markNetTaskS_l0 m_markNetTaskS_k1 FUEL k 0 a

theorem c_markNetTaskS (a : List GTask) (k : Int) (rz : Int × (List GTask)) (hm : m_markNetTaskS a k = some rz) : FnB Try.prog 85 [.c (.sl true 9 (a.map (GTask.cells true))), .c (cI k)] [.c (cI rz.1)] [(0, .c (.sl true 9 (rz.2.map (GTask.cells true))))] := by
 unfold m_markNetTaskS at hm
 refine fn_intro2 (n := 76) (rvs := [.tmp 4]) Try.func85 rfl rfl rfl (lb rfl) rfl rfl rfl rfl rfl ?_
 refine acode_seq ?_
 refine acode_le (le_stU (env := [(0, .ref 1000000 []), (1, aInt k)]) (obj := [(1000000, .arr 9 (a.map (GTask.cells true)))]) idn (.cons rfl rfl (.cons rfl rfl .nil)) (.cons rfl rfl (.inr rfl) .nil) rfl) ?_
 refine acode_region ?_
 refine as_ (lb rfl) rfl ?_
 refine nk ?_
 refine acode_seq ?_
 refine sr ?_
 refine as_ (lb rfl) rfl ?_
 refine nk ?_
 refine acode_block ?_
 refine acode_loopk (xs := [0]) (ys := []) (S := Nat × Int × Int × (List GTask)) (fun z => [(1, aInt z.2.1), (5, aInt z.2.2.1)]) (fun z => [(1000000, .arr 9 (z.2.2.2.map (GTask.cells true)))]) (fun z => m_markNetTaskS_l0 m_markNetTaskS_k1 z.1 z.2.1 z.2.2.1 z.2.2.2 = some rz) (fun z => z.1) (FUEL, k, 0, a) (.cons rfl .nil) .nil ?em ?eo rfl ?ei ?round
 case em => exact (.cons rfl rfl (.cons rfl rfl .nil))
 case eo => exact (.cons rfl rfl .nil)
 case ei => exact hm
 case round =>
  rintro ⟨n0, s0_0, s0_1, l0_2⟩ hm
  dsimp only at hm ⊢
  cases n0 with
  | zero => rw [m_markNetTaskS_l0] at hm; cases hm
  | succ n0 =>
   rw [m_markNetTaskS_l0] at hm
   refine acode_seq ?_
   refine sr ?_
   refine mv (lb rfl) rfl ?_
   refine mv (lb rfl) rfl ?_
   refine st1 rfl (op_lenG_ref (f := (GTask.cells true)) (l := l0_2) Try.underlying63 (lb rfl) rfl) (so rfl (sb rfl sn)) ?_
   refine st1 rfl (op_lss (lb rfl)) (so rfl (so rfl sn)) ?_
   refine nk ?_
   refine acode_split (b := decide (s0_1 < (l0_2.length : Int))) (fun c1 => ?_) (fun c1 => ?_)
   ·
    replace hm := ite_t hm c1
    refine acode_cond_true rfl (c1) ?_
    refine pk ?_
    refine acode_seq ?_
    refine acode_block ?_
    refine sr ?_
    refine mv (lb rfl) rfl ?_
    refine mv (lb rfl) rfl ?_
    refine mv (lb rfl) rfl ?_
    obtain ⟨x2, hx2, hm⟩ := bnd hm
    refine st1 rfl (op_index_refG (f := (GTask.cells true)) (l := l0_2) Try.underlying63 Try.sizeOf119 (lb rfl) rfl hx2) (so rfl (so rfl (sb rfl sn))) ?_
    refine st1 rfl (op_field_ptr (off := 0) Try.underlying119 Try.sizeOf3 rfl rfl rfl (lb rfl)) (so rfl (sb rfl sn)) ?_
    refine st1 rfl (op_store_arrG (row := (GTask.cells true) x2) (rows' := ((l0_2.set s0_1.toNat (GTask.mk s0_0 x2.split x2.in_ x2.out x2.clear x2.role x2.apart x2.all x2.need)).map (GTask.cells true))) Try.sizeOf3 (mapG (f := (GTask.cells true)) (getI_some hx2).2.2) rfl (.c rfl .nil) rfl rfl rfl rfl rfl (setG (x' := (GTask.mk s0_0 x2.split x2.in_ x2.out x2.clear x2.role x2.apart x2.all x2.need)) rfl)) (so rfl (so rfl (sb rfl (sats_objs all_nil (sats_lives rfl))))) ?_
    refine nk ?_
    refine sr ?_
    refine mv (lb rfl) rfl ?_
    obtain ⟨g3, hm⟩ := gd_some hm
    refine st1 rfl (op_add (lb rfl) g3) (so rfl (so rfl sn)) ?_
    refine as_ (lb rfl) rfl ?_
    refine nk ?_
    refine sr ?_
    refine mv (lb rfl) rfl ?_
    refine mv (lb rfl) rfl ?_
    refine mv (lb rfl) rfl ?_
    obtain ⟨x4, hx4, hm⟩ := bnd hm
    refine st1 rfl (op_index_refG (f := (GTask.cells true)) (l := (l0_2.set s0_1.toNat (GTask.mk s0_0 x2.split x2.in_ x2.out x2.clear x2.role x2.apart x2.all x2.need))) Try.underlying63 Try.sizeOf119 (lb rfl) rfl hx4) (so rfl (so rfl (sb rfl sn))) ?_
    refine st1 rfl (op_field_ptr (off := 1) Try.underlying119 Try.sizeOf3 rfl rfl rfl (lb rfl)) (so rfl (sb rfl sn)) ?_
    refine st1 rfl (op_store_arrG (row := (GTask.cells true) x4) (rows' := (((l0_2.set s0_1.toNat (GTask.mk s0_0 x2.split x2.in_ x2.out x2.clear x2.role x2.apart x2.all x2.need)).set s0_1.toNat (GTask.mk x4.join (s0_0 + 1) x4.in_ x4.out x4.clear x4.role x4.apart x4.all x4.need)).map (GTask.cells true))) Try.sizeOf3 (mapG (f := (GTask.cells true)) (getI_some hx4).2.2) rfl (.c rfl .nil) rfl rfl rfl rfl rfl (setG (x' := (GTask.mk x4.join (s0_0 + 1) x4.in_ x4.out x4.clear x4.role x4.apart x4.all x4.need)) rfl)) (so rfl (so rfl (sb rfl (sats_objs all_nil (sats_lives rfl))))) ?_
    refine nk ?_
    refine acode_seq ?_
    refine acode_le (le_stU (env := [(0, .ref 1000000 []), (1, aInt (s0_0 + 1)), (5, aInt s0_1)]) (obj := [(1000000, .arr 9 (((l0_2.set s0_1.toNat (GTask.mk s0_0 x2.split x2.in_ x2.out x2.clear x2.role x2.apart x2.all x2.need)).set s0_1.toNat (GTask.mk x4.join (s0_0 + 1) x4.in_ x4.out x4.clear x4.role x4.apart x4.all x4.need)).map (GTask.cells true)))]) idn (.cons rfl rfl (.cons rfl rfl (.cons rfl rfl .nil))) (.cons rfl rfl (.inr rfl) .nil) rfl) ?_
    refine acode_region ?_
    refine mv (lb rfl) rfl ?_
    obtain ⟨g5, hm⟩ := gd_some hm
    refine st1 rfl (op_add (lb rfl) g5) (so rfl (so rfl sn)) ?_
    refine as_ (lb rfl) rfl ?_
    refine nk ?_
    refine sr ?_
    refine mv (lb rfl) rfl ?_
    refine mv (lb rfl) rfl ?_
    obtain ⟨x6, hx6, hm⟩ := bnd hm
    refine st1 rfl (op_index_refG (f := (GTask.cells true)) (l := ((l0_2.set s0_1.toNat (GTask.mk s0_0 x2.split x2.in_ x2.out x2.clear x2.role x2.apart x2.all x2.need)).set s0_1.toNat (GTask.mk x4.join (s0_0 + 1) x4.in_ x4.out x4.clear x4.role x4.apart x4.all x4.need))) Try.underlying63 Try.sizeOf119 (lb rfl) rfl hx6) (so rfl (so rfl (sb rfl sn))) ?_
    refine st1 rfl (op_field_ptr (off := 2) Try.underlying119 Try.sizeOf34 rfl rfl rfl (lb rfl)) (so rfl (sb rfl sn)) ?_
    refine st1 rfl (op_load_ptr_ref Try.isAgg34 rfl (mapG (f := (GTask.cells true)) (getI_some hx6).2.2) rfl (lb rfl)) (so rfl (sb rfl sn)) ?_
    refine mv (lb rfl) rfl ?_
    obtain ⟨x7, hx7, hm⟩ := bnd hm
    refine st1 rfl (op_callLP (rowsN := ((((l0_2.set s0_1.toNat (GTask.mk s0_0 x2.split x2.in_ x2.out x2.clear x2.role x2.apart x2.all x2.need)).set s0_1.toNat (GTask.mk x4.join (s0_0 + 1) x4.in_ x4.out x4.clear x4.role x4.apart x4.all x4.need)).set s0_1.toNat (GTask.mk x6.join x6.split x7.2 x6.out x6.clear x6.role x6.apart x6.all x6.need)).map (GTask.cells true))) Try.func29 rfl rfl (c_markIntS x6.in_ ((s0_0 + 1) + 1) x7 hx7) (mapG (f := (GTask.cells true)) (getI_some hx6).2.2) rfl (lb rfl) (setLP (x' := (GTask.mk x6.join x6.split x7.2 x6.out x6.clear x6.role x6.apart x6.all x6.need)) rfl)) (so rfl (so rfl (sb rfl sn))) ?_
    refine as_ (lb rfl) rfl ?_
    refine nk ?_
    refine sr ?_
    refine mv (lb rfl) rfl ?_
    refine mv (lb rfl) rfl ?_
    obtain ⟨x8, hx8, hm⟩ := bnd hm
    refine st1 rfl (op_index_refG (f := (GTask.cells true)) (l := (((l0_2.set s0_1.toNat (GTask.mk s0_0 x2.split x2.in_ x2.out x2.clear x2.role x2.apart x2.all x2.need)).set s0_1.toNat (GTask.mk x4.join (s0_0 + 1) x4.in_ x4.out x4.clear x4.role x4.apart x4.all x4.need)).set s0_1.toNat (GTask.mk x6.join x6.split x7.2 x6.out x6.clear x6.role x6.apart x6.all x6.need))) Try.underlying63 Try.sizeOf119 (lb rfl) rfl hx8) (so rfl (so rfl (sb rfl sn))) ?_
    refine st1 rfl (op_field_ptr (off := 3) Try.underlying119 Try.sizeOf117 rfl rfl rfl (lb rfl)) (so rfl (sb rfl sn)) ?_
    refine st1 rfl (op_load_ptr_ref Try.isAgg117 rfl (mapG (f := (GTask.cells true)) (getI_some hx8).2.2) rfl (lb rfl)) (so rfl (sb rfl sn)) ?_
    refine mv (lb rfl) rfl ?_
    obtain ⟨x9, hx9, hm⟩ := bnd hm
    refine st1 rfl (op_callLP (rowsN := (((((l0_2.set s0_1.toNat (GTask.mk s0_0 x2.split x2.in_ x2.out x2.clear x2.role x2.apart x2.all x2.need)).set s0_1.toNat (GTask.mk x4.join (s0_0 + 1) x4.in_ x4.out x4.clear x4.role x4.apart x4.all x4.need)).set s0_1.toNat (GTask.mk x6.join x6.split x7.2 x6.out x6.clear x6.role x6.apart x6.all x6.need)).set s0_1.toNat (GTask.mk x8.join x8.split x8.in_ x9.2 x8.clear x8.role x8.apart x8.all x8.need)).map (GTask.cells true))) Try.func132 rfl rfl (c_markNetFlowS x8.out x7.1 x9 hx9) (mapG (f := (GTask.cells true)) (getI_some hx8).2.2) rfl (lb rfl) (setLP (x' := (GTask.mk x8.join x8.split x8.in_ x9.2 x8.clear x8.role x8.apart x8.all x8.need)) rfl)) (so rfl (so rfl (sb rfl sn))) ?_
    refine as_ (lb rfl) rfl ?_
    refine nk ?_
    refine acode_seq ?_
    refine acode_le (le_stU (env := [(0, .ref 1000000 []), (1, aInt x9.1), (5, aInt s0_1)]) (obj := [(1000000, .arr 9 (((((l0_2.set s0_1.toNat (GTask.mk s0_0 x2.split x2.in_ x2.out x2.clear x2.role x2.apart x2.all x2.need)).set s0_1.toNat (GTask.mk x4.join (s0_0 + 1) x4.in_ x4.out x4.clear x4.role x4.apart x4.all x4.need)).set s0_1.toNat (GTask.mk x6.join x6.split x7.2 x6.out x6.clear x6.role x6.apart x6.all x6.need)).set s0_1.toNat (GTask.mk x8.join x8.split x8.in_ x9.2 x8.clear x8.role x8.apart x8.all x8.need)).map (GTask.cells true)))]) idn (.cons rfl rfl (.cons rfl rfl (.cons rfl rfl .nil))) (.cons rfl rfl (.inr rfl) .nil) rfl) ?_
    refine acode_region ?_
    refine mv (lb rfl) rfl ?_
    refine mv (lb rfl) rfl ?_
    obtain ⟨x10, hx10, hm⟩ := bnd hm
    refine st1 rfl (op_index_refG (f := (GTask.cells true)) (l := ((((l0_2.set s0_1.toNat (GTask.mk s0_0 x2.split x2.in_ x2.out x2.clear x2.role x2.apart x2.all x2.need)).set s0_1.toNat (GTask.mk x4.join (s0_0 + 1) x4.in_ x4.out x4.clear x4.role x4.apart x4.all x4.need)).set s0_1.toNat (GTask.mk x6.join x6.split x7.2 x6.out x6.clear x6.role x6.apart x6.all x6.need)).set s0_1.toNat (GTask.mk x8.join x8.split x8.in_ x9.2 x8.clear x8.role x8.apart x8.all x8.need))) Try.underlying63 Try.sizeOf119 (lb rfl) rfl hx10) (so rfl (so rfl (sb rfl sn))) ?_
    refine st1 rfl (op_field_ptr (off := 4) Try.underlying119 Try.sizeOf34 rfl rfl rfl (lb rfl)) (so rfl (sb rfl sn)) ?_
    refine st1 rfl (op_load_ptr_ref Try.isAgg34 rfl (mapG (f := (GTask.cells true)) (getI_some hx10).2.2) rfl (lb rfl)) (so rfl (sb rfl sn)) ?_
    refine mv (lb rfl) rfl ?_
    obtain ⟨x11, hx11, hm⟩ := bnd hm
    refine st1 rfl (op_callLP (rowsN := ((((((l0_2.set s0_1.toNat (GTask.mk s0_0 x2.split x2.in_ x2.out x2.clear x2.role x2.apart x2.all x2.need)).set s0_1.toNat (GTask.mk x4.join (s0_0 + 1) x4.in_ x4.out x4.clear x4.role x4.apart x4.all x4.need)).set s0_1.toNat (GTask.mk x6.join x6.split x7.2 x6.out x6.clear x6.role x6.apart x6.all x6.need)).set s0_1.toNat (GTask.mk x8.join x8.split x8.in_ x9.2 x8.clear x8.role x8.apart x8.all x8.need)).set s0_1.toNat (GTask.mk x10.join x10.split x10.in_ x10.out x11.2 x10.role x10.apart x10.all x10.need)).map (GTask.cells true))) Try.func29 rfl rfl (c_markIntS x10.clear x9.1 x11 hx11) (mapG (f := (GTask.cells true)) (getI_some hx10).2.2) rfl (lb rfl) (setLP (x' := (GTask.mk x10.join x10.split x10.in_ x10.out x11.2 x10.role x10.apart x10.all x10.need)) rfl)) (so rfl (so rfl (sb rfl sn))) ?_
    refine as_ (lb rfl) rfl ?_
    refine nk ?_
    refine sr ?_
    refine mv (lb rfl) rfl ?_
    refine mv (lb rfl) rfl ?_
    refine mv (lb rfl) rfl ?_
    obtain ⟨x12, hx12, hm⟩ := bnd hm
    refine st1 rfl (op_index_refG (f := (GTask.cells true)) (l := (((((l0_2.set s0_1.toNat (GTask.mk s0_0 x2.split x2.in_ x2.out x2.clear x2.role x2.apart x2.all x2.need)).set s0_1.toNat (GTask.mk x4.join (s0_0 + 1) x4.in_ x4.out x4.clear x4.role x4.apart x4.all x4.need)).set s0_1.toNat (GTask.mk x6.join x6.split x7.2 x6.out x6.clear x6.role x6.apart x6.all x6.need)).set s0_1.toNat (GTask.mk x8.join x8.split x8.in_ x9.2 x8.clear x8.role x8.apart x8.all x8.need)).set s0_1.toNat (GTask.mk x10.join x10.split x10.in_ x10.out x11.2 x10.role x10.apart x10.all x10.need))) Try.underlying63 Try.sizeOf119 (lb rfl) rfl hx12) (so rfl (so rfl (sb rfl sn))) ?_
    refine st1 rfl (op_field_ptr (off := 5) Try.underlying119 Try.sizeOf3 rfl rfl rfl (lb rfl)) (so rfl (sb rfl sn)) ?_
    refine st1 rfl (op_store_arrG (row := (GTask.cells true) x12) (rows' := (((((((l0_2.set s0_1.toNat (GTask.mk s0_0 x2.split x2.in_ x2.out x2.clear x2.role x2.apart x2.all x2.need)).set s0_1.toNat (GTask.mk x4.join (s0_0 + 1) x4.in_ x4.out x4.clear x4.role x4.apart x4.all x4.need)).set s0_1.toNat (GTask.mk x6.join x6.split x7.2 x6.out x6.clear x6.role x6.apart x6.all x6.need)).set s0_1.toNat (GTask.mk x8.join x8.split x8.in_ x9.2 x8.clear x8.role x8.apart x8.all x8.need)).set s0_1.toNat (GTask.mk x10.join x10.split x10.in_ x10.out x11.2 x10.role x10.apart x10.all x10.need)).set s0_1.toNat (GTask.mk x12.join x12.split x12.in_ x12.out x12.clear x11.1 x12.apart x12.all x12.need)).map (GTask.cells true))) Try.sizeOf3 (mapG (f := (GTask.cells true)) (getI_some hx12).2.2) rfl (.c rfl .nil) rfl rfl rfl rfl rfl (setG (x' := (GTask.mk x12.join x12.split x12.in_ x12.out x12.clear x11.1 x12.apart x12.all x12.need)) rfl)) (so rfl (so rfl (sb rfl (sats_objs all_nil (sats_lives rfl))))) ?_
    refine nk ?_
    refine sr ?_
    refine mv (lb rfl) rfl ?_
    obtain ⟨g13, hm⟩ := gd_some hm
    refine st1 rfl (op_add (lb rfl) g13) (so rfl (so rfl sn)) ?_
    refine as_ (lb rfl) rfl ?_
    refine nk ?_
    refine acode_seq ?_
    refine acode_le (le_stU (env := [(0, .ref 1000000 []), (1, aInt (x11.1 + 1)), (5, aInt s0_1)]) (obj := [(1000000, .arr 9 (((((((l0_2.set s0_1.toNat (GTask.mk s0_0 x2.split x2.in_ x2.out x2.clear x2.role x2.apart x2.all x2.need)).set s0_1.toNat (GTask.mk x4.join (s0_0 + 1) x4.in_ x4.out x4.clear x4.role x4.apart x4.all x4.need)).set s0_1.toNat (GTask.mk x6.join x6.split x7.2 x6.out x6.clear x6.role x6.apart x6.all x6.need)).set s0_1.toNat (GTask.mk x8.join x8.split x8.in_ x9.2 x8.clear x8.role x8.apart x8.all x8.need)).set s0_1.toNat (GTask.mk x10.join x10.split x10.in_ x10.out x11.2 x10.role x10.apart x10.all x10.need)).set s0_1.toNat (GTask.mk x12.join x12.split x12.in_ x12.out x12.clear x11.1 x12.apart x12.all x12.need)).map (GTask.cells true)))]) idn (.cons rfl rfl (.cons rfl rfl (.cons rfl rfl .nil))) (.cons rfl rfl (.inr rfl) .nil) rfl) ?_
    refine acode_region ?_
    refine mv (lb rfl) rfl ?_
    refine mv (lb rfl) rfl ?_
    refine mv (lb rfl) rfl ?_
    obtain ⟨x14, hx14, hm⟩ := bnd hm
    refine st1 rfl (op_index_refG (f := (GTask.cells true)) (l := ((((((l0_2.set s0_1.toNat (GTask.mk s0_0 x2.split x2.in_ x2.out x2.clear x2.role x2.apart x2.all x2.need)).set s0_1.toNat (GTask.mk x4.join (s0_0 + 1) x4.in_ x4.out x4.clear x4.role x4.apart x4.all x4.need)).set s0_1.toNat (GTask.mk x6.join x6.split x7.2 x6.out x6.clear x6.role x6.apart x6.all x6.need)).set s0_1.toNat (GTask.mk x8.join x8.split x8.in_ x9.2 x8.clear x8.role x8.apart x8.all x8.need)).set s0_1.toNat (GTask.mk x10.join x10.split x10.in_ x10.out x11.2 x10.role x10.apart x10.all x10.need)).set s0_1.toNat (GTask.mk x12.join x12.split x12.in_ x12.out x12.clear x11.1 x12.apart x12.all x12.need))) Try.underlying63 Try.sizeOf119 (lb rfl) rfl hx14) (so rfl (so rfl (sb rfl sn))) ?_
    refine st1 rfl (op_field_ptr (off := 6) Try.underlying119 Try.sizeOf3 rfl rfl rfl (lb rfl)) (so rfl (sb rfl sn)) ?_
    refine st1 rfl (op_store_arrG (row := (GTask.cells true) x14) (rows' := ((((((((l0_2.set s0_1.toNat (GTask.mk s0_0 x2.split x2.in_ x2.out x2.clear x2.role x2.apart x2.all x2.need)).set s0_1.toNat (GTask.mk x4.join (s0_0 + 1) x4.in_ x4.out x4.clear x4.role x4.apart x4.all x4.need)).set s0_1.toNat (GTask.mk x6.join x6.split x7.2 x6.out x6.clear x6.role x6.apart x6.all x6.need)).set s0_1.toNat (GTask.mk x8.join x8.split x8.in_ x9.2 x8.clear x8.role x8.apart x8.all x8.need)).set s0_1.toNat (GTask.mk x10.join x10.split x10.in_ x10.out x11.2 x10.role x10.apart x10.all x10.need)).set s0_1.toNat (GTask.mk x12.join x12.split x12.in_ x12.out x12.clear x11.1 x12.apart x12.all x12.need)).set s0_1.toNat (GTask.mk x14.join x14.split x14.in_ x14.out x14.clear x14.role (x11.1 + 1) x14.all x14.need)).map (GTask.cells true))) Try.sizeOf3 (mapG (f := (GTask.cells true)) (getI_some hx14).2.2) rfl (.c rfl .nil) rfl rfl rfl rfl rfl (setG (x' := (GTask.mk x14.join x14.split x14.in_ x14.out x14.clear x14.role (x11.1 + 1) x14.all x14.need)) rfl)) (so rfl (so rfl (sb rfl (sats_objs all_nil (sats_lives rfl))))) ?_
    refine nk ?_
    refine sr ?_
    refine mv (lb rfl) rfl ?_
    obtain ⟨g15, hm⟩ := gd_some hm
    refine st1 rfl (op_add (lb rfl) g15) (so rfl (so rfl sn)) ?_
    refine as_ (lb rfl) rfl ?_
    refine nk ?_
    refine sr ?_
    refine mv (lb rfl) rfl ?_
    refine mv (lb rfl) rfl ?_
    refine mv (lb rfl) rfl ?_
    obtain ⟨x16, hx16, hm⟩ := bnd hm
    refine st1 rfl (op_index_refG (f := (GTask.cells true)) (l := (((((((l0_2.set s0_1.toNat (GTask.mk s0_0 x2.split x2.in_ x2.out x2.clear x2.role x2.apart x2.all x2.need)).set s0_1.toNat (GTask.mk x4.join (s0_0 + 1) x4.in_ x4.out x4.clear x4.role x4.apart x4.all x4.need)).set s0_1.toNat (GTask.mk x6.join x6.split x7.2 x6.out x6.clear x6.role x6.apart x6.all x6.need)).set s0_1.toNat (GTask.mk x8.join x8.split x8.in_ x9.2 x8.clear x8.role x8.apart x8.all x8.need)).set s0_1.toNat (GTask.mk x10.join x10.split x10.in_ x10.out x11.2 x10.role x10.apart x10.all x10.need)).set s0_1.toNat (GTask.mk x12.join x12.split x12.in_ x12.out x12.clear x11.1 x12.apart x12.all x12.need)).set s0_1.toNat (GTask.mk x14.join x14.split x14.in_ x14.out x14.clear x14.role (x11.1 + 1) x14.all x14.need))) Try.underlying63 Try.sizeOf119 (lb rfl) rfl hx16) (so rfl (so rfl (sb rfl sn))) ?_
    refine st1 rfl (op_field_ptr (off := 7) Try.underlying119 Try.sizeOf3 rfl rfl rfl (lb rfl)) (so rfl (sb rfl sn)) ?_
    refine st1 rfl (op_store_arrG (row := (GTask.cells true) x16) (rows' := (((((((((l0_2.set s0_1.toNat (GTask.mk s0_0 x2.split x2.in_ x2.out x2.clear x2.role x2.apart x2.all x2.need)).set s0_1.toNat (GTask.mk x4.join (s0_0 + 1) x4.in_ x4.out x4.clear x4.role x4.apart x4.all x4.need)).set s0_1.toNat (GTask.mk x6.join x6.split x7.2 x6.out x6.clear x6.role x6.apart x6.all x6.need)).set s0_1.toNat (GTask.mk x8.join x8.split x8.in_ x9.2 x8.clear x8.role x8.apart x8.all x8.need)).set s0_1.toNat (GTask.mk x10.join x10.split x10.in_ x10.out x11.2 x10.role x10.apart x10.all x10.need)).set s0_1.toNat (GTask.mk x12.join x12.split x12.in_ x12.out x12.clear x11.1 x12.apart x12.all x12.need)).set s0_1.toNat (GTask.mk x14.join x14.split x14.in_ x14.out x14.clear x14.role (x11.1 + 1) x14.all x14.need)).set s0_1.toNat (GTask.mk x16.join x16.split x16.in_ x16.out x16.clear x16.role x16.apart ((x11.1 + 1) + 1) x16.need)).map (GTask.cells true))) Try.sizeOf3 (mapG (f := (GTask.cells true)) (getI_some hx16).2.2) rfl (.c rfl .nil) rfl rfl rfl rfl rfl (setG (x' := (GTask.mk x16.join x16.split x16.in_ x16.out x16.clear x16.role x16.apart ((x11.1 + 1) + 1) x16.need)) rfl)) (so rfl (so rfl (sb rfl (sats_objs all_nil (sats_lives rfl))))) ?_
    refine nk ?_
    refine acode_seq ?_
    refine acode_le (le_stU (env := [(0, .ref 1000000 []), (1, aInt ((x11.1 + 1) + 1)), (5, aInt s0_1)]) (obj := [(1000000, .arr 9 (((((((((l0_2.set s0_1.toNat (GTask.mk s0_0 x2.split x2.in_ x2.out x2.clear x2.role x2.apart x2.all x2.need)).set s0_1.toNat (GTask.mk x4.join (s0_0 + 1) x4.in_ x4.out x4.clear x4.role x4.apart x4.all x4.need)).set s0_1.toNat (GTask.mk x6.join x6.split x7.2 x6.out x6.clear x6.role x6.apart x6.all x6.need)).set s0_1.toNat (GTask.mk x8.join x8.split x8.in_ x9.2 x8.clear x8.role x8.apart x8.all x8.need)).set s0_1.toNat (GTask.mk x10.join x10.split x10.in_ x10.out x11.2 x10.role x10.apart x10.all x10.need)).set s0_1.toNat (GTask.mk x12.join x12.split x12.in_ x12.out x12.clear x11.1 x12.apart x12.all x12.need)).set s0_1.toNat (GTask.mk x14.join x14.split x14.in_ x14.out x14.clear x14.role (x11.1 + 1) x14.all x14.need)).set s0_1.toNat (GTask.mk x16.join x16.split x16.in_ x16.out x16.clear x16.role x16.apart ((x11.1 + 1) + 1) x16.need)).map (GTask.cells true)))]) idn (.cons rfl rfl (.cons rfl rfl (.cons rfl rfl .nil))) (.cons rfl rfl (.inr rfl) .nil) rfl) ?_
    refine acode_region ?_
    refine mv (lb rfl) rfl ?_
    obtain ⟨g17, hm⟩ := gd_some hm
    refine st1 rfl (op_add (lb rfl) g17) (so rfl (so rfl sn)) ?_
    refine as_ (lb rfl) rfl ?_
    refine nk ?_
    refine sr ?_
    refine mv (lb rfl) rfl ?_
    refine mv (lb rfl) rfl ?_
    refine mv (lb rfl) rfl ?_
    obtain ⟨x18, hx18, hm⟩ := bnd hm
    refine st1 rfl (op_index_refG (f := (GTask.cells true)) (l := ((((((((l0_2.set s0_1.toNat (GTask.mk s0_0 x2.split x2.in_ x2.out x2.clear x2.role x2.apart x2.all x2.need)).set s0_1.toNat (GTask.mk x4.join (s0_0 + 1) x4.in_ x4.out x4.clear x4.role x4.apart x4.all x4.need)).set s0_1.toNat (GTask.mk x6.join x6.split x7.2 x6.out x6.clear x6.role x6.apart x6.all x6.need)).set s0_1.toNat (GTask.mk x8.join x8.split x8.in_ x9.2 x8.clear x8.role x8.apart x8.all x8.need)).set s0_1.toNat (GTask.mk x10.join x10.split x10.in_ x10.out x11.2 x10.role x10.apart x10.all x10.need)).set s0_1.toNat (GTask.mk x12.join x12.split x12.in_ x12.out x12.clear x11.1 x12.apart x12.all x12.need)).set s0_1.toNat (GTask.mk x14.join x14.split x14.in_ x14.out x14.clear x14.role (x11.1 + 1) x14.all x14.need)).set s0_1.toNat (GTask.mk x16.join x16.split x16.in_ x16.out x16.clear x16.role x16.apart ((x11.1 + 1) + 1) x16.need))) Try.underlying63 Try.sizeOf119 (lb rfl) rfl hx18) (so rfl (so rfl (sb rfl sn))) ?_
    refine st1 rfl (op_field_ptr (off := 8) Try.underlying119 Try.sizeOf3 rfl rfl rfl (lb rfl)) (so rfl (sb rfl sn)) ?_
    refine st1 rfl (op_store_arrG (row := (GTask.cells true) x18) (rows' := ((((((((((l0_2.set s0_1.toNat (GTask.mk s0_0 x2.split x2.in_ x2.out x2.clear x2.role x2.apart x2.all x2.need)).set s0_1.toNat (GTask.mk x4.join (s0_0 + 1) x4.in_ x4.out x4.clear x4.role x4.apart x4.all x4.need)).set s0_1.toNat (GTask.mk x6.join x6.split x7.2 x6.out x6.clear x6.role x6.apart x6.all x6.need)).set s0_1.toNat (GTask.mk x8.join x8.split x8.in_ x9.2 x8.clear x8.role x8.apart x8.all x8.need)).set s0_1.toNat (GTask.mk x10.join x10.split x10.in_ x10.out x11.2 x10.role x10.apart x10.all x10.need)).set s0_1.toNat (GTask.mk x12.join x12.split x12.in_ x12.out x12.clear x11.1 x12.apart x12.all x12.need)).set s0_1.toNat (GTask.mk x14.join x14.split x14.in_ x14.out x14.clear x14.role (x11.1 + 1) x14.all x14.need)).set s0_1.toNat (GTask.mk x16.join x16.split x16.in_ x16.out x16.clear x16.role x16.apart ((x11.1 + 1) + 1) x16.need)).set s0_1.toNat (GTask.mk x18.join x18.split x18.in_ x18.out x18.clear x18.role x18.apart x18.all (((x11.1 + 1) + 1) + 1))).map (GTask.cells true))) Try.sizeOf3 (mapG (f := (GTask.cells true)) (getI_some hx18).2.2) rfl (.c rfl .nil) rfl rfl rfl rfl rfl (setG (x' := (GTask.mk x18.join x18.split x18.in_ x18.out x18.clear x18.role x18.apart x18.all (((x11.1 + 1) + 1) + 1))) rfl)) (so rfl (so rfl (sb rfl (sats_objs all_nil (sats_lives rfl))))) ?_
    refine nk ?_
    refine acode_region ?_
    refine mv (lb rfl) rfl ?_
    obtain ⟨g19, hm⟩ := gd_some hm
    refine st1 rfl (op_add (lb rfl) g19) (so rfl (so rfl sn)) ?_
    refine as_ (lb rfl) rfl ?_
    refine rg_nil_seq ?_
    refine kblk_normal (kseq_normal ?_)
    refine acode_region ?_
    refine mv (lb rfl) rfl ?_
    obtain ⟨g20, hm⟩ := gd_some hm
    refine st1 rfl (op_add (lb rfl) g20) (so rfl (so rfl sn)) ?_
    refine as_ (lb rfl) rfl ?_
    refine rg_nil_seq ?_
    refine klg_back (n0, ((((x11.1 + 1) + 1) + 1) + 1), (s0_1 + 1), (((((((((l0_2.set s0_1.toNat (GTask.mk s0_0 x2.split x2.in_ x2.out x2.clear x2.role x2.apart x2.all x2.need)).set s0_1.toNat (GTask.mk x4.join (s0_0 + 1) x4.in_ x4.out x4.clear x4.role x4.apart x4.all x4.need)).set s0_1.toNat (GTask.mk x6.join x6.split x7.2 x6.out x6.clear x6.role x6.apart x6.all x6.need)).set s0_1.toNat (GTask.mk x8.join x8.split x8.in_ x9.2 x8.clear x8.role x8.apart x8.all x8.need)).set s0_1.toNat (GTask.mk x10.join x10.split x10.in_ x10.out x11.2 x10.role x10.apart x10.all x10.need)).set s0_1.toNat (GTask.mk x12.join x12.split x12.in_ x12.out x12.clear x11.1 x12.apart x12.all x12.need)).set s0_1.toNat (GTask.mk x14.join x14.split x14.in_ x14.out x14.clear x14.role (x11.1 + 1) x14.all x14.need)).set s0_1.toNat (GTask.mk x16.join x16.split x16.in_ x16.out x16.clear x16.role x16.apart ((x11.1 + 1) + 1) x16.need)).set s0_1.toNat (GTask.mk x18.join x18.split x18.in_ x18.out x18.clear x18.role x18.apart x18.all (((x11.1 + 1) + 1) + 1)))) hm (Nat.lt_succ_self _) ?_
    exact le_stU idn (.cons rfl rfl (.cons rfl rfl (.cons rfl rfl .nil))) (.cons rfl rfl (.inr rfl) .nil) rfl
   ·
    replace hm := ite_f hm c1
    refine acode_cond_false rfl (c1) ?_
    refine acode_exit ?_
    unfold m_markNetTaskS_k1 at hm
    refine kseq_exit (klg_exit (kblk_hit (kseq_normal ?_)))
    refine acode_seq ?_
    refine acode_le (le_stU (env := [(1, aInt s0_0)]) (obj := [(1000000, .arr 9 (l0_2.map (GTask.cells true)))]) idn (.cons rfl rfl .nil) (.cons rfl rfl (.inr rfl) .nil) rfl) ?_
    refine acode_region ?_
    refine mv (lb rfl) rfl ?_
    refine as_ (lb rfl) rfl ?_
    refine nkt ?_
    obtain rfl := Option.some.inj hm
    exact fin2_retL (.cons (.c rfl) .nil) rfl (.cons rfl (.sl rfl) .nil rfl) rfl rfl rfl

def m_heldNetTaskS_k1 (s0_0 : Int) : Option Int := some s0_0
def m_heldNetTaskS_l0 (a : List GTask) (kx0_0 : Int → Option Int) : Nat → Int → Int → Option Int
  | 0, _, _ => none
  | n0 + 1, s0_0, s0_1 => if decide (s0_1 < (a.length : Int)) = true then ((getI a s0_1).bind fun x2 => (if decide (x2.join = s0_0) = true then (gd (ok64 (s0_0 + 1)) ((getI a s0_1).bind fun x5 => (if decide (x5.split = (s0_0 + 1)) = true then (gd (ok64 ((s0_0 + 1) + 1)) ((getI a s0_1).bind fun x8 => ((m_heldIntS x8.in_ ((s0_0 + 1) + 1)).bind fun x9 => (if decide (x9 < 0) = true then (some (-1)) else ((getI a s0_1).bind fun x11 => ((m_heldNetFlowS x11.out x9).bind fun x12 => (if decide (x12 < 0) = true then (some (-1)) else ((getI a s0_1).bind fun x14 => ((m_heldIntS x14.clear x12).bind fun x15 => (if decide (x15 < 0) = true then (some (-1)) else ((getI a s0_1).bind fun x17 => (if decide (x17.role = x15) = true then (gd (ok64 (x15 + 1)) ((getI a s0_1).bind fun x20 => (if decide (x20.apart = (x15 + 1)) = true then (gd (ok64 ((x15 + 1) + 1)) ((getI a s0_1).bind fun x23 => (if decide (x23.all = ((x15 + 1) + 1)) = true then (gd (ok64 (((x15 + 1) + 1) + 1)) ((getI a s0_1).bind fun x26 => (if decide (x26.need = (((x15 + 1) + 1) + 1)) = true then (gd (ok64 ((((x15 + 1) + 1) + 1) + 1)) (gd (ok64 (s0_1 + 1)) ((m_heldNetTaskS_l0 a kx0_0 n0) ((((x15 + 1) + 1) + 1) + 1) (s0_1 + 1)))) else (some (-1))))) else (some (-1))))) else (some (-1))))) else (some (-1)))))))))))))) else (some (-1))))) else (some (-1)))) else (kx0_0 s0_0)
def m_heldNetTaskS (a : List GTask) (k : Int) : Option Int := m_heldNetTaskS_l0 a m_heldNetTaskS_k1 FUEL k 0


def m_markNetNetS_k1 (s0_0 : Int) (l0_2 : List GNet) : Option (Int × (List GNet)) := some (s0_0, l0_2)
def m_markNetNetS_l0 (kx0_0 : Int → List GNet → Option (Int × (List GNet))) : Nat → Int → Int → List GNet → Option (Int × (List GNet))
  | 0, _, _, _ => none
  | n0 + 1, s0_0, s0_1, l0_2 => if decide (s0_1 < (l0_2.length : Int)) = true then ((getI l0_2 s0_1).bind fun x2 => (gd (ok64 (s0_0 + 1)) ((getI (l0_2.set s0_1.toNat (GNet.mk s0_0 x2.tasks)) s0_1).bind fun x4 => ((m_markNetTaskS x4.tasks (s0_0 + 1)).bind fun x5 => (gd (ok64 (s0_1 + 1)) ((m_markNetNetS_l0 kx0_0 n0) x5.1 (s0_1 + 1) ((l0_2.set s0_1.toNat (GNet.mk s0_0 x2.tasks)).set s0_1.toNat (GNet.mk x4.places x5.2)))))))) else (kx0_0 s0_0 l0_2)
def m_markNetNetS (a : List GNet) (k : Int) : Option (Int × (List GNet)) := m_markNetNetS_l0 m_markNetNetS_k1 FUEL k 0 a


def m_heldNetNetS_k1 (s0_0 : Int) : Option Int := some s0_0
def m_heldNetNetS_l0 (a : List GNet) (kx0_0 : Int → Option Int) : Nat → Int → Int → Option Int
  | 0, _, _ => none
  | n0 + 1, s0_0, s0_1 => if decide (s0_1 < (a.length : Int)) = true then ((getI a s0_1).bind fun x2 => (if decide (x2.places = s0_0) = true then (gd (ok64 (s0_0 + 1)) ((getI a s0_1).bind fun x5 => ((m_heldNetTaskS x5.tasks (s0_0 + 1)).bind fun x6 => (if decide (x6 < 0) = true then (some (-1)) else (gd (ok64 (s0_1 + 1)) ((m_heldNetNetS_l0 a kx0_0 n0) x6 (s0_1 + 1))))))) else (some (-1)))) else (kx0_0 s0_0)
def m_heldNetNetS (a : List GNet) (k : Int) : Option Int := m_heldNetNetS_l0 a m_heldNetNetS_k1 FUEL k 0


def m_markRdrNodeS_k1 (s0_0 : Int) (l0_2 : List GNode) : Option (Int × (List GNode)) := some (s0_0, l0_2)
def m_markRdrNodeS_l0 (k : Int) (kx0_0 : Int → List GNode → Option (Int × (List GNode))) : Nat → Int → Int → List GNode → Option (Int × (List GNode))
  | 0, _, _, _ => none
  | n0 + 1, s0_0, s0_1, l0_2 => if decide (s0_1 < (l0_2.length : Int)) = true then ((getI l0_2 s0_1).bind fun x2 => (gd (ok64 (s0_0 + 1)) ((getI (l0_2.set s0_1.toNat (GNode.mk (GAsk.mk s0_0 x2.if_.var x2.if_.k) x2.yes x2.no x2.ans x2.stone)) s0_1).bind fun x4 => (gd (ok64 ((s0_0 + 1) + 1)) ((getI ((l0_2.set s0_1.toNat (GNode.mk (GAsk.mk s0_0 x2.if_.var x2.if_.k) x2.yes x2.no x2.ans x2.stone)).set s0_1.toNat (GNode.mk (GAsk.mk x4.if_.op (s0_0 + 1) x4.if_.k) x4.yes x4.no x4.ans x4.stone)) s0_1).bind fun x6 => (gd (ok64 (((s0_0 + 1) + 1) + 1)) ((getI (((l0_2.set s0_1.toNat (GNode.mk (GAsk.mk s0_0 x2.if_.var x2.if_.k) x2.yes x2.no x2.ans x2.stone)).set s0_1.toNat (GNode.mk (GAsk.mk x4.if_.op (s0_0 + 1) x4.if_.k) x4.yes x4.no x4.ans x4.stone)).set s0_1.toNat (GNode.mk (GAsk.mk x6.if_.op x6.if_.var ((s0_0 + 1) + 1)) x6.yes x6.no x6.ans x6.stone)) s0_1).bind fun x8 => (gd (ok64 ((((s0_0 + 1) + 1) + 1) + 1)) ((getI ((((l0_2.set s0_1.toNat (GNode.mk (GAsk.mk s0_0 x2.if_.var x2.if_.k) x2.yes x2.no x2.ans x2.stone)).set s0_1.toNat (GNode.mk (GAsk.mk x4.if_.op (s0_0 + 1) x4.if_.k) x4.yes x4.no x4.ans x4.stone)).set s0_1.toNat (GNode.mk (GAsk.mk x6.if_.op x6.if_.var ((s0_0 + 1) + 1)) x6.yes x6.no x6.ans x6.stone)).set s0_1.toNat (GNode.mk x8.if_ (((s0_0 + 1) + 1) + 1) x8.no x8.ans x8.stone)) s0_1).bind fun x10 => (gd (ok64 (((((s0_0 + 1) + 1) + 1) + 1) + 1)) ((getI (((((l0_2.set s0_1.toNat (GNode.mk (GAsk.mk s0_0 x2.if_.var x2.if_.k) x2.yes x2.no x2.ans x2.stone)).set s0_1.toNat (GNode.mk (GAsk.mk x4.if_.op (s0_0 + 1) x4.if_.k) x4.yes x4.no x4.ans x4.stone)).set s0_1.toNat (GNode.mk (GAsk.mk x6.if_.op x6.if_.var ((s0_0 + 1) + 1)) x6.yes x6.no x6.ans x6.stone)).set s0_1.toNat (GNode.mk x8.if_ (((s0_0 + 1) + 1) + 1) x8.no x8.ans x8.stone)).set s0_1.toNat (GNode.mk x10.if_ x10.yes ((((s0_0 + 1) + 1) + 1) + 1) x10.ans x10.stone)) s0_1).bind fun x12 => (gd (ok64 ((((((s0_0 + 1) + 1) + 1) + 1) + 1) + 1)) ((getI ((((((l0_2.set s0_1.toNat (GNode.mk (GAsk.mk s0_0 x2.if_.var x2.if_.k) x2.yes x2.no x2.ans x2.stone)).set s0_1.toNat (GNode.mk (GAsk.mk x4.if_.op (s0_0 + 1) x4.if_.k) x4.yes x4.no x4.ans x4.stone)).set s0_1.toNat (GNode.mk (GAsk.mk x6.if_.op x6.if_.var ((s0_0 + 1) + 1)) x6.yes x6.no x6.ans x6.stone)).set s0_1.toNat (GNode.mk x8.if_ (((s0_0 + 1) + 1) + 1) x8.no x8.ans x8.stone)).set s0_1.toNat (GNode.mk x10.if_ x10.yes ((((s0_0 + 1) + 1) + 1) + 1) x10.ans x10.stone)).set s0_1.toNat (GNode.mk x12.if_ x12.yes x12.no (((((s0_0 + 1) + 1) + 1) + 1) + 1) x12.stone)) s0_1).bind fun x14 => ((m_markIntS x14.stone ((((((s0_0 + 1) + 1) + 1) + 1) + 1) + 1)).bind fun x15 => (gd (ok64 (s0_1 + 1)) ((m_markRdrNodeS_l0 k kx0_0 n0) x15.1 (s0_1 + 1) (((((((l0_2.set s0_1.toNat (GNode.mk (GAsk.mk s0_0 x2.if_.var x2.if_.k) x2.yes x2.no x2.ans x2.stone)).set s0_1.toNat (GNode.mk (GAsk.mk x4.if_.op (s0_0 + 1) x4.if_.k) x4.yes x4.no x4.ans x4.stone)).set s0_1.toNat (GNode.mk (GAsk.mk x6.if_.op x6.if_.var ((s0_0 + 1) + 1)) x6.yes x6.no x6.ans x6.stone)).set s0_1.toNat (GNode.mk x8.if_ (((s0_0 + 1) + 1) + 1) x8.no x8.ans x8.stone)).set s0_1.toNat (GNode.mk x10.if_ x10.yes ((((s0_0 + 1) + 1) + 1) + 1) x10.ans x10.stone)).set s0_1.toNat (GNode.mk x12.if_ x12.yes x12.no (((((s0_0 + 1) + 1) + 1) + 1) + 1) x12.stone)).set s0_1.toNat (GNode.mk x14.if_ x14.yes x14.no x14.ans x15.2)))))))))))))))))) else (kx0_0 s0_0 l0_2)
def m_markRdrNodeS (a : List GNode) (k : Int) : Option (Int × (List GNode)) := m_markRdrNodeS_l0 k m_markRdrNodeS_k1 FUEL k 0 a


def m_heldRdrNodeS_k1 (s0_0 : Int) : Option Int := some s0_0
def m_heldRdrNodeS_l0 (a : List GNode) (k : Int) (kx0_0 : Int → Option Int) : Nat → Int → Int → Option Int
  | 0, _, _ => none
  | n0 + 1, s0_0, s0_1 => if decide (s0_1 < (a.length : Int)) = true then ((getI a s0_1).bind fun x2 => (if decide (x2.if_.op = s0_0) = true then (gd (ok64 (s0_0 + 1)) ((getI a s0_1).bind fun x5 => (if decide (x5.if_.var = (s0_0 + 1)) = true then (gd (ok64 ((s0_0 + 1) + 1)) ((getI a s0_1).bind fun x8 => (if decide (x8.if_.k = ((s0_0 + 1) + 1)) = true then (gd (ok64 (((s0_0 + 1) + 1) + 1)) ((getI a s0_1).bind fun x11 => (if decide (x11.yes = (((s0_0 + 1) + 1) + 1)) = true then (gd (ok64 ((((s0_0 + 1) + 1) + 1) + 1)) ((getI a s0_1).bind fun x14 => (if decide (x14.no = ((((s0_0 + 1) + 1) + 1) + 1)) = true then (gd (ok64 (((((s0_0 + 1) + 1) + 1) + 1) + 1)) ((getI a s0_1).bind fun x17 => (if decide (x17.ans = (((((s0_0 + 1) + 1) + 1) + 1) + 1)) = true then (gd (ok64 ((((((s0_0 + 1) + 1) + 1) + 1) + 1) + 1)) ((getI a s0_1).bind fun x20 => ((m_heldIntS x20.stone ((((((s0_0 + 1) + 1) + 1) + 1) + 1) + 1)).bind fun x21 => (if decide (x21 < 0) = true then (some (-1)) else (gd (ok64 (s0_1 + 1)) ((m_heldRdrNodeS_l0 a k kx0_0 n0) x21 (s0_1 + 1))))))) else (some (-1))))) else (some (-1))))) else (some (-1))))) else (some (-1))))) else (some (-1))))) else (some (-1)))) else (kx0_0 s0_0)
def m_heldRdrNodeS (a : List GNode) (k : Int) : Option Int := m_heldRdrNodeS_l0 a k m_heldRdrNodeS_k1 FUEL k 0


def m_markCasItemS_k1 (s0_0 : Int) (l0_2 : List GItem) : Option (Int × (List GItem)) := some (s0_0, l0_2)
def m_markCasItemS_l0 (kx0_0 : Int → List GItem → Option (Int × (List GItem))) : Nat → Int → Int → List GItem → Option (Int × (List GItem))
  | 0, _, _, _ => none
  | n0 + 1, s0_0, s0_1, l0_2 => if decide (s0_1 < (l0_2.length : Int)) = true then ((getI l0_2 s0_1).bind fun x2 => (gd (ok64 (s0_0 + 1)) ((getI (l0_2.set s0_1.toNat (GItem.mk s0_0 x2.who x2.did)) s0_1).bind fun x4 => (gd (ok64 ((s0_0 + 1) + 1)) ((getI ((l0_2.set s0_1.toNat (GItem.mk s0_0 x2.who x2.did)).set s0_1.toNat (GItem.mk x4.task (s0_0 + 1) x4.did)) s0_1).bind fun x6 => (gd (ok64 (((s0_0 + 1) + 1) + 1)) (gd (ok64 (s0_1 + 1)) ((m_markCasItemS_l0 kx0_0 n0) (((s0_0 + 1) + 1) + 1) (s0_1 + 1) (((l0_2.set s0_1.toNat (GItem.mk s0_0 x2.who x2.did)).set s0_1.toNat (GItem.mk x4.task (s0_0 + 1) x4.did)).set s0_1.toNat (GItem.mk x6.task x6.who ((s0_0 + 1) + 1))))))))))) else (kx0_0 s0_0 l0_2)
def m_markCasItemS (a : List GItem) (k : Int) : Option (Int × (List GItem)) := m_markCasItemS_l0 m_markCasItemS_k1 FUEL k 0 a

theorem c_markCasItemS (a : List GItem) (k : Int) (rz : Int × (List GItem)) (hm : m_markCasItemS a k = some rz) : FnB Try.prog 86 [.c (.sl true 3 (a.map (GItem.cells true))), .c (cI k)] [.c (cI rz.1)] [(0, .c (.sl true 3 (rz.2.map (GItem.cells true))))] := by
 unfold m_markCasItemS at hm
 refine fn_intro2 (n := 34) (rvs := [.tmp 4]) Try.func86 rfl rfl rfl (lb rfl) rfl rfl rfl rfl rfl ?_
 refine acode_seq ?_
 refine acode_le (le_stU (env := [(0, .ref 1000000 []), (1, aInt k)]) (obj := [(1000000, .arr 3 (a.map (GItem.cells true)))]) idn (.cons rfl rfl (.cons rfl rfl .nil)) (.cons rfl rfl (.inr rfl) .nil) rfl) ?_
 refine acode_region ?_
 refine as_ (lb rfl) rfl ?_
 refine nk ?_
 refine acode_seq ?_
 refine sr ?_
 refine as_ (lb rfl) rfl ?_
 refine nk ?_
 refine acode_block ?_
 refine acode_loopk (xs := [0]) (ys := []) (S := Nat × Int × Int × (List GItem)) (fun z => [(1, aInt z.2.1), (5, aInt z.2.2.1)]) (fun z => [(1000000, .arr 3 (z.2.2.2.map (GItem.cells true)))]) (fun z => m_markCasItemS_l0 m_markCasItemS_k1 z.1 z.2.1 z.2.2.1 z.2.2.2 = some rz) (fun z => z.1) (FUEL, k, 0, a) (.cons rfl .nil) .nil ?em ?eo rfl ?ei ?round
 case em => exact (.cons rfl rfl (.cons rfl rfl .nil))
 case eo => exact (.cons rfl rfl .nil)
 case ei => exact hm
 case round =>
  rintro ⟨n0, s0_0, s0_1, l0_2⟩ hm
  dsimp only at hm ⊢
  cases n0 with
  | zero => rw [m_markCasItemS_l0] at hm; cases hm
  | succ n0 =>
   rw [m_markCasItemS_l0] at hm
   refine acode_seq ?_
   refine sr ?_
   refine mv (lb rfl) rfl ?_
   refine mv (lb rfl) rfl ?_
   refine st1 rfl (op_lenG_ref (f := (GItem.cells true)) (l := l0_2) Try.underlying67 (lb rfl) rfl) (so rfl (sb rfl sn)) ?_
   refine st1 rfl (op_lss (lb rfl)) (so rfl (so rfl sn)) ?_
   refine nk ?_
   refine acode_split (b := decide (s0_1 < (l0_2.length : Int))) (fun c1 => ?_) (fun c1 => ?_)
   ·
    replace hm := ite_t hm c1
    refine acode_cond_true rfl (c1) ?_
    refine pk ?_
    refine acode_seq ?_
    refine acode_block ?_
    refine sr ?_
    refine mv (lb rfl) rfl ?_
    refine mv (lb rfl) rfl ?_
    refine mv (lb rfl) rfl ?_
    obtain ⟨x2, hx2, hm⟩ := bnd hm
    refine st1 rfl (op_index_refG (f := (GItem.cells true)) (l := l0_2) Try.underlying67 Try.sizeOf121 (lb rfl) rfl hx2) (so rfl (so rfl (sb rfl sn))) ?_
    refine st1 rfl (op_field_ptr (off := 0) Try.underlying121 Try.sizeOf3 rfl rfl rfl (lb rfl)) (so rfl (sb rfl sn)) ?_
    refine st1 rfl (op_store_arrG (row := (GItem.cells true) x2) (rows' := ((l0_2.set s0_1.toNat (GItem.mk s0_0 x2.who x2.did)).map (GItem.cells true))) Try.sizeOf3 (mapG (f := (GItem.cells true)) (getI_some hx2).2.2) rfl (.c rfl .nil) rfl rfl rfl rfl rfl (setG (x' := (GItem.mk s0_0 x2.who x2.did)) rfl)) (so rfl (so rfl (sb rfl (sats_objs all_nil (sats_lives rfl))))) ?_
    refine nk ?_
    refine sr ?_
    refine mv (lb rfl) rfl ?_
    obtain ⟨g3, hm⟩ := gd_some hm
    refine st1 rfl (op_add (lb rfl) g3) (so rfl (so rfl sn)) ?_
    refine as_ (lb rfl) rfl ?_
    refine nk ?_
    refine sr ?_
    refine mv (lb rfl) rfl ?_
    refine mv (lb rfl) rfl ?_
    refine mv (lb rfl) rfl ?_
    obtain ⟨x4, hx4, hm⟩ := bnd hm
    refine st1 rfl (op_index_refG (f := (GItem.cells true)) (l := (l0_2.set s0_1.toNat (GItem.mk s0_0 x2.who x2.did))) Try.underlying67 Try.sizeOf121 (lb rfl) rfl hx4) (so rfl (so rfl (sb rfl sn))) ?_
    refine st1 rfl (op_field_ptr (off := 1) Try.underlying121 Try.sizeOf3 rfl rfl rfl (lb rfl)) (so rfl (sb rfl sn)) ?_
    refine st1 rfl (op_store_arrG (row := (GItem.cells true) x4) (rows' := (((l0_2.set s0_1.toNat (GItem.mk s0_0 x2.who x2.did)).set s0_1.toNat (GItem.mk x4.task (s0_0 + 1) x4.did)).map (GItem.cells true))) Try.sizeOf3 (mapG (f := (GItem.cells true)) (getI_some hx4).2.2) rfl (.c rfl .nil) rfl rfl rfl rfl rfl (setG (x' := (GItem.mk x4.task (s0_0 + 1) x4.did)) rfl)) (so rfl (so rfl (sb rfl (sats_objs all_nil (sats_lives rfl))))) ?_
    refine nk ?_
    refine acode_seq ?_
    refine acode_le (le_stU (env := [(0, .ref 1000000 []), (1, aInt (s0_0 + 1)), (5, aInt s0_1)]) (obj := [(1000000, .arr 3 (((l0_2.set s0_1.toNat (GItem.mk s0_0 x2.who x2.did)).set s0_1.toNat (GItem.mk x4.task (s0_0 + 1) x4.did)).map (GItem.cells true)))]) idn (.cons rfl rfl (.cons rfl rfl (.cons rfl rfl .nil))) (.cons rfl rfl (.inr rfl) .nil) rfl) ?_
    refine acode_region ?_
    refine mv (lb rfl) rfl ?_
    obtain ⟨g5, hm⟩ := gd_some hm
    refine st1 rfl (op_add (lb rfl) g5) (so rfl (so rfl sn)) ?_
    refine as_ (lb rfl) rfl ?_
    refine nk ?_
    refine sr ?_
    refine mv (lb rfl) rfl ?_
    refine mv (lb rfl) rfl ?_
    refine mv (lb rfl) rfl ?_
    obtain ⟨x6, hx6, hm⟩ := bnd hm
    refine st1 rfl (op_index_refG (f := (GItem.cells true)) (l := ((l0_2.set s0_1.toNat (GItem.mk s0_0 x2.who x2.did)).set s0_1.toNat (GItem.mk x4.task (s0_0 + 1) x4.did))) Try.underlying67 Try.sizeOf121 (lb rfl) rfl hx6) (so rfl (so rfl (sb rfl sn))) ?_
    refine st1 rfl (op_field_ptr (off := 2) Try.underlying121 Try.sizeOf3 rfl rfl rfl (lb rfl)) (so rfl (sb rfl sn)) ?_
    refine st1 rfl (op_store_arrG (row := (GItem.cells true) x6) (rows' := ((((l0_2.set s0_1.toNat (GItem.mk s0_0 x2.who x2.did)).set s0_1.toNat (GItem.mk x4.task (s0_0 + 1) x4.did)).set s0_1.toNat (GItem.mk x6.task x6.who ((s0_0 + 1) + 1))).map (GItem.cells true))) Try.sizeOf3 (mapG (f := (GItem.cells true)) (getI_some hx6).2.2) rfl (.c rfl .nil) rfl rfl rfl rfl rfl (setG (x' := (GItem.mk x6.task x6.who ((s0_0 + 1) + 1))) rfl)) (so rfl (so rfl (sb rfl (sats_objs all_nil (sats_lives rfl))))) ?_
    refine nk ?_
    refine acode_region ?_
    refine mv (lb rfl) rfl ?_
    obtain ⟨g7, hm⟩ := gd_some hm
    refine st1 rfl (op_add (lb rfl) g7) (so rfl (so rfl sn)) ?_
    refine as_ (lb rfl) rfl ?_
    refine rg_nil_seq ?_
    refine kblk_normal (kseq_normal ?_)
    refine acode_region ?_
    refine mv (lb rfl) rfl ?_
    obtain ⟨g8, hm⟩ := gd_some hm
    refine st1 rfl (op_add (lb rfl) g8) (so rfl (so rfl sn)) ?_
    refine as_ (lb rfl) rfl ?_
    refine rg_nil_seq ?_
    refine klg_back (n0, (((s0_0 + 1) + 1) + 1), (s0_1 + 1), (((l0_2.set s0_1.toNat (GItem.mk s0_0 x2.who x2.did)).set s0_1.toNat (GItem.mk x4.task (s0_0 + 1) x4.did)).set s0_1.toNat (GItem.mk x6.task x6.who ((s0_0 + 1) + 1)))) hm (Nat.lt_succ_self _) ?_
    exact le_stU idn (.cons rfl rfl (.cons rfl rfl (.cons rfl rfl .nil))) (.cons rfl rfl (.inr rfl) .nil) rfl
   ·
    replace hm := ite_f hm c1
    refine acode_cond_false rfl (c1) ?_
    refine acode_exit ?_
    unfold m_markCasItemS_k1 at hm
    refine kseq_exit (klg_exit (kblk_hit (kseq_normal ?_)))
    refine acode_seq ?_
    refine acode_le (le_stU (env := [(1, aInt s0_0)]) (obj := [(1000000, .arr 3 (l0_2.map (GItem.cells true)))]) idn (.cons rfl rfl .nil) (.cons rfl rfl (.inr rfl) .nil) rfl) ?_
    refine acode_region ?_
    refine mv (lb rfl) rfl ?_
    refine as_ (lb rfl) rfl ?_
    refine nkt ?_
    obtain rfl := Option.some.inj hm
    exact fin2_retL (.cons (.c rfl) .nil) rfl (.cons rfl (.sl rfl) .nil rfl) rfl rfl rfl

def m_heldCasItemS_k1 (s0_0 : Int) : Option Int := some s0_0
def m_heldCasItemS_l0 (a : List GItem) (kx0_0 : Int → Option Int) : Nat → Int → Int → Option Int
  | 0, _, _ => none
  | n0 + 1, s0_0, s0_1 => if decide (s0_1 < (a.length : Int)) = true then ((getI a s0_1).bind fun x2 => (if decide (x2.task = s0_0) = true then (gd (ok64 (s0_0 + 1)) ((getI a s0_1).bind fun x5 => (if decide (x5.who = (s0_0 + 1)) = true then (gd (ok64 ((s0_0 + 1) + 1)) ((getI a s0_1).bind fun x8 => (if decide (x8.did = ((s0_0 + 1) + 1)) = true then (gd (ok64 (((s0_0 + 1) + 1) + 1)) (gd (ok64 (s0_1 + 1)) ((m_heldCasItemS_l0 a kx0_0 n0) (((s0_0 + 1) + 1) + 1) (s0_1 + 1)))) else (some (-1))))) else (some (-1))))) else (some (-1)))) else (kx0_0 s0_0)
def m_heldCasItemS (a : List GItem) (k : Int) : Option Int := m_heldCasItemS_l0 a m_heldCasItemS_k1 FUEL k 0

theorem c_heldCasItemS (a : List GItem) (k : Int) (rz : Int) (hm : m_heldCasItemS a k = some rz) : FnB Try.prog 91 [.c (.sl false 3 (a.map (GItem.cells false))), .c (cI k)] [.c (cI rz)] [] := by
 unfold m_heldCasItemS at hm
 refine fn_intro2 (n := 40) (rvs := [.tmp 4]) Try.func91 rfl rfl rfl (lb rfl) rfl rfl rfl rfl rfl ?_
 refine acode_seq ?_
 refine acode_le (le_stU (env := [(0, .c (.sl false 3 (a.map (GItem.cells false)))), (1, aInt k)]) (obj := []) idn (.cons rfl rfl (.cons rfl rfl .nil)) .nil rfl) ?_
 refine acode_region ?_
 refine as_ (lb rfl) rfl ?_
 refine nk ?_
 refine acode_seq ?_
 refine sr ?_
 refine as_ (lb rfl) rfl ?_
 refine nk ?_
 refine acode_block ?_
 refine acode_loopk (xs := [0]) (ys := []) (S := Nat × Int × Int) (fun z => [(1, aInt z.2.1), (5, aInt z.2.2)]) (fun z => []) (fun z => m_heldCasItemS_l0 a m_heldCasItemS_k1 z.1 z.2.1 z.2.2 = some rz) (fun z => z.1) (FUEL, k, 0) (.cons rfl .nil) .nil ?em ?eo rfl ?ei ?round
 case em => exact (.cons rfl rfl (.cons rfl rfl .nil))
 case eo => exact .nil
 case ei => exact hm
 case round =>
  rintro ⟨n0, s0_0, s0_1⟩ hm
  dsimp only at hm ⊢
  cases n0 with
  | zero => rw [m_heldCasItemS_l0] at hm; cases hm
  | succ n0 =>
   rw [m_heldCasItemS_l0] at hm
   refine acode_seq ?_
   refine sr ?_
   refine mv (lb rfl) rfl ?_
   refine mv (lb rfl) rfl ?_
   refine st1 rfl (op_len_sh (f := (GItem.cells false)) (l := a) Try.underlying67 (lb rfl)) (so rfl sn) ?_
   refine st1 rfl (op_lss (lb rfl)) (so rfl (so rfl sn)) ?_
   refine nk ?_
   refine acode_split (b := decide (s0_1 < (a.length : Int))) (fun c1 => ?_) (fun c1 => ?_)
   ·
    replace hm := ite_t hm c1
    refine acode_cond_true rfl (c1) ?_
    refine pk ?_
    refine acode_seq ?_
    refine acode_block ?_
    refine acode_seq ?_
    refine sr ?_
    refine mv (lb rfl) rfl ?_
    refine mv (lb rfl) rfl ?_
    obtain ⟨x2, hx2, hm⟩ := bnd hm
    refine st1 rfl (op_index_shG (f := (GItem.cells false)) (l := a) Try.underlying67 Try.sizeOf121 (lb rfl) hx2) (so rfl (so rfl sn)) ?_
    refine st1 rfl (op_field_pts (off := 0) Try.underlying121 Try.sizeOf3 rfl rfl rfl rfl (lb rfl)) (so rfl sn) ?_
    refine st1 rfl (op_load_pts Try.isAgg3 rfl (lb rfl)) (so rfl sn) ?_
    refine mv (lb rfl) rfl ?_
    refine st1 rfl (op_neq (lb rfl)) (so rfl (so rfl sn)) ?_
    refine nk ?_
    refine acode_split (b := decide (x2.task = s0_0)) (fun c3 => ?_) (fun c3 => ?_)
    ·
     replace hm := ite_t hm c3
     refine acode_cond_false rfl (not_t (c3)) ?_
     refine pk ?_
     refine sr ?_
     refine mv (lb rfl) rfl ?_
     obtain ⟨g4, hm⟩ := gd_some hm
     refine st1 rfl (op_add (lb rfl) g4) (so rfl (so rfl sn)) ?_
     refine as_ (lb rfl) rfl ?_
     refine nk ?_
     refine acode_seq ?_
     refine sr ?_
     refine mv (lb rfl) rfl ?_
     refine mv (lb rfl) rfl ?_
     obtain ⟨x5, hx5, hm⟩ := bnd hm
     refine st1 rfl (op_index_shG (f := (GItem.cells false)) (l := a) Try.underlying67 Try.sizeOf121 (lb rfl) hx5) (so rfl (so rfl sn)) ?_
     refine st1 rfl (op_field_pts (off := 1) Try.underlying121 Try.sizeOf3 rfl rfl rfl rfl (lb rfl)) (so rfl sn) ?_
     refine st1 rfl (op_load_pts Try.isAgg3 rfl (lb rfl)) (so rfl sn) ?_
     refine mv (lb rfl) rfl ?_
     refine st1 rfl (op_neq (lb rfl)) (so rfl (so rfl sn)) ?_
     refine nk ?_
     refine acode_split (b := decide (x5.who = (s0_0 + 1))) (fun c6 => ?_) (fun c6 => ?_)
     ·
      replace hm := ite_t hm c6
      refine acode_cond_false rfl (not_t (c6)) ?_
      refine pk ?_
      refine acode_seq ?_
      refine acode_le (le_stU (env := [(0, .c (.sl false 3 (a.map (GItem.cells false)))), (1, aInt (s0_0 + 1)), (5, aInt s0_1)]) (obj := []) idn (.cons rfl rfl (.cons rfl rfl (.cons rfl rfl .nil))) .nil rfl) ?_
      refine acode_region ?_
      refine mv (lb rfl) rfl ?_
      obtain ⟨g7, hm⟩ := gd_some hm
      refine st1 rfl (op_add (lb rfl) g7) (so rfl (so rfl sn)) ?_
      refine as_ (lb rfl) rfl ?_
      refine nk ?_
      refine acode_seq ?_
      refine sr ?_
      refine mv (lb rfl) rfl ?_
      refine mv (lb rfl) rfl ?_
      obtain ⟨x8, hx8, hm⟩ := bnd hm
      refine st1 rfl (op_index_shG (f := (GItem.cells false)) (l := a) Try.underlying67 Try.sizeOf121 (lb rfl) hx8) (so rfl (so rfl sn)) ?_
      refine st1 rfl (op_field_pts (off := 2) Try.underlying121 Try.sizeOf3 rfl rfl rfl rfl (lb rfl)) (so rfl sn) ?_
      refine st1 rfl (op_load_pts Try.isAgg3 rfl (lb rfl)) (so rfl sn) ?_
      refine mv (lb rfl) rfl ?_
      refine st1 rfl (op_neq (lb rfl)) (so rfl (so rfl sn)) ?_
      refine nk ?_
      refine acode_split (b := decide (x8.did = ((s0_0 + 1) + 1))) (fun c9 => ?_) (fun c9 => ?_)
      ·
       replace hm := ite_t hm c9
       refine acode_cond_false rfl (not_t (c9)) ?_
       refine pk ?_
       refine acode_region ?_
       refine mv (lb rfl) rfl ?_
       obtain ⟨g10, hm⟩ := gd_some hm
       refine st1 rfl (op_add (lb rfl) g10) (so rfl (so rfl sn)) ?_
       refine as_ (lb rfl) rfl ?_
       refine rg_nil_seq ?_
       refine kblk_normal (kseq_normal ?_)
       refine acode_region ?_
       refine mv (lb rfl) rfl ?_
       obtain ⟨g11, hm⟩ := gd_some hm
       refine st1 rfl (op_add (lb rfl) g11) (so rfl (so rfl sn)) ?_
       refine as_ (lb rfl) rfl ?_
       refine rg_nil_seq ?_
       refine klg_back (n0, (((s0_0 + 1) + 1) + 1), (s0_1 + 1)) hm (Nat.lt_succ_self _) ?_
       exact le_stU idn (.cons rfl rfl (.cons rfl rfl (.cons rfl rfl .nil))) .nil rfl
      ·
       replace hm := ite_f hm c9
       refine acode_cond_true rfl (not_f (c9)) ?_
       refine acode_seq ?_
       refine acode_le (le_stU (env := []) (obj := []) idn .nil .nil rfl) ?_
       refine acode_region ?_
       refine as_ (lb rfl) rfl ?_
       refine nkt ?_
       obtain rfl := Option.some.inj hm
       exact kseq_ret (kblk_ret (kseq_ret (klg_ret (kblk_ret (kseq_ret (fin2_retL (.cons (.c rfl) .nil) rfl .nil rfl rfl rfl))))))
     ·
      replace hm := ite_f hm c6
      refine acode_cond_true rfl (not_f (c6)) ?_
      refine sr ?_
      refine as_ (lb rfl) rfl ?_
      refine nkt ?_
      obtain rfl := Option.some.inj hm
      exact kseq_ret (kblk_ret (kseq_ret (klg_ret (kblk_ret (kseq_ret (fin2_retL (.cons (.c rfl) .nil) rfl .nil rfl rfl rfl))))))
    ·
     replace hm := ite_f hm c3
     refine acode_cond_true rfl (not_f (c3)) ?_
     refine sr ?_
     refine as_ (lb rfl) rfl ?_
     refine nkt ?_
     obtain rfl := Option.some.inj hm
     exact kseq_ret (kblk_ret (kseq_ret (klg_ret (kblk_ret (kseq_ret (fin2_retL (.cons (.c rfl) .nil) rfl .nil rfl rfl rfl))))))
   ·
    replace hm := ite_f hm c1
    refine acode_cond_false rfl (c1) ?_
    refine acode_exit ?_
    unfold m_heldCasItemS_k1 at hm
    refine kseq_exit (klg_exit (kblk_hit (kseq_normal ?_)))
    refine sr ?_
    refine mv (lb rfl) rfl ?_
    refine as_ (lb rfl) rfl ?_
    refine nkt ?_
    obtain rfl := Option.some.inj hm
    exact fin2_retL (.cons (.c rfl) .nil) rfl .nil rfl rfl rfl

def m_markCasDidS_k1 (s0_0 : Int) (l0_2 : List GDid) : Option (Int × (List GDid)) := some (s0_0, l0_2)
def m_markCasDidS_l0 (kx0_0 : Int → List GDid → Option (Int × (List GDid))) : Nat → Int → Int → List GDid → Option (Int × (List GDid))
  | 0, _, _, _ => none
  | n0 + 1, s0_0, s0_1, l0_2 => if decide (s0_1 < (l0_2.length : Int)) = true then ((getI l0_2 s0_1).bind fun x2 => (gd (ok64 (s0_0 + 1)) ((getI (l0_2.set s0_1.toNat (GDid.mk s0_0 x2.who)) s0_1).bind fun x4 => (gd (ok64 ((s0_0 + 1) + 1)) (gd (ok64 (s0_1 + 1)) ((m_markCasDidS_l0 kx0_0 n0) ((s0_0 + 1) + 1) (s0_1 + 1) ((l0_2.set s0_1.toNat (GDid.mk s0_0 x2.who)).set s0_1.toNat (GDid.mk x4.task (s0_0 + 1))))))))) else (kx0_0 s0_0 l0_2)
def m_markCasDidS (a : List GDid) (k : Int) : Option (Int × (List GDid)) := m_markCasDidS_l0 m_markCasDidS_k1 FUEL k 0 a

theorem c_markCasDidS (a : List GDid) (k : Int) (rz : Int × (List GDid)) (hm : m_markCasDidS a k = some rz) : FnB Try.prog 87 [.c (.sl true 2 (a.map (GDid.cells true))), .c (cI k)] [.c (cI rz.1)] [(0, .c (.sl true 2 (rz.2.map (GDid.cells true))))] := by
 unfold m_markCasDidS at hm
 refine fn_intro2 (n := 27) (rvs := [.tmp 4]) Try.func87 rfl rfl rfl (lb rfl) rfl rfl rfl rfl rfl ?_
 refine acode_seq ?_
 refine acode_le (le_stU (env := [(0, .ref 1000000 []), (1, aInt k)]) (obj := [(1000000, .arr 2 (a.map (GDid.cells true)))]) idn (.cons rfl rfl (.cons rfl rfl .nil)) (.cons rfl rfl (.inr rfl) .nil) rfl) ?_
 refine acode_region ?_
 refine as_ (lb rfl) rfl ?_
 refine nk ?_
 refine acode_seq ?_
 refine sr ?_
 refine as_ (lb rfl) rfl ?_
 refine nk ?_
 refine acode_block ?_
 refine acode_loopk (xs := [0]) (ys := []) (S := Nat × Int × Int × (List GDid)) (fun z => [(1, aInt z.2.1), (5, aInt z.2.2.1)]) (fun z => [(1000000, .arr 2 (z.2.2.2.map (GDid.cells true)))]) (fun z => m_markCasDidS_l0 m_markCasDidS_k1 z.1 z.2.1 z.2.2.1 z.2.2.2 = some rz) (fun z => z.1) (FUEL, k, 0, a) (.cons rfl .nil) .nil ?em ?eo rfl ?ei ?round
 case em => exact (.cons rfl rfl (.cons rfl rfl .nil))
 case eo => exact (.cons rfl rfl .nil)
 case ei => exact hm
 case round =>
  rintro ⟨n0, s0_0, s0_1, l0_2⟩ hm
  dsimp only at hm ⊢
  cases n0 with
  | zero => rw [m_markCasDidS_l0] at hm; cases hm
  | succ n0 =>
   rw [m_markCasDidS_l0] at hm
   refine acode_seq ?_
   refine sr ?_
   refine mv (lb rfl) rfl ?_
   refine mv (lb rfl) rfl ?_
   refine st1 rfl (op_lenG_ref (f := (GDid.cells true)) (l := l0_2) Try.underlying68 (lb rfl) rfl) (so rfl (sb rfl sn)) ?_
   refine st1 rfl (op_lss (lb rfl)) (so rfl (so rfl sn)) ?_
   refine nk ?_
   refine acode_split (b := decide (s0_1 < (l0_2.length : Int))) (fun c1 => ?_) (fun c1 => ?_)
   ·
    replace hm := ite_t hm c1
    refine acode_cond_true rfl (c1) ?_
    refine pk ?_
    refine acode_seq ?_
    refine acode_block ?_
    refine sr ?_
    refine mv (lb rfl) rfl ?_
    refine mv (lb rfl) rfl ?_
    refine mv (lb rfl) rfl ?_
    obtain ⟨x2, hx2, hm⟩ := bnd hm
    refine st1 rfl (op_index_refG (f := (GDid.cells true)) (l := l0_2) Try.underlying68 Try.sizeOf137 (lb rfl) rfl hx2) (so rfl (so rfl (sb rfl sn))) ?_
    refine st1 rfl (op_field_ptr (off := 0) Try.underlying137 Try.sizeOf3 rfl rfl rfl (lb rfl)) (so rfl (sb rfl sn)) ?_
    refine st1 rfl (op_store_arrG (row := (GDid.cells true) x2) (rows' := ((l0_2.set s0_1.toNat (GDid.mk s0_0 x2.who)).map (GDid.cells true))) Try.sizeOf3 (mapG (f := (GDid.cells true)) (getI_some hx2).2.2) rfl (.c rfl .nil) rfl rfl rfl rfl rfl (setG (x' := (GDid.mk s0_0 x2.who)) rfl)) (so rfl (so rfl (sb rfl (sats_objs all_nil (sats_lives rfl))))) ?_
    refine nk ?_
    refine sr ?_
    refine mv (lb rfl) rfl ?_
    obtain ⟨g3, hm⟩ := gd_some hm
    refine st1 rfl (op_add (lb rfl) g3) (so rfl (so rfl sn)) ?_
    refine as_ (lb rfl) rfl ?_
    refine nk ?_
    refine sr ?_
    refine mv (lb rfl) rfl ?_
    refine mv (lb rfl) rfl ?_
    refine mv (lb rfl) rfl ?_
    obtain ⟨x4, hx4, hm⟩ := bnd hm
    refine st1 rfl (op_index_refG (f := (GDid.cells true)) (l := (l0_2.set s0_1.toNat (GDid.mk s0_0 x2.who))) Try.underlying68 Try.sizeOf137 (lb rfl) rfl hx4) (so rfl (so rfl (sb rfl sn))) ?_
    refine st1 rfl (op_field_ptr (off := 1) Try.underlying137 Try.sizeOf3 rfl rfl rfl (lb rfl)) (so rfl (sb rfl sn)) ?_
    refine st1 rfl (op_store_arrG (row := (GDid.cells true) x4) (rows' := (((l0_2.set s0_1.toNat (GDid.mk s0_0 x2.who)).set s0_1.toNat (GDid.mk x4.task (s0_0 + 1))).map (GDid.cells true))) Try.sizeOf3 (mapG (f := (GDid.cells true)) (getI_some hx4).2.2) rfl (.c rfl .nil) rfl rfl rfl rfl rfl (setG (x' := (GDid.mk x4.task (s0_0 + 1))) rfl)) (so rfl (so rfl (sb rfl (sats_objs all_nil (sats_lives rfl))))) ?_
    refine nk ?_
    refine acode_le (le_stU (env := [(0, .ref 1000000 []), (1, aInt (s0_0 + 1)), (5, aInt s0_1)]) (obj := [(1000000, .arr 2 (((l0_2.set s0_1.toNat (GDid.mk s0_0 x2.who)).set s0_1.toNat (GDid.mk x4.task (s0_0 + 1))).map (GDid.cells true)))]) idn (.cons rfl rfl (.cons rfl rfl (.cons rfl rfl .nil))) (.cons rfl rfl (.inr rfl) .nil) rfl) ?_
    refine acode_region ?_
    refine mv (lb rfl) rfl ?_
    obtain ⟨g5, hm⟩ := gd_some hm
    refine st1 rfl (op_add (lb rfl) g5) (so rfl (so rfl sn)) ?_
    refine as_ (lb rfl) rfl ?_
    refine rg_nil_seq ?_
    refine kblk_normal (kseq_normal ?_)
    refine acode_region ?_
    refine mv (lb rfl) rfl ?_
    obtain ⟨g6, hm⟩ := gd_some hm
    refine st1 rfl (op_add (lb rfl) g6) (so rfl (so rfl sn)) ?_
    refine as_ (lb rfl) rfl ?_
    refine rg_nil_seq ?_
    refine klg_back (n0, ((s0_0 + 1) + 1), (s0_1 + 1), ((l0_2.set s0_1.toNat (GDid.mk s0_0 x2.who)).set s0_1.toNat (GDid.mk x4.task (s0_0 + 1)))) hm (Nat.lt_succ_self _) ?_
    exact le_stU idn (.cons rfl rfl (.cons rfl rfl (.cons rfl rfl .nil))) (.cons rfl rfl (.inr rfl) .nil) rfl
   ·
    replace hm := ite_f hm c1
    refine acode_cond_false rfl (c1) ?_
    refine acode_exit ?_
    unfold m_markCasDidS_k1 at hm
    refine kseq_exit (klg_exit (kblk_hit (kseq_normal ?_)))
    refine sr ?_
    refine mv (lb rfl) rfl ?_
    refine as_ (lb rfl) rfl ?_
    refine nkt ?_
    obtain rfl := Option.some.inj hm
    exact fin2_retL (.cons (.c rfl) .nil) rfl (.cons rfl (.sl rfl) .nil rfl) rfl rfl rfl

def m_heldCasDidS_k1 (s0_0 : Int) : Option Int := some s0_0
def m_heldCasDidS_l0 (a : List GDid) (kx0_0 : Int → Option Int) : Nat → Int → Int → Option Int
  | 0, _, _ => none
  | n0 + 1, s0_0, s0_1 => if decide (s0_1 < (a.length : Int)) = true then ((getI a s0_1).bind fun x2 => (if decide (x2.task = s0_0) = true then (gd (ok64 (s0_0 + 1)) ((getI a s0_1).bind fun x5 => (if decide (x5.who = (s0_0 + 1)) = true then (gd (ok64 ((s0_0 + 1) + 1)) (gd (ok64 (s0_1 + 1)) ((m_heldCasDidS_l0 a kx0_0 n0) ((s0_0 + 1) + 1) (s0_1 + 1)))) else (some (-1))))) else (some (-1)))) else (kx0_0 s0_0)
def m_heldCasDidS (a : List GDid) (k : Int) : Option Int := m_heldCasDidS_l0 a m_heldCasDidS_k1 FUEL k 0

theorem c_heldCasDidS (a : List GDid) (k : Int) (rz : Int) (hm : m_heldCasDidS a k = some rz) : FnB Try.prog 92 [.c (.sl false 2 (a.map (GDid.cells false))), .c (cI k)] [.c (cI rz)] [] := by
 unfold m_heldCasDidS at hm
 refine fn_intro2 (n := 31) (rvs := [.tmp 4]) Try.func92 rfl rfl rfl (lb rfl) rfl rfl rfl rfl rfl ?_
 refine acode_seq ?_
 refine acode_le (le_stU (env := [(0, .c (.sl false 2 (a.map (GDid.cells false)))), (1, aInt k)]) (obj := []) idn (.cons rfl rfl (.cons rfl rfl .nil)) .nil rfl) ?_
 refine acode_region ?_
 refine as_ (lb rfl) rfl ?_
 refine nk ?_
 refine acode_seq ?_
 refine sr ?_
 refine as_ (lb rfl) rfl ?_
 refine nk ?_
 refine acode_block ?_
 refine acode_loopk (xs := [0]) (ys := []) (S := Nat × Int × Int) (fun z => [(1, aInt z.2.1), (5, aInt z.2.2)]) (fun z => []) (fun z => m_heldCasDidS_l0 a m_heldCasDidS_k1 z.1 z.2.1 z.2.2 = some rz) (fun z => z.1) (FUEL, k, 0) (.cons rfl .nil) .nil ?em ?eo rfl ?ei ?round
 case em => exact (.cons rfl rfl (.cons rfl rfl .nil))
 case eo => exact .nil
 case ei => exact hm
 case round =>
  rintro ⟨n0, s0_0, s0_1⟩ hm
  dsimp only at hm ⊢
  cases n0 with
  | zero => rw [m_heldCasDidS_l0] at hm; cases hm
  | succ n0 =>
   rw [m_heldCasDidS_l0] at hm
   refine acode_seq ?_
   refine sr ?_
   refine mv (lb rfl) rfl ?_
   refine mv (lb rfl) rfl ?_
   refine st1 rfl (op_len_sh (f := (GDid.cells false)) (l := a) Try.underlying68 (lb rfl)) (so rfl sn) ?_
   refine st1 rfl (op_lss (lb rfl)) (so rfl (so rfl sn)) ?_
   refine nk ?_
   refine acode_split (b := decide (s0_1 < (a.length : Int))) (fun c1 => ?_) (fun c1 => ?_)
   ·
    replace hm := ite_t hm c1
    refine acode_cond_true rfl (c1) ?_
    refine pk ?_
    refine acode_seq ?_
    refine acode_block ?_
    refine acode_seq ?_
    refine sr ?_
    refine mv (lb rfl) rfl ?_
    refine mv (lb rfl) rfl ?_
    obtain ⟨x2, hx2, hm⟩ := bnd hm
    refine st1 rfl (op_index_shG (f := (GDid.cells false)) (l := a) Try.underlying68 Try.sizeOf137 (lb rfl) hx2) (so rfl (so rfl sn)) ?_
    refine st1 rfl (op_field_pts (off := 0) Try.underlying137 Try.sizeOf3 rfl rfl rfl rfl (lb rfl)) (so rfl sn) ?_
    refine st1 rfl (op_load_pts Try.isAgg3 rfl (lb rfl)) (so rfl sn) ?_
    refine mv (lb rfl) rfl ?_
    refine st1 rfl (op_neq (lb rfl)) (so rfl (so rfl sn)) ?_
    refine nk ?_
    refine acode_split (b := decide (x2.task = s0_0)) (fun c3 => ?_) (fun c3 => ?_)
    ·
     replace hm := ite_t hm c3
     refine acode_cond_false rfl (not_t (c3)) ?_
     refine pk ?_
     refine sr ?_
     refine mv (lb rfl) rfl ?_
     obtain ⟨g4, hm⟩ := gd_some hm
     refine st1 rfl (op_add (lb rfl) g4) (so rfl (so rfl sn)) ?_
     refine as_ (lb rfl) rfl ?_
     refine nk ?_
     refine acode_seq ?_
     refine sr ?_
     refine mv (lb rfl) rfl ?_
     refine mv (lb rfl) rfl ?_
     obtain ⟨x5, hx5, hm⟩ := bnd hm
     refine st1 rfl (op_index_shG (f := (GDid.cells false)) (l := a) Try.underlying68 Try.sizeOf137 (lb rfl) hx5) (so rfl (so rfl sn)) ?_
     refine st1 rfl (op_field_pts (off := 1) Try.underlying137 Try.sizeOf3 rfl rfl rfl rfl (lb rfl)) (so rfl sn) ?_
     refine st1 rfl (op_load_pts Try.isAgg3 rfl (lb rfl)) (so rfl sn) ?_
     refine mv (lb rfl) rfl ?_
     refine st1 rfl (op_neq (lb rfl)) (so rfl (so rfl sn)) ?_
     refine nk ?_
     refine acode_split (b := decide (x5.who = (s0_0 + 1))) (fun c6 => ?_) (fun c6 => ?_)
     ·
      replace hm := ite_t hm c6
      refine acode_cond_false rfl (not_t (c6)) ?_
      refine pk ?_
      refine acode_le (le_stU (env := [(0, .c (.sl false 2 (a.map (GDid.cells false)))), (1, aInt (s0_0 + 1)), (5, aInt s0_1)]) (obj := []) idn (.cons rfl rfl (.cons rfl rfl (.cons rfl rfl .nil))) .nil rfl) ?_
      refine acode_region ?_
      refine mv (lb rfl) rfl ?_
      obtain ⟨g7, hm⟩ := gd_some hm
      refine st1 rfl (op_add (lb rfl) g7) (so rfl (so rfl sn)) ?_
      refine as_ (lb rfl) rfl ?_
      refine rg_nil_seq ?_
      refine kblk_normal (kseq_normal ?_)
      refine acode_region ?_
      refine mv (lb rfl) rfl ?_
      obtain ⟨g8, hm⟩ := gd_some hm
      refine st1 rfl (op_add (lb rfl) g8) (so rfl (so rfl sn)) ?_
      refine as_ (lb rfl) rfl ?_
      refine rg_nil_seq ?_
      refine klg_back (n0, ((s0_0 + 1) + 1), (s0_1 + 1)) hm (Nat.lt_succ_self _) ?_
      exact le_stU idn (.cons rfl rfl (.cons rfl rfl (.cons rfl rfl .nil))) .nil rfl
     ·
      replace hm := ite_f hm c6
      refine acode_cond_true rfl (not_f (c6)) ?_
      refine sr ?_
      refine as_ (lb rfl) rfl ?_
      refine nkt ?_
      obtain rfl := Option.some.inj hm
      exact kseq_ret (kblk_ret (kseq_ret (klg_ret (kblk_ret (kseq_ret (fin2_retL (.cons (.c rfl) .nil) rfl .nil rfl rfl rfl))))))
    ·
     replace hm := ite_f hm c3
     refine acode_cond_true rfl (not_f (c3)) ?_
     refine sr ?_
     refine as_ (lb rfl) rfl ?_
     refine nkt ?_
     obtain rfl := Option.some.inj hm
     exact kseq_ret (kblk_ret (kseq_ret (klg_ret (kblk_ret (kseq_ret (fin2_retL (.cons (.c rfl) .nil) rfl .nil rfl rfl rfl))))))
   ·
    replace hm := ite_f hm c1
    refine acode_cond_false rfl (c1) ?_
    refine acode_exit ?_
    unfold m_heldCasDidS_k1 at hm
    refine kseq_exit (klg_exit (kblk_hit (kseq_normal ?_)))
    refine sr ?_
    refine mv (lb rfl) rfl ?_
    refine as_ (lb rfl) rfl ?_
    refine nkt ?_
    obtain rfl := Option.some.inj hm
    exact fin2_retL (.cons (.c rfl) .nil) rfl .nil rfl rfl rfl

def m_markEngRunS_k1 (s0_0 : Int) (l0_2 : List GRun) : Option (Int × (List GRun)) := some (s0_0, l0_2)
def m_markEngRunS_l0 (kx0_0 : Int → List GRun → Option (Int × (List GRun))) : Nat → Int → Int → List GRun → Option (Int × (List GRun))
  | 0, _, _, _ => none
  | n0 + 1, s0_0, s0_1, l0_2 => if decide (s0_1 < (l0_2.length : Int)) = true then ((getI l0_2 s0_1).bind fun x2 => (gd (ok64 (s0_0 + 1)) ((getI (l0_2.set s0_1.toNat (GRun.mk s0_0 x2.case)) s0_1).bind fun x4 => (gd (ok64 ((s0_0 + 1) + 1)) ((getI ((l0_2.set s0_1.toNat (GRun.mk s0_0 x2.case)).set s0_1.toNat (GRun.mk x4.net (GCase.mk (s0_0 + 1) x4.case.marks x4.case.busy x4.case.data x4.case.did))) s0_1).bind fun x6 => ((m_markIntS x6.case.marks ((s0_0 + 1) + 1)).bind fun x7 => ((getI (((l0_2.set s0_1.toNat (GRun.mk s0_0 x2.case)).set s0_1.toNat (GRun.mk x4.net (GCase.mk (s0_0 + 1) x4.case.marks x4.case.busy x4.case.data x4.case.did))).set s0_1.toNat (GRun.mk x6.net (GCase.mk x6.case.state x7.2 x6.case.busy x6.case.data x6.case.did))) s0_1).bind fun x8 => ((m_markCasItemS x8.case.busy x7.1).bind fun x9 => ((getI ((((l0_2.set s0_1.toNat (GRun.mk s0_0 x2.case)).set s0_1.toNat (GRun.mk x4.net (GCase.mk (s0_0 + 1) x4.case.marks x4.case.busy x4.case.data x4.case.did))).set s0_1.toNat (GRun.mk x6.net (GCase.mk x6.case.state x7.2 x6.case.busy x6.case.data x6.case.did))).set s0_1.toNat (GRun.mk x8.net (GCase.mk x8.case.state x8.case.marks x9.2 x8.case.data x8.case.did))) s0_1).bind fun x10 => ((m_markIntS x10.case.data x9.1).bind fun x11 => ((getI (((((l0_2.set s0_1.toNat (GRun.mk s0_0 x2.case)).set s0_1.toNat (GRun.mk x4.net (GCase.mk (s0_0 + 1) x4.case.marks x4.case.busy x4.case.data x4.case.did))).set s0_1.toNat (GRun.mk x6.net (GCase.mk x6.case.state x7.2 x6.case.busy x6.case.data x6.case.did))).set s0_1.toNat (GRun.mk x8.net (GCase.mk x8.case.state x8.case.marks x9.2 x8.case.data x8.case.did))).set s0_1.toNat (GRun.mk x10.net (GCase.mk x10.case.state x10.case.marks x10.case.busy x11.2 x10.case.did))) s0_1).bind fun x12 => ((m_markCasDidS x12.case.did x11.1).bind fun x13 => (gd (ok64 (s0_1 + 1)) ((m_markEngRunS_l0 kx0_0 n0) x13.1 (s0_1 + 1) ((((((l0_2.set s0_1.toNat (GRun.mk s0_0 x2.case)).set s0_1.toNat (GRun.mk x4.net (GCase.mk (s0_0 + 1) x4.case.marks x4.case.busy x4.case.data x4.case.did))).set s0_1.toNat (GRun.mk x6.net (GCase.mk x6.case.state x7.2 x6.case.busy x6.case.data x6.case.did))).set s0_1.toNat (GRun.mk x8.net (GCase.mk x8.case.state x8.case.marks x9.2 x8.case.data x8.case.did))).set s0_1.toNat (GRun.mk x10.net (GCase.mk x10.case.state x10.case.marks x10.case.busy x11.2 x10.case.did))).set s0_1.toNat (GRun.mk x12.net (GCase.mk x12.case.state x12.case.marks x12.case.busy x12.case.data x13.2))))))))))))))))) else (kx0_0 s0_0 l0_2)
def m_markEngRunS (a : List GRun) (k : Int) : Option (Int × (List GRun)) := m_markEngRunS_l0 m_markEngRunS_k1 FUEL k 0 a


def m_heldEngRunS_k1 (s0_0 : Int) : Option Int := some s0_0
def m_heldEngRunS_l0 (a : List GRun) (kx0_0 : Int → Option Int) : Nat → Int → Int → Option Int
  | 0, _, _ => none
  | n0 + 1, s0_0, s0_1 => if decide (s0_1 < (a.length : Int)) = true then ((getI a s0_1).bind fun x2 => (if decide (x2.net = s0_0) = true then (gd (ok64 (s0_0 + 1)) ((getI a s0_1).bind fun x5 => (if decide (x5.case.state = (s0_0 + 1)) = true then (gd (ok64 ((s0_0 + 1) + 1)) ((getI a s0_1).bind fun x8 => ((m_heldIntS x8.case.marks ((s0_0 + 1) + 1)).bind fun x9 => (if decide (x9 < 0) = true then (some (-1)) else ((getI a s0_1).bind fun x11 => ((m_heldCasItemS x11.case.busy x9).bind fun x12 => (if decide (x12 < 0) = true then (some (-1)) else ((getI a s0_1).bind fun x14 => ((m_heldIntS x14.case.data x12).bind fun x15 => (if decide (x15 < 0) = true then (some (-1)) else ((getI a s0_1).bind fun x17 => ((m_heldCasDidS x17.case.did x15).bind fun x18 => (if decide (x18 < 0) = true then (some (-1)) else (gd (ok64 (s0_1 + 1)) ((m_heldEngRunS_l0 a kx0_0 n0) x18 (s0_1 + 1)))))))))))))))) else (some (-1))))) else (some (-1)))) else (kx0_0 s0_0)
def m_heldEngRunS (a : List GRun) (k : Int) : Option Int := m_heldEngRunS_l0 a m_heldEngRunS_k1 FUEL k 0


def m_markEngReqS_k1 (s0_0 : Int) (l0_2 : List GReq) : Option (Int × (List GReq)) := some (s0_0, l0_2)
def m_markEngReqS_l0 (k : Int) (kx0_0 : Int → List GReq → Option (Int × (List GReq))) : Nat → Int → Int → List GReq → Option (Int × (List GReq))
  | 0, _, _, _ => none
  | n0 + 1, s0_0, s0_1, l0_2 => if decide (s0_1 < (l0_2.length : Int)) = true then ((getI l0_2 s0_1).bind fun x2 => (gd (ok64 (s0_0 + 1)) ((getI (l0_2.set s0_1.toNat (GReq.mk s0_0 x2.who x2.case x2.task x2.var x2.num x2.data x2.if_ x2.ans)) s0_1).bind fun x4 => (gd (ok64 ((s0_0 + 1) + 1)) ((getI ((l0_2.set s0_1.toNat (GReq.mk s0_0 x2.who x2.case x2.task x2.var x2.num x2.data x2.if_ x2.ans)).set s0_1.toNat (GReq.mk x4.kind (s0_0 + 1) x4.case x4.task x4.var x4.num x4.data x4.if_ x4.ans)) s0_1).bind fun x6 => (gd (ok64 (((s0_0 + 1) + 1) + 1)) ((getI (((l0_2.set s0_1.toNat (GReq.mk s0_0 x2.who x2.case x2.task x2.var x2.num x2.data x2.if_ x2.ans)).set s0_1.toNat (GReq.mk x4.kind (s0_0 + 1) x4.case x4.task x4.var x4.num x4.data x4.if_ x4.ans)).set s0_1.toNat (GReq.mk x6.kind x6.who ((s0_0 + 1) + 1) x6.task x6.var x6.num x6.data x6.if_ x6.ans)) s0_1).bind fun x8 => (gd (ok64 ((((s0_0 + 1) + 1) + 1) + 1)) ((getI ((((l0_2.set s0_1.toNat (GReq.mk s0_0 x2.who x2.case x2.task x2.var x2.num x2.data x2.if_ x2.ans)).set s0_1.toNat (GReq.mk x4.kind (s0_0 + 1) x4.case x4.task x4.var x4.num x4.data x4.if_ x4.ans)).set s0_1.toNat (GReq.mk x6.kind x6.who ((s0_0 + 1) + 1) x6.task x6.var x6.num x6.data x6.if_ x6.ans)).set s0_1.toNat (GReq.mk x8.kind x8.who x8.case (((s0_0 + 1) + 1) + 1) x8.var x8.num x8.data x8.if_ x8.ans)) s0_1).bind fun x10 => (gd (ok64 (((((s0_0 + 1) + 1) + 1) + 1) + 1)) ((getI (((((l0_2.set s0_1.toNat (GReq.mk s0_0 x2.who x2.case x2.task x2.var x2.num x2.data x2.if_ x2.ans)).set s0_1.toNat (GReq.mk x4.kind (s0_0 + 1) x4.case x4.task x4.var x4.num x4.data x4.if_ x4.ans)).set s0_1.toNat (GReq.mk x6.kind x6.who ((s0_0 + 1) + 1) x6.task x6.var x6.num x6.data x6.if_ x6.ans)).set s0_1.toNat (GReq.mk x8.kind x8.who x8.case (((s0_0 + 1) + 1) + 1) x8.var x8.num x8.data x8.if_ x8.ans)).set s0_1.toNat (GReq.mk x10.kind x10.who x10.case x10.task ((((s0_0 + 1) + 1) + 1) + 1) x10.num x10.data x10.if_ x10.ans)) s0_1).bind fun x12 => (gd (ok64 ((((((s0_0 + 1) + 1) + 1) + 1) + 1) + 1)) ((getI ((((((l0_2.set s0_1.toNat (GReq.mk s0_0 x2.who x2.case x2.task x2.var x2.num x2.data x2.if_ x2.ans)).set s0_1.toNat (GReq.mk x4.kind (s0_0 + 1) x4.case x4.task x4.var x4.num x4.data x4.if_ x4.ans)).set s0_1.toNat (GReq.mk x6.kind x6.who ((s0_0 + 1) + 1) x6.task x6.var x6.num x6.data x6.if_ x6.ans)).set s0_1.toNat (GReq.mk x8.kind x8.who x8.case (((s0_0 + 1) + 1) + 1) x8.var x8.num x8.data x8.if_ x8.ans)).set s0_1.toNat (GReq.mk x10.kind x10.who x10.case x10.task ((((s0_0 + 1) + 1) + 1) + 1) x10.num x10.data x10.if_ x10.ans)).set s0_1.toNat (GReq.mk x12.kind x12.who x12.case x12.task x12.var (((((s0_0 + 1) + 1) + 1) + 1) + 1) x12.data x12.if_ x12.ans)) s0_1).bind fun x14 => ((m_markIntS x14.data ((((((s0_0 + 1) + 1) + 1) + 1) + 1) + 1)).bind fun x15 => ((getI (((((((l0_2.set s0_1.toNat (GReq.mk s0_0 x2.who x2.case x2.task x2.var x2.num x2.data x2.if_ x2.ans)).set s0_1.toNat (GReq.mk x4.kind (s0_0 + 1) x4.case x4.task x4.var x4.num x4.data x4.if_ x4.ans)).set s0_1.toNat (GReq.mk x6.kind x6.who ((s0_0 + 1) + 1) x6.task x6.var x6.num x6.data x6.if_ x6.ans)).set s0_1.toNat (GReq.mk x8.kind x8.who x8.case (((s0_0 + 1) + 1) + 1) x8.var x8.num x8.data x8.if_ x8.ans)).set s0_1.toNat (GReq.mk x10.kind x10.who x10.case x10.task ((((s0_0 + 1) + 1) + 1) + 1) x10.num x10.data x10.if_ x10.ans)).set s0_1.toNat (GReq.mk x12.kind x12.who x12.case x12.task x12.var (((((s0_0 + 1) + 1) + 1) + 1) + 1) x12.data x12.if_ x12.ans)).set s0_1.toNat (GReq.mk x14.kind x14.who x14.case x14.task x14.var x14.num x15.2 x14.if_ x14.ans)) s0_1).bind fun x16 => (gd (ok64 (x15.1 + 1)) ((getI ((((((((l0_2.set s0_1.toNat (GReq.mk s0_0 x2.who x2.case x2.task x2.var x2.num x2.data x2.if_ x2.ans)).set s0_1.toNat (GReq.mk x4.kind (s0_0 + 1) x4.case x4.task x4.var x4.num x4.data x4.if_ x4.ans)).set s0_1.toNat (GReq.mk x6.kind x6.who ((s0_0 + 1) + 1) x6.task x6.var x6.num x6.data x6.if_ x6.ans)).set s0_1.toNat (GReq.mk x8.kind x8.who x8.case (((s0_0 + 1) + 1) + 1) x8.var x8.num x8.data x8.if_ x8.ans)).set s0_1.toNat (GReq.mk x10.kind x10.who x10.case x10.task ((((s0_0 + 1) + 1) + 1) + 1) x10.num x10.data x10.if_ x10.ans)).set s0_1.toNat (GReq.mk x12.kind x12.who x12.case x12.task x12.var (((((s0_0 + 1) + 1) + 1) + 1) + 1) x12.data x12.if_ x12.ans)).set s0_1.toNat (GReq.mk x14.kind x14.who x14.case x14.task x14.var x14.num x15.2 x14.if_ x14.ans)).set s0_1.toNat (GReq.mk x16.kind x16.who x16.case x16.task x16.var x16.num x16.data (GAsk.mk x15.1 x16.if_.var x16.if_.k) x16.ans)) s0_1).bind fun x18 => (gd (ok64 ((x15.1 + 1) + 1)) ((getI (((((((((l0_2.set s0_1.toNat (GReq.mk s0_0 x2.who x2.case x2.task x2.var x2.num x2.data x2.if_ x2.ans)).set s0_1.toNat (GReq.mk x4.kind (s0_0 + 1) x4.case x4.task x4.var x4.num x4.data x4.if_ x4.ans)).set s0_1.toNat (GReq.mk x6.kind x6.who ((s0_0 + 1) + 1) x6.task x6.var x6.num x6.data x6.if_ x6.ans)).set s0_1.toNat (GReq.mk x8.kind x8.who x8.case (((s0_0 + 1) + 1) + 1) x8.var x8.num x8.data x8.if_ x8.ans)).set s0_1.toNat (GReq.mk x10.kind x10.who x10.case x10.task ((((s0_0 + 1) + 1) + 1) + 1) x10.num x10.data x10.if_ x10.ans)).set s0_1.toNat (GReq.mk x12.kind x12.who x12.case x12.task x12.var (((((s0_0 + 1) + 1) + 1) + 1) + 1) x12.data x12.if_ x12.ans)).set s0_1.toNat (GReq.mk x14.kind x14.who x14.case x14.task x14.var x14.num x15.2 x14.if_ x14.ans)).set s0_1.toNat (GReq.mk x16.kind x16.who x16.case x16.task x16.var x16.num x16.data (GAsk.mk x15.1 x16.if_.var x16.if_.k) x16.ans)).set s0_1.toNat (GReq.mk x18.kind x18.who x18.case x18.task x18.var x18.num x18.data (GAsk.mk x18.if_.op (x15.1 + 1) x18.if_.k) x18.ans)) s0_1).bind fun x20 => (gd (ok64 (((x15.1 + 1) + 1) + 1)) ((getI ((((((((((l0_2.set s0_1.toNat (GReq.mk s0_0 x2.who x2.case x2.task x2.var x2.num x2.data x2.if_ x2.ans)).set s0_1.toNat (GReq.mk x4.kind (s0_0 + 1) x4.case x4.task x4.var x4.num x4.data x4.if_ x4.ans)).set s0_1.toNat (GReq.mk x6.kind x6.who ((s0_0 + 1) + 1) x6.task x6.var x6.num x6.data x6.if_ x6.ans)).set s0_1.toNat (GReq.mk x8.kind x8.who x8.case (((s0_0 + 1) + 1) + 1) x8.var x8.num x8.data x8.if_ x8.ans)).set s0_1.toNat (GReq.mk x10.kind x10.who x10.case x10.task ((((s0_0 + 1) + 1) + 1) + 1) x10.num x10.data x10.if_ x10.ans)).set s0_1.toNat (GReq.mk x12.kind x12.who x12.case x12.task x12.var (((((s0_0 + 1) + 1) + 1) + 1) + 1) x12.data x12.if_ x12.ans)).set s0_1.toNat (GReq.mk x14.kind x14.who x14.case x14.task x14.var x14.num x15.2 x14.if_ x14.ans)).set s0_1.toNat (GReq.mk x16.kind x16.who x16.case x16.task x16.var x16.num x16.data (GAsk.mk x15.1 x16.if_.var x16.if_.k) x16.ans)).set s0_1.toNat (GReq.mk x18.kind x18.who x18.case x18.task x18.var x18.num x18.data (GAsk.mk x18.if_.op (x15.1 + 1) x18.if_.k) x18.ans)).set s0_1.toNat (GReq.mk x20.kind x20.who x20.case x20.task x20.var x20.num x20.data (GAsk.mk x20.if_.op x20.if_.var ((x15.1 + 1) + 1)) x20.ans)) s0_1).bind fun x22 => (gd (ok64 ((((x15.1 + 1) + 1) + 1) + 1)) (gd (ok64 (s0_1 + 1)) ((m_markEngReqS_l0 k kx0_0 n0) ((((x15.1 + 1) + 1) + 1) + 1) (s0_1 + 1) (((((((((((l0_2.set s0_1.toNat (GReq.mk s0_0 x2.who x2.case x2.task x2.var x2.num x2.data x2.if_ x2.ans)).set s0_1.toNat (GReq.mk x4.kind (s0_0 + 1) x4.case x4.task x4.var x4.num x4.data x4.if_ x4.ans)).set s0_1.toNat (GReq.mk x6.kind x6.who ((s0_0 + 1) + 1) x6.task x6.var x6.num x6.data x6.if_ x6.ans)).set s0_1.toNat (GReq.mk x8.kind x8.who x8.case (((s0_0 + 1) + 1) + 1) x8.var x8.num x8.data x8.if_ x8.ans)).set s0_1.toNat (GReq.mk x10.kind x10.who x10.case x10.task ((((s0_0 + 1) + 1) + 1) + 1) x10.num x10.data x10.if_ x10.ans)).set s0_1.toNat (GReq.mk x12.kind x12.who x12.case x12.task x12.var (((((s0_0 + 1) + 1) + 1) + 1) + 1) x12.data x12.if_ x12.ans)).set s0_1.toNat (GReq.mk x14.kind x14.who x14.case x14.task x14.var x14.num x15.2 x14.if_ x14.ans)).set s0_1.toNat (GReq.mk x16.kind x16.who x16.case x16.task x16.var x16.num x16.data (GAsk.mk x15.1 x16.if_.var x16.if_.k) x16.ans)).set s0_1.toNat (GReq.mk x18.kind x18.who x18.case x18.task x18.var x18.num x18.data (GAsk.mk x18.if_.op (x15.1 + 1) x18.if_.k) x18.ans)).set s0_1.toNat (GReq.mk x20.kind x20.who x20.case x20.task x20.var x20.num x20.data (GAsk.mk x20.if_.op x20.if_.var ((x15.1 + 1) + 1)) x20.ans)).set s0_1.toNat (GReq.mk x22.kind x22.who x22.case x22.task x22.var x22.num x22.data x22.if_ (((x15.1 + 1) + 1) + 1))))))))))))))))))))))))))) else (kx0_0 s0_0 l0_2)
def m_markEngReqS (a : List GReq) (k : Int) : Option (Int × (List GReq)) := m_markEngReqS_l0 k m_markEngReqS_k1 FUEL k 0 a


def m_heldEngReqS_k1 (s0_0 : Int) : Option Int := some s0_0
def m_heldEngReqS_l0 (a : List GReq) (k : Int) (kx0_0 : Int → Option Int) : Nat → Int → Int → Option Int
  | 0, _, _ => none
  | n0 + 1, s0_0, s0_1 => if decide (s0_1 < (a.length : Int)) = true then ((getI a s0_1).bind fun x2 => (if decide (x2.kind = s0_0) = true then (gd (ok64 (s0_0 + 1)) ((getI a s0_1).bind fun x5 => (if decide (x5.who = (s0_0 + 1)) = true then (gd (ok64 ((s0_0 + 1) + 1)) ((getI a s0_1).bind fun x8 => (if decide (x8.case = ((s0_0 + 1) + 1)) = true then (gd (ok64 (((s0_0 + 1) + 1) + 1)) ((getI a s0_1).bind fun x11 => (if decide (x11.task = (((s0_0 + 1) + 1) + 1)) = true then (gd (ok64 ((((s0_0 + 1) + 1) + 1) + 1)) ((getI a s0_1).bind fun x14 => (if decide (x14.var = ((((s0_0 + 1) + 1) + 1) + 1)) = true then (gd (ok64 (((((s0_0 + 1) + 1) + 1) + 1) + 1)) ((getI a s0_1).bind fun x17 => (if decide (x17.num = (((((s0_0 + 1) + 1) + 1) + 1) + 1)) = true then (gd (ok64 ((((((s0_0 + 1) + 1) + 1) + 1) + 1) + 1)) ((getI a s0_1).bind fun x20 => ((m_heldIntS x20.data ((((((s0_0 + 1) + 1) + 1) + 1) + 1) + 1)).bind fun x21 => (if decide (x21 < 0) = true then (some (-1)) else ((getI a s0_1).bind fun x23 => (if decide (x23.if_.op = x21) = true then (gd (ok64 (x21 + 1)) ((getI a s0_1).bind fun x26 => (if decide (x26.if_.var = (x21 + 1)) = true then (gd (ok64 ((x21 + 1) + 1)) ((getI a s0_1).bind fun x29 => (if decide (x29.if_.k = ((x21 + 1) + 1)) = true then (gd (ok64 (((x21 + 1) + 1) + 1)) ((getI a s0_1).bind fun x32 => (if decide (x32.ans = (((x21 + 1) + 1) + 1)) = true then (gd (ok64 ((((x21 + 1) + 1) + 1) + 1)) (gd (ok64 (s0_1 + 1)) ((m_heldEngReqS_l0 a k kx0_0 n0) ((((x21 + 1) + 1) + 1) + 1) (s0_1 + 1)))) else (some (-1))))) else (some (-1))))) else (some (-1))))) else (some (-1)))))))) else (some (-1))))) else (some (-1))))) else (some (-1))))) else (some (-1))))) else (some (-1))))) else (some (-1)))) else (kx0_0 s0_0)
def m_heldEngReqS (a : List GReq) (k : Int) : Option Int := m_heldEngReqS_l0 a k m_heldEngReqS_k1 FUEL k 0


def m_markNetNet (a : GNet) (k : Int) : Option (Int × GNet) := (m_markNetTaskS a.tasks k).bind fun x1 => (some (x1.1, (GNet.mk a.places x1.2)))

theorem c_markNetNet (a : GNet) (k : Int) (rz : Int × GNet) (hm : m_markNetNet a k = some rz) : FnB Try.prog 39 [.row (GNet.cells true a), .c (cI k)] [.c (cI rz.1)] [(0, .row (GNet.cells true rz.2))] := by
 unfold m_markNetNet at hm
 refine fn_intro2 (n := 10) (rvs := [.tmp 4]) Try.func39 rfl rfl rfl (lb rfl) rfl rfl rfl rfl rfl ?_
 refine acode_seq ?_
 refine acode_le (le_stU (env := [(0, .agg [aInt a.places, .ref 1010000 []]), (1, aInt k)]) (obj := [(1010000, .arr 9 (a.tasks.map (GTask.cells true)))]) idn (.cons rfl rfl (.cons rfl rfl .nil)) (.cons rfl rfl (.inr rfl) .nil) rfl) ?_
 refine acode_region ?_
 refine st1 rfl (op_box rfl (lb rfl)) (so rfl (sf rfl (sats_lives rfl))) ?_
 refine as_ (lb rfl) rfl ?_
 refine nk ?_
 refine sr ?_
 refine fdb (off := 1) Try.underlying65 Try.sizeOf63 rfl rfl rfl (lb rfl) rfl rfl ?_
 refine ldb Try.isAgg63 rfl (lb rfl) rfl rfl ?_
 refine mv (lb rfl) rfl ?_
 obtain ⟨x1, hx1, hm⟩ := bnd hm
 refine st1 rfl (op_call2 (ks := [1010000]) Try.func85 rfl rfl (c_markNetTaskS a.tasks k x1 hx1) (.cons .own (.cons (.c rfl) .nil rfl) rfl) rfl rfl (.inl rfl) (.cons rfl .sl .nil) rfl rfl (lb rfl)) (sats_opds (.cons rfl (.cons rfl .nil)) (sats_app (sats_freshL rfl) (sats_needsO (obs_cons rfl obs_nil)))) ?_
 refine as_ (lb rfl) rfl ?_
 refine nk ?_
 refine sr ?_
 refine mv (lb rfl) rfl ?_
 refine as_ (lb rfl) rfl ?_
 refine nkt ?_
 obtain rfl := Option.some.inj hm
 exact fin2_retL (.cons (.c rfl) .nil) rfl (.cons rfl (.aggC (.aggRef rfl .aggNil rfl)) .nil rfl) rfl rfl rfl

def m_markCasCase (a : GCase) (k : Int) : Option (Int × GCase) := (m_markIntS a.marks k).bind fun x1 => ((m_markCasItemS a.busy x1.1).bind fun x2 => ((m_markIntS a.data x2.1).bind fun x3 => ((m_markCasDidS a.did x3.1).bind fun x4 => (some (x4.1, (GCase.mk a.state x1.2 x2.2 x3.2 x4.2))))))

theorem c_markCasCase (a : GCase) (k : Int) (rz : Int × GCase) (hm : m_markCasCase a k = some rz) : FnB Try.prog 40 [.row (GCase.cells true a), .c (cI k)] [.c (cI rz.1)] [(0, .row (GCase.cells true rz.2))] := by
 unfold m_markCasCase at hm
 refine fn_intro2 (n := 22) (rvs := [.tmp 4]) Try.func40 rfl rfl rfl (lb rfl) rfl rfl rfl rfl rfl ?_
 refine acode_seq ?_
 refine acode_le (le_stU (env := [(0, .agg [aInt a.state, .ref 1010000 [], .ref 1020000 [], .ref 1030000 [], .ref 1040000 []]), (1, aInt k)]) (obj := [(1010000, .arr 1 (a.marks.map (fun n : Int => [cI n]))), (1020000, .arr 3 (a.busy.map (GItem.cells true))), (1030000, .arr 1 (a.data.map (fun n : Int => [cI n]))), (1040000, .arr 2 (a.did.map (GDid.cells true)))]) idn (.cons rfl rfl (.cons rfl rfl .nil)) (.cons rfl rfl (.inr rfl) (.cons rfl rfl (.inr rfl) (.cons rfl rfl (.inr rfl) (.cons rfl rfl (.inr rfl) .nil)))) rfl) ?_
 refine acode_region ?_
 refine st1 rfl (op_box rfl (lb rfl)) (so rfl (sf rfl (sats_lives rfl))) ?_
 refine as_ (lb rfl) rfl ?_
 refine nk ?_
 refine sr ?_
 refine fdb (off := 1) Try.underlying70 Try.sizeOf34 rfl rfl rfl (lb rfl) rfl rfl ?_
 refine ldb Try.isAgg34 rfl (lb rfl) rfl rfl ?_
 refine mv (lb rfl) rfl ?_
 obtain ⟨x1, hx1, hm⟩ := bnd hm
 refine st1 rfl (op_call2 (ks := [1010000]) Try.func29 rfl rfl (c_markIntS a.marks k x1 hx1) (.cons .own (.cons (.c rfl) .nil rfl) rfl) rfl rfl (.inl rfl) (.cons rfl .sl .nil) rfl rfl (lb rfl)) (sats_opds (.cons rfl (.cons rfl .nil)) (sats_app (sats_freshL rfl) (sats_needsO (obs_cons rfl obs_nil)))) ?_
 refine as_ (lb rfl) rfl ?_
 refine nk ?_
 refine sr ?_
 refine fdb (off := 2) Try.underlying70 Try.sizeOf67 rfl rfl rfl (lb rfl) rfl rfl ?_
 refine ldb Try.isAgg67 rfl (lb rfl) rfl rfl ?_
 refine mv (lb rfl) rfl ?_
 obtain ⟨x2, hx2, hm⟩ := bnd hm
 refine st1 rfl (op_call2 (ks := [1020000]) Try.func86 rfl rfl (c_markCasItemS a.busy x1.1 x2 hx2) (.cons .own (.cons (.c rfl) .nil rfl) rfl) rfl rfl (.inl rfl) (.cons rfl .sl .nil) rfl rfl (lb rfl)) (sats_opds (.cons rfl (.cons rfl .nil)) (sats_app (sats_freshL rfl) (sats_needsO (obs_cons rfl obs_nil)))) ?_
 refine as_ (lb rfl) rfl ?_
 refine nk ?_
 refine sr ?_
 refine fdb (off := 3) Try.underlying70 Try.sizeOf34 rfl rfl rfl (lb rfl) rfl rfl ?_
 refine ldb Try.isAgg34 rfl (lb rfl) rfl rfl ?_
 refine mv (lb rfl) rfl ?_
 obtain ⟨x3, hx3, hm⟩ := bnd hm
 refine st1 rfl (op_call2 (ks := [1030000]) Try.func29 rfl rfl (c_markIntS a.data x2.1 x3 hx3) (.cons .own (.cons (.c rfl) .nil rfl) rfl) rfl rfl (.inl rfl) (.cons rfl .sl .nil) rfl rfl (lb rfl)) (sats_opds (.cons rfl (.cons rfl .nil)) (sats_app (sats_freshL rfl) (sats_needsO (obs_cons rfl obs_nil)))) ?_
 refine as_ (lb rfl) rfl ?_
 refine nk ?_
 refine acode_seq ?_
 refine acode_le (le_stU (env := [(1, aInt x3.1), (2, .bx 2 0)]) (obj := [(2, .box [aInt a.state, .ref 1010000 [], .ref 1020000 [], .ref 1030000 [], .ref 1040000 []]), (1010000, .arr 1 (x1.2.map (fun n : Int => [cI n]))), (1020000, .arr 3 (x2.2.map (GItem.cells true))), (1030000, .arr 1 (x3.2.map (fun n : Int => [cI n]))), (1040000, .arr 2 (a.did.map (GDid.cells true)))]) idn (.cons rfl rfl (.cons rfl rfl .nil)) (.cons rfl rfl (.inl rfl) (.cons rfl rfl (.inr rfl) (.cons rfl rfl (.inr rfl) (.cons rfl rfl (.inr rfl) (.cons rfl rfl (.inr rfl) .nil))))) rfl) ?_
 refine acode_region ?_
 refine fdb (off := 4) Try.underlying70 Try.sizeOf68 rfl rfl rfl (lb rfl) rfl rfl ?_
 refine ldb Try.isAgg68 rfl (lb rfl) rfl rfl ?_
 refine mv (lb rfl) rfl ?_
 obtain ⟨x4, hx4, hm⟩ := bnd hm
 refine st1 rfl (op_call2 (ks := [1040000]) Try.func87 rfl rfl (c_markCasDidS a.did x3.1 x4 hx4) (.cons .own (.cons (.c rfl) .nil rfl) rfl) rfl rfl (.inl rfl) (.cons rfl .sl .nil) rfl rfl (lb rfl)) (sats_opds (.cons rfl (.cons rfl .nil)) (sats_app (sats_freshL rfl) (sats_needsO (obs_cons rfl obs_nil)))) ?_
 refine as_ (lb rfl) rfl ?_
 refine nk ?_
 refine sr ?_
 refine mv (lb rfl) rfl ?_
 refine as_ (lb rfl) rfl ?_
 refine nkt ?_
 obtain rfl := Option.some.inj hm
 exact fin2_retL (.cons (.c rfl) .nil) rfl (.cons rfl (.aggC (.aggRef rfl (.aggRef rfl (.aggRef rfl (.aggRef rfl .aggNil rfl) rfl) rfl) rfl)) .nil rfl) rfl rfl rfl

def m_heldCasCase (a : GCase) (k : Int) : Option Int := (m_heldIntS a.marks k).bind fun x1 => (if decide (x1 < 0) = true then (some (-1)) else ((m_heldCasItemS a.busy x1).bind fun x3 => (if decide (x3 < 0) = true then (some (-1)) else ((m_heldIntS a.data x3).bind fun x5 => (if decide (x5 < 0) = true then (some (-1)) else ((m_heldCasDidS a.did x5).bind fun x7 => (if decide (x7 < 0) = true then (some (-1)) else (some x7))))))))

theorem c_heldCasCase (a : GCase) (k : Int) (rz : Int) (hm : m_heldCasCase a k = some rz) : FnB Try.prog 45 [.row (GCase.cells false a), .c (cI k)] [.c (cI rz)] [] := by
 unfold m_heldCasCase at hm
 refine fn_intro2 (n := 30) (rvs := [.tmp 4]) Try.func45 rfl rfl rfl (lb rfl) rfl rfl rfl rfl rfl ?_
 refine acode_seq ?_
 refine acode_le (le_stU (env := [(0, .row [cI a.state, .sl false 1 (a.marks.map (fun n : Int => [cI n])), .sl false 3 (a.busy.map (GItem.cells false)), .sl false 1 (a.data.map (fun n : Int => [cI n])), .sl false 2 (a.did.map (GDid.cells false))]), (1, aInt k)]) (obj := []) idn (.cons rfl rfl (.cons rfl rfl .nil)) .nil rfl) ?_
 refine acode_region ?_
 refine st1 rfl (op_box rfl (lb rfl)) (so rfl (sf rfl (sats_lives rfl))) ?_
 refine as_ (lb rfl) rfl ?_
 refine nk ?_
 refine sr ?_
 refine fdb (off := 1) Try.underlying70 Try.sizeOf34 rfl rfl rfl (lb rfl) rfl rfl ?_
 refine ldb Try.isAgg34 rfl (lb rfl) rfl rfl ?_
 refine mv (lb rfl) rfl ?_
 obtain ⟨x1, hx1, hm⟩ := bnd hm
 refine st1 rfl (op_call2 (ks := []) Try.func30 rfl rfl (c_heldIntS a.marks k x1 hx1) (.cons (.c rfl) (.cons (.c rfl) .nil rfl) rfl) rfl rfl (.inl rfl) .nil rfl rfl (lb rfl)) (sats_opds (.cons rfl (.cons rfl .nil)) (sats_app (sats_freshL rfl) (sats_needsO obs_nil))) ?_
 refine as_ (lb rfl) rfl ?_
 refine nk ?_
 refine acode_seq ?_
 refine sr ?_
 refine mv (lb rfl) rfl ?_
 refine st1 rfl (op_lss (lb rfl)) (so rfl (so rfl sn)) ?_
 refine nk ?_
 refine acode_split (b := decide (x1 < 0)) (fun c2 => ?_) (fun c2 => ?_)
 ·
  replace hm := ite_t hm c2
  refine acode_cond_true rfl (c2) ?_
  refine sr ?_
  refine as_ (lb rfl) rfl ?_
  refine nkt ?_
  obtain rfl := Option.some.inj hm
  exact kseq_ret (fin2_retL (.cons (.c rfl) .nil) rfl .nil rfl rfl rfl)
 ·
  replace hm := ite_f hm c2
  refine acode_cond_false rfl (c2) ?_
  refine pk ?_
  refine sr ?_
  refine fdb (off := 2) Try.underlying70 Try.sizeOf67 rfl rfl rfl (lb rfl) rfl rfl ?_
  refine ldb Try.isAgg67 rfl (lb rfl) rfl rfl ?_
  refine mv (lb rfl) rfl ?_
  obtain ⟨x3, hx3, hm⟩ := bnd hm
  refine st1 rfl (op_call2 (ks := []) Try.func91 rfl rfl (c_heldCasItemS a.busy x1 x3 hx3) (.cons (.c rfl) (.cons (.c rfl) .nil rfl) rfl) rfl rfl (.inl rfl) .nil rfl rfl (lb rfl)) (sats_opds (.cons rfl (.cons rfl .nil)) (sats_app (sats_freshL rfl) (sats_needsO obs_nil))) ?_
  refine as_ (lb rfl) rfl ?_
  refine nk ?_
  refine acode_seq ?_
  refine acode_seq ?_
  refine acode_le (le_stU (env := [(1, aInt x3), (2, .bx 2 0)]) (obj := [(2, .box [aInt a.state, .c (.sl false 1 (a.marks.map (fun n : Int => [cI n]))), .c (.sl false 3 (a.busy.map (GItem.cells false))), .c (.sl false 1 (a.data.map (fun n : Int => [cI n]))), .c (.sl false 2 (a.did.map (GDid.cells false)))])]) idn (.cons rfl rfl (.cons rfl rfl .nil)) (.cons rfl rfl (.inl rfl) .nil) rfl) ?_
  refine acode_region ?_
  refine mv (lb rfl) rfl ?_
  refine st1 rfl (op_lss (lb rfl)) (so rfl (so rfl sn)) ?_
  refine nk ?_
  refine acode_split (b := decide (x3 < 0)) (fun c4 => ?_) (fun c4 => ?_)
  ·
   replace hm := ite_t hm c4
   refine acode_cond_true rfl (c4) ?_
   refine sr ?_
   refine as_ (lb rfl) rfl ?_
   refine nkt ?_
   obtain rfl := Option.some.inj hm
   exact kseq_ret (fin2_retL (.cons (.c rfl) .nil) rfl .nil rfl rfl rfl)
  ·
   replace hm := ite_f hm c4
   refine acode_cond_false rfl (c4) ?_
   refine pk ?_
   refine sr ?_
   refine fdb (off := 3) Try.underlying70 Try.sizeOf34 rfl rfl rfl (lb rfl) rfl rfl ?_
   refine ldb Try.isAgg34 rfl (lb rfl) rfl rfl ?_
   refine mv (lb rfl) rfl ?_
   obtain ⟨x5, hx5, hm⟩ := bnd hm
   refine st1 rfl (op_call2 (ks := []) Try.func30 rfl rfl (c_heldIntS a.data x3 x5 hx5) (.cons (.c rfl) (.cons (.c rfl) .nil rfl) rfl) rfl rfl (.inl rfl) .nil rfl rfl (lb rfl)) (sats_opds (.cons rfl (.cons rfl .nil)) (sats_app (sats_freshL rfl) (sats_needsO obs_nil))) ?_
   refine as_ (lb rfl) rfl ?_
   refine nk ?_
   refine acode_seq ?_
   refine sr ?_
   refine mv (lb rfl) rfl ?_
   refine st1 rfl (op_lss (lb rfl)) (so rfl (so rfl sn)) ?_
   refine nk ?_
   refine acode_split (b := decide (x5 < 0)) (fun c6 => ?_) (fun c6 => ?_)
   ·
    replace hm := ite_t hm c6
    refine acode_cond_true rfl (c6) ?_
    refine sr ?_
    refine as_ (lb rfl) rfl ?_
    refine nkt ?_
    obtain rfl := Option.some.inj hm
    exact kseq_ret (fin2_retL (.cons (.c rfl) .nil) rfl .nil rfl rfl rfl)
   ·
    replace hm := ite_f hm c6
    refine acode_cond_false rfl (c6) ?_
    refine pk ?_
    refine sr ?_
    refine fdb (off := 4) Try.underlying70 Try.sizeOf68 rfl rfl rfl (lb rfl) rfl rfl ?_
    refine ldb Try.isAgg68 rfl (lb rfl) rfl rfl ?_
    refine mv (lb rfl) rfl ?_
    obtain ⟨x7, hx7, hm⟩ := bnd hm
    refine st1 rfl (op_call2 (ks := []) Try.func92 rfl rfl (c_heldCasDidS a.did x5 x7 hx7) (.cons (.c rfl) (.cons (.c rfl) .nil rfl) rfl) rfl rfl (.inl rfl) .nil rfl rfl (lb rfl)) (sats_opds (.cons rfl (.cons rfl .nil)) (sats_app (sats_freshL rfl) (sats_needsO obs_nil))) ?_
    refine as_ (lb rfl) rfl ?_
    refine nk ?_
    refine acode_seq ?_
    refine acode_seq ?_
    refine acode_le (le_stU (env := [(1, aInt x7)]) (obj := []) idn (.cons rfl rfl .nil) .nil rfl) ?_
    refine acode_region ?_
    refine mv (lb rfl) rfl ?_
    refine st1 rfl (op_lss (lb rfl)) (so rfl (so rfl sn)) ?_
    refine nk ?_
    refine acode_split (b := decide (x7 < 0)) (fun c8 => ?_) (fun c8 => ?_)
    ·
     replace hm := ite_t hm c8
     refine acode_cond_true rfl (c8) ?_
     refine sr ?_
     refine as_ (lb rfl) rfl ?_
     refine nkt ?_
     obtain rfl := Option.some.inj hm
     exact kseq_ret (fin2_retL (.cons (.c rfl) .nil) rfl .nil rfl rfl rfl)
    ·
     replace hm := ite_f hm c8
     refine acode_cond_false rfl (c8) ?_
     refine pk ?_
     refine sr ?_
     refine mv (lb rfl) rfl ?_
     refine as_ (lb rfl) rfl ?_
     refine nkt ?_
     obtain rfl := Option.some.inj hm
     exact fin2_retL (.cons (.c rfl) .nil) rfl .nil rfl rfl rfl

def m_markEngHouse (a : GHouse) (k : Int) : Option (Int × GHouse) := (m_markNetNetS a.nets k).bind fun x1 => ((m_markIntS a.people x1.1).bind fun x2 => ((m_markRdrNodeS a.tree x2.1).bind fun x3 => ((m_markEngRunS a.runs x3.1).bind fun x4 => (some (x4.1, (GHouse.mk x1.2 x2.2 x3.2 x4.2))))))


def m_heldEngHouse (a : GHouse) (k : Int) : Option Int := (m_heldNetNetS a.nets k).bind fun x1 => (if decide (x1 < 0) = true then (some (-1)) else ((m_heldIntS a.people x1).bind fun x3 => (if decide (x3 < 0) = true then (some (-1)) else ((m_heldRdrNodeS a.tree x3).bind fun x5 => (if decide (x5 < 0) = true then (some (-1)) else ((m_heldEngRunS a.runs x5).bind fun x7 => (if decide (x7 < 0) = true then (some (-1)) else (some x7))))))))


def m_markEngReq (a : GReq) (k : Int) : Option (Int × GReq) := (m_markIntS a.data k).bind fun x1 => (some (x1.1, (GReq.mk a.kind a.who a.case a.task a.var a.num x1.2 a.if_ a.ans)))


noncomputable def m_laws_FnExactCasStop (aN : GNet) (aC : GCase) : Option Bool := (m_szNetNet aN 1048576).bind fun x1 => (if decide (x1 < 0) = true then (some true) else ((m_szCasCase aC x1).bind fun x3 => (if decide (x3 < 0) = true then (some true) else ((m_toNetNet aN).bind fun x5 => ((m_toCasCase aC).bind fun x6 => ((m_spec_CasStop x5 x6).bind fun x7 => ((m_toNetNet aN).bind fun x8 => ((m_toCasCase aC).bind fun x9 => ((m_impl_CasStop x8 x9).bind fun x10 => ((m_eqCasCase x10.1 x7.1).bind fun x11 => (if x11 = true then (if (x10.2 == x7.2) = true then ((m_toNetNet aN).bind fun x14 => ((m_eqNetNet x8 x14).bind fun x15 => (if x15 = true then ((m_toCasCase aC).bind fun x17 => ((m_eqCasCase x9 x17).bind fun x18 => (if x18 = true then ((m_markNetNet x8 1).bind fun x20 => ((m_markCasCase x9 x20.1).bind fun x21 => (if decide (x21.1 < 0) = true then (some false) else ((m_eqCasCase x10.1 x7.1).bind fun x23 => (if x23 = true then ((m_markCasCase x10.1 1).bind fun x25 => ((m_heldCasCase (GCase.mk x10.1.state x25.2.marks x25.2.busy x25.2.data x25.2.did) 1).bind fun x26 => (if decide (x26 < 0) = true then (some false) else (if decide (x26 = x25.1) = true then ((m_toNetNet aN).bind fun x29 => ((m_toCasCase aC).bind fun x30 => ((m_impl_CasStop x29 x30).bind fun x31 => ((m_eqCasCase x31.1 x7.1).bind fun x32 => (if x32 = true then (if (x31.2 == x7.2) = true then ((m_heldCasCase (GCase.mk x10.1.state x25.2.marks x25.2.busy x25.2.data x25.2.did) 1).bind fun x35 => (if decide (x35 < 0) = true then (some false) else (if decide (x35 = x25.1) = true then (some true) else (some false)))) else (some false)) else (some false)))))) else (some false))))) else (some false)))))) else (some false)))) else (some false)))) else (some false)) else (some false))))))))))))

theorem c_laws_FnExactCasStop (aN : GNet) (aC : GCase) (rz : Bool) (hm : m_laws_FnExactCasStop aN aC = some rz) : FnB Try.prog 9 [.row (GNet.cells false aN), .row (GCase.cells false aC)] [.c (cB rz)] [] := by
 unfold m_laws_FnExactCasStop at hm
 refine fn_intro2 (n := 119) (rvs := [.tmp 4]) Try.func9 rfl rfl rfl (lb rfl) rfl rfl rfl rfl rfl ?_
 refine acode_seq ?_
 refine acode_le (le_stU (env := [(0, .row [cI aN.places, .sl false 9 (aN.tasks.map (GTask.cells false))]), (1, .row [cI aC.state, .sl false 1 (aC.marks.map (fun n : Int => [cI n])), .sl false 3 (aC.busy.map (GItem.cells false)), .sl false 1 (aC.data.map (fun n : Int => [cI n])), .sl false 2 (aC.did.map (GDid.cells false))])]) (obj := []) idn (.cons rfl rfl (.cons rfl rfl .nil)) .nil rfl) ?_
 refine acode_region ?_
 refine st1 rfl (op_box rfl (lb rfl)) (so rfl (sf rfl (sats_lives rfl))) ?_
 refine st1 rfl (op_box rfl (lb rfl)) (so rfl (sf rfl (sats_lives rfl))) ?_
 refine as_ (lb rfl) rfl ?_
 refine nk ?_
 refine sr ?_
 refine as_ (lb rfl) rfl ?_
 refine nk ?_
 refine sr ?_
 refine st1 rfl (op_load_bx_agg Try.isAgg54 Try.sizeOf54 rfl rfl (lb rfl)) (so rfl (sb rfl sn)) ?_
 refine mv (lb rfl) rfl ?_
 obtain ⟨x1, hx1, hm⟩ := bnd hm
 refine st1 rfl (op_call2 (ks := []) Try.func31 rfl rfl (cw_szNetNet aN 1048576 x1 hx1) (.cons ((.aggCons (.c rfl) (.aggCons (.c rfl) .aggNil rfl) rfl)) (.cons (.c rfl) .nil rfl) rfl) rfl rfl (.inl rfl) .nil rfl rfl (lb rfl)) (sats_opds (.cons rfl (.cons rfl .nil)) (sats_app (sats_freshL rfl) (sats_needsO obs_nil))) ?_
 refine as_ (lb rfl) rfl ?_
 refine nk ?_
 refine acode_seq ?_
 refine sr ?_
 refine mv (lb rfl) rfl ?_
 refine st1 rfl (op_lss (lb rfl)) (so rfl (so rfl sn)) ?_
 refine nk ?_
 refine acode_split (b := decide (x1 < 0)) (fun c2 => ?_) (fun c2 => ?_)
 ·
  replace hm := ite_t hm c2
  refine acode_cond_true rfl (c2) ?_
  refine sr ?_
  refine as_ (lb rfl) rfl ?_
  refine nkt ?_
  obtain rfl := Option.some.inj hm
  exact kseq_ret (fin2_retL (.cons (.c rfl) .nil) rfl .nil rfl rfl rfl)
 ·
  replace hm := ite_f hm c2
  refine acode_cond_false rfl (c2) ?_
  refine pk ?_
  refine sr ?_
  refine st1 rfl (op_load_bx_agg Try.isAgg58 Try.sizeOf58 rfl rfl (lb rfl)) (so rfl (sb rfl sn)) ?_
  refine mv (lb rfl) rfl ?_
  obtain ⟨x3, hx3, hm⟩ := bnd hm
  refine st1 rfl (op_call2 (ks := []) Try.func32 rfl rfl (cw_szCasCase aC x1 x3 hx3) (.cons ((.aggCons (.c rfl) (.aggCons (.c rfl) (.aggCons (.c rfl) (.aggCons (.c rfl) (.aggCons (.c rfl) .aggNil rfl) rfl) rfl) rfl) rfl)) (.cons (.c rfl) .nil rfl) rfl) rfl rfl (.inl rfl) .nil rfl rfl (lb rfl)) (sats_opds (.cons rfl (.cons rfl .nil)) (sats_app (sats_freshL rfl) (sats_needsO obs_nil))) ?_
  refine as_ (lb rfl) rfl ?_
  refine nk ?_
  refine acode_seq ?_
  refine acode_seq ?_
  refine acode_le (le_stU (env := [(2, .bx 2 0), (3, .bx 3 0), (5, aInt x3)]) (obj := [(2, .box [aInt aN.places, .c (.sl false 9 (aN.tasks.map (GTask.cells false)))]), (3, .box [aInt aC.state, .c (.sl false 1 (aC.marks.map (fun n : Int => [cI n]))), .c (.sl false 3 (aC.busy.map (GItem.cells false))), .c (.sl false 1 (aC.data.map (fun n : Int => [cI n]))), .c (.sl false 2 (aC.did.map (GDid.cells false)))])]) idn (.cons rfl rfl (.cons rfl rfl (.cons rfl rfl .nil))) (.cons rfl rfl (.inl rfl) (.cons rfl rfl (.inl rfl) .nil)) rfl) ?_
  refine acode_region ?_
  refine mv (lb rfl) rfl ?_
  refine st1 rfl (op_lss (lb rfl)) (so rfl (so rfl sn)) ?_
  refine nk ?_
  refine acode_split (b := decide (x3 < 0)) (fun c4 => ?_) (fun c4 => ?_)
  ·
   replace hm := ite_t hm c4
   refine acode_cond_true rfl (c4) ?_
   refine sr ?_
   refine as_ (lb rfl) rfl ?_
   refine nkt ?_
   obtain rfl := Option.some.inj hm
   exact kseq_ret (fin2_retL (.cons (.c rfl) .nil) rfl .nil rfl rfl rfl)
  ·
   replace hm := ite_f hm c4
   refine acode_cond_false rfl (c4) ?_
   refine pk ?_
   refine acode_seq ?_
   refine acode_region_drawO [0, 1, 2, 3, 4, 5, 6, 7, 8, 9, 10] mixed (by kernel_rfl) ?_
   refine sd1 rfl rfl (op_load_bx_agg Try.isAgg54 Try.sizeOf54 rfl rfl (lb rfl)) (so rfl (sb rfl sn)) ?_
   obtain ⟨x5, hx5, hm⟩ := bnd hm
   refine sd1 rfl rfl (op_call2 (ks := []) Try.func34 rfl rfl (cw_toNetNet aN x5 hx5) (.cons ((.aggCons (.c rfl) (.aggCons (.c rfl) .aggNil rfl) rfl)) .nil rfl) rfl rfl (.inl rfl) .nil rfl rfl (lb rfl)) (sats_opds (.cons rfl .nil) (sats_app (sats_freshL rfl) (sats_needsO obs_nil))) ?_
   refine sd1 rfl rfl (op_load_bx_agg Try.isAgg58 Try.sizeOf58 rfl rfl (lb rfl)) (so rfl (sb rfl sn)) ?_
   obtain ⟨x6, hx6, hm⟩ := bnd hm
   refine sd1 rfl rfl (op_call2 (ks := []) Try.func35 rfl rfl (cw_toCasCase aC x6 hx6) (.cons ((.aggCons (.c rfl) (.aggCons (.c rfl) (.aggCons (.c rfl) (.aggCons (.c rfl) (.aggCons (.c rfl) .aggNil rfl) rfl) rfl) rfl) rfl)) .nil rfl) rfl rfl (.inl rfl) .nil rfl rfl (lb rfl)) (sats_opds (.cons rfl .nil) (sats_app (sats_freshL rfl) (sats_needsO obs_nil))) ?_
   obtain ⟨x7, hx7, hm⟩ := bnd hm
   refine sd1 rfl rfl (op_call2 (ks := []) Try.func43 rfl rfl (c_spec_CasStop x5 x6 x7 hx7) (.cons ((.aggCons (.c rfl) (.aggCons (.ref rfl (rowGTask.rnobox true _) (rowGTask.rshare true _)) .aggNil rfl) rfl)) (.cons ((.aggCons (.c rfl) (.aggCons (.ref rfl (rowI.rnobox true _) (rowI.rshare true _)) (.aggCons (.ref rfl (rowGItem.rnobox true _) (rowGItem.rshare true _)) (.aggCons (.ref rfl (rowI.rnobox true _) (rowI.rshare true _)) (.aggCons (.ref rfl (rowGDid.rnobox true _) (rowGDid.rshare true _)) .aggNil rfl) rfl) rfl) rfl) rfl)) .nil rfl) rfl) rfl rfl (.inr ⟨(sol_cons (rowGCase.solid _) (sol_cons rfl sol_nil)), fun p hp => (by cases hp)⟩) .nil rfl rfl (lb rfl)) (sats_opds (.cons rfl (.cons rfl .nil)) (sats_app (sats_freshL rfl) (sats_needsO (obs_cons rfl (obs_cons rfl (obs_cons rfl (obs_cons rfl (obs_cons rfl obs_nil)))))))) ?_
   refine sd1 rfl rfl (op_move (lb rfl)) (so rfl sn) ?_
   refine sd1 rfl rfl (op_extract rfl (lb rfl)) (so rfl (sats_lives rfl)) ?_
   refine sd1 rfl rfl (op_extract rfl (lb rfl)) (so rfl (sats_lives rfl)) ?_
   refine sd1 rfl rfl (op_alloc Try.zeroValue70 rfl (lb rfl)) (sf rfl sn) ?_
   refine sd1 rfl rfl (op_store_bxS Try.sizeOf70 rfl rfl rfl rfl) (so rfl (so rfl (sb rfl (sats_lives rfl)))) ?_
   refine sd1 rfl rfl (op_assign (lb rfl)) (so rfl sn) ?_
   refine rgd_nil (by kernel_rfl) ?_
   refine kseq_normal ?_
   refine sr ?_
   refine st1 rfl (op_load_bx_agg Try.isAgg54 Try.sizeOf54 rfl rfl (lb rfl)) (so rfl (sb rfl sn)) ?_
   obtain ⟨x8, hx8, hm⟩ := bnd hm
   refine st1 rfl (op_call2 (ks := []) Try.func34 rfl rfl (cw_toNetNet aN x8 hx8) (.cons ((.aggCons (.c rfl) (.aggCons (.c rfl) .aggNil rfl) rfl)) .nil rfl) rfl rfl (.inl rfl) .nil rfl rfl (lb rfl)) (sats_opds (.cons rfl .nil) (sats_app (sats_freshL rfl) (sats_needsO obs_nil))) ?_
   refine st1 rfl (op_alloc Try.zeroValue65 rfl (lb rfl)) (sf rfl sn) ?_
   refine st1 rfl (op_store_bxS Try.sizeOf65 rfl rfl rfl rfl) (so rfl (so rfl (sb rfl (sats_lives rfl)))) ?_
   refine nk ?_
   refine acode_seq ?_
   refine acode_le (le_stU (env := [(2, .bx 2 0), (3, .bx 3 0), (6, .bx 6 0), (7, aBool x7.2), (8, .bx 8 0)]) (obj := [(2, .box [aInt aN.places, .c (.sl false 9 (aN.tasks.map (GTask.cells false)))]), (3, .box [aInt aC.state, .c (.sl false 1 (aC.marks.map (fun n : Int => [cI n]))), .c (.sl false 3 (aC.busy.map (GItem.cells false))), .c (.sl false 1 (aC.data.map (fun n : Int => [cI n]))), .c (.sl false 2 (aC.did.map (GDid.cells false)))]), (6, .box [aInt x7.1.state, .ref 10032 [], .ref 20032 [], .ref 30032 [], .ref 40032 []]), (10032, .arr 1 (x7.1.marks.map (fun n : Int => [cI n]))), (20032, .arr 3 (x7.1.busy.map (GItem.cells true))), (30032, .arr 1 (x7.1.data.map (fun n : Int => [cI n]))), (40032, .arr 2 (x7.1.did.map (GDid.cells true))), (8, .box [aInt x8.places, .ref 10036 []]), (10036, .arr 9 (x8.tasks.map (GTask.cells true)))]) idn (.cons rfl rfl (.cons rfl rfl (.cons rfl rfl (.cons rfl rfl (.cons rfl rfl .nil))))) (.cons rfl rfl (.inl rfl) (.cons rfl rfl (.inl rfl) (.cons rfl rfl (.inl rfl) (.cons rfl rfl (.inl rfl) (.cons rfl rfl (.inl rfl) (.cons rfl rfl (.inl rfl) (.cons rfl rfl (.inl rfl) (.cons rfl rfl (.inl rfl) (.cons rfl rfl (.inl rfl) .nil))))))))) rfl) ?_
   refine acode_region ?_
   refine st1 rfl (op_load_bx_agg Try.isAgg58 Try.sizeOf58 rfl rfl (lb rfl)) (so rfl (sb rfl sn)) ?_
   obtain ⟨x9, hx9, hm⟩ := bnd hm
   refine st1 rfl (op_call2 (ks := []) Try.func35 rfl rfl (cw_toCasCase aC x9 hx9) (.cons ((.aggCons (.c rfl) (.aggCons (.c rfl) (.aggCons (.c rfl) (.aggCons (.c rfl) (.aggCons (.c rfl) .aggNil rfl) rfl) rfl) rfl) rfl)) .nil rfl) rfl rfl (.inl rfl) .nil rfl rfl (lb rfl)) (sats_opds (.cons rfl .nil) (sats_app (sats_freshL rfl) (sats_needsO obs_nil))) ?_
   refine st1 rfl (op_alloc Try.zeroValue70 rfl (lb rfl)) (sf rfl sn) ?_
   refine st1 rfl (op_store_bxS Try.sizeOf70 rfl rfl rfl rfl) (so rfl (so rfl (sb rfl (sats_lives rfl)))) ?_
   refine nk ?_
   refine sr ?_
   refine st1 rfl (op_load_bx_agg Try.isAgg65 Try.sizeOf65 rfl rfl (lb rfl)) (so rfl (sb rfl sn)) ?_
   refine st1 rfl (op_load_bx_agg Try.isAgg70 Try.sizeOf70 rfl rfl (lb rfl)) (so rfl (sb rfl sn)) ?_
   obtain ⟨x10, hx10, hm⟩ := bnd hm
   refine st1 rfl (op_call2 (ks := []) Try.func44 rfl rfl (c_impl_CasStop x8 x9 x10 hx10) (.cons ((.aggCons (.c rfl) (.aggCons (.ref rfl (rowGTask.rnobox true _) (rowGTask.rshare true _)) .aggNil rfl) rfl)) (.cons ((.aggCons (.c rfl) (.aggCons (.ref rfl (rowI.rnobox true _) (rowI.rshare true _)) (.aggCons (.ref rfl (rowGItem.rnobox true _) (rowGItem.rshare true _)) (.aggCons (.ref rfl (rowI.rnobox true _) (rowI.rshare true _)) (.aggCons (.ref rfl (rowGDid.rnobox true _) (rowGDid.rshare true _)) .aggNil rfl) rfl) rfl) rfl) rfl)) .nil rfl) rfl) rfl rfl (.inr ⟨(sol_cons (rowGCase.solid _) (sol_cons rfl sol_nil)), fun p hp => (by cases hp)⟩) .nil rfl rfl (lb rfl)) (sats_opds (.cons rfl (.cons rfl .nil)) (sats_app (sats_freshL rfl) (sats_needsO (obs_cons rfl (obs_cons rfl (obs_cons rfl (obs_cons rfl (obs_cons rfl obs_nil)))))))) ?_
   refine mv (lb rfl) rfl ?_
   refine st1 rfl (op_extract rfl (lb rfl)) (so rfl (sats_lives rfl)) ?_
   refine st1 rfl (op_extract rfl (lb rfl)) (so rfl (sats_lives rfl)) ?_
   refine st1 rfl (op_alloc Try.zeroValue70 rfl (lb rfl)) (sf rfl sn) ?_
   refine st1 rfl (op_store_bxS Try.sizeOf70 rfl rfl rfl rfl) (so rfl (so rfl (sb rfl (sats_lives rfl)))) ?_
   refine as_ (lb rfl) rfl ?_
   refine nk ?_
   refine acode_seq ?_
   refine sr ?_
   refine st1 rfl (op_load_bx_agg Try.isAgg70 Try.sizeOf70 rfl rfl (lb rfl)) (so rfl (sb rfl sn)) ?_
   refine st1 rfl (op_load_bx_agg Try.isAgg70 Try.sizeOf70 rfl rfl (lb rfl)) (so rfl (sb rfl sn)) ?_
   obtain ⟨x11, hx11, hm⟩ := bnd hm
   refine st1 rfl (op_call2 (ks := []) Try.func38 rfl rfl (cw_eqCasCase x10.1 x7.1 x11 hx11) (.cons ((.aggCons (.c rfl) (.aggCons (.ref rfl (rowI.rnobox true _) (rowI.rshare true _)) (.aggCons (.ref rfl (rowGItem.rnobox true _) (rowGItem.rshare true _)) (.aggCons (.ref rfl (rowI.rnobox true _) (rowI.rshare true _)) (.aggCons (.ref rfl (rowGDid.rnobox true _) (rowGDid.rshare true _)) .aggNil rfl) rfl) rfl) rfl) rfl)) (.cons ((.aggCons (.c rfl) (.aggCons (.ref rfl (rowI.rnobox true _) (rowI.rshare true _)) (.aggCons (.ref rfl (rowGItem.rnobox true _) (rowGItem.rshare true _)) (.aggCons (.ref rfl (rowI.rnobox true _) (rowI.rshare true _)) (.aggCons (.ref rfl (rowGDid.rnobox true _) (rowGDid.rshare true _)) .aggNil rfl) rfl) rfl) rfl) rfl)) .nil rfl) rfl) rfl rfl (.inr ⟨(sol_cons rfl sol_nil), fun p hp => (by cases hp)⟩) .nil rfl rfl (lb rfl)) (sats_opds (.cons rfl (.cons rfl .nil)) (sats_app (sats_freshL rfl) (sats_needsO (obs_cons rfl (obs_cons rfl (obs_cons rfl (obs_cons rfl (obs_cons rfl (obs_cons rfl (obs_cons rfl (obs_cons rfl obs_nil))))))))))) ?_
   refine st1 rfl (op_not (lb rfl)) (so rfl sn) ?_
   refine mv (lb rfl) rfl ?_
   refine rg_split (b := x11) (fun c12 => ?_) (fun c12 => ?_)
   ·
    replace hm := ite_t hm c12
    refine st1on rfl rfl rfl (not_t (c12)) (op_move (lb rfl)) (so rfl sn) ?_
    refine st1on rfl rfl rfl (not_t (c12)) (op_move (lb rfl)) (so rfl sn) ?_
    refine st1on rfl rfl rfl (not_t (c12)) (op_neqb Try.underlying4 (lb rfl)) (so rfl (so rfl sn)) ?_
    refine st1 rfl (op_pick_false (lb rfl) (not_t (c12))) (so rfl (so rfl sn)) ?_
    refine nk ?_
    refine acode_split (b := (x10.2 == x7.2)) (fun c13 => ?_) (fun c13 => ?_)
    ·
     replace hm := ite_t hm c13
     refine acode_cond_false rfl (not_t (c13)) ?_
     refine pk ?_
     refine acode_seq ?_
     refine acode_seq ?_
     refine acode_le (le_stU (env := [(2, .bx 2 0), (3, .bx 3 0), (6, .bx 6 0), (7, aBool x7.2), (8, .bx 8 0), (9, .bx 9 0), (10, .bx 10 0), (11, aBool x10.2)]) (obj := [(2, .box [aInt aN.places, .c (.sl false 9 (aN.tasks.map (GTask.cells false)))]), (3, .box [aInt aC.state, .c (.sl false 1 (aC.marks.map (fun n : Int => [cI n]))), .c (.sl false 3 (aC.busy.map (GItem.cells false))), .c (.sl false 1 (aC.data.map (fun n : Int => [cI n]))), .c (.sl false 2 (aC.did.map (GDid.cells false)))]), (6, .box [aInt x7.1.state, .ref 10032 [], .ref 20032 [], .ref 30032 [], .ref 40032 []]), (10032, .arr 1 (x7.1.marks.map (fun n : Int => [cI n]))), (20032, .arr 3 (x7.1.busy.map (GItem.cells true))), (30032, .arr 1 (x7.1.data.map (fun n : Int => [cI n]))), (40032, .arr 2 (x7.1.did.map (GDid.cells true))), (8, .box [aInt x8.places, .ref 10036 []]), (10036, .arr 9 (x8.tasks.map (GTask.cells true))), (9, .box [aInt x9.state, .ref 10038 [], .ref 20038 [], .ref 30038 [], .ref 40038 []]), (10038, .arr 1 (x9.marks.map (fun n : Int => [cI n]))), (20038, .arr 3 (x9.busy.map (GItem.cells true))), (30038, .arr 1 (x9.data.map (fun n : Int => [cI n]))), (40038, .arr 2 (x9.did.map (GDid.cells true))), (10, .box [aInt x10.1.state, .ref 10042 [], .ref 20042 [], .ref 30042 [], .ref 40042 []]), (10042, .arr 1 (x10.1.marks.map (fun n : Int => [cI n]))), (20042, .arr 3 (x10.1.busy.map (GItem.cells true))), (30042, .arr 1 (x10.1.data.map (fun n : Int => [cI n]))), (40042, .arr 2 (x10.1.did.map (GDid.cells true)))]) idn (.cons rfl rfl (.cons rfl rfl (.cons rfl rfl (.cons rfl rfl (.cons rfl rfl (.cons rfl rfl (.cons rfl rfl (.cons rfl rfl .nil)))))))) (.cons rfl rfl (.inl rfl) (.cons rfl rfl (.inl rfl) (.cons rfl rfl (.inl rfl) (.cons rfl rfl (.inl rfl) (.cons rfl rfl (.inl rfl) (.cons rfl rfl (.inl rfl) (.cons rfl rfl (.inl rfl) (.cons rfl rfl (.inl rfl) (.cons rfl rfl (.inl rfl) (.cons rfl rfl (.inl rfl) (.cons rfl rfl (.inl rfl) (.cons rfl rfl (.inl rfl) (.cons rfl rfl (.inl rfl) (.cons rfl rfl (.inl rfl) (.cons rfl rfl (.inl rfl) (.cons rfl rfl (.inl rfl) (.cons rfl rfl (.inl rfl) (.cons rfl rfl (.inl rfl) (.cons rfl rfl (.inl rfl) .nil))))))))))))))))))) rfl) ?_
     refine acode_region_draw mixed rfl ?_
     refine st1 rfl (op_load_bx_agg Try.isAgg65 Try.sizeOf65 rfl rfl (lb rfl)) (so rfl (sb rfl sn)) ?_
     refine st1 rfl (op_load_bx_agg Try.isAgg54 Try.sizeOf54 rfl rfl (lb rfl)) (so rfl (sb rfl sn)) ?_
     obtain ⟨x14, hx14, hm⟩ := bnd hm
     refine st1 rfl (op_call2 (ks := []) Try.func34 rfl rfl (cw_toNetNet aN x14 hx14) (.cons ((.aggCons (.c rfl) (.aggCons (.c rfl) .aggNil rfl) rfl)) .nil rfl) rfl rfl (.inl rfl) .nil rfl rfl (lb rfl)) (sats_opds (.cons rfl .nil) (sats_app (sats_freshL rfl) (sats_needsO obs_nil))) ?_
     obtain ⟨x15, hx15, hm⟩ := bnd hm
     refine st1 rfl (op_call2 (ks := []) Try.func37 rfl rfl (cw_eqNetNet x8 x14 x15 hx15) (.cons ((.aggCons (.c rfl) (.aggCons (.ref rfl (rowGTask.rnobox true _) (rowGTask.rshare true _)) .aggNil rfl) rfl)) (.cons ((.aggCons (.c rfl) (.aggCons (.ref rfl (rowGTask.rnobox true _) (rowGTask.rshare true _)) .aggNil rfl) rfl)) .nil rfl) rfl) rfl rfl (.inr ⟨(sol_cons rfl sol_nil), fun p hp => (by cases hp)⟩) .nil rfl rfl (lb rfl)) (sats_opds (.cons rfl (.cons rfl .nil)) (sats_app (sats_freshL rfl) (sats_needsO (obs_cons rfl (obs_cons rfl obs_nil))))) ?_
     refine st1 rfl (op_not (lb rfl)) (so rfl sn) ?_
     refine rg_nil_draw (by kernel_rfl) ?_
     refine kseq_normal ?_
     refine acode_split (b := x15) (fun c16 => ?_) (fun c16 => ?_)
     ·
      replace hm := ite_t hm c16
      refine acode_cond_false rfl (not_t (c16)) ?_
      refine pk ?_
      refine acode_seq ?_
      refine acode_seq ?_
      refine acode_region_draw mixed rfl ?_
      refine st1 rfl (op_load_bx_agg Try.isAgg70 Try.sizeOf70 rfl rfl (lb rfl)) (so rfl (sb rfl sn)) ?_
      refine st1 rfl (op_load_bx_agg Try.isAgg58 Try.sizeOf58 rfl rfl (lb rfl)) (so rfl (sb rfl sn)) ?_
      obtain ⟨x17, hx17, hm⟩ := bnd hm
      refine st1 rfl (op_call2 (ks := []) Try.func35 rfl rfl (cw_toCasCase aC x17 hx17) (.cons ((.aggCons (.c rfl) (.aggCons (.c rfl) (.aggCons (.c rfl) (.aggCons (.c rfl) (.aggCons (.c rfl) .aggNil rfl) rfl) rfl) rfl) rfl)) .nil rfl) rfl rfl (.inl rfl) .nil rfl rfl (lb rfl)) (sats_opds (.cons rfl .nil) (sats_app (sats_freshL rfl) (sats_needsO obs_nil))) ?_
      obtain ⟨x18, hx18, hm⟩ := bnd hm
      refine st1 rfl (op_call2 (ks := []) Try.func38 rfl rfl (cw_eqCasCase x9 x17 x18 hx18) (.cons ((.aggCons (.c rfl) (.aggCons (.ref rfl (rowI.rnobox true _) (rowI.rshare true _)) (.aggCons (.ref rfl (rowGItem.rnobox true _) (rowGItem.rshare true _)) (.aggCons (.ref rfl (rowI.rnobox true _) (rowI.rshare true _)) (.aggCons (.ref rfl (rowGDid.rnobox true _) (rowGDid.rshare true _)) .aggNil rfl) rfl) rfl) rfl) rfl)) (.cons ((.aggCons (.c rfl) (.aggCons (.ref rfl (rowI.rnobox true _) (rowI.rshare true _)) (.aggCons (.ref rfl (rowGItem.rnobox true _) (rowGItem.rshare true _)) (.aggCons (.ref rfl (rowI.rnobox true _) (rowI.rshare true _)) (.aggCons (.ref rfl (rowGDid.rnobox true _) (rowGDid.rshare true _)) .aggNil rfl) rfl) rfl) rfl) rfl)) .nil rfl) rfl) rfl rfl (.inr ⟨(sol_cons rfl sol_nil), fun p hp => (by cases hp)⟩) .nil rfl rfl (lb rfl)) (sats_opds (.cons rfl (.cons rfl .nil)) (sats_app (sats_freshL rfl) (sats_needsO (obs_cons rfl (obs_cons rfl (obs_cons rfl (obs_cons rfl (obs_cons rfl (obs_cons rfl (obs_cons rfl (obs_cons rfl obs_nil))))))))))) ?_
      refine st1 rfl (op_not (lb rfl)) (so rfl sn) ?_
      refine rg_nil_draw (by kernel_rfl) ?_
      refine kseq_normal ?_
      refine acode_split (b := x18) (fun c19 => ?_) (fun c19 => ?_)
      ·
       replace hm := ite_t hm c19
       refine acode_cond_false rfl (not_t (c19)) ?_
       refine pk ?_
       refine sr ?_
       refine as_ (lb rfl) rfl ?_
       refine nk ?_
       refine sr ?_
       refine st1 rfl (op_load_bx_agg Try.isAgg65 Try.sizeOf65 rfl rfl (lb rfl)) (so rfl (sb rfl sn)) ?_
       refine mv (lb rfl) rfl ?_
       obtain ⟨x20, hx20, hm⟩ := bnd hm
       refine st1 rfl (op_call2 (ks := [10036]) Try.func39 rfl rfl (c_markNetNet x8 1 x20 hx20) (.cons ((.aggCons (.c rfl) (.aggCons .own .aggNil rfl) rfl)) (.cons (.c rfl) .nil rfl) rfl) rfl rfl (.inl rfl) (.cons rfl (.aggC (.aggRef .aggNil)) .nil) rfl rfl (lb rfl)) (sats_opds (.cons rfl (.cons rfl .nil)) (sats_app (sats_freshL rfl) (sats_needsO (obs_cons rfl obs_nil)))) ?_
       refine as_ (lb rfl) rfl ?_
       refine nk ?_
       refine acode_seq ?_
       refine acode_le (le_stU (env := [(2, .bx 2 0), (3, .bx 3 0), (6, .bx 6 0), (7, aBool x7.2), (9, .bx 9 0), (10, .bx 10 0), (11, aBool x10.2), (12, aInt x20.1)]) (obj := [(2, .box [aInt aN.places, .c (.sl false 9 (aN.tasks.map (GTask.cells false)))]), (3, .box [aInt aC.state, .c (.sl false 1 (aC.marks.map (fun n : Int => [cI n]))), .c (.sl false 3 (aC.busy.map (GItem.cells false))), .c (.sl false 1 (aC.data.map (fun n : Int => [cI n]))), .c (.sl false 2 (aC.did.map (GDid.cells false)))]), (6, .box [aInt x7.1.state, .ref 10032 [], .ref 20032 [], .ref 30032 [], .ref 40032 []]), (10032, .arr 1 (x7.1.marks.map (fun n : Int => [cI n]))), (20032, .arr 3 (x7.1.busy.map (GItem.cells true))), (30032, .arr 1 (x7.1.data.map (fun n : Int => [cI n]))), (40032, .arr 2 (x7.1.did.map (GDid.cells true))), (9, .box [aInt x9.state, .ref 10038 [], .ref 20038 [], .ref 30038 [], .ref 40038 []]), (10038, .arr 1 (x9.marks.map (fun n : Int => [cI n]))), (20038, .arr 3 (x9.busy.map (GItem.cells true))), (30038, .arr 1 (x9.data.map (fun n : Int => [cI n]))), (40038, .arr 2 (x9.did.map (GDid.cells true))), (10, .box [aInt x10.1.state, .ref 10042 [], .ref 20042 [], .ref 30042 [], .ref 40042 []]), (10042, .arr 1 (x10.1.marks.map (fun n : Int => [cI n]))), (20042, .arr 3 (x10.1.busy.map (GItem.cells true))), (30042, .arr 1 (x10.1.data.map (fun n : Int => [cI n]))), (40042, .arr 2 (x10.1.did.map (GDid.cells true)))]) idn (.cons rfl rfl (.cons rfl rfl (.cons rfl rfl (.cons rfl rfl (.cons rfl rfl (.cons rfl rfl (.cons rfl rfl (.cons rfl rfl .nil)))))))) (.cons rfl rfl (.inl rfl) (.cons rfl rfl (.inl rfl) (.cons rfl rfl (.inl rfl) (.cons rfl rfl (.inl rfl) (.cons rfl rfl (.inl rfl) (.cons rfl rfl (.inl rfl) (.cons rfl rfl (.inl rfl) (.cons rfl rfl (.inl rfl) (.cons rfl rfl (.inl rfl) (.cons rfl rfl (.inl rfl) (.cons rfl rfl (.inl rfl) (.cons rfl rfl (.inl rfl) (.cons rfl rfl (.inl rfl) (.cons rfl rfl (.inl rfl) (.cons rfl rfl (.inl rfl) (.cons rfl rfl (.inl rfl) (.cons rfl rfl (.inl rfl) .nil))))))))))))))))) rfl) ?_
       refine acode_region ?_
       refine st1 rfl (op_load_bx_agg Try.isAgg70 Try.sizeOf70 rfl rfl (lb rfl)) (so rfl (sb rfl sn)) ?_
       refine mv (lb rfl) rfl ?_
       obtain ⟨x21, hx21, hm⟩ := bnd hm
       refine st1 rfl (op_call2 (ks := [10038, 20038, 30038, 40038]) Try.func40 rfl rfl (c_markCasCase x9 x20.1 x21 hx21) (.cons ((.aggCons (.c rfl) (.aggCons .own (.aggCons .own (.aggCons .own (.aggCons .own .aggNil rfl) rfl) rfl) rfl) rfl)) (.cons (.c rfl) .nil rfl) rfl) rfl rfl (.inl rfl) (.cons rfl (.aggC (.aggRef (.aggRef (.aggRef (.aggRef .aggNil))))) .nil) rfl rfl (lb rfl)) (sats_opds (.cons rfl (.cons rfl .nil)) (sats_app (sats_freshL rfl) (sats_needsO (obs_cons rfl (obs_cons rfl (obs_cons rfl (obs_cons rfl obs_nil))))))) ?_
       refine as_ (lb rfl) rfl ?_
       refine nk ?_
       refine acode_seq ?_
       refine sr ?_
       refine mv (lb rfl) rfl ?_
       refine st1 rfl (op_lss (lb rfl)) (so rfl (so rfl sn)) ?_
       refine mv (lb rfl) rfl ?_
       refine rg_split (b := decide (x21.1 < 0)) (fun c22 => ?_) (fun c22 => ?_)
       ·
        replace hm := ite_t hm c22
        refine st1off rfl rfl (lb rfl) rfl rfl (c22) ?_
        refine st1off rfl rfl (lb rfl) rfl rfl (c22) ?_
        refine st1off rfl rfl (lb rfl) rfl rfl (c22) ?_
        refine st1off rfl rfl (lb rfl) rfl rfl (c22) ?_
        refine st1 rfl (op_pick_true (lb rfl) (c22)) (so rfl (so rfl sn)) ?_
        refine mv (lb rfl) rfl ?_
        refine st1off rfl rfl (lb rfl) rfl rfl (rfl) ?_
        refine st1off rfl rfl (lb rfl) rfl rfl (rfl) ?_
        refine st1off rfl rfl (lb rfl) rfl rfl (rfl) ?_
        refine st1 rfl (op_pick_true (lb rfl) (rfl)) (so rfl (so rfl sn)) ?_
        refine nk ?_
        refine acode_cond_true rfl (rfl) ?_
        refine acode_seq ?_
        refine acode_le (le_stU (env := []) (obj := []) idn .nil .nil rfl) ?_
        refine acode_region ?_
        refine as_ (lb rfl) rfl ?_
        refine nkt ?_
        obtain rfl := Option.some.inj hm
        exact kseq_ret (fin2_retL (.cons (.c rfl) .nil) rfl .nil rfl rfl rfl)
       ·
        replace hm := ite_f hm c22
        refine st1on rfl rfl rfl (c22) (op_load_bx_agg Try.isAgg70 Try.sizeOf70 rfl rfl (lb rfl)) (so rfl (sb rfl sn)) ?_
        refine st1on rfl rfl rfl (c22) (op_load_bx_agg Try.isAgg70 Try.sizeOf70 rfl rfl (lb rfl)) (so rfl (sb rfl sn)) ?_
        obtain ⟨x23, hx23, hm⟩ := bnd hm
        refine st1on rfl rfl rfl (c22) (op_call2 (ks := []) Try.func38 rfl rfl (cw_eqCasCase x10.1 x7.1 x23 hx23) (.cons ((.aggCons (.c rfl) (.aggCons (.ref rfl (rowI.rnobox true _) (rowI.rshare true _)) (.aggCons (.ref rfl (rowGItem.rnobox true _) (rowGItem.rshare true _)) (.aggCons (.ref rfl (rowI.rnobox true _) (rowI.rshare true _)) (.aggCons (.ref rfl (rowGDid.rnobox true _) (rowGDid.rshare true _)) .aggNil rfl) rfl) rfl) rfl) rfl)) (.cons ((.aggCons (.c rfl) (.aggCons (.ref rfl (rowI.rnobox true _) (rowI.rshare true _)) (.aggCons (.ref rfl (rowGItem.rnobox true _) (rowGItem.rshare true _)) (.aggCons (.ref rfl (rowI.rnobox true _) (rowI.rshare true _)) (.aggCons (.ref rfl (rowGDid.rnobox true _) (rowGDid.rshare true _)) .aggNil rfl) rfl) rfl) rfl) rfl)) .nil rfl) rfl) rfl rfl (.inr ⟨(sol_cons rfl sol_nil), fun p hp => (by cases hp)⟩) .nil rfl rfl (lb rfl)) (sats_opds (.cons rfl (.cons rfl .nil)) (sats_app (sats_freshL rfl) (sats_needsO (obs_cons rfl (obs_cons rfl (obs_cons rfl (obs_cons rfl (obs_cons rfl (obs_cons rfl (obs_cons rfl (obs_cons rfl obs_nil))))))))))) ?_
        refine st1on rfl rfl rfl (c22) (op_not (lb rfl)) (so rfl sn) ?_
        refine st1 rfl (op_pick_false (lb rfl) (c22)) (so rfl (so rfl sn)) ?_
        refine mv (lb rfl) rfl ?_
        refine rg_split (b := x23) (fun c24 => ?_) (fun c24 => ?_)
        ·
         replace hm := ite_t hm c24
         refine st1on rfl rfl rfl (not_t (c24)) (op_move (lb rfl)) (so rfl sn) ?_
         refine st1on rfl rfl rfl (not_t (c24)) (op_move (lb rfl)) (so rfl sn) ?_
         refine st1on rfl rfl rfl (not_t (c24)) (op_neqb Try.underlying4 (lb rfl)) (so rfl (so rfl sn)) ?_
         refine st1 rfl (op_pick_false (lb rfl) (not_t (c24))) (so rfl (so rfl sn)) ?_
         refine nk ?_
         refine acode_cond_false rfl (not_t (c13)) ?_
         refine pk ?_
         refine sr ?_
         refine as_ (lb rfl) rfl ?_
         refine nk ?_
         refine sr ?_
         refine st1 rfl (op_load_bx_agg Try.isAgg70 Try.sizeOf70 rfl rfl (lb rfl)) (so rfl (sb rfl sn)) ?_
         refine mv (lb rfl) rfl ?_
         obtain ⟨x25, hx25, hm⟩ := bnd hm
         refine st1 rfl (op_call2 (ks := [10042, 20042, 30042, 40042]) Try.func40 rfl rfl (c_markCasCase x10.1 1 x25 hx25) (.cons ((.aggCons (.c rfl) (.aggCons .own (.aggCons .own (.aggCons .own (.aggCons .own .aggNil rfl) rfl) rfl) rfl) rfl)) (.cons (.c rfl) .nil rfl) rfl) rfl rfl (.inl rfl) (.cons rfl (.aggC (.aggRef (.aggRef (.aggRef (.aggRef .aggNil))))) .nil) rfl rfl (lb rfl)) (sats_opds (.cons rfl (.cons rfl .nil)) (sats_app (sats_freshL rfl) (sats_needsO (obs_cons rfl (obs_cons rfl (obs_cons rfl (obs_cons rfl obs_nil))))))) ?_
         refine as_ (lb rfl) rfl ?_
         refine nk ?_
         refine sr ?_
         refine as_ (lb rfl) rfl ?_
         refine nk ?_
         refine sr ?_
         refine st1 rfl (op_load_bx_agg Try.isAgg70 Try.sizeOf70 rfl rfl (lb rfl)) (so rfl (sb rfl sn)) ?_
         refine mv (lb rfl) rfl ?_
         obtain ⟨x26, hx26, hm⟩ := bnd hm
         refine st1 rfl (op_call2 (ks := []) Try.func45 rfl rfl (c_heldCasCase (GCase.mk x10.1.state x25.2.marks x25.2.busy x25.2.data x25.2.did) 1 x26 hx26) (.cons ((.aggCons (.c rfl) (.aggCons (.ref rfl (rowI.rnobox true _) (rowI.rshare true _)) (.aggCons (.ref rfl (rowGItem.rnobox true _) (rowGItem.rshare true _)) (.aggCons (.ref rfl (rowI.rnobox true _) (rowI.rshare true _)) (.aggCons (.ref rfl (rowGDid.rnobox true _) (rowGDid.rshare true _)) .aggNil rfl) rfl) rfl) rfl) rfl)) (.cons (.c rfl) .nil rfl) rfl) rfl rfl (.inr ⟨(sol_cons rfl sol_nil), fun p hp => (by cases hp)⟩) .nil rfl rfl (lb rfl)) (sats_opds (.cons rfl (.cons rfl .nil)) (sats_app (sats_freshL rfl) (sats_needsO (obs_cons rfl (obs_cons rfl (obs_cons rfl (obs_cons rfl obs_nil))))))) ?_
         refine as_ (lb rfl) rfl ?_
         refine nk ?_
         refine acode_seq ?_
         refine sr ?_
         refine mv (lb rfl) rfl ?_
         refine st1 rfl (op_lss (lb rfl)) (so rfl (so rfl sn)) ?_
         refine nk ?_
         refine acode_split (b := decide (x26 < 0)) (fun c27 => ?_) (fun c27 => ?_)
         ·
          replace hm := ite_t hm c27
          refine acode_cond_true rfl (c27) ?_
          refine sr ?_
          refine as_ (lb rfl) rfl ?_
          refine nkt ?_
          obtain rfl := Option.some.inj hm
          exact kseq_ret (fin2_retL (.cons (.c rfl) .nil) rfl .nil rfl rfl rfl)
         ·
          replace hm := ite_f hm c27
          refine acode_cond_false rfl (c27) ?_
          refine pk ?_
          refine acode_seq ?_
          refine sr ?_
          refine mv (lb rfl) rfl ?_
          refine mv (lb rfl) rfl ?_
          refine st1 rfl (op_neq (lb rfl)) (so rfl (so rfl sn)) ?_
          refine nk ?_
          refine acode_split (b := decide (x26 = x25.1)) (fun c28 => ?_) (fun c28 => ?_)
          ·
           replace hm := ite_t hm c28
           refine acode_cond_false rfl (not_t (c28)) ?_
           refine pk ?_
           refine acode_seq ?_
           refine acode_le (le_stU (env := [(2, .bx 2 0), (3, .bx 3 0), (6, .bx 6 0), (7, aBool x7.2), (10, .bx 10 0), (13, aInt x25.1)]) (obj := [(2, .box [aInt aN.places, .c (.sl false 9 (aN.tasks.map (GTask.cells false)))]), (3, .box [aInt aC.state, .c (.sl false 1 (aC.marks.map (fun n : Int => [cI n]))), .c (.sl false 3 (aC.busy.map (GItem.cells false))), .c (.sl false 1 (aC.data.map (fun n : Int => [cI n]))), .c (.sl false 2 (aC.did.map (GDid.cells false)))]), (6, .box [aInt x7.1.state, .ref 10032 [], .ref 20032 [], .ref 30032 [], .ref 40032 []]), (10032, .arr 1 (x7.1.marks.map (fun n : Int => [cI n]))), (20032, .arr 3 (x7.1.busy.map (GItem.cells true))), (30032, .arr 1 (x7.1.data.map (fun n : Int => [cI n]))), (40032, .arr 2 (x7.1.did.map (GDid.cells true))), (10, .box [aInt x10.1.state, .ref 10042 [], .ref 20042 [], .ref 30042 [], .ref 40042 []]), (10042, .arr 1 (x25.2.marks.map (fun n : Int => [cI n]))), (20042, .arr 3 (x25.2.busy.map (GItem.cells true))), (30042, .arr 1 (x25.2.data.map (fun n : Int => [cI n]))), (40042, .arr 2 (x25.2.did.map (GDid.cells true)))]) idn (.cons rfl rfl (.cons rfl rfl (.cons rfl rfl (.cons rfl rfl (.cons rfl rfl (.cons rfl rfl .nil)))))) (.cons rfl rfl (.inl rfl) (.cons rfl rfl (.inl rfl) (.cons rfl rfl (.inl rfl) (.cons rfl rfl (.inl rfl) (.cons rfl rfl (.inl rfl) (.cons rfl rfl (.inl rfl) (.cons rfl rfl (.inl rfl) (.cons rfl rfl (.inl rfl) (.cons rfl rfl (.inl rfl) (.cons rfl rfl (.inl rfl) (.cons rfl rfl (.inl rfl) (.cons rfl rfl (.inl rfl) .nil)))))))))))) rfl) ?_
           refine acode_region_drawO [0, 1, 2, 3, 4, 5, 6, 7, 8, 9, 10] mixed (by kernel_rfl) ?_
           refine sd1 rfl rfl (op_load_bx_agg Try.isAgg54 Try.sizeOf54 rfl rfl (lb rfl)) (so rfl (sb rfl sn)) ?_
           obtain ⟨x29, hx29, hm⟩ := bnd hm
           refine sd1 rfl rfl (op_call2 (ks := []) Try.func34 rfl rfl (cw_toNetNet aN x29 hx29) (.cons ((.aggCons (.c rfl) (.aggCons (.c rfl) .aggNil rfl) rfl)) .nil rfl) rfl rfl (.inl rfl) .nil rfl rfl (lb rfl)) (sats_opds (.cons rfl .nil) (sats_app (sats_freshL rfl) (sats_needsO obs_nil))) ?_
           refine sd1 rfl rfl (op_load_bx_agg Try.isAgg58 Try.sizeOf58 rfl rfl (lb rfl)) (so rfl (sb rfl sn)) ?_
           obtain ⟨x30, hx30, hm⟩ := bnd hm
           refine sd1 rfl rfl (op_call2 (ks := []) Try.func35 rfl rfl (cw_toCasCase aC x30 hx30) (.cons ((.aggCons (.c rfl) (.aggCons (.c rfl) (.aggCons (.c rfl) (.aggCons (.c rfl) (.aggCons (.c rfl) .aggNil rfl) rfl) rfl) rfl) rfl)) .nil rfl) rfl rfl (.inl rfl) .nil rfl rfl (lb rfl)) (sats_opds (.cons rfl .nil) (sats_app (sats_freshL rfl) (sats_needsO obs_nil))) ?_
           obtain ⟨x31, hx31, hm⟩ := bnd hm
           refine sd1 rfl rfl (op_call2 (ks := []) Try.func44 rfl rfl (c_impl_CasStop x29 x30 x31 hx31) (.cons ((.aggCons (.c rfl) (.aggCons (.ref rfl (rowGTask.rnobox true _) (rowGTask.rshare true _)) .aggNil rfl) rfl)) (.cons ((.aggCons (.c rfl) (.aggCons (.ref rfl (rowI.rnobox true _) (rowI.rshare true _)) (.aggCons (.ref rfl (rowGItem.rnobox true _) (rowGItem.rshare true _)) (.aggCons (.ref rfl (rowI.rnobox true _) (rowI.rshare true _)) (.aggCons (.ref rfl (rowGDid.rnobox true _) (rowGDid.rshare true _)) .aggNil rfl) rfl) rfl) rfl) rfl)) .nil rfl) rfl) rfl rfl (.inr ⟨(sol_cons (rowGCase.solid _) (sol_cons rfl sol_nil)), fun p hp => (by cases hp)⟩) .nil rfl rfl (lb rfl)) (sats_opds (.cons rfl (.cons rfl .nil)) (sats_app (sats_freshL rfl) (sats_needsO (obs_cons rfl (obs_cons rfl (obs_cons rfl (obs_cons rfl (obs_cons rfl obs_nil)))))))) ?_
           refine sd1 rfl rfl (op_move (lb rfl)) (so rfl sn) ?_
           refine sd1 rfl rfl (op_extract rfl (lb rfl)) (so rfl (sats_lives rfl)) ?_
           refine sd1 rfl rfl (op_extract rfl (lb rfl)) (so rfl (sats_lives rfl)) ?_
           refine sd1 rfl rfl (op_alloc Try.zeroValue70 rfl (lb rfl)) (sf rfl sn) ?_
           refine sd1 rfl rfl (op_store_bxS Try.sizeOf70 rfl rfl rfl rfl) (so rfl (so rfl (sb rfl (sats_lives rfl)))) ?_
           refine sd1 rfl rfl (op_assign (lb rfl)) (so rfl sn) ?_
           refine rgd_nil (by kernel_rfl) ?_
           refine kseq_normal ?_
           refine acode_seq ?_
           refine sr ?_
           refine st1 rfl (op_load_bx_agg Try.isAgg70 Try.sizeOf70 rfl rfl (lb rfl)) (so rfl (sb rfl sn)) ?_
           refine st1 rfl (op_load_bx_agg Try.isAgg70 Try.sizeOf70 rfl rfl (lb rfl)) (so rfl (sb rfl sn)) ?_
           obtain ⟨x32, hx32, hm⟩ := bnd hm
           refine st1 rfl (op_call2 (ks := []) Try.func38 rfl rfl (cw_eqCasCase x31.1 x7.1 x32 hx32) (.cons ((.aggCons (.c rfl) (.aggCons (.ref rfl (rowI.rnobox true _) (rowI.rshare true _)) (.aggCons (.ref rfl (rowGItem.rnobox true _) (rowGItem.rshare true _)) (.aggCons (.ref rfl (rowI.rnobox true _) (rowI.rshare true _)) (.aggCons (.ref rfl (rowGDid.rnobox true _) (rowGDid.rshare true _)) .aggNil rfl) rfl) rfl) rfl) rfl)) (.cons ((.aggCons (.c rfl) (.aggCons (.ref rfl (rowI.rnobox true _) (rowI.rshare true _)) (.aggCons (.ref rfl (rowGItem.rnobox true _) (rowGItem.rshare true _)) (.aggCons (.ref rfl (rowI.rnobox true _) (rowI.rshare true _)) (.aggCons (.ref rfl (rowGDid.rnobox true _) (rowGDid.rshare true _)) .aggNil rfl) rfl) rfl) rfl) rfl)) .nil rfl) rfl) rfl rfl (.inr ⟨(sol_cons rfl sol_nil), fun p hp => (by cases hp)⟩) .nil rfl rfl (lb rfl)) (sats_opds (.cons rfl (.cons rfl .nil)) (sats_app (sats_freshL rfl) (sats_needsO (obs_cons rfl (obs_cons rfl (obs_cons rfl (obs_cons rfl (obs_cons rfl (obs_cons rfl (obs_cons rfl (obs_cons rfl obs_nil))))))))))) ?_
           refine st1 rfl (op_not (lb rfl)) (so rfl sn) ?_
           refine mv (lb rfl) rfl ?_
           refine rg_split (b := x32) (fun c33 => ?_) (fun c33 => ?_)
           ·
            replace hm := ite_t hm c33
            refine st1on rfl rfl rfl (not_t (c33)) (op_move (lb rfl)) (so rfl sn) ?_
            refine st1on rfl rfl rfl (not_t (c33)) (op_move (lb rfl)) (so rfl sn) ?_
            refine st1on rfl rfl rfl (not_t (c33)) (op_neqb Try.underlying4 (lb rfl)) (so rfl (so rfl sn)) ?_
            refine st1 rfl (op_pick_false (lb rfl) (not_t (c33))) (so rfl (so rfl sn)) ?_
            refine nk ?_
            refine acode_split (b := (x31.2 == x7.2)) (fun c34 => ?_) (fun c34 => ?_)
            ·
             replace hm := ite_t hm c34
             refine acode_cond_false rfl (not_t (c34)) ?_
             refine pk ?_
             refine acode_seq ?_
             refine acode_le (le_stU (env := [(10, .bx 10 0), (13, aInt x25.1)]) (obj := [(10, .box [aInt x10.1.state, .ref 10042 [], .ref 20042 [], .ref 30042 [], .ref 40042 []]), (10042, .arr 1 (x25.2.marks.map (fun n : Int => [cI n]))), (20042, .arr 3 (x25.2.busy.map (GItem.cells true))), (30042, .arr 1 (x25.2.data.map (fun n : Int => [cI n]))), (40042, .arr 2 (x25.2.did.map (GDid.cells true)))]) idn (.cons rfl rfl (.cons rfl rfl .nil)) (.cons rfl rfl (.inl rfl) (.cons rfl rfl (.inl rfl) (.cons rfl rfl (.inl rfl) (.cons rfl rfl (.inl rfl) (.cons rfl rfl (.inl rfl) .nil))))) rfl) ?_
             refine acode_region ?_
             refine as_ (lb rfl) rfl ?_
             refine nk ?_
             refine sr ?_
             refine st1 rfl (op_load_bx_agg Try.isAgg70 Try.sizeOf70 rfl rfl (lb rfl)) (so rfl (sb rfl sn)) ?_
             refine mv (lb rfl) rfl ?_
             obtain ⟨x35, hx35, hm⟩ := bnd hm
             refine st1 rfl (op_call2 (ks := []) Try.func45 rfl rfl (c_heldCasCase (GCase.mk x10.1.state x25.2.marks x25.2.busy x25.2.data x25.2.did) 1 x35 hx35) (.cons ((.aggCons (.c rfl) (.aggCons (.ref rfl (rowI.rnobox true _) (rowI.rshare true _)) (.aggCons (.ref rfl (rowGItem.rnobox true _) (rowGItem.rshare true _)) (.aggCons (.ref rfl (rowI.rnobox true _) (rowI.rshare true _)) (.aggCons (.ref rfl (rowGDid.rnobox true _) (rowGDid.rshare true _)) .aggNil rfl) rfl) rfl) rfl) rfl)) (.cons (.c rfl) .nil rfl) rfl) rfl rfl (.inr ⟨(sol_cons rfl sol_nil), fun p hp => (by cases hp)⟩) .nil rfl rfl (lb rfl)) (sats_opds (.cons rfl (.cons rfl .nil)) (sats_app (sats_freshL rfl) (sats_needsO (obs_cons rfl (obs_cons rfl (obs_cons rfl (obs_cons rfl obs_nil))))))) ?_
             refine as_ (lb rfl) rfl ?_
             refine nk ?_
             refine acode_seq ?_
             refine sr ?_
             refine mv (lb rfl) rfl ?_
             refine st1 rfl (op_lss (lb rfl)) (so rfl (so rfl sn)) ?_
             refine nk ?_
             refine acode_split (b := decide (x35 < 0)) (fun c36 => ?_) (fun c36 => ?_)
             ·
              replace hm := ite_t hm c36
              refine acode_cond_true rfl (c36) ?_
              refine sr ?_
              refine as_ (lb rfl) rfl ?_
              refine nkt ?_
              obtain rfl := Option.some.inj hm
              exact kseq_ret (fin2_retL (.cons (.c rfl) .nil) rfl .nil rfl rfl rfl)
             ·
              replace hm := ite_f hm c36
              refine acode_cond_false rfl (c36) ?_
              refine pk ?_
              refine acode_seq ?_
              refine sr ?_
              refine mv (lb rfl) rfl ?_
              refine mv (lb rfl) rfl ?_
              refine st1 rfl (op_neq (lb rfl)) (so rfl (so rfl sn)) ?_
              refine nk ?_
              refine acode_split (b := decide (x35 = x25.1)) (fun c37 => ?_) (fun c37 => ?_)
              ·
               replace hm := ite_t hm c37
               refine acode_cond_false rfl (not_t (c37)) ?_
               refine pk ?_
               refine sr ?_
               refine as_ (lb rfl) rfl ?_
               refine nkt ?_
               obtain rfl := Option.some.inj hm
               exact fin2_retL (.cons (.c rfl) .nil) rfl .nil rfl rfl rfl
              ·
               replace hm := ite_f hm c37
               refine acode_cond_true rfl (not_f (c37)) ?_
               refine sr ?_
               refine as_ (lb rfl) rfl ?_
               refine nkt ?_
               obtain rfl := Option.some.inj hm
               exact kseq_ret (fin2_retL (.cons (.c rfl) .nil) rfl .nil rfl rfl rfl)
            ·
             replace hm := ite_f hm c34
             refine acode_cond_true rfl (not_f (c34)) ?_
             refine sr ?_
             refine as_ (lb rfl) rfl ?_
             refine nkt ?_
             obtain rfl := Option.some.inj hm
             exact kseq_ret (fin2_retL (.cons (.c rfl) .nil) rfl .nil rfl rfl rfl)
           ·
            replace hm := ite_f hm c33
            refine st1off rfl rfl (lb rfl) rfl rfl (not_f (c33)) ?_
            refine st1off rfl rfl (lb rfl) rfl rfl (not_f (c33)) ?_
            refine st1off rfl rfl (lb rfl) rfl rfl (not_f (c33)) ?_
            refine st1 rfl (op_pick_true (lb rfl) (not_f (c33))) (so rfl (so rfl sn)) ?_
            refine nk ?_
            refine acode_cond_true rfl (rfl) ?_
            refine sr ?_
            refine as_ (lb rfl) rfl ?_
            refine nkt ?_
            obtain rfl := Option.some.inj hm
            exact kseq_ret (fin2_retL (.cons (.c rfl) .nil) rfl .nil rfl rfl rfl)
          ·
           replace hm := ite_f hm c28
           refine acode_cond_true rfl (not_f (c28)) ?_
           refine acode_seq ?_
           refine acode_le (le_stU (env := []) (obj := []) idn .nil .nil rfl) ?_
           refine acode_region ?_
           refine as_ (lb rfl) rfl ?_
           refine nkt ?_
           obtain rfl := Option.some.inj hm
           exact kseq_ret (fin2_retL (.cons (.c rfl) .nil) rfl .nil rfl rfl rfl)
        ·
         replace hm := ite_f hm c24
         refine st1off rfl rfl (lb rfl) rfl rfl (not_f (c24)) ?_
         refine st1off rfl rfl (lb rfl) rfl rfl (not_f (c24)) ?_
         refine st1off rfl rfl (lb rfl) rfl rfl (not_f (c24)) ?_
         refine st1 rfl (op_pick_true (lb rfl) (not_f (c24))) (so rfl (so rfl sn)) ?_
         refine nk ?_
         refine acode_cond_true rfl (rfl) ?_
         refine sr ?_
         refine as_ (lb rfl) rfl ?_
         refine nkt ?_
         obtain rfl := Option.some.inj hm
         exact kseq_ret (fin2_retL (.cons (.c rfl) .nil) rfl .nil rfl rfl rfl)
      ·
       replace hm := ite_f hm c19
       refine acode_cond_true rfl (not_f (c19)) ?_
       refine sr ?_
       refine as_ (lb rfl) rfl ?_
       refine nkt ?_
       obtain rfl := Option.some.inj hm
       exact kseq_ret (fin2_retL (.cons (.c rfl) .nil) rfl .nil rfl rfl rfl)
     ·
      replace hm := ite_f hm c16
      refine acode_cond_true rfl (not_f (c16)) ?_
      refine sr ?_
      refine as_ (lb rfl) rfl ?_
      refine nkt ?_
      obtain rfl := Option.some.inj hm
      exact kseq_ret (fin2_retL (.cons (.c rfl) .nil) rfl .nil rfl rfl rfl)
    ·
     replace hm := ite_f hm c13
     refine acode_cond_true rfl (not_f (c13)) ?_
     refine sr ?_
     refine as_ (lb rfl) rfl ?_
     refine nkt ?_
     obtain rfl := Option.some.inj hm
     exact kseq_ret (fin2_retL (.cons (.c rfl) .nil) rfl .nil rfl rfl rfl)
   ·
    replace hm := ite_f hm c12
    refine st1off rfl rfl (lb rfl) rfl rfl (not_f (c12)) ?_
    refine st1off rfl rfl (lb rfl) rfl rfl (not_f (c12)) ?_
    refine st1off rfl rfl (lb rfl) rfl rfl (not_f (c12)) ?_
    refine st1 rfl (op_pick_true (lb rfl) (not_f (c12))) (so rfl (so rfl sn)) ?_
    refine nk ?_
    refine acode_cond_true rfl (rfl) ?_
    refine sr ?_
    refine as_ (lb rfl) rfl ?_
    refine nkt ?_
    obtain rfl := Option.some.inj hm
    exact kseq_ret (fin2_retL (.cons (.c rfl) .nil) rfl .nil rfl rfl rfl)
end Go.Am
