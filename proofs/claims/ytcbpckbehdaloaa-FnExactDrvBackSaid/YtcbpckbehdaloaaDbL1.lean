/- The plain law. Own work. -/
import Derived.Test.YtcbpckbehdaloaaDbP1
section
/- FnExactDrvBack: the plain law. Own work. -/
set_option maxRecDepth 100000
set_option linter.unusedVariables false
set_option linter.unusedSimpArgs false
namespace Go.Am.Pl
open Go

abbrev RB := Option (List Int × Bool)
theorem spec_back_in (t : GTask) (kx : List Int → RB) (l0 : List Int) (hs : t.in_.length ≤ SMALL) (h1 : 1 ≤ t.in_.length) (hp : ∀ p ∈ t.in_, 0 ≤ p ∧ p < l0.length) (hc : okM l0 = true) :
    m_spec_DrvBack_l1 t kx FUEL 0 l0 = if t.join = 1 ∧ okM (incs l0 t.in_) = true then kx (incs l0 t.in_) else some ([], false) := by
  by_cases hj : t.join = 1
  · rw [stop_scan t.in_ hs (m_spec_DrvBack_l1 t kx) kx (some ([], false)) l0 hp hc (fun n s => by rw [m_spec_DrvBack_l1, if_neg (by simp)])
      (fun n i p s b c d hg ho => by
        rw [m_spec_DrvBack_l1, if_pos (decide_eq_true c), if_pos (decide_eq_true hj)]
        simp only [b, Option.bind_some, hg, gd_pos d, gd_pos ho]; rfl)]
    simp [hj]
  · obtain ⟨f, hF⟩ : ∃ f, FUEL = f + 1 := ⟨FUEL - 1, by have := FUEL_ge; omega⟩
    rw [hF, m_spec_DrvBack_l1, if_pos (by simp; omega), if_neg (by simpa using hj), if_neg (fun h => hj h.1)]
theorem impl_back_in (ps : List Int) (kx : List Int → RB) (l0 : List Int) (K : Int) (hK : 0 ≤ K ∧ K ≤ 1000000000) (hs : ps.length ≤ SMALL) (hp : ∀ p ∈ ps, 0 ≤ p ∧ p < l0.length) (hc : capM K l0) :
    m_impl_DrvBack_l1 ps (ps.length : Int) kx FUEL 0 l0 = kx (incs l0 ps) :=
  inc_scan ps hs (m_impl_DrvBack_l1 ps (ps.length : Int) kx) kx l0 K hK hp hc (fun n s => by rw [m_impl_DrvBack_l1, if_neg (by simp)])
    (fun n i p s b c d hg ho => by
      rw [m_impl_DrvBack_l1, if_pos (decide_eq_true c)]
      simp only [b, Option.bind_some, hg, gd_pos d, gd_pos ho]; rfl)
/-- The tasks that are under way called back. -/
def backL (n : GNet) : List GItem → List Int → List Int × Bool
  | [], l => if okM l = true then (l, true) else ([], false)
  | b :: bs, l => if (atI n.tasks b.task).join = 1 then backL n bs (incs l (atI n.tasks b.task).in_) else ([], false)
theorem backL_bad {n : GNet} (hn : netB n = true) : ∀ (bs : List GItem) (l : List Int) (K : Int), (∀ b ∈ bs, 0 ≤ b.task ∧ b.task < n.tasks.length) → (l.length : Int) = n.places → capM K l → okM l = false → backL n bs l = ([], false)
  | [], l, K, _, _, _, h => by simp [backL, h]
  | b :: bs, l, K, hb, hl, hc, h => by
    unfold backL
    split
    · have t := netB_task hn (atI_mem n.tasks (hb b (by simp)).1 (hb b (by simp)).2)
      have hp : ∀ p ∈ (atI n.tasks b.task).in_, 0 ≤ p ∧ p < l.length := fun p hp => by have := t.ins p hp; omega
      have hK2 := capM_incs _ l K hp hc
      refine backL_bad hn bs _ _ (fun b hb' => hb b (by simp [hb'])) (by rw [incs_len, hl]) hK2 ?_
      cases h2 : okM (incs l (atI n.tasks b.task).in_)
      · rfl
      · rw [okM_incs hc hp h2] at h; exact h
    · rfl
def backB (n : GNet) (c : GCase) : List Int × Bool := bif casB n c then backL n c.busy c.marks else ([], false)
theorem spec_DrvBack (n : GNet) (c : GCase) (hn : n.small) (hc : c.small) : m_spec_DrvBack n c = some (backB n c) := by
  unfold m_spec_DrvBack backB
  rw [spec_CasOk n c hn hc, Option.bind_some]
  by_cases h : casB n c = true
  · have F := casB_facts h
    rw [if_pos h, h, gd_pos (by simpa using hc.1)]
    have := scan c.busy (by have := hc.2.1; unfold SMALL at this; omega) (m_spec_DrvBack_l0 n c m_spec_DrvBack_k2) (fun _ suf l => some (backL n suf l)) (fun _ l => (l.length : Int) = n.places ∧ okM l = true)
      (fun n s hi => by rw [m_spec_DrvBack_l0, if_neg (by simp)]; simp [backL, hi.2, m_spec_DrvBack_k2])
      (fun m pre x suf s a b d g hi k => by
        have hx := (F.busy x (by rw [a]; simp)).1
        have ht := atI_mem n.tasks hx.1 hx.2
        have t := netB_task F.net ht
        have hp : ∀ p ∈ (atI n.tasks x.task).in_, 0 ≤ p ∧ p < s.length := fun p hp => by have := t.ins p hp; omega
        rw [m_spec_DrvBack_l0, if_pos (decide_eq_true d), b, Option.bind_some, getI_at n.tasks hx.1 hx.2, Option.bind_some, spec_back_in _ _ s (hn.2 _ ht).1 t.inl.1 hp hi.2, m_spec_DrvBack_k1, gd_pos g]
        simp only [backL]
        by_cases hj : (atI n.tasks x.task).join = 1
        · rw [if_pos hj]
          by_cases ho : okM (incs s (atI n.tasks x.task).in_) = true
          · rw [if_pos ⟨hj, ho⟩]; exact k _ ⟨by rw [incs_len]; exact hi.1, ho⟩
          · rw [if_neg (fun h => ho h.2)]
            have hK2 := capM_incs _ s 4 hp (okM_cap.1 hi.2)
            rw [backL_bad F.net suf _ _ (fun b hb => (F.busy b (by rw [a]; simp [hb])).1) (by rw [incs_len]; exact hi.1) hK2 (Bool.eq_false_iff.2 ho)]
        · rw [if_neg hj, if_neg (fun h => hj h.1)]) FUEL c.marks ⟨F.len, okM_cap.2 F.mks⟩ (by have := FUEL_ge; have := hc.2.1; unfold SMALL at this; omega)
    rw [List.nil_append, this]; rfl
  · rw [if_neg h, Bool.eq_false_iff.2 h]; rfl
theorem impl_DrvBack (n : GNet) (c : GCase) (hn : n.small) (hc : c.small) : m_impl_DrvBack n c = some (backB n c) := by
  unfold m_impl_DrvBack backB
  rw [impl_CasOk n c hn hc, Option.bind_some]
  by_cases h : casB n c = true
  · have F := casB_facts h
    rw [if_pos h, h, impl_cloneInts _ hc.1, Option.bind_some]
    have := scan c.busy (by have := hc.2.1; unfold SMALL at this; omega) (fun m i s => m_impl_DrvBack_l0 n (m_impl_DrvBack_k2 n) m c.busy (c.busy.length : Int) i s) (fun _ suf l => some (backL n suf l)) (fun pre l => (l.length : Int) = n.places ∧ capM (4 + 3 * pre.length) l)
      (fun m s hi => by
        have hsl : s.length ≤ SMALL := by have := netB_size F.net; unfold SMALL; omega
        rw [m_impl_DrvBack_l0, if_neg (by simp), m_impl_DrvBack_k2, impl_marksOk n s hsl, Option.bind_some]
        simp only [backL, marksB, hi.1, decide_true, Bool.true_and, okM]
        by_cases ho : (s.all fun x => inB x 0 4) = true <;> simp [ho])
      (fun m pre x suf s a b d g hi k => by
        have hx := (F.busy x (by rw [a]; simp)).1
        have ht := atI_mem n.tasks hx.1 hx.2
        have t := netB_task F.net ht
        have hpl : pre.length ≤ 6 := by have := F.busyl; rw [a, List.length_append] at this; omega
        have hp : ∀ p ∈ (atI n.tasks x.task).in_, 0 ≤ p ∧ p < s.length := fun p hp => by have := t.ins p hp; omega
        rw [m_impl_DrvBack_l0, if_pos (decide_eq_true d), b, Option.bind_some, getI_at n.tasks hx.1 hx.2, Option.bind_some]
        simp only [backL]
        by_cases hj : (atI n.tasks x.task).join = 1
        · rw [if_pos (decide_eq_true hj), if_pos hj, impl_back_in _ _ s (4 + 3 * pre.length) (by omega) (hn.2 _ ht).1 hp hi.2, m_impl_DrvBack_k1, gd_pos g]
          refine k _ ⟨by rw [incs_len]; exact hi.1, ?_⟩
          have h5 := capM_incs _ s _ hp hi.2
          intro y hy
          have := h5 y hy
          have := t.inl.2
          rw [List.length_append, List.length_singleton]
          omega
        · rw [if_neg (by simpa using hj), if_neg hj]) FUEL c.marks ⟨F.len, fun x hx => by simpa using F.mks x hx⟩ (by have := FUEL_ge; have := hc.2.1; unfold SMALL at this; omega)
    rw [this]; rfl
  · rw [if_neg h, Bool.eq_false_iff.2 h]; rfl
theorem backL_len (n : GNet) : ∀ (bs : List GItem) (l : List Int), (backL n bs l).1.length ≤ l.length
  | [], l => by unfold backL; split <;> simp
  | b :: bs, l => by
    unfold backL; split
    · have := backL_len n bs (incs l (atI n.tasks b.task).in_); rw [incs_len] at this; exact this
    · simp
theorem backB_len (n : GNet) (c : GCase) : (backB n c).1.length ≤ c.marks.length := by
  unfold backB; cases casB n c
  · simp
  · exact backL_len n _ _
theorem okC {c : GCase} (h : c.small) : okGCase c := h
theorem law_DrvBack (n : GNet) (c : GCase) (hn : GNet.lens (· ≤ 9223372036854775807) n) (hc : GCase.lens (· ≤ 9223372036854775807) c) : m_laws_FnExactDrvBack n c = some true := by
  unfold m_laws_FnExactDrvBack
  rw [c_szNetNet _ _ ⟨by omega, by omega, hn⟩, Option.bind_some]
  by_cases hz : szR 1048576 (GNet.W n) < 0
  · rw [if_pos (decide_eq_true hz)]
  have e1 := szR_ge hz
  rw [if_neg (by simpa using hz), e1.2, c_szCasCase _ _ ⟨by omega, by omega, hc⟩, Option.bind_some]
  by_cases hz2 : szR (1048576 - (GNet.W n : Int)) (GCase.W c) < 0
  · rw [if_pos (decide_eq_true hz2)]
  have e2 := szR_ge hz2
  rw [if_neg (by simpa using hz2)]
  have hn2 : GNet.lens (· ≤ 1048576) n := GNet.lens_of (by omega)
  have hc2 : GCase.lens (· ≤ 1048576) c := GCase.lens_of (by omega)
  have sn := small_net hn2
  have sc := small_case hc2
  have on : okGNet n := ⟨sn.1, fun t ht => sn.2 t ht⟩
  have b1 := vNet_le n
  have b2 := vCase_le c
  have hB : BIG = 4000000000000000000 := rfl
  have rl : (backB n c).1.length ≤ 1048576 := Nat.le_trans (backB_len n c) hc2.1
  have rv := cIntS (backB n c).1
  simp only [c_toNetNet n hn2, c_toCasCase c hc2, spec_DrvBack n c sn sc, impl_DrvBack n c sn sc, c_eqNetNet n n ⟨hn2, hn2⟩, c_eqCasCase c c ⟨hc2, hc2⟩, c_eqIntS (backB n c).1 _ rl, Option.bind_some, decide_true, if_true, beq_self_eq_true,
    mark_NetNet n 1 on (by omega) (by omega), mark_CasCase c _ (okC sc) (show 0 ≤ 1 + (vGNet n : Int) by omega) (by omega), mark_IntS (backB n c).1 1 (sm rl) (by omega) (by omega), held_IntS (backB n c).1 1 (sm rl) (by omega) (by omega)]
  repeat rw [if_neg (by simp; omega)]

end Go.Am.Pl

end
