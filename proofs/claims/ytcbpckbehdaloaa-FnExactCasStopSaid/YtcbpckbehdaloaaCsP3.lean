/- Plain laws, chapters 3, 5, 6, 7, 9: what is in order. Own work. -/
import Derived.Test.YtcbpckbehdaloaaCsP2
import Derived.Test.YtcbpckbehdaloaaAmV
import Derived.Test.YtcbpckbehdaloaaCsC3
set_option maxRecDepth 100000
set_option linter.unusedVariables false
set_option linter.unusedSimpArgs false
namespace Go.Am.Pl
open Go

deriving instance Inhabited for GAsk, GFlow, GTask, GNet, GItem, GDid, GCase, GNode, GRun, GHouse, GReq

theorem getI_ok {α : Type} (l : List α) {i : Int} (h0 : 0 ≤ i) (h1 : i < l.length) : ∃ x, getI l i = some x ∧ x ∈ l := by
  obtain ⟨n, rfl⟩ := Int.eq_ofNat_of_zero_le h0
  have hn : n < l.length := by omega
  exact ⟨l[n], by rw [getI_nat, List.getElem?_eq_getElem hn], List.getElem_mem hn⟩
/-- The element, of a list that has it. -/
def atI {α : Type} [Inhabited α] (l : List α) (i : Int) : α := (getI l i).getD default
theorem getI_at {α : Type} [Inhabited α] (l : List α) {i : Int} (h0 : 0 ≤ i) (h1 : i < l.length) : getI l i = some (atI l i) := by
  obtain ⟨x, hx, _⟩ := getI_ok l h0 h1
  unfold atI; rw [hx]; rfl
theorem atI_mem {α : Type} [Inhabited α] (l : List α) {i : Int} (h0 : 0 ≤ i) (h1 : i < l.length) : atI l i ∈ l := by
  obtain ⟨x, hx, hm⟩ := getI_ok l h0 h1
  unfold atI; rw [hx]; exact hm
theorem inB_iff {n a b : Int} : inB n a b = true ↔ a ≤ n ∧ n ≤ b := by simp [inB]

def expHolds (e : GAsk) (data : List Int) : Bool :=
  expOk e && (datOk data && (bif decide (e.op = 1) then decide (atI data e.var < e.k) else bif decide (e.op = 2) then decide (atI data e.var = e.k) else bif decide (e.op = 3) then decide (e.k < atI data e.var) else true))
theorem expOk_var {e : GAsk} {data : List Int} (h : expOk e = true) (hd : datOk data = true) : e.op = 0 ∨ getI data e.var = some (atI data e.var) := by
  by_cases h0 : e.op = 0
  · exact .inl h0
  · right
    simp [expOk, h0, inB] at h
    simp [datOk] at hd
    exact getI_at data (by omega) (by omega)
theorem spec_ExpHolds (e : GAsk) (data : List Int) (hl : data.length ≤ SMALL) : m_spec_ExpHolds e data = some (expHolds e data) := by
  unfold m_spec_ExpHolds expHolds
  rw [spec_ExpOk, Option.bind_some, spec_DatOk data hl]
  by_cases h1 : expOk e = true
  · by_cases h2 : datOk data = true
    · rcases expOk_var h1 h2 with h | h
      · simp [h1, h2, h]
      · rw [if_pos h1, Option.bind_some, if_pos h2, h1, h2, h]
        by_cases a : e.op = 1 <;> by_cases b : e.op = 2 <;> by_cases c : e.op = 3 <;> simp [a, b, c]
    · simp [h1, Bool.eq_false_iff.2 h2]
  · simp [Bool.eq_false_iff.2 h1]
theorem impl_ExpHolds (e : GAsk) (data : List Int) (hl : data.length ≤ SMALL) : m_impl_ExpHolds e data = some (expHolds e data) := by
  unfold m_impl_ExpHolds expHolds
  rw [impl_ExpOk, Option.bind_some, impl_DatOk data hl]
  by_cases h1 : expOk e = true
  · by_cases h2 : datOk data = true
    · rcases expOk_var h1 h2 with h | h
      · simp [h1, h2, h]
      · rw [if_pos h1, Option.bind_some, if_pos h2, h1, h2, h]
        by_cases a : e.op = 1 <;> by_cases b : e.op = 2 <;> by_cases c : e.op = 3 <;> simp [a, b, c]
    · simp [h1, Bool.eq_false_iff.2 h2]
  · simp [Bool.eq_false_iff.2 h1]

/-! ### Marks, people, work -/
def marksB (n : GNet) (m : List Int) : Bool := decide ((m.length : Int) = n.places) && m.all (fun x => inB x 0 4)
def mrkB (n : GNet) (m : List Int) : Bool := netB n && marksB n m
theorem spec_MrkOk (n : GNet) (m : List Int) (hn : n.small) (hm : m.length ≤ SMALL) : m_spec_MrkOk n m = some (mrkB n m) := by
  unfold m_spec_MrkOk mrkB marksB
  have := scan0 m (by unfold SMALL at hm; omega) (m_spec_MrkOk_l0 m m_spec_MrkOk_k1) (fun _ suf => some (suf.all (fun x => inB x 0 4)))
    (fun k => by rw [m_spec_MrkOk_l0, if_neg (by simp)]; rfl)
    (fun k pre x suf hl hg hlt hok ih => by
      rw [m_spec_MrkOk_l0, if_pos (decide_eq_true hlt), hg, Option.bind_some, spec_in, Option.bind_some, gd_pos hok, ih, iteB, List.all_cons])
  rw [this, spec_NetOk n hn, Option.bind_some, iteB, iteB]
theorem impl_marksOk (n : GNet) (m : List Int) (hm : m.length ≤ SMALL) : m_impl_NetNet_marksOk n m = some (marksB n m) := by
  unfold m_impl_NetNet_marksOk marksB
  rw [ContainsFunc_I m hm _ (fun x => !inB x 0 4) (fun x _ => by unfold m_impl_NetNet_marksOk_1; rw [impl_in]; rfl), Option.bind_some, all_not_any, iteB]
theorem impl_MrkOk (n : GNet) (m : List Int) (hn : n.small) (hm : m.length ≤ SMALL) : m_impl_MrkOk n m = some (mrkB n m) := by
  unfold m_impl_MrkOk mrkB
  rw [impl_NetOk n hn, Option.bind_some, impl_marksOk n m hm, Option.bind_some, iteB]
def pplB (p : List Int) : Bool := inB p.length 1 4 && p.all (fun x => inB x 0 7)
theorem spec_PplOk (m : List Int) (hm : m.length ≤ SMALL) : m_spec_PplOk m = some (pplB m) := by
  unfold m_spec_PplOk pplB
  have := scan0 m (by unfold SMALL at hm; omega) (m_spec_PplOk_l0 m m_spec_PplOk_k1) (fun _ suf => some (suf.all (fun x => inB x 0 7)))
    (fun k => by rw [m_spec_PplOk_l0, if_neg (by simp)]; rfl)
    (fun k pre x suf hl hg hlt hok ih => by
      rw [m_spec_PplOk_l0, if_pos (decide_eq_true hlt), hg, Option.bind_some, spec_in, Option.bind_some, gd_pos hok, ih, iteB, List.all_cons])
  rw [this, spec_in, Option.bind_some, iteB]
theorem impl_PplOk (m : List Int) (hm : m.length ≤ SMALL) : m_impl_PplOk m = some (pplB m) := by
  unfold m_impl_PplOk pplB
  rw [impl_in, Option.bind_some, ContainsFunc_I m hm _ (fun x => !inB x 0 7) (fun x _ => by unfold m_impl_PplOk_1; rw [impl_in]; rfl), Option.bind_some, all_not_any, iteB]

def itemB (n : GNet) (b : GItem) : Bool := inB b.task 0 ((n.tasks.length : Int) - 1) && (inB b.who 1 4 && inB b.did 0 ((atI n.tasks b.task).need - 1))
def busyB (n : GNet) (busy : List GItem) : Bool := decide ((busy.length : Int) ≤ 6) && busy.all (itemB n)
theorem netB_need {n : GNet} (h : netB n = true) {t : GTask} (ht : t ∈ n.tasks) : 1 ≤ t.need ∧ t.need ≤ 3 := by
  simp only [netB, Bool.and_eq_true, List.all_eq_true] at h
  have := h.2.2 t ht
  simp only [taskB, Bool.and_eq_true, inB_iff] at this
  omega
theorem spec_l3Busy (n : GNet) (busy : List GItem) (hn : n.small) (hb : busy.length ≤ SMALL) (ho : netB n = true) : m_spec_l3Busy n busy = some (busyB n busy) := by
  unfold m_spec_l3Busy busyB
  have := scan0 busy (by unfold SMALL at hb; omega) (m_spec_l3Busy_l0 n busy m_spec_l3Busy_k1) (fun _ suf => some (suf.all (itemB n)))
    (fun k => by rw [m_spec_l3Busy_l0, if_neg (by simp)]; rfl)
    (fun k pre x suf hl hg hlt hok ih => by
      rw [m_spec_l3Busy_l0, if_pos (decide_eq_true hlt), hg]
      simp only [Option.bind_some, gd_pos (ok_len1 hn.1), spec_in, List.all_cons, itemB]
      by_cases h1 : inB x.task 0 ((n.tasks.length : Int) - 1) = true
      · have h1' := inB_iff.1 h1
        have hmem := atI_mem n.tasks h1'.1 (by omega)
        have hneed := netB_need ho hmem
        rw [if_pos h1, getI_at n.tasks h1'.1 (by omega), Option.bind_some, gd_pos (by constructor <;> omega), gd_pos hok, ih, h1]
        cases inB x.who 1 4 <;> cases inB x.did 0 ((atI n.tasks x.task).need - 1) <;> simp
      · rw [if_neg h1, Bool.eq_false_iff.2 h1]; rfl)
  rw [this]
  by_cases h6 : 6 < (busy.length : Int)
  · rw [if_pos (decide_eq_true h6), decide_eq_false (by omega)]; rfl
  · rw [if_neg (by simpa using h6), decide_eq_true (by omega)]; rfl
theorem impl_busyOk (n : GNet) (busy : List GItem) (hn : n.small) (hb : busy.length ≤ SMALL) (ho : netB n = true) : m_impl_NetNet_busyOk n busy = some (busyB n busy) := by
  unfold m_impl_NetNet_busyOk busyB
  have := scan0 busy (by unfold SMALL at hb; omega) (m_impl_NetNet_busyOk_l0 n busy (m_impl_NetNet_busyOk_k1 busy)) (fun _ suf => some (suf.all (itemB n) && decide ((busy.length : Int) ≤ 6)))
    (fun k => by rw [m_impl_NetNet_busyOk_l0, if_neg (by simp)]; rfl)
    (fun k pre x suf hl hg hlt hok ih => by
      rw [m_impl_NetNet_busyOk_l0, if_pos (decide_eq_true hlt), hg]
      simp only [m_impl_NetNet_hasTask, m_impl_isPerson, Option.bind_some, gd_pos (ok_len1 hn.1), impl_in, List.all_cons, itemB]
      by_cases h1 : inB x.task 0 ((n.tasks.length : Int) - 1) = true
      · have h1' := inB_iff.1 h1
        have hmem := atI_mem n.tasks h1'.1 (by omega)
        have hneed := netB_need ho hmem
        rw [if_pos h1, getI_at n.tasks h1'.1 (by omega), Option.bind_some, gd_pos (by constructor <;> omega), gd_pos hok, ih, h1]
        cases inB x.who 1 4 <;> cases inB x.did 0 ((atI n.tasks x.task).need - 1) <;> simp
      · rw [if_neg h1, Bool.eq_false_iff.2 h1]; rfl)
  rw [this, Bool.and_comm]

/-! ### Cases -/
def didB (n : GNet) (d : GDid) : Bool := inB d.task 0 ((n.tasks.length : Int) - 1) && inB d.who 1 4
def stateB (c : GCase) : Bool := bif decide (c.state = 1) then decide (atI c.marks 1 = 0) else decide ((c.busy.length : Int) = 0) && (decide (c.state = 2) == decide (0 < atI c.marks 1))
def casB (n : GNet) (c : GCase) : Bool := mrkB n c.marks && (busyB n c.busy && (datOk c.data && (!decide (60 < (c.did.length : Int)) && (inB c.state 1 3 && (c.did.all (didB n) && stateB c)))))
end Go.Am.Pl
namespace Go.Am
def GCase.small (c : GCase) : Prop := c.marks.length ≤ SMALL ∧ c.busy.length ≤ SMALL ∧ c.data.length ≤ SMALL ∧ c.did.length ≤ SMALL
end Go.Am
namespace Go.Am.Pl
theorem mrkB_net {n : GNet} {m : List Int} (h : mrkB n m = true) : netB n = true := by simp only [mrkB, Bool.and_eq_true] at h; exact h.1
theorem mrkB_one {n : GNet} {m : List Int} (h : mrkB n m = true) : getI m 1 = some (atI m 1) := by
  simp only [mrkB, netB, marksB, Bool.and_eq_true, inB_iff, decide_eq_true_eq] at h
  exact getI_at m (by omega) (by omega)
theorem spec_CasOk (n : GNet) (c : GCase) (hn : n.small) (hc : c.small) : m_spec_CasOk n c = some (casB n c) := by
  obtain ⟨hc1, hc2, hc3, hc4⟩ := hc
  unfold m_spec_CasOk casB
  rw [spec_MrkOk n c.marks hn hc1, Option.bind_some]
  by_cases h1 : mrkB n c.marks = true
  · have ho := mrkB_net h1
    have hk : m_spec_CasOk_k1 c = some (stateB c) := by
      unfold m_spec_CasOk_k1 stateB
      rw [mrkB_one h1]
      by_cases hs : c.state = 1
      · simp [hs]
      · by_cases hb : c.busy = [] <;> simp [hs, hb]
    have := scan0 c.did (by unfold SMALL at hc4; omega) (m_spec_CasOk_l0 n c (m_spec_CasOk_k1 c)) (fun _ suf => some (suf.all (didB n) && stateB c))
      (fun k => by rw [m_spec_CasOk_l0, if_neg (by simp), hk]; rfl)
      (fun k pre x suf hl hg hlt hok ih => by
        rw [m_spec_CasOk_l0, if_pos (decide_eq_true hlt), hg]
        simp only [Option.bind_some, gd_pos (ok_len1 hn.1), spec_in, List.all_cons, didB, gd_pos hok, ih]
        cases inB x.task 0 ((n.tasks.length : Int) - 1) <;> cases inB x.who 1 4 <;> simp)
    rw [if_pos h1, spec_l3Busy n c.busy hn hc2 ho, Option.bind_some, spec_DatOk c.data hc3, Option.bind_some, spec_in, Option.bind_some, this, h1]
    simp only [iteB, iteN]
    rfl
  · rw [if_neg h1, Bool.eq_false_iff.2 h1]; rfl
theorem impl_CasOk (n : GNet) (c : GCase) (hn : n.small) (hc : c.small) : m_impl_CasOk n c = some (casB n c) := by
  obtain ⟨hc1, hc2, hc3, hc4⟩ := hc
  unfold m_impl_CasOk casB
  rw [impl_MrkOk n c.marks hn hc1, Option.bind_some]
  by_cases h1 : mrkB n c.marks = true
  · have ho := mrkB_net h1
    have hk : m_impl_CasOk_k1 c = some (inB c.state 1 3 && stateB c) := by
      unfold m_impl_CasOk_k1 stateB
      rw [mrkB_one h1]
      by_cases hs : c.state = 1
      · simp [hs, inB]
      · by_cases hs2 : c.state = 2
        · by_cases hb : c.busy = [] <;> simp [hs2, hb, inB]
        · by_cases hs3 : c.state = 3
          · by_cases hb : c.busy = [] <;> simp [hs3, hb, inB]
          · have : inB c.state 1 3 = false := by simp [inB]; omega
            simp [hs, hs2, hs3, this]
    have := scan0 c.did (by unfold SMALL at hc4; omega) (m_impl_CasOk_l0 n c (m_impl_CasOk_k1 c)) (fun _ suf => some (suf.all (didB n) && (inB c.state 1 3 && stateB c)))
      (fun k => by rw [m_impl_CasOk_l0, if_neg (by simp), hk]; rfl)
      (fun k pre x suf hl hg hlt hok ih => by
        rw [m_impl_CasOk_l0, if_pos (decide_eq_true hlt), hg]
        simp only [m_impl_NetNet_hasTask, m_impl_isPerson, Option.bind_some, gd_pos (ok_len1 hn.1), impl_in, List.all_cons, didB, gd_pos hok, ih]
        cases inB x.task 0 ((n.tasks.length : Int) - 1) <;> cases inB x.who 1 4 <;> simp)
    rw [if_pos h1, impl_busyOk n c.busy hn hc2 ho, Option.bind_some, impl_DatOk c.data hc3, Option.bind_some, this, h1]
    simp only [iteB, iteN]
    congr 1
    cases busyB n c.busy <;> cases datOk c.data <;> cases c.did.all (didB n) <;> cases inB c.state 1 3 <;> simp
  · rw [if_neg h1, Bool.eq_false_iff.2 h1]; rfl

/-! ### Bounds -/
theorem small_task {t : GTask} (h : GTask.lens (· ≤ 1048576) t) : t.small := by
  obtain ⟨a, b, c⟩ := h; unfold GTask.small SMALL; omega
theorem small_net {n : GNet} (h : GNet.lens (· ≤ 1048576) n) : n.small := ⟨by have := h.1; dsimp only at this; unfold SMALL; omega, fun t ht => small_task (h.2 t ht)⟩
theorem small_case {c : GCase} (h : GCase.lens (· ≤ 1048576) c) : c.small := by
  obtain ⟨a, b, c, d⟩ := h; unfold GCase.small SMALL; omega

end Go.Am.Pl
