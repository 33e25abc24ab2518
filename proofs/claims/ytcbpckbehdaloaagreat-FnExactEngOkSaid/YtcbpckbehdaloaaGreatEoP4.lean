/- Plain laws, chapters 7 and 9: the rules' tree, the house. Own work. -/
import Derived.Test.YtcbpckbehdaloaaGreatEoP3
set_option maxRecDepth 100000
set_option linter.unusedVariables false
set_option linter.unusedSimpArgs false
namespace Go.Am.Pl
open Go

def cnt1 (x : GNode) (i : Int) : Int := (if x.yes = i then 1 else 0) + (if x.no = i then 1 else 0)
def cntL (i : Int) : List GNode → Int
  | [] => 0
  | x :: l => cnt1 x i + cntL i l
theorem cnt1_le (x : GNode) (i : Int) : 0 ≤ cnt1 x i ∧ cnt1 x i ≤ 2 := by unfold cnt1; split <;> split <;> omega
theorem cntL_le (i : Int) : ∀ l : List GNode, 0 ≤ cntL i l ∧ cntL i l ≤ 2 * l.length
  | [] => by simp [cntL]
  | x :: l => by have := cntL_le i l; have := cnt1_le x i; simp only [cntL, List.length_cons]; omega
theorem cntL_snoc (i : Int) (x : GNode) : ∀ l : List GNode, cntL i (l ++ [x]) = cntL i l + cnt1 x i
  | [] => by simp [cntL]
  | y :: l => by simp only [List.cons_append, cntL, cntL_snoc i x l]; omega

theorem rdr_in1 (tree : List GNode) (i : Int) (kx : Int → Option Bool) (ht : tree.length ≤ SMALL) : m_spec_RdrOk_l1 tree i kx FUEL 0 0 = kx (cntL i tree) := by
  have := scan tree (by unfold SMALL at ht; omega) (fun n k s => m_spec_RdrOk_l1 tree i kx n s k) (fun _ suf s => kx (s + cntL i suf)) (fun pre s => 0 ≤ s ∧ s ≤ 2 * pre.length)
    (fun n s _ => by rw [m_spec_RdrOk_l1, if_neg (by simp)]; simp [cntL])
    (fun n pre x suf s hl hg hlt hok hi ih => by
      have hs : (tree.length : Int) ≤ 1000000000 := by unfold SMALL at ht; omega
      have h1 : ok64 (s + 1) := by constructor <;> omega
      have h2 : ok64 (s + 1 + 1) := by constructor <;> omega
      have hpl : (((pre ++ [x]).length : Nat) : Int) = pre.length + 1 := by simp
      rw [m_spec_RdrOk_l1, if_pos (decide_eq_true hlt), hg]
      simp only [Option.bind_some, gd_pos h1, gd_pos h2, gd_pos hok]
      rw [ih (s + 1 + 1) (by omega), ih (s + 1) (by omega), ih s (by omega)]
      simp only [cntL, cnt1]
      by_cases a : x.yes = i <;> by_cases b : x.no = i <;> simp [a, b] <;> congr 1 <;> omega) FUEL 0 (by simp) (by unfold FUEL; unfold SMALL at ht; omega)
  simpa using this

theorem rdr_in2 (tree : List GNode) (i : Int) (kx : Int → Option Bool) (ht : tree.length ≤ SMALL) : m_spec_RdrOk_l2 tree i kx FUEL 0 0 = kx (cntL i tree) := by
  have := scan tree (by unfold SMALL at ht; omega) (fun n k s => m_spec_RdrOk_l2 tree i kx n s k) (fun _ suf s => kx (s + cntL i suf)) (fun pre s => 0 ≤ s ∧ s ≤ 2 * pre.length)
    (fun n s _ => by rw [m_spec_RdrOk_l2, if_neg (by simp)]; simp [cntL])
    (fun n pre x suf s hl hg hlt hok hi ih => by
      have hs : (tree.length : Int) ≤ 1000000000 := by unfold SMALL at ht; omega
      have h1 : ok64 (s + 1) := by constructor <;> omega
      have h2 : ok64 (s + 1 + 1) := by constructor <;> omega
      have hpl : (((pre ++ [x]).length : Nat) : Int) = pre.length + 1 := by simp
      rw [m_spec_RdrOk_l2, if_pos (decide_eq_true hlt), hg]
      simp only [Option.bind_some, gd_pos h1, gd_pos h2, gd_pos hok]
      rw [ih (s + 1 + 1) (by omega), ih (s + 1) (by omega), ih s (by omega)]
      simp only [cntL, cnt1]
      by_cases a : x.yes = i <;> by_cases b : x.no = i <;> simp [a, b] <;> congr 1 <;> omega) FUEL 0 (by simp) (by unfold FUEL; unfold SMALL at ht; omega)
  simpa using this

theorem rdr_in3 (tree : List GNode) (i : Int) (kx : Int → Option Bool) (ht : tree.length ≤ SMALL) : m_spec_RdrOk_l3 tree i kx FUEL 0 0 = kx (cntL i tree) := by
  have := scan tree (by unfold SMALL at ht; omega) (fun n k s => m_spec_RdrOk_l3 tree i kx n s k) (fun _ suf s => kx (s + cntL i suf)) (fun pre s => 0 ≤ s ∧ s ≤ 2 * pre.length)
    (fun n s _ => by rw [m_spec_RdrOk_l3, if_neg (by simp)]; simp [cntL])
    (fun n pre x suf s hl hg hlt hok hi ih => by
      have hs : (tree.length : Int) ≤ 1000000000 := by unfold SMALL at ht; omega
      have h1 : ok64 (s + 1) := by constructor <;> omega
      have h2 : ok64 (s + 1 + 1) := by constructor <;> omega
      have hpl : (((pre ++ [x]).length : Nat) : Int) = pre.length + 1 := by simp
      rw [m_spec_RdrOk_l3, if_pos (decide_eq_true hlt), hg]
      simp only [Option.bind_some, gd_pos h1, gd_pos h2, gd_pos hok]
      rw [ih (s + 1 + 1) (by omega), ih (s + 1) (by omega), ih s (by omega)]
      simp only [cntL, cnt1]
      by_cases a : x.yes = i <;> by_cases b : x.no = i <;> simp [a, b] <;> congr 1 <;> omega) FUEL 0 (by simp) (by unfold FUEL; unfold SMALL at ht; omega)
  simpa using this

theorem rdr_in4 (tree : List GNode) (i : Int) (kx : Int → Option Bool) (ht : tree.length ≤ SMALL) : m_spec_RdrOk_l4 tree i kx FUEL 0 0 = kx (cntL i tree) := by
  have := scan tree (by unfold SMALL at ht; omega) (fun n k s => m_spec_RdrOk_l4 tree i kx n s k) (fun _ suf s => kx (s + cntL i suf)) (fun pre s => 0 ≤ s ∧ s ≤ 2 * pre.length)
    (fun n s _ => by rw [m_spec_RdrOk_l4, if_neg (by simp)]; simp [cntL])
    (fun n pre x suf s hl hg hlt hok hi ih => by
      have hs : (tree.length : Int) ≤ 1000000000 := by unfold SMALL at ht; omega
      have h1 : ok64 (s + 1) := by constructor <;> omega
      have h2 : ok64 (s + 1 + 1) := by constructor <;> omega
      have hpl : (((pre ++ [x]).length : Nat) : Int) = pre.length + 1 := by simp
      rw [m_spec_RdrOk_l4, if_pos (decide_eq_true hlt), hg]
      simp only [Option.bind_some, gd_pos h1, gd_pos h2, gd_pos hok]
      rw [ih (s + 1 + 1) (by omega), ih (s + 1) (by omega), ih s (by omega)]
      simp only [cntL, cnt1]
      by_cases a : x.yes = i <;> by_cases b : x.no = i <;> simp [a, b] <;> congr 1 <;> omega) FUEL 0 (by simp) (by unfold FUEL; unfold SMALL at ht; omega)
  simpa using this

def okN (len i v : Int) : Bool := decide (v = -1) || inB v (i + 1) (len - 1)
def nodeB (len i : Int) (x : GNode) : Bool := expHolds x.if_ x.stone && (inB x.ans 0 2 && (okN len i x.yes && okN len i x.no))
def nodesI (len : Int) : Int → List GNode → Bool
  | _, [] => true
  | i, x :: l => nodeB len i x && nodesI len (i + 1) l
def nodesS (tree : List GNode) : Int → List GNode → Bool
  | _, [] => true
  | i, x :: l => nodeB tree.length i x && ((decide (i = 0) == decide (cntL i tree = 0)) && (!decide (1 < cntL i tree) && nodesS tree (i + 1) l))
theorem expHolds_ok {e : GAsk} {d : List Int} (h : expHolds e d = true) : expOk e = true ∧ datOk d = true := by
  simp only [expHolds, Bool.and_eq_true] at h; exact ⟨h.1, h.2.1⟩
def treeSmall (tree : List GNode) : Prop := tree.length ≤ SMALL ∧ ∀ x ∈ tree, x.stone.length ≤ SMALL

theorem spec_RdrOk_S (tree : List GNode) (ht : treeSmall tree) : m_spec_RdrOk tree = some (!decide (12 < (tree.length : Int)) && nodesS tree 0 tree) := by
  unfold m_spec_RdrOk
  have := scan0 tree (by have := ht.1; unfold SMALL at this; omega) (m_spec_RdrOk_l0 tree m_spec_RdrOk_k5) (fun pre suf => some (nodesS tree pre.length suf))
    (fun n => by rw [m_spec_RdrOk_l0, if_neg (by simp)]; rfl)
    (fun n pre x suf hl hg hlt hok ih => by
      have hx : x.stone.length ≤ SMALL := ht.2 x (by rw [hl]; simp)
      have hpl : (((pre ++ [x]).length : Nat) : Int) = pre.length + 1 := by simp
      rw [hpl] at ih
      rw [m_spec_RdrOk_l0, if_pos (decide_eq_true hlt), hg]
      simp only [Option.bind_some, gd_pos hok, gd_pos (ok_len1 ht.1), spec_ExpOk, spec_in, spec_DatOk _ hx, spec_ExpHolds _ _ hx, rdr_in1 tree _ _ ht.1, rdr_in2 tree _ _ ht.1, rdr_in3 tree _ _ ht.1, rdr_in4 tree _ _ ht.1,
        m_spec_RdrOk_k1, m_spec_RdrOk_k2, m_spec_RdrOk_k3, m_spec_RdrOk_k4, ih, nodesS, nodeB, okN]
      by_cases hh : expHolds x.if_ x.stone = true
      · obtain ⟨h1, h2⟩ := expHolds_ok hh
        rw [h1, h2, hh]
        simp only [if_true]
        cases inB x.ans 0 2 <;> by_cases hy : x.yes = -1 <;> by_cases hn : x.no = -1 <;> cases inB x.yes (↑pre.length + 1) (↑tree.length - 1) <;> cases inB x.no (↑pre.length + 1) (↑tree.length - 1) <;>
          cases (decide ((pre.length : Int) = 0) == decide (cntL ↑pre.length tree = 0)) <;> cases decide (1 < cntL ↑pre.length tree) <;> simp [hy, hn]
      · rw [Bool.eq_false_iff.2 hh]
        cases expOk x.if_ <;> cases inB x.ans 0 2 <;> cases datOk x.stone <;> simp)
  rw [this, iteN]
  rfl

def bump (l : List Int) (v : Int) : List Int := if v = -1 then l else l.set v.toNat (atI l v + 1)
theorem getI_set {α : Type} (l : List α) {v j : Int} (w : α) (hv : 0 ≤ v) (hj : 0 ≤ j) (hl : j < l.length) : getI (l.set v.toNat w) j = if v = j then some w else getI l j := by
  unfold getI
  rw [if_pos hj, if_pos hj, List.getElem?_set]
  by_cases h : v = j
  · subst h; simp; omega
  · rw [if_neg (by omega), if_neg h]
theorem bump_len (l : List Int) (v : Int) : (bump l v).length = l.length := by unfold bump; split <;> simp
theorem bump_get (l : List Int) {v j : Int} (hv : v = -1 ∨ 0 ≤ v) (c : Int → Int) (hc : ∀ j : Int, 0 ≤ j → j < l.length → getI l j = some (c j)) (hj : 0 ≤ j) (hl : j < l.length) : getI (bump l v) j = some (c j + if v = j then 1 else 0) := by
  unfold bump
  by_cases h : v = -1
  · rw [if_pos h, if_neg (by omega), hc j hj hl]; simp
  · rw [if_neg h, getI_set l _ (by omega) hj hl]
    by_cases he : v = j
    · subst he
      rw [if_pos rfl, if_pos rfl]
      unfold atI
      rw [hc _ hj hl]; rfl
    · rw [if_neg he, if_neg he, hc j hj hl]; simp

theorem impl_rdr_in (tree : List GNode) (i : Int) (x : GNode) (kx : List Int → Option Bool) (l : List Int) (c : Int → Int) (hl : l.length = tree.length) (hc : ∀ j : Int, 0 ≤ j → j < l.length → getI l j = some (c j))
    (hb : ∀ j, 0 ≤ c j ∧ c j ≤ 2000000000) (hi : 0 ≤ i) (hi2 : ok64 (i + 1)) (ht : tree.length ≤ SMALL) :
    m_impl_RdrOk_l1 tree i x kx FUEL 0 l = if (okN tree.length i x.yes && okN tree.length i x.no) = true then kx (bump (bump l x.yes) x.no) else some false := by
  have one : ∀ (n : Nat) (k : Int) (v : Int) (m : List Int) (d : Int → Int), m.length = tree.length → (∀ j : Int, 0 ≤ j → j < m.length → getI m j = some (d j)) → (∀ j, 0 ≤ d j ∧ d j ≤ 2000000001) → getI [x.yes, x.no] k = some v → 0 ≤ k → k < 2 →
      m_impl_RdrOk_l1 tree i x kx (n + 1) k m = if okN tree.length i v = true then m_impl_RdrOk_l1 tree i x kx n (k + 1) (bump m v) else some false := by
    intro n k v m d hm hd hbd hg hk0 hk2
    have hk : ok64 (k + 1) := by constructor <;> omega
    rw [m_impl_RdrOk_l1, if_pos (by simp; omega), hg]
    simp only [Option.bind_some, gd_pos hk, gd_pos hi2, gd_pos (ok_len1 ht), impl_in]
    unfold okN bump
    by_cases hv : v = -1
    · simp [hv]
    · by_cases hin : inB v (i + 1) (tree.length - 1) = true
      · have hin' := inB_iff.1 hin
        have h1 := hd v (by omega) (by omega)
        have h2 := hbd v
        rw [if_neg (by simpa using hv), if_pos hin, h1]
        simp only [Option.bind_some, gd_pos (show ok64 (d v + 1) by constructor <;> omega)]
        rw [if_pos (by simp [hin]), if_neg hv]
        unfold atI; rw [h1]; rfl
      · rw [if_neg (by simpa using hv), if_neg hin, if_neg (by simp [hv, Bool.eq_false_iff.2 hin])]
  have hF : FUEL = 4611686018427387901 + 1 + 1 + 1 := rfl
  rw [hF, one _ 0 x.yes l c hl hc (fun j => by have := hb j; omega) rfl (by omega) (by omega)]
  by_cases h1 : okN tree.length i x.yes = true
  · have hy : x.yes = -1 ∨ 0 ≤ x.yes := by simp only [okN, Bool.or_eq_true, decide_eq_true_eq, inB_iff] at h1; omega
    rw [if_pos h1, one _ (0 + 1) x.no (bump l x.yes) (fun j => c j + if x.yes = j then 1 else 0) (by rw [bump_len, hl]) (fun j hj hjl => bump_get l hy c hc hj (by rwa [bump_len] at hjl)) (fun j => by have := hb j; split <;> omega) rfl (by omega) (by omega), h1, Bool.true_and]
    by_cases h2 : okN tree.length i x.no = true
    · rw [if_pos h2, if_pos h2, m_impl_RdrOk_l1, if_neg (by simp)]
    · rw [if_neg h2, if_neg h2]
  · rw [if_neg h1, if_neg (by rw [Bool.eq_false_iff.2 h1]; simp)]

def oneB : Int → List Int → Bool
  | _, [] => true
  | i, x :: s => (!decide (0 < i) || decide (x = 1)) && oneB (i + 1) s
theorem impl_rdr_ones (tree : List GNode) (l : List Int) (hl : l.length ≤ SMALL) : m_impl_RdrOk_k2 tree l = some (oneB 0 l && decide ((tree.length : Int) ≤ 12)) := by
  unfold m_impl_RdrOk_k2
  have := scan0 l (by unfold SMALL at hl; omega) (m_impl_RdrOk_l2 l (m_impl_RdrOk_k3 tree)) (fun pre suf => some (oneB pre.length suf && decide ((tree.length : Int) ≤ 12)))
    (fun n => by rw [m_impl_RdrOk_l2, if_neg (by simp)]; rfl)
    (fun n pre x suf hl hg hlt hok ih => by
      have hpl : (((pre ++ [x]).length : Nat) : Int) = pre.length + 1 := by simp
      rw [hpl] at ih
      rw [m_impl_RdrOk_l2, if_pos (decide_eq_true hlt), hg]
      simp only [Option.bind_some, gd_pos hok, ih, oneB]
      cases decide (0 < (pre.length : Int)) <;> by_cases hx : x = 1 <;> simp [hx])
  exact this

theorem impl_RdrOk_I (tree : List GNode) (ht : treeSmall tree) : m_impl_RdrOk tree = some (nodesI tree.length 0 tree && (oneB 0 ((List.range tree.length).map fun j : Nat => cntL (j : Int) tree) && decide ((tree.length : Int) ≤ 12))) := by
  unfold m_impl_RdrOk
  have hs := ht.1
  have hs' : (tree.length : Int) ≤ 1000000000 := by unfold SMALL at hs; omega
  rw [gd_pos ⟨by omega, hs'⟩]
  have := scan tree (by unfold SMALL at hs; omega) (fun n k s => m_impl_RdrOk_l0 tree (m_impl_RdrOk_k2 tree) n k s) (fun pre suf s => some (nodesI tree.length pre.length suf && (oneB 0 ((List.range tree.length).map fun j : Nat => cntL (j : Int) tree) && decide ((tree.length : Int) ≤ 12))))
    (fun pre s => s.length = tree.length ∧ ∀ j : Int, 0 ≤ j → j < s.length → getI s j = some (cntL j pre))
    (fun n s hi => by
      rw [m_impl_RdrOk_l0, if_neg (by simp), impl_rdr_ones tree s (by rw [hi.1]; exact hs)]
      have : s = (List.range tree.length).map fun j : Nat => cntL (j : Int) tree := by
        apply List.ext_getElem?
        intro j
        by_cases hj : j < s.length
        · have := hi.2 j (by omega) (by omega)
          rw [getI_nat] at this
          rw [this, List.getElem?_map, List.getElem?_range (by rw [← hi.1]; exact hj)]; rfl
        · rw [List.getElem?_eq_none (by omega), List.getElem?_eq_none (by simp; omega)]
      rw [← this]; simp [nodesI])
    (fun n pre x suf s hl hg hlt hok hi ih => by
      have hx : x.stone.length ≤ SMALL := ht.2 x (by rw [hl]; simp)
      have hpl : (((pre ++ [x]).length : Nat) : Int) = pre.length + 1 := by simp
      rw [m_impl_RdrOk_l0, if_pos (decide_eq_true hlt), hg]
      simp only [Option.bind_some, impl_ExpHolds _ _ hx, m_impl_isAnswer, impl_in, nodesI, nodeB]
      rw [impl_rdr_in tree pre.length x _ s (fun j => cntL j pre) hi.1 hi.2 (fun j => by have := cntL_le j pre; omega) (by omega) hok hs]
      by_cases hy : okN tree.length pre.length x.yes = true
      · by_cases hn : okN tree.length pre.length x.no = true
        · have hy' : x.yes = -1 ∨ 0 ≤ x.yes := by simp only [okN, Bool.or_eq_true, decide_eq_true_eq, inB_iff] at hy; omega
          have hn' : x.no = -1 ∨ 0 ≤ x.no := by simp only [okN, Bool.or_eq_true, decide_eq_true_eq, inB_iff] at hn; omega
          have h3 := ih (bump (bump s x.yes) x.no) ⟨by rw [bump_len, bump_len, hi.1], fun j hj hjl => by
            rw [bump_get (bump s x.yes) hn' (fun j => cntL j pre + if x.yes = j then 1 else 0) (fun j hj hjl => bump_get s hy' _ hi.2 hj (by rwa [bump_len] at hjl)) hj (by rwa [bump_len] at hjl), cntL_snoc, cnt1]
            congr 1; omega⟩
          rw [hpl] at h3
          rw [hy, hn, m_impl_RdrOk_k1, gd_pos hok, h3]
          cases expHolds x.if_ x.stone <;> cases inB x.ans 0 2 <;> simp
        · rw [Bool.eq_false_iff.2 hn]; cases expHolds x.if_ x.stone <;> cases inB x.ans 0 2 <;> simp
      · rw [Bool.eq_false_iff.2 hy]; cases expHolds x.if_ x.stone <;> cases inB x.ans 0 2 <;> simp) FUEL (List.replicate (tree.length : Int).toNat 0)
      ⟨by simp, fun j hj hjl => by
        obtain ⟨k, rfl⟩ := Int.eq_ofNat_of_zero_le hj
        rw [getI_nat, List.getElem?_replicate, if_pos (by simpa using hjl)]; rfl⟩ (by unfold FUEL; unfold SMALL at hs; omega)
  simpa using this

def rdrB (tree : List GNode) : Bool := nodesI tree.length 0 tree && (oneB 0 ((List.range tree.length).map fun j : Nat => cntL (j : Int) tree) && decide ((tree.length : Int) ≤ 12))
theorem oneB_iff (f : Int → Int) : ∀ (n : Nat) (i : Nat), oneB i ((List.range' i n).map fun j : Nat => f (j : Int)) = true ↔ ∀ j : Nat, i ≤ j → j < i + n → 0 < j → f j = 1
  | 0, i => by simp [oneB]; omega
  | n + 1, i => by
    rw [List.range'_succ, List.map_cons, oneB, Bool.and_eq_true]
    have := oneB_iff f n (i + 1)
    rw [show (((i + 1 : Nat)) : Int) = (i : Int) + 1 by omega] at this
    rw [this]
    constructor
    · rintro ⟨h1, h2⟩ j hj hj2 h0
      by_cases h : j = i
      · subst h
        have : 0 < (j : Int) := by omega
        rw [decide_eq_true this] at h1; simpa using h1
      · exact h2 j (by omega) (by omega) h0
    · intro h
      refine ⟨?_, fun j hj hj2 h0 => h j (by omega) (by omega) h0⟩
      by_cases h0 : 0 < i
      · simp [h i (by omega) (by omega) h0]
      · simp; omega
theorem nodesI_edges (len : Int) : ∀ (l : List GNode) (i : Int), 0 ≤ i → nodesI len i l = true → cntL 0 l = 0
  | [], _, _, _ => rfl
  | x :: l, i, hi, h => by
    simp only [nodesI, nodeB, okN, Bool.and_eq_true, Bool.or_eq_true, decide_eq_true_eq, inB_iff] at h
    have := nodesI_edges len l (i + 1) (by omega) h.2
    simp only [cntL, cnt1, this]
    rw [if_neg (by omega), if_neg (by omega)]; rfl
theorem nodesS_iff (tree : List GNode) : ∀ (l : List GNode) (i : Nat), nodesS tree i l = true ↔ nodesI tree.length i l = true ∧ ∀ j : Nat, i ≤ j → j < i + l.length → ((j = 0 ↔ cntL j tree = 0) ∧ cntL j tree ≤ 1)
  | [], i => by simp [nodesS, nodesI]; omega
  | x :: l, i => by
    have ih := nodesS_iff tree l (i + 1)
    rw [show (((i + 1 : Nat)) : Int) = (i : Int) + 1 by omega] at ih
    simp only [nodesS, nodesI, Bool.and_eq_true, ih, List.length_cons]
    constructor
    · rintro ⟨h1, h2, h3, h4, h5⟩
      refine ⟨⟨h1, h4⟩, fun j hj hj2 => ?_⟩
      by_cases h : j = i
      · subst h
        simp at h2 h3
        exact ⟨by rw [← h2], by omega⟩
      · exact h5 j (by omega) (by omega)
    · rintro ⟨⟨h1, h4⟩, h5⟩
      obtain ⟨h6, h7⟩ := h5 i (by omega) (by omega)
      refine ⟨h1, ?_, ?_, h4, fun j hj hj2 => h5 j (by omega) (by omega)⟩
      · simp [← h6]
      · simp; omega
theorem rdr_eq (tree : List GNode) : (!decide (12 < (tree.length : Int)) && nodesS tree 0 tree) = rdrB tree := by
  rw [Bool.eq_iff_iff]
  have h1 := nodesS_iff tree tree 0
  have h2 := oneB_iff (fun j => cntL j tree) tree.length 0
  rw [show ((0 : Nat) : Int) = 0 from rfl] at h1 h2
  rw [← List.range_eq_range'] at h2
  simp only [rdrB, Bool.and_eq_true, h1, h2, Bool.not_eq_true', decide_eq_false_iff_not, decide_eq_true_eq]
  constructor
  · rintro ⟨a, b, c⟩
    refine ⟨b, fun j hj hj2 h0 => ?_, by omega⟩
    have := c j hj hj2
    have := (cntL_le j tree).1
    omega
  · rintro ⟨b, c, a⟩
    refine ⟨by omega, b, fun j hj hj2 => ?_⟩
    by_cases h0 : j = 0
    · subst h0
      have := nodesI_edges _ tree 0 (by omega) b
      simp [this]
    · have := c j hj hj2 (by omega)
      omega
theorem spec_RdrOk (tree : List GNode) (ht : treeSmall tree) : m_spec_RdrOk tree = some (rdrB tree) := by rw [spec_RdrOk_S tree ht, rdr_eq]
theorem impl_RdrOk (tree : List GNode) (ht : treeSmall tree) : m_impl_RdrOk tree = some (rdrB tree) := impl_RdrOk_I tree ht

end Go.Am.Pl
