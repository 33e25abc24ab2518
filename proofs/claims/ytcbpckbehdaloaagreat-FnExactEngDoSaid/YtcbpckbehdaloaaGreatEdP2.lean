/- Plain laws. Own work. -/
import Derived.Test.YtcbpckbehdaloaaGreatEdP1
section
set_option maxRecDepth 100000
set_option linter.unusedVariables false
set_option linter.unusedSimpArgs false
namespace Go.Am.Pl
open Go
def noCase : GCase := GCase.mk 0 [] [] [] []
def newC (n : GNet) (data : List Int) : GCase := bif netB n && datOk data then GCase.mk 1 ((List.replicate n.places.toNat (0 : Int)).set 0 1) [] data [] else noCase
theorem z1sy {n : GNet} (h : netB n = true) : getI (List.replicate n.places.toNat (0 : Int)) 0 = some (atI (List.replicate n.places.toNat (0 : Int)) 0) := by
  have := z0bn h
  exact z00r _ (by omega) (by simp; omega)
theorem z1ap (n : GNet) (data : List Int) (hn : n.small) (hd : data.length ≤ SMALL) : z0bw n data = some (newC n data) := by
  unfold z0bw newC
  rw [z0wh n hn, Option.bind_some]
  by_cases h1 : netB n = true
  case neg => rw [if_neg h1, Bool.eq_false_iff.2 h1]; rfl
  rw [if_pos h1, h1, z0a3 _ hd, Option.bind_some]
  by_cases h2 : datOk data = true
  case neg => rw [if_neg h2, Bool.eq_false_iff.2 h2]; rfl
  have := z0bn h1
  rw [if_pos h2, h2, z001 (by omega), z001 (by simpa using hd), z1sy h1]; rfl
theorem z19v (n : GNet) (data : List Int) (hn : n.small) (hd : data.length ≤ SMALL) : z0bs n data = some (newC n data) := by
  unfold z0bs newC
  rw [z0v8 n hn, Option.bind_some]
  by_cases h1 : netB n = true
  case neg => rw [if_neg h1, Bool.eq_false_iff.2 h1]; rfl
  rw [if_pos h1, h1, z0df _ hd, Option.bind_some]
  by_cases h2 : datOk data = true
  case neg => rw [if_neg h2, Bool.eq_false_iff.2 h2]; rfl
  have := z0bn h1
  rw [if_pos h2, h2, z001 (by omega), z02f _ hd, Option.bind_some, z1sy h1]; rfl
def nxt (tree : List GNode) (data : List Int) (a : Int) : Int := if expHolds (atI tree a).if_ data = true then (atI tree a).yes else (atI tree a).no
def wayL (tree : List GNode) (data : List Int) : Nat → Int → List Int
  | 0, _ => []
  | k + 1, a => if a = -1 then [] else a :: wayL tree data k (nxt tree data a)
def wayB (tree : List GNode) (data : List Int) : List Int := if tree.length = 0 then [] else wayL tree data 12 0
def holdI (tree : List GNode) (data : List Int) (a : Int) : Bool := expHolds (atI tree a).if_ data
def heldF (tree : List GNode) (data : List Int) (l : List Int) (h : Int) : Int := l.foldl (fun h a => if holdI tree data a = true then a else h) h
def lastF (l : List Int) (a : Int) : Int := l.foldl (fun _ x => x) a
def Vd (tree : List GNode) (a : Int) : Prop := a = -1 ∨ (0 ≤ a ∧ a < tree.length)
theorem z1s9 (len : Int) : ∀ (l : List GNode) (i : Int) (j : Nat), nodesI len i l = true → j < l.length → nodeB len (i + j) (atI l j) = true
  | [], _, _, _, h => by simp at h
  | x :: l, i, 0, h, _ => by
    simp only [nodesI, Bool.and_eq_true] at h
    have : atI (x :: l) ((0 : Nat) : Int) = x := rfl
    rw [this]; simpa using h.1
  | x :: l, i, j + 1, h, hj => by
    simp only [nodesI, Bool.and_eq_true] at h
    have := z1s9 len l (i + 1) j h.2 (by simpa using hj)
    have e : atI (x :: l) ((j + 1 : Nat) : Int) = atI l (j : Int) := by unfold atI; rw [z08t, z08t]; rfl
    rw [e, show i + ((j + 1 : Nat) : Int) = i + 1 + j by omega]; exact this
structure RdrFacts (tree : List GNode) : Prop where
  len : tree.length ≤ 12
  node : ∀ a : Int, 0 ≤ a → a < tree.length → nodeB tree.length a (atI tree a) = true
  ones : ∀ j : Nat, 0 < j → j < tree.length → cntL j tree = 1
theorem z0ds {tree : List GNode} (h : rdrB tree = true) : RdrFacts tree := by
  have h2 := z1pz (fun j => cntL j tree) tree.length 0
  rw [← List.range_eq_range'] at h2
  simp only [rdrB, Bool.and_eq_true, decide_eq_true_eq] at h
  obtain ⟨a, b, c⟩ := h
  rw [show ((0 : Nat) : Int) = 0 from rfl] at h2
  have b := h2.1 b
  refine ⟨by omega, fun x h0 h1 => ?_, fun j h0 h1 => b j (by omega) (by omega) h0⟩
  have := z1s9 tree.length tree 0 x.toNat a (by omega)
  rw [show (0 : Int) + (x.toNat : Int) = x by omega, show ((x.toNat : Nat) : Int) = x by omega] at this; exact this
theorem z1xy {len a : Int} {x : GNode} (h : nodeB len a x = true) : (x.yes = -1 ∨ (a + 1 ≤ x.yes ∧ x.yes ≤ len - 1)) ∧ (x.no = -1 ∨ (a + 1 ≤ x.no ∧ x.no ≤ len - 1)) := by
  simp only [nodeB, okN, Bool.and_eq_true, Bool.or_eq_true, decide_eq_true_eq, z01k] at h
  exact ⟨h.2.2.1, h.2.2.2⟩
theorem z20w {tree : List GNode} (F : RdrFacts tree) (data : List Int) {a : Int} (h0 : 0 ≤ a) (h1 : a < tree.length) : nxt tree data a = -1 ∨ (a < nxt tree data a ∧ nxt tree data a < tree.length) := by
  have := z1xy (F.node a h0 h1)
  unfold nxt; split <;> omega
theorem z1zy {tree : List GNode} (F : RdrFacts tree) (data : List Int) : ∀ (k : Nat) (a : Int), Vd tree a → ∀ p ∈ wayL tree data k a, 0 ≤ p ∧ p < tree.length
  | 0, _, _, p, hp => by simp [wayL] at hp
  | k + 1, a, ha, p, hp => by
    unfold wayL at hp
    split at hp
    · simp at hp
    · rename_i hne
      have hv : 0 ≤ a ∧ a < tree.length := ha.resolve_left hne
      rcases List.mem_cons.1 hp with rfl | hp
      · exact hv
      · have := z20w F data hv.1 hv.2
        exact z1zy F data k _ (by unfold Vd; omega) p hp
theorem z1at {tree : List GNode} (F : RdrFacts tree) (data : List Int) : ∀ (k m : Nat) (a : Int), Vd tree a → (tree.length : Int) - a ≤ k → (tree.length : Int) - a ≤ m → wayL tree data k a = wayL tree data m a
  | 0, m, a, ha, hk, hm => by
    have : a = -1 := by unfold Vd at ha; omega
    subst this
    cases m <;> simp [wayL]
  | k + 1, 0, a, ha, hk, hm => by
    have : a = -1 := by unfold Vd at ha; omega
    subst this
    simp [wayL]
  | k + 1, m + 1, a, ha, hk, hm => by
    unfold wayL
    split
    · rfl
    · rename_i hne
      have hv : 0 ≤ a ∧ a < tree.length := ha.resolve_left hne
      have := z20w F data hv.1 hv.2
      by_cases e : nxt tree data a = -1
      · rw [e]; cases k <;> cases m <;> simp [wayL]
      · rw [z1at F data k m _ (by unfold Vd; omega) (by omega) (by omega)]
theorem z1sv {tree : List GNode} (F : RdrFacts tree) (data : List Int) (hd : data.length ≤ SMALL) (k1 k2 : Int → Int → Option (Int × Int)) (e1 : ∀ a b, k1 a b = some (a, b)) (e2 : ∀ a b, k2 a b = some (a, b)) :
    ∀ (k : Nat) (f : Nat) (h b a : Int), k ≤ 12 → k < f → Vd tree a → z02m tree data k1 k2 f h b a (12 - k) = some (heldF tree data (wayL tree data k a) h, lastF (wayL tree data k a) b) := by
  intro k
  induction k with
  | zero =>
    intro f h b a hk hf ha
    obtain ⟨g, rfl⟩ : ∃ g, f = g + 1 := ⟨f - 1, by omega⟩
    rw [z02m, if_neg (by simp), e2]; rfl
  | succ k ih =>
    intro f h b a hk hf ha
    obtain ⟨g, rfl⟩ : ∃ g, f = g + 1 := ⟨f - 1, by omega⟩
    rw [z02m, if_pos (by rw [decide_eq_true_eq]; omega), wayL]
    by_cases hne : a = -1
    · rw [if_pos (decide_eq_true hne), if_pos hne, e1]; rfl
    · have hv : 0 ≤ a ∧ a < tree.length := ha.resolve_left hne
      have hg := z00r tree hv.1 hv.2
      have hn := z20w F data hv.1 hv.2
      have hi : (12 : Int) - ((k + 1 : Nat) : Int) + 1 = 12 - k := by omega
      have ok : ok64 ((12 : Int) - k) := by constructor <;> omega
      rw [if_neg (by simpa using hne), if_neg hne, hg, Option.bind_some, z066 _ _ hd, Option.bind_some, Option.bind_some, Option.bind_some, hi, z001 ok, z001 ok]
      by_cases hh : expHolds (atI tree a).if_ data = true
      · have e : nxt tree data a = (atI tree a).yes := by unfold nxt; rw [if_pos hh]
        rw [e] at hn ⊢
        rw [if_pos hh, ih g a a _ (by omega) (by omega) (by unfold Vd; omega)]
        simp only [heldF, lastF, List.foldl_cons, holdI, hh, if_true]
      · have e : nxt tree data a = (atI tree a).no := by unfold nxt; rw [if_neg hh]
        rw [e] at hn ⊢
        rw [if_neg hh, ih g h a _ (by omega) (by omega) (by unfold Vd; omega)]
        simp [heldF, lastF, holdI, hh]
theorem z11f {tree : List GNode} (F : RdrFacts tree) (data : List Int) (hd : data.length ≤ SMALL) : z07w tree data = some (heldF tree data (wayB tree data) (-1), lastF (wayB tree data) (-1)) := by
  unfold z07w wayB
  have hF := z02j
  by_cases h : tree.length = 0
  · rw [if_pos (decide_eq_true (by omega)), if_pos h]
    have := z1sv F data hd z0ms z0mt (fun _ _ => rfl) (fun _ _ => rfl) 12 FUEL (-1) (-1) (-1) (by omega) (by omega) (.inl rfl)
    exact this
  · rw [if_neg (by rw [decide_eq_true_eq]; omega), if_neg h]
    exact z1sv F data hd z0mu z0mv (fun _ _ => rfl) (fun _ _ => rfl) 12 FUEL (-1) (-1) 0 (by omega) (by omega) (.inr ⟨by omega, by omega⟩)
theorem z1xs {tree : List GNode} (F : RdrFacts tree) (data : List Int) (hd : data.length ≤ SMALL) : z0mn tree data = some (wayB tree data) := by
  unfold z0mn wayB
  have hF := z02j
  by_cases h : tree.length = 0
  · obtain ⟨g, e⟩ : ∃ g, FUEL = g + 1 := ⟨FUEL - 1, by omega⟩
    rw [e, z023, if_neg (by rw [decide_eq_true_eq]; omega), if_pos h]; rfl
  · have hpos : decide (0 < (tree.length : Int)) = true := decide_eq_true (by omega)
    have key : ∀ (k f : Nat) (a : Int) (l : List Int), Vd tree a → (tree.length : Int) - a ≤ k → k < f → l.length + k ≤ 1000 → z023 tree data z064 z0zt f a l = some (l ++ wayL tree data k a) := by
      intro k
      induction k with
      | zero =>
        intro f a l ha hk hf hl
        obtain ⟨g, rfl⟩ : ∃ g, f = g + 1 := ⟨f - 1, by omega⟩
        have : a = -1 := by unfold Vd at ha; omega
        rw [z023, if_pos hpos, if_pos (decide_eq_true this)]; simp [wayL, z064]
      | succ k ih =>
        intro f a l ha hk hf hl
        obtain ⟨g, rfl⟩ : ∃ g, f = g + 1 := ⟨f - 1, by omega⟩
        rw [z023, if_pos hpos, wayL]
        by_cases hne : a = -1
        · rw [if_pos (decide_eq_true hne), if_pos hne]; simp [z064]
        · have hv : 0 ≤ a ∧ a < tree.length := ha.resolve_left hne
          have hg := z00r tree hv.1 hv.2
          have hn := z20w F data hv.1 hv.2
          rw [if_neg (by simpa using hne), if_neg hne, z001 (by rw [List.length_singleton]; unfold SMALL; omega), hg, Option.bind_some, z07l _ _ hd, Option.bind_some, Option.bind_some, Option.bind_some]
          by_cases hh : expHolds (atI tree a).if_ data = true
          · have e : nxt tree data a = (atI tree a).yes := by unfold nxt; rw [if_pos hh]
            rw [e] at hn ⊢
            rw [if_pos hh]
            by_cases e1 : (atI tree a).yes = -1
            · rw [e1]
              by_cases hk0 : k = 0
              · subst hk0
                obtain ⟨g2, rfl⟩ : ∃ g2, g = g2 + 1 := ⟨g - 1, by omega⟩
                rw [z023, if_pos hpos, if_pos (by simp)]; simp [wayL, z064]
              · obtain ⟨g2, rfl⟩ : ∃ g2, g = g2 + 1 := ⟨g - 1, by omega⟩
                obtain ⟨k2, rfl⟩ : ∃ k2, k = k2 + 1 := ⟨k - 1, by omega⟩
                rw [z023, if_pos hpos, if_pos (by simp)]; simp [wayL, z064]
            · rw [ih g _ (l ++ [a]) (by unfold Vd; omega) (by omega) (by omega) (by simp; omega)]; simp
          · have e : nxt tree data a = (atI tree a).no := by unfold nxt; rw [if_neg hh]
            rw [e] at hn ⊢
            rw [if_neg hh]
            by_cases e1 : (atI tree a).no = -1
            · rw [e1]
              by_cases hk0 : k = 0
              · subst hk0
                obtain ⟨g2, rfl⟩ : ∃ g2, g = g2 + 1 := ⟨g - 1, by omega⟩
                rw [z023, if_pos hpos, if_pos (by simp)]; simp [wayL, z064]
              · obtain ⟨g2, rfl⟩ : ∃ g2, g = g2 + 1 := ⟨g - 1, by omega⟩
                obtain ⟨k2, rfl⟩ : ∃ k2, k = k2 + 1 := ⟨k - 1, by omega⟩
                rw [z023, if_pos hpos, if_pos (by simp)]; simp [wayL, z064]
            · rw [ih g _ (l ++ [a]) (by unfold Vd; omega) (by omega) (by omega) (by simp; omega)]; simp
    rw [if_neg h, key tree.length FUEL 0 [] (.inr ⟨by omega, by omega⟩) (by omega) (by have := F.len; omega) (by have := F.len; simp; omega), List.nil_append]
    rw [z1at F data tree.length 12 0 (.inr ⟨by omega, by omega⟩) (by omega) (by have := F.len; omega)]
theorem z1r7 {tree : List GNode} (F : RdrFacts tree) (data : List Int) : ∀ p ∈ wayB tree data, 0 ≤ p ∧ p < tree.length := by
  unfold wayB
  split
  · intro p hp; simp at hp
  · exact z1zy F data 12 0 (.inr ⟨by omega, by omega⟩)
theorem z1zx (tree : List GNode) (data : List Int) : ∀ (k : Nat) (a : Int), (wayL tree data k a).length ≤ k
  | 0, _ => by simp [wayL]
  | k + 1, a => by
    unfold wayL
    split
    · simp
    · have := z1zx tree data k (nxt tree data a); simp; exact this
theorem z1zw (tree : List GNode) (data : List Int) : (wayB tree data).length ≤ 12 := by
  unfold wayB
  split
  · simp
  · exact z1zx _ _ _ _
theorem z1rz (tree : List GNode) (data : List Int) : ∀ (l : List Int) (h : Int), heldF tree data l h = h ∨ heldF tree data l h ∈ l
  | [], h => .inl rfl
  | a :: l, h => by
    have := z1rz tree data l (if holdI tree data a = true then a else h)
    have e : heldF tree data (a :: l) h = heldF tree data l (if holdI tree data a = true then a else h) := rfl
    rw [e]
    rcases this with h2 | h2
    · rw [h2]; split
      · exact .inr (by simp)
      · exact .inl rfl
    · exact .inr (by simp [h2])
theorem z1s5 : ∀ (l : List Int) (a : Int), lastF l a = a ∨ lastF l a ∈ l
  | [], a => .inl rfl
  | x :: l, a => by
    have : lastF (x :: l) a = lastF l x := rfl
    rw [this]
    rcases z1s5 l x with h | h
    · rw [h]; exact .inr (by simp)
    · exact .inr (by simp [h])
def heldB (tree : List GNode) (data : List Int) : Int := heldF tree data (wayB tree data) (-1)
def lastB (tree : List GNode) (data : List Int) : Int := lastF (wayB tree data) (-1)
theorem z1o9 {tree : List GNode} (F : RdrFacts tree) (data : List Int) : Vd tree (heldB tree data) := by
  rcases z1rz tree data (wayB tree data) (-1) with h | h
  · exact .inl h
  · exact .inr (z1r7 F data _ h)
def askB (tree : List GNode) (data : List Int) : Int := bif rdrB tree && datOk data then (if heldB tree data = -1 then 0 else (atI tree (heldB tree data)).ans) else 0
theorem z1w0 (tree : List GNode) (data : List Int) (ht : treeSmall tree) (hd : data.length ≤ SMALL) : z0f2 tree data = some (askB tree data) := by
  unfold z0f2 askB
  rw [z16j tree ht, Option.bind_some]
  by_cases h1 : rdrB tree = true
  case neg => rw [if_neg h1, Bool.eq_false_iff.2 h1]; rfl
  rw [if_pos h1, h1, z0a3 _ hd, Option.bind_some]
  by_cases h2 : datOk data = true
  case neg => rw [if_neg h2, Bool.eq_false_iff.2 h2]; rfl
  have F := z0ds h1
  rw [if_pos h2, h2, z11f F data hd, Option.bind_some]
  show (if decide (heldB tree data = -1) = true then _ else _) = _
  by_cases h3 : heldB tree data = -1
  · rw [if_pos (decide_eq_true h3)]; simp [h3]
  · have hv := (z1o9 F data).resolve_left h3
    rw [if_neg (by simpa using h3)]
    show ((getI tree (heldB tree data)).bind _) = _
    rw [z00r tree hv.1 hv.2]; simp [h3]
theorem z1og (tree : List GNode) (data : List Int) (ht : treeSmall tree) (hd : data.length ≤ SMALL) : z0cx tree data = some (bif rdrB tree && datOk data then heldB tree data else -1) := by
  unfold z0cx z0mm
  rw [z13f tree ht, Option.bind_some]
  have nil : z01r tree data [] (([] : List Int).length : Int) z0c9 FUEL 0 (-1) = some (-1) := by
    obtain ⟨g, e⟩ : ∃ g, FUEL = g + 1 := ⟨FUEL - 1, by have := z02j; omega⟩
    rw [e, z01r, if_neg (by simp)]; rfl
  by_cases h1 : rdrB tree = true
  case neg => rw [if_neg h1, Bool.eq_false_iff.2 h1, Option.bind_some, nil]; rfl
  rw [if_pos h1, h1, z0df _ hd, Option.bind_some]
  by_cases h2 : datOk data = true
  case neg => rw [if_neg h2, Bool.eq_false_iff.2 h2, Option.bind_some, nil]; rfl
  have F := z0ds h1
  have hl := z1zw tree data
  rw [if_pos h2, h2, z1xs F data hd, Option.bind_some, Option.bind_some]
  exact scan (wayB tree data) (by omega) (z01r tree data (wayB tree data) ((wayB tree data).length : Int) z0c9) (fun _ suf h => some (heldF tree data suf h)) (fun _ _ => True)
    (fun f s _ => by rw [z01r, if_neg (by simp)]; rfl)
    (fun f pre x suf s a b c d _ k => by
      have hx := z1r7 F data x (by rw [a]; simp)
      rw [z01r, if_pos (decide_eq_true c), b, Option.bind_some, z00r tree hx.1 hx.2, Option.bind_some, z07l _ _ hd, Option.bind_some, z001 d, z001 d, k _ trivial, k _ trivial]
      have e : heldF tree data (x :: suf) s = heldF tree data suf (if holdI tree data x = true then x else s) := rfl
      rw [e]; unfold holdI
      split <;> rfl) FUEL (-1) trivial (by have := z02j; omega)
theorem z1u3 (tree : List GNode) (data : List Int) (ht : treeSmall tree) (hd : data.length ≤ SMALL) : z0er tree data = some (askB tree data) := by
  unfold z0er askB
  rw [z1og tree data ht hd, Option.bind_some]
  cases h : rdrB tree && datOk data
  · rfl
  · rw [Bool.and_eq_true] at h
    have F := z0ds h.1
    show (if decide (heldB tree data = -1) = true then _ else _) = some (if heldB tree data = -1 then 0 else (atI tree (heldB tree data)).ans)
    by_cases h3 : heldB tree data = -1
    · rw [if_pos (decide_eq_true h3)]; simp [h3]
    · have hv := (z1o9 F data).resolve_left h3
      rw [if_neg (by simpa using h3)]
      show ((getI tree (heldB tree data)).bind _) = _
      rw [z00r tree hv.1 hv.2]; simp [h3]
theorem z1wn (tree : List GNode) (data : List Int) : 0 ≤ askB tree data ∧ askB tree data ≤ 2 := by
  unfold askB
  cases h : rdrB tree && datOk data
  · simp
  · rw [Bool.and_eq_true] at h
    have F := z0ds h.1
    show 0 ≤ (if heldB tree data = -1 then 0 else (atI tree (heldB tree data)).ans) ∧ (if heldB tree data = -1 then 0 else (atI tree (heldB tree data)).ans) ≤ 2
    split
    · omega
    · rename_i h3
      have hv := (z1o9 F data).resolve_left h3
      have := F.node _ hv.1 hv.2
      simp only [nodeB, Bool.and_eq_true, z01k] at this
      exact this.2.1
theorem z158 {tree : List GNode} (F : RdrFacts tree) (data : List Int) (h : 0 < tree.length) : 0 ≤ lastB tree data ∧ lastB tree data < tree.length := by
  have e : wayB tree data = 0 :: wayL tree data 11 (nxt tree data 0) := by
    unfold wayB; rw [if_neg (by omega)]; rfl
  unfold lastB
  rw [e]
  have : lastF (0 :: wayL tree data 11 (nxt tree data 0)) (-1) = lastF (wayL tree data 11 (nxt tree data 0)) 0 := rfl
  rw [this]
  rcases z1s5 (wayL tree data 11 (nxt tree data 0)) 0 with h2 | h2
  · rw [h2]; omega
  · exact z1r7 F data _ (by rw [e]; simp [h2])
theorem z1jc : ∀ (l : List Int) (a : Int), 0 < l.length → getI l ((l.length : Int) - 1) = some (lastF l a)
  | [x], a, _ => rfl
  | x :: y :: l, a, _ => by
    have := z1jc (y :: l) x (by simp)
    have e : lastF (x :: y :: l) a = lastF (y :: l) x := rfl
    rw [e, ← this]
    have h1 : (((x :: y :: l).length : Nat) : Int) - 1 = ((l.length + 1 : Nat) : Int) := by simp
    have h2 : (((y :: l).length : Nat) : Int) - 1 = ((l.length : Nat) : Int) := by simp
    rw [h1, h2, z08t, z08t]; rfl
theorem z1s2 {tree : List GNode} (F : RdrFacts tree) (data : List Int) (hd : data.length ≤ SMALL) (h : 0 < tree.length) : z0gb tree data = some (lastB tree data, holdI tree data (lastB tree data)) := by
  have hv := z158 F data h
  have hl := z1zw tree data
  have e : 0 < (wayB tree data).length := by
    unfold wayB; rw [if_neg (by omega)]; simp [wayL]
  unfold z0gb
  rw [z1xs F data hd, Option.bind_some, z001 (by constructor <;> omega), z1jc _ (-1) e, Option.bind_some]
  show ((getI tree (lastB tree data)).bind _) = _
  rw [z00r tree hv.1 hv.2, Option.bind_some, z07l _ _ hd, Option.bind_some]; rfl
def sameB (tree : List GNode) (a b : List Int) : Bool := decide (lastB tree a = lastB tree b) && (holdI tree a (lastB tree a) == holdI tree b (lastB tree b))
theorem z21f {tree : List GNode} (F : RdrFacts tree) (a b : List Int) (ha : a.length ≤ SMALL) (hb : b.length ≤ SMALL) (h : 0 < tree.length) : z0f5 tree a b = some (sameB tree a b) := by
  have hv := z158 F a h
  unfold z0f5 sameB
  rw [z11f F a ha, Option.bind_some, z11f F b hb, Option.bind_some]
  show (if decide (lastB tree a = lastB tree b) = true then (if decide (lastB tree a = -1) = true then _ else ((getI tree (lastB tree a)).bind _)) else _) = _
  by_cases e : lastB tree a = lastB tree b
  · rw [if_pos (decide_eq_true e), if_neg (by rw [decide_eq_true_eq]; omega), z00r tree hv.1 hv.2, Option.bind_some, z066 _ _ ha, Option.bind_some]
    show ((getI tree (lastB tree a)).bind _) = _
    rw [z00r tree hv.1 hv.2, Option.bind_some, z066 _ _ hb, Option.bind_some, decide_eq_true e, Bool.true_and, ← e]; rfl
  · rw [if_neg (by simpa using e), decide_eq_false e]; rfl
def newN (e : GAsk) (ans : Int) (data : List Int) : GNode := GNode.mk e (-1) (-1) ans data
def putN (tree : List GNode) (data : List Int) : List GNode :=
  if tree.length = 0 then tree
  else if holdI tree data (lastB tree data) = true then tree.set (lastB tree data).toNat (GNode.mk (atI tree (lastB tree data)).if_ tree.length (atI tree (lastB tree data)).no (atI tree (lastB tree data)).ans (atI tree (lastB tree data)).stone)
  else tree.set (lastB tree data).toNat (GNode.mk (atI tree (lastB tree data)).if_ (atI tree (lastB tree data)).yes tree.length (atI tree (lastB tree data)).ans (atI tree (lastB tree data)).stone)
theorem z24i (tree : List GNode) (data : List Int) : (putN tree data).length = tree.length := by unfold putN; split; rfl; split <;> simp
def addOk (tree : List GNode) (data : List Int) (e : GAsk) (ans : Int) : Bool := rdrB tree && (datOk data && (expHolds e data && (inB ans 0 2 && !decide ((tree.length : Int) = 12))))
def takenB (tree : List GNode) (data : List Int) (e : GAsk) : Bool := tree.any (fun x => sameB tree x.stone data && expHolds e x.stone)
def addB (tree : List GNode) (data : List Int) (e : GAsk) (ans : Int) : List GNode × Bool :=
  bif addOk tree data e ans && !takenB tree data e then (putN tree data ++ [newN e ans data], true) else (tree, false)
theorem z1vz (tree : List GNode) (data : List Int) (e : GAsk) (ans : Int) (ht : treeSmall tree) (hd : data.length ≤ SMALL) : z0f1 tree data e ans = some (addB tree data e ans) := by
  unfold z0f1 addB addOk
  rw [z104 tree ht, Option.bind_some, z16j tree ht, Option.bind_some]
  by_cases h1 : rdrB tree = true
  case neg => rw [if_neg h1, Bool.eq_false_iff.2 h1]; rfl
  have F := z0ds h1
  rw [if_pos h1, h1, z0a3 _ hd, Option.bind_some]
  by_cases h2 : datOk data = true
  case neg => rw [if_neg h2, Bool.eq_false_iff.2 h2]; rfl
  rw [if_pos h2, h2, z066 _ _ hd, Option.bind_some]
  by_cases h3 : expHolds e data = true
  case neg => rw [if_neg h3, Bool.eq_false_iff.2 h3]; rfl
  rw [if_pos h3, h3, z054, Option.bind_some]
  by_cases h4 : inB ans 0 2 = true
  case neg => rw [if_neg h4, Bool.eq_false_iff.2 h4]; rfl
  rw [if_pos h4, h4]
  by_cases h5 : (tree.length : Int) = 12
  · rw [if_pos (decide_eq_true h5), decide_eq_true h5]; rfl
  rw [if_neg (by simpa using h5), decide_eq_false h5]
  have hl := F.len
  have loop := scan0 tree (by omega) (z03w tree data e tree (z09t tree data e ans tree)) (fun _ suf => if suf.any (fun x => sameB tree x.stone data && expHolds e x.stone) = true then some (tree, false) else z09t tree data e ans tree)
    (fun f => by rw [z03w, if_neg (by simp)]; rfl)
    (fun f pre x suf a b c d ih => by
      have hx : x ∈ tree := by rw [a]; simp
      rw [z03w, if_pos (decide_eq_true c), b, Option.bind_some, z21f F x.stone data (ht.2 x hx) hd (by omega), Option.bind_some, Option.bind_some, z066 _ _ (ht.2 x hx), Option.bind_some, z001 d, ih, List.any_cons]
      cases sameB tree x.stone data <;> cases expHolds e x.stone <;> simp)
  rw [loop]
  show (if takenB tree data e = true then _ else _) = _
  cases takenB tree data e
  case true => rfl
  rw [if_neg (by simp)]
  unfold z09t
  rw [z11f F data hd, Option.bind_some]
  show (if decide (lastB tree data = -1) = true then _ else ((getI tree (lastB tree data)).bind _)) = some (putN tree data ++ [newN e ans data], true)
  have g1 : ([] : List Int).length + data.length ≤ SMALL := by simpa using hd
  have g2 : ∀ (l : List GNode) (y : GNode), l.length = tree.length → l.length + [y].length ≤ SMALL := fun l y h => by rw [List.length_singleton]; unfold SMALL; omega
  unfold putN newN
  by_cases h0 : tree.length = 0
  · have : lastB tree data = -1 := by unfold lastB wayB; rw [if_pos h0]; rfl
    rw [if_pos (decide_eq_true this), z001 g1, z001 (g2 _ _ rfl), if_pos h0]; rfl
  · have hv := z158 F data (by omega)
    have hg := z00r tree hv.1 hv.2
    rw [if_neg (by rw [decide_eq_true_eq]; omega), if_neg h0, hg, Option.bind_some, z066 _ _ hd, Option.bind_some]
    show (if holdI tree data (lastB tree data) = true then ((getI tree (lastB tree data)).bind _) else ((getI tree (lastB tree data)).bind _)) = _
    rw [hg, Option.bind_some, Option.bind_some, z001 g1, z001 (g2 _ _ (by simp)), z001 g1, z001 (g2 _ _ (by simp))]
    split <;> rfl
theorem z1u2 (tree : List GNode) (data : List Int) (e : GAsk) (ans : Int) (ht : treeSmall tree) (hd : data.length ≤ SMALL) : z0eq tree data e ans = some (addB tree data e ans) := by
  unfold z0eq addB addOk z03m
  rw [z0v7 tree ht, Option.bind_some, z13f tree ht, Option.bind_some]
  by_cases h1 : rdrB tree = true
  case neg => rw [if_neg h1, Bool.eq_false_iff.2 h1]; rfl
  have F := z0ds h1
  rw [if_pos h1, h1, z0df _ hd, Option.bind_some]
  by_cases h2 : datOk data = true
  case neg => rw [if_neg h2, Bool.eq_false_iff.2 h2]; rfl
  rw [if_pos h2, h2, z083, Option.bind_some, Option.bind_some]
  by_cases h4 : inB ans 0 2 = true
  case neg => rw [if_neg h4, Bool.eq_false_iff.2 h4]; simp
  rw [if_pos h4, h4, z07l _ _ hd, Option.bind_some]
  by_cases h3 : expHolds e data = true
  case neg => rw [if_neg h3, Bool.eq_false_iff.2 h3]; rfl
  rw [if_pos h3, h3]
  by_cases h5 : (tree.length : Int) = 12
  · rw [if_pos (decide_eq_true h5), decide_eq_true h5]; rfl
  rw [if_neg (by simpa using h5), decide_eq_false h5]
  have hl := F.len
  have g2 : ∀ (l : List GNode) (y : GNode), l.length = tree.length → l.length + [y].length ≤ SMALL := fun l y h => by rw [List.length_singleton]; unfold SMALL; omega
  by_cases h0 : tree.length = 0
  · have hn : tree = [] := List.length_eq_zero_iff.1 h0
    rw [if_neg (by rw [decide_eq_true_eq]; omega), z02f _ hd, Option.bind_some, z001 (g2 _ _ rfl)]
    subst hn
    simp [takenB, putN, newN]
  have hv := z158 F data (by omega)
  have hg := z00r tree hv.1 hv.2
  rw [if_pos (by rw [decide_eq_true_eq]; omega), z1s2 F data hd (by omega), Option.bind_some]
  have loop := scan0 tree (by omega) (z02l tree e tree (lastB tree data) (holdI tree data (lastB tree data)) tree (tree.length : Int) (z09o tree data e ans tree (lastB tree data) (holdI tree data (lastB tree data)))) (fun _ suf => if suf.any (fun x => sameB tree x.stone data && expHolds e x.stone) = true then some (tree, false) else z09o tree data e ans tree (lastB tree data) (holdI tree data (lastB tree data)))
    (fun f => by rw [z02l, if_neg (by simp)]; rfl)
    (fun f pre x suf a b c d ih => by
      have hx : x ∈ tree := by rw [a]; simp
      rw [z02l, if_pos (decide_eq_true c), b, Option.bind_some, z1s2 F x.stone (ht.2 x hx) (by omega), Option.bind_some, z07l _ _ (ht.2 x hx), Option.bind_some, z001 d, ih, List.any_cons]
      unfold sameB
      by_cases e1 : lastB tree x.stone = lastB tree data
      · rw [if_pos (decide_eq_true e1), decide_eq_true e1]
        cases (holdI tree x.stone (lastB tree x.stone) == holdI tree data (lastB tree data)) <;> cases expHolds e x.stone <;> simp
      · rw [if_neg (by simpa using e1), decide_eq_false e1]; simp)
  rw [loop]
  show (if takenB tree data e = true then _ else _) = _
  cases takenB tree data e
  case true => rfl
  rw [if_neg (by simp)]
  unfold z09o
  show _ = some (putN tree data ++ [newN e ans data], true)
  unfold putN newN
  rw [if_neg h0, hg, Option.bind_some, z02f _ hd, Option.bind_some, Option.bind_some, Option.bind_some, z001 (g2 _ _ (by simp)), z001 (g2 _ _ (by simp))]
  split <;> rfl
end Go.Am.Pl
end
section
set_option maxRecDepth 100000
set_option linter.unusedVariables false
set_option linter.unusedSimpArgs false
namespace Go.Am.Pl
open Go
def noHouse : GHouse := GHouse.mk [] [] [] []
def setRun (h : GHouse) (k : Int) (r : GCase × Bool) : GHouse × Int :=
  if r.2 = true then (GHouse.mk h.nets h.people h.tree (h.runs.set k.toNat (GRun.mk (atI h.runs k).net r.1)), 1) else (h, 3)
noncomputable def turnB (h : GHouse) (r : GReq) : GCase × Bool :=
  if r.kind = 2 then startB (atI h.nets (atI h.runs r.case).net) h.people (atI h.runs r.case).case r.task r.who
  else if r.kind = 3 then workB (atI h.nets (atI h.runs r.case).net) (atI h.runs r.case).case r.task r.var r.num
  else stopB (atI h.nets (atI h.runs r.case).net) (atI h.runs r.case).case
def netOf (h : GHouse) (data : List Int) : Int := if (h.nets.length : Int) ≤ askB h.tree data then 0 else askB h.tree data
noncomputable def doB (h : GHouse) (r : GReq) : GHouse × Int :=
  if r.kind = 1 then (if (h.runs.length : Int) = 5 then (h, 4) else (GHouse.mk h.nets h.people h.tree (h.runs ++ [GRun.mk (netOf h r.data) (newC (atI h.nets (netOf h r.data)) r.data)]), 1))
  else if r.kind = 5 then (if (addB h.tree r.data r.if_ r.ans).2 = true then (GHouse.mk h.nets h.people (addB h.tree r.data r.if_ r.ans).1 h.runs, 1) else (h, 3))
  else if (h.runs.length : Int) ≤ r.case then (h, 2) else setRun h r.case (turnB h r)
structure HInv (h : GHouse) : Prop where
  lens : GHouse.lens (· ≤ 1048576) h
  one : 1 ≤ h.nets.length
  net : ∀ r ∈ h.runs, 0 ≤ r.net ∧ r.net < h.nets.length
  many : h.runs.length ≤ 5
theorem HInv.small {h : GHouse} (H : HInv h) : houseSmall h := z0gi H.lens
theorem z13a {h : GHouse} (hb : houseB h = true) (hl : GHouse.lens (· ≤ 1048576) h) : HInv h := by
  simp only [houseB, netsB, runB, Bool.and_eq_true, List.all_eq_true, z01k, Bool.not_eq_true', decide_eq_false_iff_not] at hb
  obtain ⟨⟨a, b⟩, c, d, e, f⟩ := hb
  exact ⟨hl, by omega, fun r hr => by have := (f r hr).1; omega, by omega⟩
theorem z1ou {h : GHouse} (H : HInv h) (data : List Int) : 0 ≤ netOf h data ∧ netOf h data < h.nets.length := by
  have := H.one
  have := z1wn h.tree data
  unfold netOf; split <;> omega
theorem z1st {h : GHouse} (H : HInv h) {r : GReq} (h0 : 0 ≤ r.case) (h1 : r.case < h.runs.length) : (atI h.nets (atI h.runs r.case).net).small ∧ (atI h.runs r.case).case.small ∧ getI h.nets (atI h.runs r.case).net = some (atI h.nets (atI h.runs r.case).net) := by
  have hm := z05a h.runs h0 h1
  have hn := H.net _ hm
  have S := H.small
  exact ⟨S.1.2 _ (z05a h.nets hn.1 hn.2), S.2.2.2.2 _ hm, z00r h.nets hn.1 hn.2⟩
theorem z21d {h : GHouse} (H : HInv h) (r : GReq) (h0 : 0 ≤ r.case) : z0f6 h r = some (if (h.runs.length : Int) ≤ r.case then (h, 2) else setRun h r.case (turnB h r)) := by
  unfold z0f6
  by_cases hc : (h.runs.length : Int) ≤ r.case
  · rw [if_pos (decide_eq_true hc), if_pos hc]
  have hg := z00r h.runs h0 (show r.case < h.runs.length by omega)
  obtain ⟨sn, sc, hgn⟩ := z1st H h0 (show r.case < h.runs.length by omega)
  have hp := H.small.2.1
  rw [if_neg (by simpa using hc), if_neg hc, hg, Option.bind_some, hgn, Option.bind_some]
  unfold setRun turnB
  by_cases k2 : r.kind = 2
  · rw [if_pos (decide_eq_true k2), if_pos k2, z1li _ _ _ _ _ sn hp sc, Option.bind_some, Option.bind_some]
    split <;> rfl
  rw [if_neg (by simpa using k2), if_neg k2]
  by_cases k3 : r.kind = 3
  · rw [if_pos (decide_eq_true k3), if_pos k3, z1qx _ _ _ _ _ sn sc, Option.bind_some, Option.bind_some]
    split <;> rfl
  rw [if_neg (by simpa using k3), if_neg k3, z1qw _ _ sn sc, Option.bind_some, Option.bind_some]
  split <;> rfl
theorem z26j {h : GHouse} (H : HInv h) (r : GReq) (h0 : 0 ≤ r.case) (hd : r.data.length ≤ SMALL) : z0oo h r = some (doB h r) := by
  have S := H.small
  unfold z0oo doB
  by_cases k1 : r.kind = 1
  · rw [if_pos (decide_eq_true k1), if_pos k1]
    by_cases hf : (h.runs.length : Int) = 5
    · rw [if_pos (decide_eq_true hf), if_pos hf]
    rw [if_neg (by simpa using hf), if_neg hf, z1w0 _ _ S.2.2.1 hd, Option.bind_some]
    have hn := z1ou H r.data
    have hg := z00r h.nets hn.1 hn.2
    have sn := S.1.2 _ (z05a h.nets hn.1 hn.2)
    have hl : ∀ y : GRun, h.runs.length + [y].length ≤ SMALL := fun y => by have := H.many; rw [List.length_singleton]; unfold SMALL; omega
    unfold netOf at hg sn ⊢
    by_cases hk : (h.nets.length : Int) ≤ askB h.tree r.data
    · rw [if_pos hk] at hg sn
      rw [if_pos (decide_eq_true hk), if_pos hk, hg, Option.bind_some, z1ap _ _ sn hd, Option.bind_some, z001 (hl _)]
    · rw [if_neg hk] at hg sn
      rw [if_neg (by simpa using hk), if_neg hk, hg, Option.bind_some, z1ap _ _ sn hd, Option.bind_some, z001 (hl _)]
  rw [if_neg (by simpa using k1), if_neg k1]
  by_cases k5 : r.kind = 5
  · rw [if_pos (decide_eq_true k5), if_pos k5, z1vz _ _ _ _ S.2.2.1 hd, Option.bind_some]
    split <;> rfl
  · rw [if_neg (by simpa using k5), if_neg k5, z21d H r h0, Option.bind_some]
theorem z25u {h : GHouse} (H : HInv h) (r : GReq) (h0 : 0 ≤ r.case) (hd : r.data.length ≤ SMALL) : z07z h r = some ((doB h r).2, (doB h r).1) := by
  have S := H.small
  unfold z07z doB
  by_cases k1 : r.kind = 1
  · rw [if_pos (decide_eq_true k1), if_pos k1]
    by_cases hf : (h.runs.length : Int) = 5
    · rw [if_pos (decide_eq_true hf), if_pos hf]
    rw [if_neg (by simpa using hf), if_neg hf, z1u3 _ _ S.2.2.1 hd, Option.bind_some]
    have hn := z1ou H r.data
    have hg := z00r h.nets hn.1 hn.2
    have sn := S.1.2 _ (z05a h.nets hn.1 hn.2)
    have hl : ∀ y : GRun, h.runs.length + [y].length ≤ SMALL := fun y => by have := H.many; rw [List.length_singleton]; unfold SMALL; omega
    unfold netOf at hg sn ⊢
    by_cases hk : (h.nets.length : Int) ≤ askB h.tree r.data
    · rw [if_pos hk] at hg sn
      rw [if_pos (decide_eq_true hk), if_pos hk, hg, Option.bind_some, z19v _ _ sn hd, Option.bind_some, z001 (hl _)]
    · rw [if_neg hk] at hg sn
      rw [if_neg (by simpa using hk), if_neg hk, hg, Option.bind_some, z19v _ _ sn hd, Option.bind_some, z001 (hl _)]
  rw [if_neg (by simpa using k1), if_neg k1]
  by_cases k5 : r.kind = 5
  · rw [if_pos (decide_eq_true k5), if_pos k5, z1u2 _ _ _ _ S.2.2.1 hd, Option.bind_some]
    split <;> rfl
  rw [if_neg (by simpa using k5), if_neg k5]
  by_cases hc : (h.runs.length : Int) ≤ r.case
  · rw [if_pos (decide_eq_true hc), if_pos hc]
  have hg := z00r h.runs h0 (show r.case < h.runs.length by omega)
  obtain ⟨sn, sc, hgn⟩ := z1st H h0 (show r.case < h.runs.length by omega)
  have hp := H.small.2.1
  rw [if_neg (by simpa using hc), if_neg hc, hg, Option.bind_some, hgn, Option.bind_some]
  unfold setRun turnB
  by_cases k2 : r.kind = 2
  · rw [if_pos (decide_eq_true k2), if_pos k2, z1is _ _ _ _ _ sn hp sc, Option.bind_some]
    split <;> rfl
  rw [if_neg (by simpa using k2), if_neg k2]
  by_cases k3 : r.kind = 3
  · rw [if_pos (decide_eq_true k3), if_pos k3, z1oe _ _ _ _ _ sn sc, Option.bind_some]
    split <;> rfl
  rw [if_neg (by simpa using k3), if_neg k3, z1od _ _ sn sc, Option.bind_some]
  split <;> rfl
theorem z21h (n : GNet) (c : GCase) : Bnd c (stopB n c).1 := by
  unfold stopB
  cases casB n c && decide (c.state = 1)
  · exact Bnd.refl c
  · exact ⟨Nat.le_refl _, .inl (Nat.zero_le _), Nat.le_refl _, .inl (Nat.le_refl _)⟩
theorem z21l (h : GHouse) (r : GReq) : Bnd (atI h.runs r.case).case (turnB h r).1 := by
  unfold turnB
  split
  · exact z1zr _ _ _ _ _
  · split
    · exact z21n _ _ _ _ _
    · exact z21h _ _
theorem z20v (n : GNet) (data : List Int) : GCase.lens (· ≤ 1048576) (newC n data) := by
  unfold newC
  cases e : netB n && datOk data
  · exact ⟨Nat.zero_le _, Nat.zero_le _, Nat.zero_le _, Nat.zero_le _⟩
  · rw [Bool.and_eq_true] at e
    have h1 := z0bn e.1
    have h2 := z0tw e.2
    exact ⟨by show ((List.replicate n.places.toNat (0 : Int)).set 0 1).length ≤ 1048576; simp; omega, Nat.zero_le _, by show data.length ≤ 1048576; omega, Nat.zero_le _⟩
theorem z208 {tree : List GNode} {data : List Int} {e : GAsk} {ans : Int} (hl : tree.length ≤ 1048576) (hs : ∀ x ∈ tree, GNode.lens (· ≤ 1048576) x) : (addB tree data e ans).1.length ≤ 1048576 ∧ ∀ x ∈ (addB tree data e ans).1, GNode.lens (· ≤ 1048576) x := by
  unfold addB
  cases h : addOk tree data e ans && !takenB tree data e
  · exact ⟨hl, hs⟩
  · rw [Bool.and_eq_true] at h
    have h1 := h.1
    unfold addOk at h1
    rw [Bool.and_eq_true, Bool.and_eq_true] at h1
    have F := z0ds h1.1
    have hd := z0tw h1.2.1
    have hlen := F.len
    refine ⟨?_, fun x hx => ?_⟩
    · show (putN tree data ++ [newN e ans data]).length ≤ _
      rw [List.length_append, z24i, List.length_singleton]; omega
    · have hx : x ∈ putN tree data ++ [newN e ans data] := hx
      rw [List.mem_append, List.mem_singleton] at hx
      rcases hx with hx | rfl
      · unfold putN at hx
        split at hx
        · exact hs x hx
        · rename_i h0
          have hv := z158 F data (by omega)
          have hst := hs _ (z05a tree hv.1 hv.2)
          split at hx <;> rcases List.mem_or_eq_of_mem_set hx with hx | rfl
          · exact hs x hx
          · exact hst
          · exact hs x hx
          · exact hst
      · show data.length ≤ 1048576; omega
theorem z229 {h : GHouse} (H : HInv h) (r : GReq) (h0 : 0 ≤ r.case) : HInv (doB h r).1 ∧ (doB h r).1.nets = h.nets ∧ (doB h r).1.people = h.people := by
  obtain ⟨⟨⟨a, b⟩, c, ⟨d, e⟩, f, g⟩, one, net, many⟩ := H
  unfold doB
  split
  · split
    · exact ⟨⟨⟨⟨a, b⟩, c, ⟨d, e⟩, f, g⟩, one, net, many⟩, rfl, rfl⟩
    · refine ⟨⟨⟨⟨a, b⟩, c, ⟨d, e⟩, ?_, ?_⟩, one, ?_, ?_⟩, rfl, rfl⟩
      · show (h.runs ++ [_]).length ≤ 1048576; rw [List.length_append, List.length_singleton]; omega
      · intro y hy
        have hy : y ∈ h.runs ++ [_] := hy
        rw [List.mem_append, List.mem_singleton] at hy
        rcases hy with hy | rfl
        · exact g y hy
        · exact z20v _ _
      · intro y hy
        have hy : y ∈ h.runs ++ [_] := hy
        rw [List.mem_append, List.mem_singleton] at hy
        rcases hy with hy | rfl
        · exact net y hy
        · exact z1ou ⟨⟨⟨a, b⟩, c, ⟨d, e⟩, f, g⟩, one, net, many⟩ _
      · show (h.runs ++ [_]).length ≤ 5; rw [List.length_append, List.length_singleton]; omega
  · split
    · split
      · exact ⟨⟨⟨⟨a, b⟩, c, z208 d e, f, g⟩, one, net, many⟩, rfl, rfl⟩
      · exact ⟨⟨⟨⟨a, b⟩, c, ⟨d, e⟩, f, g⟩, one, net, many⟩, rfl, rfl⟩
    · split
      · exact ⟨⟨⟨⟨a, b⟩, c, ⟨d, e⟩, f, g⟩, one, net, many⟩, rfl, rfl⟩
      · rename_i hc
        unfold setRun
        split
        · have hm := z05a h.runs h0 (show r.case < h.runs.length by omega)
          refine ⟨⟨⟨⟨a, b⟩, c, ⟨d, e⟩, ?_, ?_⟩, one, ?_, ?_⟩, rfl, rfl⟩
          · show (h.runs.set _ _).length ≤ 1048576; rw [List.length_set]; exact f
          · intro y hy
            rcases List.mem_or_eq_of_mem_set hy with hy | rfl
            · exact g y hy
            · exact (z21l h r).lens (g _ hm)
          · intro y hy
            rcases List.mem_or_eq_of_mem_set hy with hy | rfl
            · exact net y hy
            · have := net _ hm; exact this
          · show (h.runs.set _ _).length ≤ 5; rw [List.length_set]; exact many
        · exact ⟨⟨⟨⟨a, b⟩, c, ⟨d, e⟩, f, g⟩, one, net, many⟩, rfl, rfl⟩
theorem z11e {r : GReq} (h : reqB r = true) : 0 ≤ r.case := by
  simp only [reqB, Bool.and_eq_true, z01k] at h
  exact h.2.2.2.1.1
noncomputable def engB (h : GHouse) (r : GReq) : GHouse × Int := bif houseB h && reqB r then doB h r else (noHouse, 0)
theorem z1zl (h : GHouse) (r : GReq) (hl : GHouse.lens (· ≤ 1048576) h) (hd : r.data.length ≤ SMALL) : z0hl h r = some (engB h r) := by
  have hs := z0gi hl
  unfold z0hl engB
  rw [z1zm h hs, Option.bind_some]
  by_cases h1 : houseB h = true
  case neg => rw [if_neg h1, Bool.eq_false_iff.2 h1]; rfl
  rw [if_pos h1, h1, z1lj r hd, Option.bind_some]
  by_cases h2 : reqB r = true
  case neg => rw [if_neg h2, Bool.eq_false_iff.2 h2]; rfl
  rw [if_pos h2, h2, z1fi h hs, Option.bind_some, z26j (z13a h1 hl) r (z11e h2) hd, Option.bind_some]; rfl
theorem z1xm (h : GHouse) (r : GReq) (hl : GHouse.lens (· ≤ 1048576) h) (hd : r.data.length ≤ SMALL) : z0dn h r = some (engB h r) := by
  have hs := z0gi hl
  unfold z0dn engB
  rw [z1xn h hs, Option.bind_some]
  by_cases h1 : houseB h = true
  case neg => rw [if_neg h1, Bool.eq_false_iff.2 h1]; rfl
  rw [if_pos h1, h1, z1iu r hd, Option.bind_some]
  by_cases h2 : reqB r = true
  case neg => rw [if_neg h2, Bool.eq_false_iff.2 h2]; rfl
  have H := z13a h1 hl
  have H2 := (z229 H r (z11e h2)).1
  rw [if_pos h2, h2, z0q3 h hs, Option.bind_some, z25u H r (z11e h2) hd, Option.bind_some]
  show (z022 (doB h r).1).bind _ = _
  rw [z0q3 _ H2.small, Option.bind_some]; rfl
theorem z16p {α : Type} {W : α → Nat} {K : Nat} : ∀ {l : List α}, (∀ x ∈ l, W x ≤ K) → sumW W l ≤ K * l.length
  | [], _ => by simp [sumW]
  | x :: l, h => by
    have h1 := z16p (l := l) fun y hy => h y (by simp [hy])
    have h2 := h x (by simp)
    have : sumW W (x :: l) = W x + sumW W l := by simp [sumW]
    rw [this, List.length_cons, Nat.mul_add]; omega
theorem z26g {c : GCase} (rl : GCase.lens (· ≤ 1048576) c) : GCase.W c ≤ 4194304 := by
  have h1 := rl.1; have h2 := rl.2.1; have h3 := rl.2.2.1; have h4 := rl.2.2.2
  unfold GCase.W; dsimp only at h1 h2 h3 h4; omega
theorem z20r {h h0 : GHouse} (hl : GHouse.lens (· ≤ 1048576) h) (e1 : h.nets = h0.nets) (e2 : h.people = h0.people) : GHouse.W h ≤ GHouse.W h0 + 6000000000000 := by
  obtain ⟨⟨a, b⟩, c, ⟨d, e⟩, f, g⟩ := hl
  have t := z16p (W := GNode.W) (K := 1048576) (l := h.tree) (fun x hx => by have := e x hx; unfold GNode.lens at this; unfold GNode.W; omega)
  have r := z16p (W := GRun.W) (K := 4194304) (l := h.runs) (fun x hx => by have := z26g (g x hx); unfold GRun.W; omega)
  unfold GHouse.W
  rw [e1, e2]
  have d2 : 1048576 * h.tree.length ≤ 1048576 * 1048576 := Nat.mul_le_mul_left _ d
  have f2 : 4194304 * h.runs.length ≤ 4194304 * 1048576 := Nat.mul_le_mul_left _ f
  omega
end Go.Am.Pl
end
