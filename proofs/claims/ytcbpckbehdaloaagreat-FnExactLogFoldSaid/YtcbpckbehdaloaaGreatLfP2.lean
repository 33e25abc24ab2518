/- Plain laws. Own work. -/
import Derived.Test.YtcbpckbehdaloaaGreatLfP1
section
set_option maxRecDepth 100000
set_option linter.unusedVariables false
set_option linter.unusedSimpArgs false
namespace Go.Am.Pl
open Go
def noCase : GCase := GCase.mk 0 [] [] [] []
def newC (n : GNet) (data : List Int) : GCase := bif netB n && datOk data then GCase.mk 1 ((List.replicate n.places.toNat (0 : Int)).set 0 1) [] data [] else noCase
theorem z1wf {n : GNet} (h : netB n = true) : getI (List.replicate n.places.toNat (0 : Int)) 0 = some (atI (List.replicate n.places.toNat (0 : Int)) 0) := by
  have := z0cb h
  exact z00r _ (by omega) (by simp; omega)
theorem z1dj (n : GNet) (data : List Int) (hn : n.small) (hd : data.length ≤ SMALL) : z0ck n data = some (newC n data) := by
  unfold z0ck newC
  rw [z0yb n hn, Option.bind_some]
  by_cases h1 : netB n = true
  case neg => rw [if_neg h1, Bool.eq_false_iff.2 h1]; rfl
  rw [if_pos h1, h1, z0aq _ hd, Option.bind_some]
  by_cases h2 : datOk data = true
  case neg => rw [if_neg h2, Bool.eq_false_iff.2 h2]; rfl
  have := z0cb h1
  rw [if_pos h2, h2, z000 (by omega), z000 (by simpa using hd), z1wf h1]; rfl
theorem z1cm (n : GNet) (data : List Int) (hn : n.small) (hd : data.length ≤ SMALL) : z0cg n data = some (newC n data) := by
  unfold z0cg newC
  rw [z0wz n hn, Option.bind_some]
  by_cases h1 : netB n = true
  case neg => rw [if_neg h1, Bool.eq_false_iff.2 h1]; rfl
  rw [if_pos h1, h1, z0e8 _ hd, Option.bind_some]
  by_cases h2 : datOk data = true
  case neg => rw [if_neg h2, Bool.eq_false_iff.2 h2]; rfl
  have := z0cb h1
  rw [if_pos h2, h2, z000 (by omega), z021 _ hd, Option.bind_some, z1wf h1]; rfl
def nxt (tree : List GNode) (data : List Int) (a : Int) : Int := if expHolds (atI tree a).if_ data = true then (atI tree a).yes else (atI tree a).no
def wayL (tree : List GNode) (data : List Int) : Nat → Int → List Int
  | 0, _ => []
  | k + 1, a => if a = -1 then [] else a :: wayL tree data k (nxt tree data a)
def wayB (tree : List GNode) (data : List Int) : List Int := if tree.length = 0 then [] else wayL tree data 12 0
def holdI (tree : List GNode) (data : List Int) (a : Int) : Bool := expHolds (atI tree a).if_ data
def heldF (tree : List GNode) (data : List Int) (l : List Int) (h : Int) : Int := l.foldl (fun h a => if holdI tree data a = true then a else h) h
def lastF (l : List Int) (a : Int) : Int := l.foldl (fun _ x => x) a
def Vd (tree : List GNode) (a : Int) : Prop := a = -1 ∨ (0 ≤ a ∧ a < tree.length)
theorem z1vs (len : Int) : ∀ (l : List GNode) (i : Int) (j : Nat), nodesI len i l = true → j < l.length → nodeB len (i + j) (atI l j) = true
  | [], _, _, _, h => by simp at h
  | x :: l, i, 0, h, _ => by
    simp only [nodesI, Bool.and_eq_true] at h
    have : atI (x :: l) ((0 : Nat) : Int) = x := rfl
    rw [this]; simpa using h.1
  | x :: l, i, j + 1, h, hj => by
    simp only [nodesI, Bool.and_eq_true] at h
    have := z1vs len l (i + 1) j h.2 (by simpa using hj)
    have e : atI (x :: l) ((j + 1 : Nat) : Int) = atI l (j : Int) := by unfold atI; rw [z09c, z09c]; rfl
    rw [e, show i + ((j + 1 : Nat) : Int) = i + 1 + j by omega]; exact this
structure RdrFacts (tree : List GNode) : Prop where
  len : tree.length ≤ 12
  node : ∀ a : Int, 0 ≤ a → a < tree.length → nodeB tree.length a (atI tree a) = true
  ones : ∀ j : Nat, 0 < j → j < tree.length → cntL j tree = 1
theorem z0en {tree : List GNode} (h : rdrB tree = true) : RdrFacts tree := by
  have h2 := z1th (fun j => cntL j tree) tree.length 0
  rw [← List.range_eq_range'] at h2
  simp only [rdrB, Bool.and_eq_true, decide_eq_true_eq] at h
  obtain ⟨a, b, c⟩ := h
  rw [show ((0 : Nat) : Int) = 0 from rfl] at h2
  have b := h2.1 b
  refine ⟨by omega, fun x h0 h1 => ?_, fun j h0 h1 => b j (by omega) (by omega) h0⟩
  have := z1vs tree.length tree 0 x.toNat a (by omega)
  rw [show (0 : Int) + (x.toNat : Int) = x by omega, show ((x.toNat : Nat) : Int) = x by omega] at this; exact this
theorem z21p {len a : Int} {x : GNode} (h : nodeB len a x = true) : (x.yes = -1 ∨ (a + 1 ≤ x.yes ∧ x.yes ≤ len - 1)) ∧ (x.no = -1 ∨ (a + 1 ≤ x.no ∧ x.no ≤ len - 1)) := by
  simp only [nodeB, okN, Bool.and_eq_true, Bool.or_eq_true, decide_eq_true_eq, z01l] at h
  exact ⟨h.2.2.1, h.2.2.2⟩
theorem z24o {tree : List GNode} (F : RdrFacts tree) (data : List Int) {a : Int} (h0 : 0 ≤ a) (h1 : a < tree.length) : nxt tree data a = -1 ∨ (a < nxt tree data a ∧ nxt tree data a < tree.length) := by
  have := z21p (F.node a h0 h1)
  unfold nxt; split <;> omega
theorem z23p {tree : List GNode} (F : RdrFacts tree) (data : List Int) : ∀ (k : Nat) (a : Int), Vd tree a → ∀ p ∈ wayL tree data k a, 0 ≤ p ∧ p < tree.length
  | 0, _, _, p, hp => by simp [wayL] at hp
  | k + 1, a, ha, p, hp => by
    unfold wayL at hp
    split at hp
    · simp at hp
    · rename_i hne
      have hv : 0 ≤ a ∧ a < tree.length := ha.resolve_left hne
      rcases List.mem_cons.1 hp with rfl | hp
      · exact hv
      · have := z24o F data hv.1 hv.2
        exact z23p F data k _ (by unfold Vd; omega) p hp
theorem z1dn {tree : List GNode} (F : RdrFacts tree) (data : List Int) : ∀ (k m : Nat) (a : Int), Vd tree a → (tree.length : Int) - a ≤ k → (tree.length : Int) - a ≤ m → wayL tree data k a = wayL tree data m a
  | 0, m, a, ha, hk, hm => by
    have : a = -1 := by unfold Vd at ha; omega
    subst this
    cases m <;> simp [wayL]
  | k + 1, 0, a, ha, hk, hm => by
    have : a = -1 := by unfold Vd at ha; omega
    subst this
    simp [wayL]
  | k + 1, m + 1, a, ha, hk, hm => by
    unfold wayL
    split
    · rfl
    · rename_i hne
      have hv : 0 ≤ a ∧ a < tree.length := ha.resolve_left hne
      have := z24o F data hv.1 hv.2
      by_cases e : nxt tree data a = -1
      · rw [e]; cases k <;> cases m <;> simp [wayL]
      · rw [z1dn F data k m _ (by unfold Vd; omega) (by omega) (by omega)]
theorem z1wc {tree : List GNode} (F : RdrFacts tree) (data : List Int) (hd : data.length ≤ SMALL) (k1 k2 : Int → Int → Option (Int × Int)) (e1 : ∀ a b, k1 a b = some (a, b)) (e2 : ∀ a b, k2 a b = some (a, b)) :
    ∀ (k : Nat) (f : Nat) (h b a : Int), k ≤ 12 → k < f → Vd tree a → z02o tree data k1 k2 f h b a (12 - k) = some (heldF tree data (wayL tree data k a) h, lastF (wayL tree data k a) b) := by
  intro k
  induction k with
  | zero =>
    intro f h b a hk hf ha
    obtain ⟨g, rfl⟩ : ∃ g, f = g + 1 := ⟨f - 1, by omega⟩
    rw [z02o, if_neg (by simp), e2]; rfl
  | succ k ih =>
    intro f h b a hk hf ha
    obtain ⟨g, rfl⟩ : ∃ g, f = g + 1 := ⟨f - 1, by omega⟩
    rw [z02o, if_pos (by rw [decide_eq_true_eq]; omega), wayL]
    by_cases hne : a = -1
    · rw [if_pos (decide_eq_true hne), if_pos hne, e1]; rfl
    · have hv : 0 ≤ a ∧ a < tree.length := ha.resolve_left hne
      have hg := z00r tree hv.1 hv.2
      have hn := z24o F data hv.1 hv.2
      have hi : (12 : Int) - ((k + 1 : Nat) : Int) + 1 = 12 - k := by omega
      have ok : ok64 ((12 : Int) - k) := by constructor <;> omega
      rw [if_neg (by simpa using hne), if_neg hne, hg, Option.bind_some, z06m _ _ hd, Option.bind_some, Option.bind_some, Option.bind_some, hi, z000 ok, z000 ok]
      by_cases hh : expHolds (atI tree a).if_ data = true
      · have e : nxt tree data a = (atI tree a).yes := by unfold nxt; rw [if_pos hh]
        rw [e] at hn ⊢
        rw [if_pos hh, ih g a a _ (by omega) (by omega) (by unfold Vd; omega)]
        simp only [heldF, lastF, List.foldl_cons, holdI, hh, if_true]
      · have e : nxt tree data a = (atI tree a).no := by unfold nxt; rw [if_neg hh]
        rw [e] at hn ⊢
        rw [if_neg hh, ih g h a _ (by omega) (by omega) (by unfold Vd; omega)]
        simp [heldF, lastF, holdI, hh]
theorem z13m {tree : List GNode} (F : RdrFacts tree) (data : List Int) (hd : data.length ≤ SMALL) : z08f tree data = some (heldF tree data (wayB tree data) (-1), lastF (wayB tree data) (-1)) := by
  unfold z08f wayB
  have hF := z02a
  by_cases h : tree.length = 0
  · rw [if_pos (decide_eq_true (by omega)), if_pos h]
    have := z1wc F data hd z0nw z0nx (fun _ _ => rfl) (fun _ _ => rfl) 12 FUEL (-1) (-1) (-1) (by omega) (by omega) (.inl rfl)
    exact this
  · rw [if_neg (by rw [decide_eq_true_eq]; omega), if_neg h]
    exact z1wc F data hd z0ny z0nz (fun _ _ => rfl) (fun _ _ => rfl) 12 FUEL (-1) (-1) 0 (by omega) (by omega) (.inr ⟨by omega, by omega⟩)
theorem z21i {tree : List GNode} (F : RdrFacts tree) (data : List Int) (hd : data.length ≤ SMALL) : z0nr tree data = some (wayB tree data) := by
  unfold z0nr wayB
  have hF := z02a
  by_cases h : tree.length = 0
  · obtain ⟨g, e⟩ : ∃ g, FUEL = g + 1 := ⟨FUEL - 1, by omega⟩
    rw [e, z027, if_neg (by rw [decide_eq_true_eq]; omega), if_pos h]; rfl
  · have hpos : decide (0 < (tree.length : Int)) = true := decide_eq_true (by omega)
    have key : ∀ (k f : Nat) (a : Int) (l : List Int), Vd tree a → (tree.length : Int) - a ≤ k → k < f → l.length + k ≤ 1000 → z027 tree data z06k z121 f a l = some (l ++ wayL tree data k a) := by
      intro k
      induction k with
      | zero =>
        intro f a l ha hk hf hl
        obtain ⟨g, rfl⟩ : ∃ g, f = g + 1 := ⟨f - 1, by omega⟩
        have : a = -1 := by unfold Vd at ha; omega
        rw [z027, if_pos hpos, if_pos (decide_eq_true this)]; simp [wayL, z06k]
      | succ k ih =>
        intro f a l ha hk hf hl
        obtain ⟨g, rfl⟩ : ∃ g, f = g + 1 := ⟨f - 1, by omega⟩
        rw [z027, if_pos hpos, wayL]
        by_cases hne : a = -1
        · rw [if_pos (decide_eq_true hne), if_pos hne]; simp [z06k]
        · have hv : 0 ≤ a ∧ a < tree.length := ha.resolve_left hne
          have hg := z00r tree hv.1 hv.2
          have hn := z24o F data hv.1 hv.2
          rw [if_neg (by simpa using hne), if_neg hne, z000 (by rw [List.length_singleton]; unfold SMALL; omega), hg, Option.bind_some, z083 _ _ hd, Option.bind_some, Option.bind_some, Option.bind_some]
          by_cases hh : expHolds (atI tree a).if_ data = true
          · have e : nxt tree data a = (atI tree a).yes := by unfold nxt; rw [if_pos hh]
            rw [e] at hn ⊢
            rw [if_pos hh]
            by_cases e1 : (atI tree a).yes = -1
            · rw [e1]
              by_cases hk0 : k = 0
              · subst hk0
                obtain ⟨g2, rfl⟩ : ∃ g2, g = g2 + 1 := ⟨g - 1, by omega⟩
                rw [z027, if_pos hpos, if_pos (by simp)]; simp [wayL, z06k]
              · obtain ⟨g2, rfl⟩ : ∃ g2, g = g2 + 1 := ⟨g - 1, by omega⟩
                obtain ⟨k2, rfl⟩ : ∃ k2, k = k2 + 1 := ⟨k - 1, by omega⟩
                rw [z027, if_pos hpos, if_pos (by simp)]; simp [wayL, z06k]
            · rw [ih g _ (l ++ [a]) (by unfold Vd; omega) (by omega) (by omega) (by simp; omega)]; simp
          · have e : nxt tree data a = (atI tree a).no := by unfold nxt; rw [if_neg hh]
            rw [e] at hn ⊢
            rw [if_neg hh]
            by_cases e1 : (atI tree a).no = -1
            · rw [e1]
              by_cases hk0 : k = 0
              · subst hk0
                obtain ⟨g2, rfl⟩ : ∃ g2, g = g2 + 1 := ⟨g - 1, by omega⟩
                rw [z027, if_pos hpos, if_pos (by simp)]; simp [wayL, z06k]
              · obtain ⟨g2, rfl⟩ : ∃ g2, g = g2 + 1 := ⟨g - 1, by omega⟩
                obtain ⟨k2, rfl⟩ : ∃ k2, k = k2 + 1 := ⟨k - 1, by omega⟩
                rw [z027, if_pos hpos, if_pos (by simp)]; simp [wayL, z06k]
            · rw [ih g _ (l ++ [a]) (by unfold Vd; omega) (by omega) (by omega) (by simp; omega)]; simp
    rw [if_neg h, key tree.length FUEL 0 [] (.inr ⟨by omega, by omega⟩) (by omega) (by have := F.len; omega) (by have := F.len; simp; omega), List.nil_append]
    rw [z1dn F data tree.length 12 0 (.inr ⟨by omega, by omega⟩) (by omega) (by have := F.len; omega)]
theorem z1uq {tree : List GNode} (F : RdrFacts tree) (data : List Int) : ∀ p ∈ wayB tree data, 0 ≤ p ∧ p < tree.length := by
  unfold wayB
  split
  · intro p hp; simp at hp
  · exact z23p F data 12 0 (.inr ⟨by omega, by omega⟩)
theorem z23o (tree : List GNode) (data : List Int) : ∀ (k : Nat) (a : Int), (wayL tree data k a).length ≤ k
  | 0, _ => by simp [wayL]
  | k + 1, a => by
    unfold wayL
    split
    · simp
    · have := z23o tree data k (nxt tree data a); simp; exact this
theorem z23n (tree : List GNode) (data : List Int) : (wayB tree data).length ≤ 12 := by
  unfold wayB
  split
  · simp
  · exact z23o _ _ _ _
theorem z1vi (tree : List GNode) (data : List Int) : ∀ (l : List Int) (h : Int), heldF tree data l h = h ∨ heldF tree data l h ∈ l
  | [], h => .inl rfl
  | a :: l, h => by
    have := z1vi tree data l (if holdI tree data a = true then a else h)
    have e : heldF tree data (a :: l) h = heldF tree data l (if holdI tree data a = true then a else h) := rfl
    rw [e]
    rcases this with h2 | h2
    · rw [h2]; split
      · exact .inr (by simp)
      · exact .inl rfl
    · exact .inr (by simp [h2])
theorem z1vo : ∀ (l : List Int) (a : Int), lastF l a = a ∨ lastF l a ∈ l
  | [], a => .inl rfl
  | x :: l, a => by
    have : lastF (x :: l) a = lastF l x := rfl
    rw [this]
    rcases z1vo l x with h | h
    · rw [h]; exact .inr (by simp)
    · exact .inr (by simp [h])
def heldB (tree : List GNode) (data : List Int) : Int := heldF tree data (wayB tree data) (-1)
def lastB (tree : List GNode) (data : List Int) : Int := lastF (wayB tree data) (-1)
theorem z1rr {tree : List GNode} (F : RdrFacts tree) (data : List Int) : Vd tree (heldB tree data) := by
  rcases z1vi tree data (wayB tree data) (-1) with h | h
  · exact .inl h
  · exact .inr (z1uq F data _ h)
def askB (tree : List GNode) (data : List Int) : Int := bif rdrB tree && datOk data then (if heldB tree data = -1 then 0 else (atI tree (heldB tree data)).ans) else 0
theorem z1zq (tree : List GNode) (data : List Int) (ht : treeSmall tree) (hd : data.length ≤ SMALL) : z0fz tree data = some (askB tree data) := by
  unfold z0fz askB
  rw [z18z tree ht, Option.bind_some]
  by_cases h1 : rdrB tree = true
  case neg => rw [if_neg h1, Bool.eq_false_iff.2 h1]; rfl
  rw [if_pos h1, h1, z0aq _ hd, Option.bind_some]
  by_cases h2 : datOk data = true
  case neg => rw [if_neg h2, Bool.eq_false_iff.2 h2]; rfl
  have F := z0en h1
  rw [if_pos h2, h2, z13m F data hd, Option.bind_some]
  show (if decide (heldB tree data = -1) = true then _ else _) = _
  by_cases h3 : heldB tree data = -1
  · rw [if_pos (decide_eq_true h3)]; simp [h3]
  · have hv := (z1rr F data).resolve_left h3
    rw [if_neg (by simpa using h3)]
    show ((getI tree (heldB tree data)).bind _) = _
    rw [z00r tree hv.1 hv.2]; simp [h3]
theorem z1rz (tree : List GNode) (data : List Int) (ht : treeSmall tree) (hd : data.length ≤ SMALL) : z0dl tree data = some (bif rdrB tree && datOk data then heldB tree data else -1) := by
  unfold z0dl z0nq
  rw [z15p tree ht, Option.bind_some]
  have nil : z01s tree data [] (([] : List Int).length : Int) z0cw FUEL 0 (-1) = some (-1) := by
    obtain ⟨g, e⟩ : ∃ g, FUEL = g + 1 := ⟨FUEL - 1, by have := z02a; omega⟩
    rw [e, z01s, if_neg (by simp)]; rfl
  by_cases h1 : rdrB tree = true
  case neg => rw [if_neg h1, Bool.eq_false_iff.2 h1, Option.bind_some, nil]; rfl
  rw [if_pos h1, h1, z0e8 _ hd, Option.bind_some]
  by_cases h2 : datOk data = true
  case neg => rw [if_neg h2, Bool.eq_false_iff.2 h2, Option.bind_some, nil]; rfl
  have F := z0en h1
  have hl := z23n tree data
  rw [if_pos h2, h2, z21i F data hd, Option.bind_some, Option.bind_some]
  exact scan (wayB tree data) (by omega) (z01s tree data (wayB tree data) ((wayB tree data).length : Int) z0cw) (fun _ suf h => some (heldF tree data suf h)) (fun _ _ => True)
    (fun f s _ => by rw [z01s, if_neg (by simp)]; rfl)
    (fun f pre x suf s a b c d _ k => by
      have hx := z1uq F data x (by rw [a]; simp)
      rw [z01s, if_pos (decide_eq_true c), b, Option.bind_some, z00r tree hx.1 hx.2, Option.bind_some, z083 _ _ hd, Option.bind_some, z000 d, z000 d, k _ trivial, k _ trivial]
      have e : heldF tree data (x :: suf) s = heldF tree data suf (if holdI tree data x = true then x else s) := rfl
      rw [e]; unfold holdI
      split <;> rfl) FUEL (-1) trivial (by have := z02a; omega)
theorem z1xo (tree : List GNode) (data : List Int) (ht : treeSmall tree) (hd : data.length ≤ SMALL) : z0fn tree data = some (askB tree data) := by
  unfold z0fn askB
  rw [z1rz tree data ht hd, Option.bind_some]
  cases h : rdrB tree && datOk data
  · rfl
  · rw [Bool.and_eq_true] at h
    have F := z0en h.1
    show (if decide (heldB tree data = -1) = true then _ else _) = some (if heldB tree data = -1 then 0 else (atI tree (heldB tree data)).ans)
    by_cases h3 : heldB tree data = -1
    · rw [if_pos (decide_eq_true h3)]; simp [h3]
    · have hv := (z1rr F data).resolve_left h3
      rw [if_neg (by simpa using h3)]
      show ((getI tree (heldB tree data)).bind _) = _
      rw [z00r tree hv.1 hv.2]; simp [h3]
theorem z20d (tree : List GNode) (data : List Int) : 0 ≤ askB tree data ∧ askB tree data ≤ 2 := by
  unfold askB
  cases h : rdrB tree && datOk data
  · simp
  · rw [Bool.and_eq_true] at h
    have F := z0en h.1
    show 0 ≤ (if heldB tree data = -1 then 0 else (atI tree (heldB tree data)).ans) ∧ (if heldB tree data = -1 then 0 else (atI tree (heldB tree data)).ans) ≤ 2
    split
    · omega
    · rename_i h3
      have hv := (z1rr F data).resolve_left h3
      have := F.node _ hv.1 hv.2
      simp only [nodeB, Bool.and_eq_true, z01l] at this
      exact this.2.1
theorem z17j {tree : List GNode} (F : RdrFacts tree) (data : List Int) (h : 0 < tree.length) : 0 ≤ lastB tree data ∧ lastB tree data < tree.length := by
  have e : wayB tree data = 0 :: wayL tree data 11 (nxt tree data 0) := by
    unfold wayB; rw [if_neg (by omega)]; rfl
  unfold lastB
  rw [e]
  have : lastF (0 :: wayL tree data 11 (nxt tree data 0)) (-1) = lastF (wayL tree data 11 (nxt tree data 0)) 0 := rfl
  rw [this]
  rcases z1vo (wayL tree data 11 (nxt tree data 0)) 0 with h2 | h2
  · rw [h2]; omega
  · exact z1uq F data _ (by rw [e]; simp [h2])
theorem z1mr : ∀ (l : List Int) (a : Int), 0 < l.length → getI l ((l.length : Int) - 1) = some (lastF l a)
  | [x], a, _ => rfl
  | x :: y :: l, a, _ => by
    have := z1mr (y :: l) x (by simp)
    have e : lastF (x :: y :: l) a = lastF (y :: l) x := rfl
    rw [e, ← this]
    have h1 : (((x :: y :: l).length : Nat) : Int) - 1 = ((l.length + 1 : Nat) : Int) := by simp
    have h2 : (((y :: l).length : Nat) : Int) - 1 = ((l.length : Nat) : Int) := by simp
    rw [h1, h2, z09c, z09c]; rfl
theorem z1vl {tree : List GNode} (F : RdrFacts tree) (data : List Int) (hd : data.length ≤ SMALL) (h : 0 < tree.length) : z0h7 tree data = some (lastB tree data, holdI tree data (lastB tree data)) := by
  have hv := z17j F data h
  have hl := z23n tree data
  have e : 0 < (wayB tree data).length := by
    unfold wayB; rw [if_neg (by omega)]; simp [wayL]
  unfold z0h7
  rw [z21i F data hd, Option.bind_some, z000 (by constructor <;> omega), z1mr _ (-1) e, Option.bind_some]
  show ((getI tree (lastB tree data)).bind _) = _
  rw [z00r tree hv.1 hv.2, Option.bind_some, z083 _ _ hd, Option.bind_some]; rfl
def sameB (tree : List GNode) (a b : List Int) : Bool := decide (lastB tree a = lastB tree b) && (holdI tree a (lastB tree a) == holdI tree b (lastB tree b))
theorem z259 {tree : List GNode} (F : RdrFacts tree) (a b : List Int) (ha : a.length ≤ SMALL) (hb : b.length ≤ SMALL) (h : 0 < tree.length) : z0g2 tree a b = some (sameB tree a b) := by
  have hv := z17j F a h
  unfold z0g2 sameB
  rw [z13m F a ha, Option.bind_some, z13m F b hb, Option.bind_some]
  show (if decide (lastB tree a = lastB tree b) = true then (if decide (lastB tree a = -1) = true then _ else ((getI tree (lastB tree a)).bind _)) else _) = _
  by_cases e : lastB tree a = lastB tree b
  · rw [if_pos (decide_eq_true e), if_neg (by rw [decide_eq_true_eq]; omega), z00r tree hv.1 hv.2, Option.bind_some, z06m _ _ ha, Option.bind_some]
    show ((getI tree (lastB tree a)).bind _) = _
    rw [z00r tree hv.1 hv.2, Option.bind_some, z06m _ _ hb, Option.bind_some, decide_eq_true e, Bool.true_and, ← e]; rfl
  · rw [if_neg (by simpa using e), decide_eq_false e]; rfl
def newN (e : GAsk) (ans : Int) (data : List Int) : GNode := GNode.mk e (-1) (-1) ans data
def putN (tree : List GNode) (data : List Int) : List GNode :=
  if tree.length = 0 then tree
  else if holdI tree data (lastB tree data) = true then tree.set (lastB tree data).toNat (GNode.mk (atI tree (lastB tree data)).if_ tree.length (atI tree (lastB tree data)).no (atI tree (lastB tree data)).ans (atI tree (lastB tree data)).stone)
  else tree.set (lastB tree data).toNat (GNode.mk (atI tree (lastB tree data)).if_ (atI tree (lastB tree data)).yes tree.length (atI tree (lastB tree data)).ans (atI tree (lastB tree data)).stone)
theorem z28d (tree : List GNode) (data : List Int) : (putN tree data).length = tree.length := by unfold putN; split; rfl; split <;> simp
def addOk (tree : List GNode) (data : List Int) (e : GAsk) (ans : Int) : Bool := rdrB tree && (datOk data && (expHolds e data && (inB ans 0 2 && !decide ((tree.length : Int) = 12))))
def takenB (tree : List GNode) (data : List Int) (e : GAsk) : Bool := tree.any (fun x => sameB tree x.stone data && expHolds e x.stone)
def addB (tree : List GNode) (data : List Int) (e : GAsk) (ans : Int) : List GNode × Bool :=
  bif addOk tree data e ans && !takenB tree data e then (putN tree data ++ [newN e ans data], true) else (tree, false)
theorem z1zp (tree : List GNode) (data : List Int) (e : GAsk) (ans : Int) (ht : treeSmall tree) (hd : data.length ≤ SMALL) : z0fy tree data e ans = some (addB tree data e ans) := by
  unfold z0fy addB addOk
  rw [z12b tree ht, Option.bind_some, z18z tree ht, Option.bind_some]
  by_cases h1 : rdrB tree = true
  case neg => rw [if_neg h1, Bool.eq_false_iff.2 h1]; rfl
  have F := z0en h1
  rw [if_pos h1, h1, z0aq _ hd, Option.bind_some]
  by_cases h2 : datOk data = true
  case neg => rw [if_neg h2, Bool.eq_false_iff.2 h2]; rfl
  rw [if_pos h2, h2, z06m _ _ hd, Option.bind_some]
  by_cases h3 : expHolds e data = true
  case neg => rw [if_neg h3, Bool.eq_false_iff.2 h3]; rfl
  rw [if_pos h3, h3, z05b, Option.bind_some]
  by_cases h4 : inB ans 0 2 = true
  case neg => rw [if_neg h4, Bool.eq_false_iff.2 h4]; rfl
  rw [if_pos h4, h4]
  by_cases h5 : (tree.length : Int) = 12
  · rw [if_pos (decide_eq_true h5), decide_eq_true h5]; rfl
  rw [if_neg (by simpa using h5), decide_eq_false h5]
  have hl := F.len
  have loop := scan0 tree (by omega) (z040 tree data e tree (z0ag tree data e ans tree)) (fun _ suf => if suf.any (fun x => sameB tree x.stone data && expHolds e x.stone) = true then some (tree, false) else z0ag tree data e ans tree)
    (fun f => by rw [z040, if_neg (by simp)]; rfl)
    (fun f pre x suf a b c d ih => by
      have hx : x ∈ tree := by rw [a]; simp
      rw [z040, if_pos (decide_eq_true c), b, Option.bind_some, z259 F x.stone data (ht.2 x hx) hd (by omega), Option.bind_some, Option.bind_some, z06m _ _ (ht.2 x hx), Option.bind_some, z000 d, ih, List.any_cons]
      cases sameB tree x.stone data <;> cases expHolds e x.stone <;> simp)
  rw [loop]
  show (if takenB tree data e = true then _ else _) = _
  cases takenB tree data e
  case true => rfl
  rw [if_neg (by simp)]
  unfold z0ag
  rw [z13m F data hd, Option.bind_some]
  show (if decide (lastB tree data = -1) = true then _ else ((getI tree (lastB tree data)).bind _)) = some (putN tree data ++ [newN e ans data], true)
  have g1 : ([] : List Int).length + data.length ≤ SMALL := by simpa using hd
  have g2 : ∀ (l : List GNode) (y : GNode), l.length = tree.length → l.length + [y].length ≤ SMALL := fun l y h => by rw [List.length_singleton]; unfold SMALL; omega
  unfold putN newN
  by_cases h0 : tree.length = 0
  · have : lastB tree data = -1 := by unfold lastB wayB; rw [if_pos h0]; rfl
    rw [if_pos (decide_eq_true this), z000 g1, z000 (g2 _ _ rfl), if_pos h0]; rfl
  · have hv := z17j F data (by omega)
    have hg := z00r tree hv.1 hv.2
    rw [if_neg (by rw [decide_eq_true_eq]; omega), if_neg h0, hg, Option.bind_some, z06m _ _ hd, Option.bind_some]
    show (if holdI tree data (lastB tree data) = true then ((getI tree (lastB tree data)).bind _) else ((getI tree (lastB tree data)).bind _)) = _
    rw [hg, Option.bind_some, Option.bind_some, z000 g1, z000 (g2 _ _ (by simp)), z000 g1, z000 (g2 _ _ (by simp))]
    split <;> rfl
theorem z1xn (tree : List GNode) (data : List Int) (e : GAsk) (ans : Int) (ht : treeSmall tree) (hd : data.length ≤ SMALL) : z0fm tree data e ans = some (addB tree data e ans) := by
  unfold z0fm addB addOk z03p
  rw [z0wy tree ht, Option.bind_some, z15p tree ht, Option.bind_some]
  by_cases h1 : rdrB tree = true
  case neg => rw [if_neg h1, Bool.eq_false_iff.2 h1]; rfl
  have F := z0en h1
  rw [if_pos h1, h1, z0e8 _ hd, Option.bind_some]
  by_cases h2 : datOk data = true
  case neg => rw [if_neg h2, Bool.eq_false_iff.2 h2]; rfl
  rw [if_pos h2, h2, z08l, Option.bind_some, Option.bind_some]
  by_cases h4 : inB ans 0 2 = true
  case neg => rw [if_neg h4, Bool.eq_false_iff.2 h4]; simp
  rw [if_pos h4, h4, z083 _ _ hd, Option.bind_some]
  by_cases h3 : expHolds e data = true
  case neg => rw [if_neg h3, Bool.eq_false_iff.2 h3]; rfl
  rw [if_pos h3, h3]
  by_cases h5 : (tree.length : Int) = 12
  · rw [if_pos (decide_eq_true h5), decide_eq_true h5]; rfl
  rw [if_neg (by simpa using h5), decide_eq_false h5]
  have hl := F.len
  have g2 : ∀ (l : List GNode) (y : GNode), l.length = tree.length → l.length + [y].length ≤ SMALL := fun l y h => by rw [List.length_singleton]; unfold SMALL; omega
  by_cases h0 : tree.length = 0
  · have hn : tree = [] := List.length_eq_zero_iff.1 h0
    rw [if_neg (by rw [decide_eq_true_eq]; omega), z021 _ hd, Option.bind_some, z000 (g2 _ _ rfl)]
    subst hn
    simp [takenB, putN, newN]
  have hv := z17j F data (by omega)
  have hg := z00r tree hv.1 hv.2
  rw [if_pos (by rw [decide_eq_true_eq]; omega), z1vl F data hd (by omega), Option.bind_some]
  have loop := scan0 tree (by omega) (z02n tree e tree (lastB tree data) (holdI tree data (lastB tree data)) tree (tree.length : Int) (z0ac tree data e ans tree (lastB tree data) (holdI tree data (lastB tree data)))) (fun _ suf => if suf.any (fun x => sameB tree x.stone data && expHolds e x.stone) = true then some (tree, false) else z0ac tree data e ans tree (lastB tree data) (holdI tree data (lastB tree data)))
    (fun f => by rw [z02n, if_neg (by simp)]; rfl)
    (fun f pre x suf a b c d ih => by
      have hx : x ∈ tree := by rw [a]; simp
      rw [z02n, if_pos (decide_eq_true c), b, Option.bind_some, z1vl F x.stone (ht.2 x hx) (by omega), Option.bind_some, z083 _ _ (ht.2 x hx), Option.bind_some, z000 d, ih, List.any_cons]
      unfold sameB
      by_cases e1 : lastB tree x.stone = lastB tree data
      · rw [if_pos (decide_eq_true e1), decide_eq_true e1]
        cases (holdI tree x.stone (lastB tree x.stone) == holdI tree data (lastB tree data)) <;> cases expHolds e x.stone <;> simp
      · rw [if_neg (by simpa using e1), decide_eq_false e1]; simp)
  rw [loop]
  show (if takenB tree data e = true then _ else _) = _
  cases takenB tree data e
  case true => rfl
  rw [if_neg (by simp)]
  unfold z0ac
  show _ = some (putN tree data ++ [newN e ans data], true)
  unfold putN newN
  rw [if_neg h0, hg, Option.bind_some, z021 _ hd, Option.bind_some, Option.bind_some, Option.bind_some, z000 (g2 _ _ (by simp)), z000 (g2 _ _ (by simp))]
  split <;> rfl
end Go.Am.Pl
end
section
set_option maxRecDepth 100000
set_option linter.unusedVariables false
set_option linter.unusedSimpArgs false
namespace Go.Am.Pl
open Go
def noHouse : GHouse := GHouse.mk [] [] [] []
def setRun (h : GHouse) (k : Int) (r : GCase × Bool) : GHouse × Int :=
  if r.2 = true then (GHouse.mk h.nets h.people h.tree (h.runs.set k.toNat (GRun.mk (atI h.runs k).net r.1)), 1) else (h, 3)
noncomputable def turnB (h : GHouse) (r : GReq) : GCase × Bool :=
  if r.kind = 2 then startB (atI h.nets (atI h.runs r.case).net) h.people (atI h.runs r.case).case r.task r.who
  else if r.kind = 3 then workB (atI h.nets (atI h.runs r.case).net) (atI h.runs r.case).case r.task r.var r.num
  else stopB (atI h.nets (atI h.runs r.case).net) (atI h.runs r.case).case
def netOf (h : GHouse) (data : List Int) : Int := if (h.nets.length : Int) ≤ askB h.tree data then 0 else askB h.tree data
noncomputable def doB (h : GHouse) (r : GReq) : GHouse × Int :=
  if r.kind = 1 then (if (h.runs.length : Int) = 5 then (h, 4) else (GHouse.mk h.nets h.people h.tree (h.runs ++ [GRun.mk (netOf h r.data) (newC (atI h.nets (netOf h r.data)) r.data)]), 1))
  else if r.kind = 5 then (if (addB h.tree r.data r.if_ r.ans).2 = true then (GHouse.mk h.nets h.people (addB h.tree r.data r.if_ r.ans).1 h.runs, 1) else (h, 3))
  else if (h.runs.length : Int) ≤ r.case then (h, 2) else setRun h r.case (turnB h r)
structure HInv (h : GHouse) : Prop where
  lens : GHouse.lens (· ≤ 1048576) h
  one : 1 ≤ h.nets.length
  net : ∀ r ∈ h.runs, 0 ≤ r.net ∧ r.net < h.nets.length
  many : h.runs.length ≤ 5
theorem HInv.small {h : GHouse} (H : HInv h) : houseSmall h := z0e1 H.lens
theorem z15k {h : GHouse} (hb : houseB h = true) (hl : GHouse.lens (· ≤ 1048576) h) : HInv h := by
  simp only [houseB, netsB, runB, Bool.and_eq_true, List.all_eq_true, z01l, Bool.not_eq_true', decide_eq_false_iff_not] at hb
  obtain ⟨⟨a, b⟩, c, d, e, f⟩ := hb
  exact ⟨hl, by omega, fun r hr => by have := (f r hr).1; omega, by omega⟩
theorem z1se {h : GHouse} (H : HInv h) (data : List Int) : 0 ≤ netOf h data ∧ netOf h data < h.nets.length := by
  have := H.one
  have := z20d h.tree data
  unfold netOf; split <;> omega
theorem z1wa {h : GHouse} (H : HInv h) {r : GReq} (h0 : 0 ≤ r.case) (h1 : r.case < h.runs.length) : (atI h.nets (atI h.runs r.case).net).small ∧ (atI h.runs r.case).case.small ∧ getI h.nets (atI h.runs r.case).net = some (atI h.nets (atI h.runs r.case).net) := by
  have hm := z05i h.runs h0 h1
  have hn := H.net _ hm
  have S := H.small
  exact ⟨S.1.2 _ (z05i h.nets hn.1 hn.2), S.2.2.2.2 _ hm, z00r h.nets hn.1 hn.2⟩
theorem z257 {h : GHouse} (H : HInv h) (r : GReq) (h0 : 0 ≤ r.case) : z0g3 h r = some (if (h.runs.length : Int) ≤ r.case then (h, 2) else setRun h r.case (turnB h r)) := by
  unfold z0g3
  by_cases hc : (h.runs.length : Int) ≤ r.case
  · rw [if_pos (decide_eq_true hc), if_pos hc]
  have hg := z00r h.runs h0 (show r.case < h.runs.length by omega)
  obtain ⟨sn, sc, hgn⟩ := z1wa H h0 (show r.case < h.runs.length by omega)
  have hp := H.small.2.1
  rw [if_neg (by simpa using hc), if_neg hc, hg, Option.bind_some, hgn, Option.bind_some]
  unfold setRun turnB
  by_cases k2 : r.kind = 2
  · rw [if_pos (decide_eq_true k2), if_pos k2, z1p3 _ _ _ _ _ sn hp sc, Option.bind_some, Option.bind_some]
    split <;> rfl
  rw [if_neg (by simpa using k2), if_neg k2]
  by_cases k3 : r.kind = 3
  · rw [if_pos (decide_eq_true k3), if_pos k3, z1uf _ _ _ _ _ sn sc, Option.bind_some, Option.bind_some]
    split <;> rfl
  rw [if_neg (by simpa using k3), if_neg k3, z1ue _ _ sn sc, Option.bind_some, Option.bind_some]
  split <;> rfl
theorem z2ag {h : GHouse} (H : HInv h) (r : GReq) (h0 : 0 ≤ r.case) (hd : r.data.length ≤ SMALL) : z0pz h r = some (doB h r) := by
  have S := H.small
  unfold z0pz doB
  by_cases k1 : r.kind = 1
  · rw [if_pos (decide_eq_true k1), if_pos k1]
    by_cases hf : (h.runs.length : Int) = 5
    · rw [if_pos (decide_eq_true hf), if_pos hf]
    rw [if_neg (by simpa using hf), if_neg hf, z1zq _ _ S.2.2.1 hd, Option.bind_some]
    have hn := z1se H r.data
    have hg := z00r h.nets hn.1 hn.2
    have sn := S.1.2 _ (z05i h.nets hn.1 hn.2)
    have hl : ∀ y : GRun, h.runs.length + [y].length ≤ SMALL := fun y => by have := H.many; rw [List.length_singleton]; unfold SMALL; omega
    unfold netOf at hg sn ⊢
    by_cases hk : (h.nets.length : Int) ≤ askB h.tree r.data
    · rw [if_pos hk] at hg sn
      rw [if_pos (decide_eq_true hk), if_pos hk, hg, Option.bind_some, z1dj _ _ sn hd, Option.bind_some, z000 (hl _)]
    · rw [if_neg hk] at hg sn
      rw [if_neg (by simpa using hk), if_neg hk, hg, Option.bind_some, z1dj _ _ sn hd, Option.bind_some, z000 (hl _)]
  rw [if_neg (by simpa using k1), if_neg k1]
  by_cases k5 : r.kind = 5
  · rw [if_pos (decide_eq_true k5), if_pos k5, z1zp _ _ _ _ S.2.2.1 hd, Option.bind_some]
    split <;> rfl
  · rw [if_neg (by simpa using k5), if_neg k5, z257 H r h0, Option.bind_some]
theorem z29r {h : GHouse} (H : HInv h) (r : GReq) (h0 : 0 ≤ r.case) (hd : r.data.length ≤ SMALL) : z060 h r = some ((doB h r).2, (doB h r).1) := by
  have S := H.small
  unfold z060 doB
  by_cases k1 : r.kind = 1
  · rw [if_pos (decide_eq_true k1), if_pos k1]
    by_cases hf : (h.runs.length : Int) = 5
    · rw [if_pos (decide_eq_true hf), if_pos hf]
    rw [if_neg (by simpa using hf), if_neg hf, z1xo _ _ S.2.2.1 hd, Option.bind_some]
    have hn := z1se H r.data
    have hg := z00r h.nets hn.1 hn.2
    have sn := S.1.2 _ (z05i h.nets hn.1 hn.2)
    have hl : ∀ y : GRun, h.runs.length + [y].length ≤ SMALL := fun y => by have := H.many; rw [List.length_singleton]; unfold SMALL; omega
    unfold netOf at hg sn ⊢
    by_cases hk : (h.nets.length : Int) ≤ askB h.tree r.data
    · rw [if_pos hk] at hg sn
      rw [if_pos (decide_eq_true hk), if_pos hk, hg, Option.bind_some, z1cm _ _ sn hd, Option.bind_some, z000 (hl _)]
    · rw [if_neg hk] at hg sn
      rw [if_neg (by simpa using hk), if_neg hk, hg, Option.bind_some, z1cm _ _ sn hd, Option.bind_some, z000 (hl _)]
  rw [if_neg (by simpa using k1), if_neg k1]
  by_cases k5 : r.kind = 5
  · rw [if_pos (decide_eq_true k5), if_pos k5, z1xn _ _ _ _ S.2.2.1 hd, Option.bind_some]
    split <;> rfl
  rw [if_neg (by simpa using k5), if_neg k5]
  by_cases hc : (h.runs.length : Int) ≤ r.case
  · rw [if_pos (decide_eq_true hc), if_pos hc]
  have hg := z00r h.runs h0 (show r.case < h.runs.length by omega)
  obtain ⟨sn, sc, hgn⟩ := z1wa H h0 (show r.case < h.runs.length by omega)
  have hp := H.small.2.1
  rw [if_neg (by simpa using hc), if_neg hc, hg, Option.bind_some, hgn, Option.bind_some]
  unfold setRun turnB
  by_cases k2 : r.kind = 2
  · rw [if_pos (decide_eq_true k2), if_pos k2, z1m4 _ _ _ _ _ sn hp sc, Option.bind_some]
    split <;> rfl
  rw [if_neg (by simpa using k2), if_neg k2]
  by_cases k3 : r.kind = 3
  · rw [if_pos (decide_eq_true k3), if_pos k3, z1rw _ _ _ _ _ sn sc, Option.bind_some]
    split <;> rfl
  rw [if_neg (by simpa using k3), if_neg k3, z1rv _ _ sn sc, Option.bind_some]
  split <;> rfl
theorem z25b (n : GNet) (c : GCase) : Bnd c (stopB n c).1 := by
  unfold stopB
  cases casB n c && decide (c.state = 1)
  · exact Bnd.refl c
  · exact ⟨Nat.le_refl _, .inl (Nat.zero_le _), Nat.le_refl _, .inl (Nat.le_refl _)⟩
theorem z25f (h : GHouse) (r : GReq) : Bnd (atI h.runs r.case).case (turnB h r).1 := by
  unfold turnB
  split
  · exact z23i _ _ _ _ _
  · split
    · exact z25h _ _ _ _ _
    · exact z25b _ _
theorem z24m (n : GNet) (data : List Int) : GCase.lens (· ≤ 1048576) (newC n data) := by
  unfold newC
  cases e : netB n && datOk data
  · exact ⟨Nat.zero_le _, Nat.zero_le _, Nat.zero_le _, Nat.zero_le _⟩
  · rw [Bool.and_eq_true] at e
    have h1 := z0cb e.1
    have h2 := z0vj e.2
    exact ⟨by show ((List.replicate n.places.toNat (0 : Int)).set 0 1).length ≤ 1048576; simp; omega, Nat.zero_le _, by show data.length ≤ 1048576; omega, Nat.zero_le _⟩
theorem z23z {tree : List GNode} {data : List Int} {e : GAsk} {ans : Int} (hl : tree.length ≤ 1048576) (hs : ∀ x ∈ tree, GNode.lens (· ≤ 1048576) x) : (addB tree data e ans).1.length ≤ 1048576 ∧ ∀ x ∈ (addB tree data e ans).1, GNode.lens (· ≤ 1048576) x := by
  unfold addB
  cases h : addOk tree data e ans && !takenB tree data e
  · exact ⟨hl, hs⟩
  · rw [Bool.and_eq_true] at h
    have h1 := h.1
    unfold addOk at h1
    rw [Bool.and_eq_true, Bool.and_eq_true] at h1
    have F := z0en h1.1
    have hd := z0vj h1.2.1
    have hlen := F.len
    refine ⟨?_, fun x hx => ?_⟩
    · show (putN tree data ++ [newN e ans data]).length ≤ _
      rw [List.length_append, z28d, List.length_singleton]; omega
    · have hx : x ∈ putN tree data ++ [newN e ans data] := hx
      rw [List.mem_append, List.mem_singleton] at hx
      rcases hx with hx | rfl
      · unfold putN at hx
        split at hx
        · exact hs x hx
        · rename_i h0
          have hv := z17j F data (by omega)
          have hst := hs _ (z05i tree hv.1 hv.2)
          split at hx <;> rcases List.mem_or_eq_of_mem_set hx with hx | rfl
          · exact hs x hx
          · exact hst
          · exact hs x hx
          · exact hst
      · show data.length ≤ 1048576; omega
theorem z211 {h : GHouse} (H : HInv h) (r : GReq) (h0 : 0 ≤ r.case) : HInv (doB h r).1 ∧ (doB h r).1.nets = h.nets ∧ (doB h r).1.people = h.people := by
  obtain ⟨⟨⟨a, b⟩, c, ⟨d, e⟩, f, g⟩, one, net, many⟩ := H
  unfold doB
  split
  · split
    · exact ⟨⟨⟨⟨a, b⟩, c, ⟨d, e⟩, f, g⟩, one, net, many⟩, rfl, rfl⟩
    · refine ⟨⟨⟨⟨a, b⟩, c, ⟨d, e⟩, ?_, ?_⟩, one, ?_, ?_⟩, rfl, rfl⟩
      · show (h.runs ++ [_]).length ≤ 1048576; rw [List.length_append, List.length_singleton]; omega
      · intro y hy
        have hy : y ∈ h.runs ++ [_] := hy
        rw [List.mem_append, List.mem_singleton] at hy
        rcases hy with hy | rfl
        · exact g y hy
        · exact z24m _ _
      · intro y hy
        have hy : y ∈ h.runs ++ [_] := hy
        rw [List.mem_append, List.mem_singleton] at hy
        rcases hy with hy | rfl
        · exact net y hy
        · exact z1se ⟨⟨⟨a, b⟩, c, ⟨d, e⟩, f, g⟩, one, net, many⟩ _
      · show (h.runs ++ [_]).length ≤ 5; rw [List.length_append, List.length_singleton]; omega
  · split
    · split
      · exact ⟨⟨⟨⟨a, b⟩, c, z23z d e, f, g⟩, one, net, many⟩, rfl, rfl⟩
      · exact ⟨⟨⟨⟨a, b⟩, c, ⟨d, e⟩, f, g⟩, one, net, many⟩, rfl, rfl⟩
    · split
      · exact ⟨⟨⟨⟨a, b⟩, c, ⟨d, e⟩, f, g⟩, one, net, many⟩, rfl, rfl⟩
      · rename_i hc
        unfold setRun
        split
        · have hm := z05i h.runs h0 (show r.case < h.runs.length by omega)
          refine ⟨⟨⟨⟨a, b⟩, c, ⟨d, e⟩, ?_, ?_⟩, one, ?_, ?_⟩, rfl, rfl⟩
          · show (h.runs.set _ _).length ≤ 1048576; rw [List.length_set]; exact f
          · intro y hy
            rcases List.mem_or_eq_of_mem_set hy with hy | rfl
            · exact g y hy
            · exact (z25f h r).lens (g _ hm)
          · intro y hy
            rcases List.mem_or_eq_of_mem_set hy with hy | rfl
            · exact net y hy
            · have := net _ hm; exact this
          · show (h.runs.set _ _).length ≤ 5; rw [List.length_set]; exact many
        · exact ⟨⟨⟨⟨a, b⟩, c, ⟨d, e⟩, f, g⟩, one, net, many⟩, rfl, rfl⟩
theorem z253 {r : GReq} (h : reqB r = true) : 0 ≤ r.case := by
  simp only [reqB, Bool.and_eq_true, z01l] at h
  exact h.2.2.2.1.1
theorem z195 {α : Type} {W : α → Nat} {K : Nat} : ∀ {l : List α}, (∀ x ∈ l, W x ≤ K) → sumW W l ≤ K * l.length
  | [], _ => by simp [sumW]
  | x :: l, h => by
    have h1 := z195 (l := l) fun y hy => h y (by simp [hy])
    have h2 := h x (by simp)
    have : sumW W (x :: l) = W x + sumW W l := by simp [sumW]
    rw [this, List.length_cons, Nat.mul_add]; omega
theorem z2ad {c : GCase} (rl : GCase.lens (· ≤ 1048576) c) : GCase.W c ≤ 4194304 := by
  have h1 := rl.1; have h2 := rl.2.1; have h3 := rl.2.2.1; have h4 := rl.2.2.2
  unfold GCase.W; dsimp only at h1 h2 h3 h4; omega
theorem z24i {h h0 : GHouse} (hl : GHouse.lens (· ≤ 1048576) h) (e1 : h.nets = h0.nets) (e2 : h.people = h0.people) : GHouse.W h ≤ GHouse.W h0 + 6000000000000 := by
  obtain ⟨⟨a, b⟩, c, ⟨d, e⟩, f, g⟩ := hl
  have t := z195 (W := GNode.W) (K := 1048576) (l := h.tree) (fun x hx => by have := e x hx; unfold GNode.lens at this; unfold GNode.W; omega)
  have r := z195 (W := GRun.W) (K := 4194304) (l := h.runs) (fun x hx => by have := z2ad (g x hx); unfold GRun.W; omega)
  unfold GHouse.W
  rw [e1, e2]
  have d2 : 1048576 * h.tree.length ≤ 1048576 * 1048576 := Nat.mul_le_mul_left _ d
  have f2 : 4194304 * h.runs.length ≤ 4194304 * 1048576 := Nat.mul_le_mul_left _ f
  omega
end Go.Am.Pl
end
section
set_option maxRecDepth 100000
set_option linter.unusedVariables false
set_option linter.unusedSimpArgs false
namespace Go.Am.Pl
open Go
noncomputable def foldR : GHouse → List GReq → List GReq → GHouse × List GReq
  | h, log, [] => (h, log)
  | h, log, r :: rs => if (doB h r).2 = 1 then foldR (doB h r).1 (log ++ [r]) rs else foldR h log rs
noncomputable def foldF : GHouse → List GReq → GHouse × Bool
  | h, [] => (h, true)
  | h, r :: rs => if (doB h r).2 = 1 then foldF (doB h r).1 rs else (noHouse, false)
theorem z29i {h : GHouse} {r : GReq} (hd : (doB h r).2 ≠ 1) : (doB h r).1 = h := by
  unfold doB setRun at *
  revert hd
  split
  · split
    · intro _; rfl
    · intro hd; exact absurd rfl hd
  · split
    · split
      · intro hd; exact absurd rfl hd
      · intro _; rfl
    · split
      · intro _; rfl
      · split
        · intro hd; exact absurd rfl hd
        · intro _; rfl
structure LogOk' (log : List GReq) : Prop where
  len : log.length ≤ 150
  case : ∀ r ∈ log, 0 ≤ r.case
theorem z21j {log : List GReq} (h : logB log = true) : LogOk' log := by
  simp only [logB, Bool.and_eq_true, List.all_eq_true, Bool.not_eq_true', decide_eq_false_iff_not] at h
  exact ⟨by omega, fun r hr => z253 (h.2 r hr)⟩
theorem z1m9 (r : GReq) (hd : r.data.length ≤ SMALL) : z07y r = some r := by unfold z07y; rw [z021 _ hd]; rfl
noncomputable def logRunB (h : GHouse) (reqs : List GReq) : GHouse × List GReq := bif houseB h && logB reqs then foldR h [] reqs else (noHouse, [])
noncomputable def logFoldB (h : GHouse) (log : List GReq) : GHouse × Bool := bif houseB h && logB log then foldF h log else (noHouse, false)
theorem z2au {l : List GReq} {n : Nat} (h : l.length ≤ n) (hn : n ≤ 1000) {y : GReq} : l.length + [y].length ≤ SMALL := by rw [List.length_singleton]; unfold SMALL; omega
theorem z1xj (h : GHouse) (reqs : List GReq) (hl : GHouse.lens (· ≤ 1048576) h) (rl : reqs.length ≤ SMALL) (rd : ∀ r ∈ reqs, r.data.length ≤ SMALL) : z0fi h reqs = some (logRunB h reqs) := by
  have hs := z0e1 hl
  unfold z0fi logRunB
  rw [z1m6 h hs, Option.bind_some]
  by_cases h1 : houseB h = true
  case neg => rw [if_neg h1, Bool.eq_false_iff.2 h1]; rfl
  rw [if_pos h1, h1, z1m8 reqs rl rd, Option.bind_some]
  by_cases h2 : logB reqs = true
  case neg => rw [if_neg h2, Bool.eq_false_iff.2 h2]; rfl
  have L := z21j h2
  rw [if_pos h2, h2, z0rm h hs, Option.bind_some]
  exact scan reqs (by have := L.len; omega) (fun f i (s : GHouse × List GReq) => z03x reqs (reqs.length : Int) z0ei f i s.1.people s.1.nets s.1.tree s.1.runs s.2) (fun _ suf s => some (foldR s.1 s.2 suf)) (fun pre s => HInv s.1 ∧ s.2.length ≤ pre.length)
    (fun f s hi => by
      rw [z03x, if_neg (by simp)]; unfold z0ei
      show (z026 s.1).bind _ = _
      rw [z0rm _ hi.1.small]; rfl)
    (fun f pre x suf s a b c d hi k => by
      obtain ⟨s1, s2⟩ := s
      obtain ⟨H, hl2⟩ := hi
      have hx : x ∈ reqs := by rw [a]; simp
      have hpl : pre.length ≤ 150 := by have := L.len; rw [a, List.length_append] at this; omega
      have c0 := L.case x hx
      have D := z211 H x c0
      rw [z03x, if_pos (decide_eq_true c), b, Option.bind_some]
      show ((z060 s1 x).bind _) = _
      rw [z29r H x c0 (rd x hx), Option.bind_some, z1m9 x (rd x hx), Option.bind_some, z000 (z2au hl2 (by omega)), z000 d, z000 d, foldR]
      by_cases e : (doB s1 x).2 = 1
      · rw [if_pos (decide_eq_true e), if_pos e]
        exact k ((doB s1 x).1, s2 ++ [x]) ⟨D.1, by show (s2 ++ [x]).length ≤ _; simp; exact hl2⟩
      · rw [if_neg (by simpa using e), if_neg e, z29i e]
        exact k (s1, s2) ⟨H, by show s2.length ≤ _; simp; have : s2.length ≤ pre.length := hl2; omega⟩) FUEL (h, []) ⟨z15k h1 hl, by simp⟩ (by have := z02a; have := L.len; omega)
theorem z1uj (h : GHouse) (log : List GReq) (hl : GHouse.lens (· ≤ 1048576) h) (rl : log.length ≤ SMALL) (rd : ∀ r ∈ log, r.data.length ≤ SMALL) : z0du h log = some (logFoldB h log) := by
  have hs := z0e1 hl
  unfold z0du logFoldB
  rw [z23c h hs, Option.bind_some]
  by_cases h1 : houseB h = true
  case neg => rw [if_neg h1, Bool.eq_false_iff.2 h1]; rfl
  rw [if_pos h1, h1, z23d log rl rd, Option.bind_some]
  by_cases h2 : logB log = true
  case neg => rw [if_neg h2, Bool.eq_false_iff.2 h2]; rfl
  have L := z21j h2
  rw [if_pos h2, h2, z0y8 h hs, Option.bind_some]
  exact scan log (by have := L.len; omega) (fun f i (s : GHouse) => z04i log z0jo f i s.people s.nets s.tree s.runs) (fun _ suf s => some (foldF s suf)) (fun _ s => HInv s)
    (fun f s _ => by rw [z04i, if_neg (by simp)]; rfl)
    (fun f pre x suf s a b c d H k => by
      have hx : x ∈ log := by rw [a]; simp
      have c0 := L.case x hx
      have D := z211 H x c0
      rw [z04i, if_pos (decide_eq_true c)]
      show ((z09x s).bind _) = _
      rw [z0y8 s H.small, Option.bind_some, b, Option.bind_some, z2ag H x c0 (rd x hx), Option.bind_some, z000 d, foldF]
      by_cases e : (doB s x).2 = 1
      · rw [if_pos (decide_eq_true e), if_pos e]
        exact k (doB s x).1 D.1
      · rw [if_neg (by simpa using e), if_neg e]; rfl) FUEL h (z15k h1 hl) (by have := z02a; have := L.len; omega)
theorem z0py : ∀ (rs : List GReq) (h : GHouse) (log : List GReq), foldR h log rs = ((foldR h [] rs).1, log ++ (foldR h [] rs).2)
  | [], h, log => by simp [foldR]
  | r :: rs, h, log => by
    unfold foldR
    split
    · rw [z0py rs _ (log ++ [r]), z0py rs _ ([] ++ [r])]; simp
    · exact z0py rs h log
theorem z1fu : ∀ (rs : List GReq) (h : GHouse), (foldR h [] rs).2.length ≤ rs.length
  | [], h => by simp [foldR]
  | r :: rs, h => by
    unfold foldR
    split
    · rw [z0py]; have := z1fu rs (doB h r).1; simp; omega
    · have := z1fu rs h; simp; omega
theorem z0z5 : ∀ (rs : List GReq) (h : GHouse), foldF h rs = if (foldR h [] rs).2.length < rs.length then (noHouse, false) else ((foldR h [] rs).1, true)
  | [], h => by simp [foldR, foldF]
  | r :: rs, h => by
    unfold foldR foldF
    split
    · rw [z0z5 rs, z0py rs _ ([] ++ [r])]
      have e : (([] ++ [r]) ++ (foldR (doB h r).1 [] rs).2).length < (r :: rs).length ↔ (foldR (doB h r).1 [] rs).2.length < rs.length := by simp
      by_cases h2 : (foldR (doB h r).1 [] rs).2.length < rs.length
      · rw [if_pos h2, if_pos (e.2 h2)]
      · rw [if_neg h2, if_neg (fun x => h2 (e.1 x))]
    · rw [if_pos (by have := z1fu rs h; simp; omega)]
theorem z1ry (h : GHouse) (log : List GReq) (hl : GHouse.lens (· ≤ 1048576) h) (rl : log.length ≤ SMALL) (rd : ∀ r ∈ log, r.data.length ≤ SMALL) : z0ab h log = some (logFoldB h log) := by
  have hs := z0e1 hl
  unfold z0ab logFoldB
  rw [z1xj h log hl rl rd, Option.bind_some, z1m6 h hs, Option.bind_some]
  by_cases h1 : houseB h = true
  case neg => rw [if_neg h1, Bool.eq_false_iff.2 h1]; rfl
  rw [if_pos h1, z1m8 log rl rd, Option.bind_some]
  by_cases h2 : logB log = true
  case neg => rw [if_neg h2, h1, Bool.eq_false_iff.2 h2]; rfl
  unfold logRunB
  rw [if_pos h2, h1, h2]
  show (if decide (((foldR h [] log).2.length : Int) < (log.length : Int)) = true then _ else some ((foldR h [] log).1, true)) = some (foldF h log)
  rw [z0z5]
  by_cases e : (foldR h [] log).2.length < log.length
  · rw [if_pos (by rw [decide_eq_true_eq]; omega), if_pos e]; rfl
  · rw [if_neg (by rw [decide_eq_true_eq]; omega), if_neg e]
theorem z1ft : ∀ (rs : List GReq) (h : GHouse), HInv h → (∀ r ∈ rs, 0 ≤ r.case) → HInv (foldR h [] rs).1 ∧ (foldR h [] rs).1.nets = h.nets ∧ (foldR h [] rs).1.people = h.people ∧ ∀ r ∈ (foldR h [] rs).2, r ∈ rs
  | [], h, H, _ => ⟨H, rfl, rfl, fun r hr => by simp [foldR] at hr⟩
  | r :: rs, h, H, c => by
    obtain ⟨D1, D2, D3⟩ := z211 H r (c r (by simp))
    unfold foldR
    split
    · rw [z0py]
      obtain ⟨a, b, d, e⟩ := z1ft rs _ D1 (fun x hx => c x (by simp [hx]))
      refine ⟨a, b.trans D2, d.trans D3, fun x hx => ?_⟩
      have hx : x ∈ ([] ++ [r]) ++ (foldR (doB h r).1 [] rs).2 := hx
      rw [List.nil_append, List.mem_append, List.mem_singleton] at hx
      rcases hx with rfl | hx
      · simp
      · simp [e x hx]
    · obtain ⟨a, b, d, e⟩ := z1ft rs h H (fun x hx => c x (by simp [hx]))
      exact ⟨a, b, d, fun x hx => by simp [e x hx]⟩
end Go.Am.Pl
end
