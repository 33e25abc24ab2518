/- The plain law. Own work. -/
import Derived.Test.YtgolgnbgomhknaaCcP2
set_option maxRecDepth 100000
set_option linter.unusedVariables false
set_option linter.unusedSimpArgs false
section
namespace Go.Am.Pl
open Go
theorem w2d (n : GNet) (people : List Int) (c : GCase) (hn : n.small) (hp : people.length ≤ SMALL) (hc : c.small) : zb2 n people c = some (canL n people c) := by
  unfold zb2 canL
  rw [y60 n c hn hc, Option.bind_some]
  by_cases h1 : casB n c = true
  case neg => rw [if_neg h1, Bool.eq_false_iff.2 h1]; rfl
  rw [if_pos h1, h1]
  by_cases h2 : c.state = 1
  case neg => rw [if_neg (by simpa using h2), decide_eq_false h2]; rfl
  rw [if_pos (decide_eq_true h2), decide_eq_true h2]
  by_cases h5 : (c.busy.length : Int) = 6
  · rw [if_pos (decide_eq_true h5), decide_eq_true h5]; rfl
  have F := z6m h1
  have hsz := z3z F.net
  rw [if_neg (by simpa using h5), decide_eq_false h5, y4k n c.marks c.busy hn hc.1 hc.2.1, Option.bind_some]
  have htl := ym2 n c.marks c.busy
  obtain ⟨ts, hts⟩ : ∃ ts, tasksB n c.marks c.busy = ts := ⟨_, rfl⟩
  rw [hts] at htl ⊢
  have := scan ts (by omega) (fun f i s => z29 n people c ts z4t f i s) (fun _ suf s => some (s ++ pairs n people c suf)) (fun pre s => s.length ≤ 4 * pre.length)
    (fun f s _ => by rw [z29, if_neg (by simp)]; simp [pairs, z4t])
    (fun f pre x suf s a b cc d i k => by
      have hm := w06 n people c.did c.busy x
      have hpl : pre.length < ts.length := by rw [a]; simp
      rw [z29, if_pos (decide_eq_true cc), b, Option.bind_some, y3b n people c.did c.busy x hn hp hc.2.2.2 hc.2.1, Option.bind_some]
      rw [w0x (mayB n people c.did c.busy x) (GDid.mk x) s (by unfold SMALL; omega) (z3n ts (pre.length : Int) (mayB n people c.did c.busy x) (z6g (pre.length : Int) (z29 n people c ts z4t f))) (z6g (pre.length : Int) (z29 n people c ts z4t f))
        (fun f s => by rw [z3n, if_neg (by simp)])
        (fun f i y s a b2 c d e => by rw [z3n, if_pos (decide_eq_true c), b, Option.bind_some, a, Option.bind_some, z01 (e _), z01 d])]
      unfold z6g
      rw [z01 d, k _ (by simp; omega)]
      unfold pairs
      rw [List.flatMap_cons, List.append_assoc]) FUEL [] (by simp) (by have := z2c; omega)
  exact this
theorem nats6 : nats 6 = [0, 1, 2, 3, 4, 5] := by decide
theorem w95 {P : Nat} (hP : P ≤ 4) (q : Int → Bool) : (nats 6).filter (fun w => ((idxs P).filter q).any (fun x => decide (x = w))) = (idxs P).filter q := by
  rw [nats6]
  have h : P = 0 ∨ P = 1 ∨ P = 2 ∨ P = 3 ∨ P = 4 := by omega
  have e0 : idxs 0 = [] := by decide
  have e1 : idxs 1 = [1] := by decide
  have e2 : idxs 2 = [1, 2] := by decide
  have e3 : idxs 3 = [1, 2, 3] := by decide
  have e4 : idxs 4 = [1, 2, 3, 4] := by decide
  rcases h with rfl | rfl | rfl | rfl | rfl
  · rw [e0]; rfl
  · rw [e1]; cases h1 : q 1 <;> simp [List.filter, h1]
  · rw [e2]; cases h1 : q 1 <;> cases h2 : q 2 <;> simp [List.filter, h1, h2]
  · rw [e3]; cases h1 : q 1 <;> cases h2 : q 2 <;> cases h3 : q 3 <;> simp [List.filter, h1, h2, h3]
  · rw [e4]; cases h1 : q 1 <;> cases h2 : q 2 <;> cases h3 : q 3 <;> cases h4 : q 4 <;> simp [List.filter, h1, h2, h3, h4]
noncomputable def rowE (n : GNet) (people : List Int) (c : GCase) (t : Int) : List GDid := ((nats 6).filter (fun w => startOk n people c t w)).map (GDid.mk t)
theorem wc3 {n : GNet} {people : List Int} {did : List GDid} {busy : List GItem} {t : Int} : (nats 6).filter (fun w => (mayB n people did busy t).any (fun x => decide (x = w))) = mayB n people did busy t := by
  unfold mayB
  cases e : netB n && (pplB people && inB t 0 ((n.tasks.length : Int) - 1))
  · simp
  · simp only [Bool.and_eq_true] at e
    exact w95 (y19 e.2.1).1.2 _
theorem y8n (n : GNet) (people : List Int) (c : GCase) : canL n people c = (nats 6).flatMap (rowE n people c) := by
  by_cases h : casB n c = true ∧ c.state = 1 ∧ ¬ (c.busy.length : Int) = 6
  · obtain ⟨h1, h2, h3⟩ := h
    have F := z6m h1
    have hsz := z3z F.net
    unfold canL
    rw [h1, decide_eq_true h2, decide_eq_false h3]
    have row : ∀ t, rowE n people c t = if enaB n c.marks c.busy t = true then (mayB n people c.did c.busy t).map (GDid.mk t) else [] := by
      intro t
      unfold rowE startOk
      rw [h1, decide_eq_true h2, decide_eq_false h3]
      by_cases he : enaB n c.marks c.busy t = true
      · rw [he, if_pos rfl]
        simp only [Bool.true_and, Bool.not_false, Bool.and_true, wc3]
      · rw [Bool.eq_false_iff.2 he, if_neg (by simp)]; simp
    have six : ∀ k : Nat, n.tasks.length + k = 6 → (nats 6).flatMap (rowE n people c) = (nats n.tasks.length).flatMap (rowE n people c) := by
      intro k hk
      have e : nats 6 = nats n.tasks.length ++ (List.range' n.tasks.length k).map (fun i : Nat => (i : Int)) := by
        unfold nats
        rw [← hk, List.range_eq_range', List.range_eq_range', ← List.map_append, ← List.range'_append_1, Nat.zero_add]
      rw [e, List.flatMap_append]
      have : ((List.range' n.tasks.length k).map (fun i : Nat => (i : Int))).flatMap (rowE n people c) = [] := by
        rw [List.flatMap_eq_nil_iff]
        intro t ht
        obtain ⟨i, hi, rfl⟩ := List.mem_map.1 ht
        have := List.mem_range'_1.1 hi
        rw [row, if_neg]
        intro he
        have := (y8q he).2.2
        omega
      rw [this, List.append_nil]
    rw [six (6 - n.tasks.length) (by omega)]
    show pairs n people c (tasksB n c.marks c.busy) = _
    unfold pairs tasksB
    generalize nats n.tasks.length = l
    induction l with
    | nil => rfl
    | cons t l ih =>
      rw [List.filter_cons, List.flatMap_cons, row]
      split
      · rw [List.flatMap_cons, ih]
      · rw [ih]; rfl
  · have h0 : canL n people c = [] := by
      unfold canL
      cases e : casB n c && (decide (c.state = 1) && !decide ((c.busy.length : Int) = 6))
      · rfl
      · simp only [Bool.and_eq_true, decide_eq_true_eq, Bool.not_eq_true', decide_eq_false_iff_not] at e
        exact absurd e h
    rw [h0]
    symm
    rw [List.flatMap_eq_nil_iff]
    intro t _
    unfold rowE
    rw [List.map_eq_nil_iff, List.filter_eq_nil_iff]
    intro w _ hs
    have S := w2k.1 hs
    exact h ⟨S.cas, S.run, fun e => S.room (by omega)⟩
theorem we5 {n : GNet} {people : List Int} {c : GCase} (hn : n.small) (hp : people.length ≤ SMALL) (hc : c.small) {X A B : List GDid} {t : Int} (hX : X = A ++ (rowE n people c t ++ B)) (hs : X.length ≤ SMALL) (kx : Int → Option Bool) :
    z1d X n.places n.tasks people t c kx FUEL (A.length : Int) 0 = kx ((A.length : Int) + ((rowE n people c t).length : Nat)) := by
  have := scan (nats 6) (by rw [z45]; omega) (fun f i s => z1d X n.places n.tasks people t c kx f s i) (fun _ suf s => kx (s + ((suf.filter (fun w => startOk n people c t w)).length : Nat)))
    (fun pre s => s = (A.length : Int) + ((pre.filter (fun w => startOk n people c t w)).length : Nat))
    (fun f s _ => by rw [z1d, if_neg (by rw [z45]; simp)]; simp)
    (fun f pre x suf s a b g d hi k => by
      rw [z45] at g
      have hx := y88 b
      have st : (startB n people c t x).2 = startOk n people c t x := by unfold startB; cases startOk n people c t x <;> rfl
      have e1 : z5b (GNet.mk n.places n.tasks) people c t (pre.length : Int) = some (startB n people c t x) := by rw [← hx]; exact yq7 n people c t x hn hp hc
      rw [z1d, if_pos (by rw [decide_eq_true_eq]; omega), e1, Option.bind_some, st]
      by_cases h : startOk n people c t x = true
      · have hrow : rowE n people c t = (pre.filter (fun w => startOk n people c t w)).map (GDid.mk t) ++ GDid.mk t x :: (suf.filter (fun w => startOk n people c t w)).map (GDid.mk t) := by
          unfold rowE
          rw [a, List.filter_append, List.filter_cons, if_pos h, List.map_append, List.map_cons]
        have hX2 : X = (A ++ (pre.filter (fun w => startOk n people c t w)).map (GDid.mk t)) ++ GDid.mk t x :: ((suf.filter (fun w => startOk n people c t w)).map (GDid.mk t) ++ B) := by
          rw [hX, hrow]; simp
        have hidx : s = (((A ++ (pre.filter (fun w => startOk n people c t w)).map (GDid.mk t)).length : Nat) : Int) := by rw [hi]; simp
        have hget : getI X s = some (GDid.mk t x) := by rw [hX2, hidx, y84]
        have hlt : s < X.length := by rw [hX2, hidx]; simp only [List.length_append, List.length_cons]; omega
        have ok1 : ok64 (s + 1) := by unfold SMALL at hs; constructor <;> omega
        rw [if_pos h, if_neg (by rw [decide_eq_true_eq]; omega), hget, Option.bind_some, if_pos (by rw [decide_eq_true_eq, hx]), z01 ok1, z01 d, k (s + 1) (by rw [List.filter_append, List.filter_cons, if_pos h, hi]; simp; omega), List.filter_cons, if_pos h, List.length_cons]
        congr 1; omega
      · rw [if_neg h, z01 d, k s (by rw [List.filter_append, List.filter_cons, if_neg h, hi]; simp), List.filter_cons, if_neg h]) FUEL (A.length : Int) (by simp) (by have := z2c; rw [z45]; omega)
  rw [this]; unfold rowE; rw [List.length_map]
theorem law_FnCasCan (code : List Int) (hl : code.length ≤ 9223372036854775807) (hb : ∀ y ∈ code, 0 ≤ y ∧ y ≤ 255) : zd6 code = some true := by
  unfold zd6
  by_cases hz : 1048576 < (code.length : Int)
  · rw [if_pos (decide_eq_true hz)]
  rw [if_neg (by simpa using hz)]
  obtain ⟨⟨n, p, c⟩, e, hn, hp, hc⟩ := drawCasCan code hb
  dsimp only at hn hp hc
  have sn := hn.small
  have sc := hc.small (by omega)
  have sp : p.length ≤ SMALL := by unfold SMALL; omega
  rw [e, Option.bind_some]
  dsimp only
  have hlen : (canL n p c).length ≤ 36 := by
    rw [y8n, nats6]
    have : ∀ t, (rowE n p c t).length ≤ 6 := fun t => by
      unfold rowE; rw [List.length_map]
      exact Nat.le_trans (List.length_filter_le _ _) (by rw [z45]; omega)
    have h0 := this 0; have h1 := this 1; have h2 := this 2; have h3 := this 3; have h4 := this 4; have h5 := this 5
    simp only [List.flatMap_cons, List.flatMap_nil, List.length_append, List.length_nil]; omega
  rw [w1q n p c sn sp sc, Option.bind_some, w2d n p c sn sp sc, Option.bind_some, wf0 _ _ (by unfold SMALL; omega), Option.bind_some, if_pos (by simp)]
  refine scan (nats 6) (by rw [z45]; omega) (fun f i s => z32 (canL n p c) (z7c (canL n p c)) f n.places n.tasks p s i c) (fun _ _ _ => some true) (fun pre s => s = ((pre.flatMap (rowE n p c)).length : Nat))
    (fun f s hi => ?_) (fun f pre x suf s a b g d hi k => ?_) FUEL 0 (by simp) (by have := z2c; rw [z45]; omega)
  · rw [z32, if_neg (by rw [z45]; simp)]
    unfold z7c
    rw [if_pos (by rw [decide_eq_true_eq, hi, y8n]), gu_Ok, Option.bind_some]
  · rw [z45] at g
    have hx := y88 b
    rw [z32, if_pos (by rw [decide_eq_true_eq]; omega), hi, ← hx]
    rw [we5 sn sp sc (A := pre.flatMap (rowE n p c)) (B := suf.flatMap (rowE n p c)) (by rw [y8n, a, List.flatMap_append, List.flatMap_cons]) (by unfold SMALL; omega)]
    unfold zf7
    rw [hx, z01 d]
    exact k _ (by rw [List.flatMap_append, List.flatMap_cons, List.flatMap_nil, List.append_nil, List.length_append, ← hx]; omega)
end Go.Am.Pl
end
