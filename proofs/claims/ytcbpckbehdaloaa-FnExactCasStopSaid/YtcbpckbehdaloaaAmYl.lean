/- A call that is lent a slice within an owned one. Own work; generic. -/
import Derived.Test.YtcbpckbehdaloaaAmYk
set_option linter.unusedSimpArgs false
set_option linter.unusedVariables false
namespace Go.Am
open Go

theorem set_flat {k : Nat} {rows : List (List Cell)} (hk : ∀ r ∈ rows, r.length = k) {i j : Nat} {row : List Cell} {z : Cell} (hr : rows[i]? = some row) (hj : j < k) (t : Nat) :
    (rows.set i (row.set j z)).flatten[t]? = if t = i * k + j then some z else rows.flatten[t]? := by
  have hrk : row.length = k := hk row (List.mem_of_getElem? hr)
  have hil : i < rows.length := (List.getElem?_eq_some_iff.1 hr).1
  have hk2 : ∀ r ∈ rows.set i (row.set j z), r.length = k := by
    intro r h
    rcases List.mem_or_eq_of_mem_set h with h | h
    · exact hk r h
    · rw [h, List.length_set]; exact hrk
  have hkp : 0 < k := by omega
  have hmod : t % k < k := Nat.mod_lt _ hkp
  have hdm : t = t / k * k + t % k := by rw [Nat.mul_comm]; exact (Nat.div_add_mod t k).symm
  have e1 : (rows.set i (row.set j z)).flatten[t]? = ((rows.set i (row.set j z))[t / k]?).bind (·[t % k]?) := by
    conv => lhs; rw [hdm]
    exact List.flatten_getElem?_of_const hk2 _ _ hmod
  have e2 : rows.flatten[t]? = (rows[t / k]?).bind (·[t % k]?) := by
    conv => lhs; rw [hdm]
    exact List.flatten_getElem?_of_const hk _ _ hmod
  rw [e1, e2]
  have key : ∀ a b c d : Nat, b < k → d < k → a * k + b = c * k + d → a = c ∧ b = d := by
    intro a b c d hb hd he
    have h1 : (a * k + b) / k = a := by rw [Nat.mul_comm, Nat.mul_add_div hkp, Nat.div_eq_of_lt hb, Nat.add_zero]
    have h2 : (c * k + d) / k = c := by rw [Nat.mul_comm, Nat.mul_add_div hkp, Nat.div_eq_of_lt hd, Nat.add_zero]
    have h3 : a = c := by rw [← h1, ← h2, he]
    subst h3
    exact ⟨rfl, by omega⟩
  by_cases h1 : t / k = i
  · rw [h1, List.getElem?_set_self hil, Option.bind_some, hr, Option.bind_some]
    by_cases h2 : t % k = j
    · rw [h2, List.getElem?_set_self (by omega), if_pos (by rw [hdm, h1, h2])]
    · rw [List.getElem?_set_ne (fun e => h2 e.symm), if_neg]
      intro e
      rw [hdm] at e
      exact h2 (key _ _ _ _ hmod hj e).2
  · rw [List.getElem?_set_ne (fun e => h1 e.symm), if_neg]
    intro e
    rw [hdm] at e
    exact h1 (key _ _ _ _ hmod hj e).1

theorem Own.sub {w : World} {A F : Blks} {k k' : Nat} {rows rows' : List (List Cell)} {v u : Value} (h : Own w A F (.sl true k rows) v) {i j : Nat} {row : List Cell} (hr : rows[i]? = some row) (hj : row[j]? = some (.sl true k' rows'))
    (hh : Hdr w (.sl true k rows) v [(i, j)] u) (hAF : ∀ b, A b → ¬ F b) :
    ∃ Gq : Blks, (∀ b, Gq b → F b) ∧ Own w A Gq (.sl true k' rows') u ∧ ∀ (w' : World) (A' Gn : Blks) (rows'' : List (List Cell)), (∀ b, (A b ∨ F b) → ¬ Gq b → w'.heap[b]? = w.heap[b]?) → (∀ b, A b → A' b) → (∀ b, Gn b → ¬ (F b ∧ ¬ Gq b)) →
      Own w' A' Gn (.sl true k' rows'') u → Own w' A' (fun b => (F b ∧ ¬ Gq b) ∨ Gn b) (.sl true k (rows.set i (row.set j (.sl true k' rows'')))) v := by
  cases h with
  | nil => simp at hr
  | @arr _ _ _ b cap c e G hb hk hs hcap hF hG hGb hd hsub =>
    simp only [Hdr] at hh
    obtain ⟨b', off', n', cap', cs, e', fr', u', x, hv, hb', hu, hx, hjk, hrest⟩ := hh
    cases hv
    rw [hb] at hb'; cases hb'
    rw [hr, Option.bind_some, hj] at hx; cases hx
    subst hrest
    have hfl : rows.flatten[i * k + j]? = some (.sl true k' rows') := by
      rw [List.flatten_getElem?_of_const hk i j hjk, hr]; exact hj
    refine ⟨G (i * k + j), hG _, hsub _ _ _ hfl (by simpa using hu), fun w' A' Gn rows'' hw hA hn ho => ?_⟩
    have hil : i < rows.length := (List.getElem?_eq_some_iff.1 hr).1
    have hrk : row.length = k := hk row (List.mem_of_getElem? hr)
    have hlen : (rows.set i (row.set j (.sl true k' rows''))).length = rows.length := by simp
    have := Own.arr (w := w') (A := A') (F := fun b => (F b ∧ ¬ G (i * k + j) b) ∨ Gn b) (k := k) (rows := rows.set i (row.set j (.sl true k' rows''))) (b := b) (cap := cap) (c := c) (e := e) (G := fun t => if t = i * k + j then Gn else G t)
      (by rw [hw b (.inr hF) (hGb _)]; exact hb)
      (by
        intro r h
        rcases List.mem_or_eq_of_mem_set h with h | h
        · exact hk r h
        · rw [h, List.length_set]; exact hrk) hs (by rw [hlen]; exact hcap) (.inl ⟨hF, hGb _⟩)
      (by
        intro t x hx
        by_cases ht : t = i * k + j
        · rw [if_pos ht] at hx; exact .inr hx
        · rw [if_neg ht] at hx; exact .inl ⟨hG t x hx, hd t _ x ht hx⟩)
      (by
        intro t hx
        by_cases ht : t = i * k + j
        · rw [if_pos ht] at hx; exact hn b hx ⟨hF, hGb _⟩
        · rw [if_neg ht] at hx; exact hGb t hx)
      (by
        intro t s x hts h1 h2
        by_cases ht : t = i * k + j
        · rw [if_pos ht] at h1
          rw [if_neg (by omega)] at h2
          exact hn x h1 ⟨hG s x h2, hd s _ x (by omega) h2⟩
        · rw [if_neg ht] at h1
          by_cases hs' : s = i * k + j
          · rw [if_pos hs'] at h2
            exact hn x h2 ⟨hG t x h1, hd t _ x ht h1⟩
          · rw [if_neg hs'] at h2
            exact hd t s x hts h1 h2)
      (by
        intro t x v h1 h2
        rw [set_flat hk hr hjk] at h1
        by_cases ht : t = i * k + j
        · rw [if_pos ht] at h1; cases h1
          rw [if_pos ht]
          subst ht
          have : v = u := by
            have hu2 : c[i * k + j]? = some u := by simpa using hu
            rw [hu2] at h2; exact (Option.some.inj h2).symm
          rw [this]; exact ho
        · rw [if_neg ht] at h1
          rw [if_neg ht]
          refine ((hsub t x v h1 h2).frame fun b' hb' => ?_).mono hA (fun _ h => h)
          rcases hb' with hb' | hb'
          · exact hw b' (.inl hb') (fun hq => hAF b' hb' (hG _ b' hq))
          · exact hw b' (.inr (hG t b' hb')) (hd t _ b' ht hb'))
    rw [hlen] at this
    exact this

section
variable {P : Program} {n : Nat} {d : Nat} {ty : TypeId} {pos : String} {after : Array Edge} {g : Option (Nat × Bool)} {tys : Array TypeId}
theorem op_callLP {f : FuncId} {fn : Func} {c : Code} {x y : Operand} {id k k' i j : Nat} {rows : List (List Cell)} {row : List Cell} {rows' rows'' rowsN : List (List Cell)} {m r : Int}
    (hf : P.funcs[f]? = some fn) (hname : (fn.name == "runtime.NumGoroutine") = false) (hb : fn.body = some c) (hF : FnB P f [.c (.sl true k' rows'), .c (.lit (.int .i64 m))] [.c (.lit (.int .i64 r))] [(0, .c (.sl true k' rows''))])
    (hr : rows[i]? = some row) (hj : row[j]? = some (.sl true k' rows')) (hn : d < n) (hN : rows.set i (row.set j (.sl true k' rows'')) = rowsN) :
    OpL0 P n ⟨some d, .call ⟨.value (.func f), #[x, y], tys⟩, ty, pos, after, g⟩ [.opd x (.ref id [(i, j)]), .opd y (aInt m), .obj id (.arr k rows)]
      (dels [id] ++ (killsU [id] ++ (putsO [(id, .arr k rowsN)] ++ [.set d (aInt r)]))) := by
  subst hN
  intro pn w0 A0 F0 st a w hB hS hs K Q hK
  obtain ⟨hv, T, hT⟩ := hS
  have h0 : opIs st x (.ref id [(i, j)]) := at0 hs
  have h1 : opIs st y (aInt m) := at1 hs
  have hid : st.obj id = some (.arr k rows) := at2 hs
  have hx := hT.eval h0 (fun q hq => by simp [AV.ids] at hq; subst hq; simp [hid])
  have hown := hT.heap id _ hid
  simp only [ObjSim] at hown
  cases hx with
  | ref ho hg hh =>
  rw [hid] at ho; cases ho
  obtain ⟨Gq, q1, q2, q3⟩ := hown.sub hr hj hh (fun b hb => hb.2.2 id (by simp [hid]))
  have hBase : Base w (Sh A0 F0 w0 T st.obj w) Gq := ⟨fun b hb => hb.2.1, fun b hb => (hT.own id (by simp [hid]) b (q1 b hb)).2, fun b hb hq => hb.2.2 id (by simp [hid]) (q1 b hq)⟩
  have hargs : ArgsSim w (Sh A0 F0 w0 T st.obj w) Gq [.c (.sl true k' rows'), .c (.lit (.int .i64 m))] [a.eval x, a.eval y] := by
    refine ⟨fun q => if q = 0 then Gq else noBlk, rfl, fun q b hb => ?_, fun q s b hqs h3 h4 => ?_, fun q z v h3 h4 => ?_⟩
    · by_cases hq : q = 0
      · simp only [hq, if_true] at hb; exact hb
      · simp only [hq, if_false] at hb; exact hb.elim
    · by_cases hq : q = 0
      · have hs0 : s ≠ 0 := by omega
        simp only [hs0, if_false] at h4; exact h4
      · simp only [hq, if_false] at h3; exact h3
    · match q with
      | 0 => simp at h3 h4; subst h3 h4; exact .c q2
      | 1 => simp at h3 h4; subst h3 h4; rw [hT.lit h1]; exact .c (.lit _)
      | q + 2 => simp at h3
  have hcall := hF w _ _ _ hBase hargs
  have hrun : (execOp a.eval ⟨some d, .call ⟨.value (.func f), #[x, y], tys⟩, ty, pos, after, g⟩).run P w = .ok (.enter f [a.eval x, a.eval y].toArray) w := by
    have := run_enter hf hname hb [a.eval x, a.eval y].toArray w
    simp only [execOp, resolve, Act.eval, Deferred.ofValue, invoke, Sem.run_bind]
    simpa [Act.eval] using this
  unfold Oper.wp
  rw [hrun, Oper.upon_enter]
  refine hcall.mono ?_
  rintro e w' ⟨res', rvs, back', F', rfl, ⟨rfl, rfl⟩, hframe, hF', hbl, hrl, G, s1, s2, s3, s4⟩
  obtain ⟨rv, rfl⟩ : ∃ rv, rvs = [rv] := by
    match rvs, hrl with
    | [rv], _ => exact ⟨rv, rfl⟩
  have g0 := s4 0 (.c (.lit (.int .i64 r))) rv rfl rfl
  have g1 := s4 1 (.c (.sl true k' rows'')) (a.eval x) rfl rfl
  have hrv : rv = .int .i64 r := by cases g0 with | c h => cases h; rfl
  subst hrv
  cases g1 with
  | c g1 =>
  let B : Blks := fun b => Sh A0 F0 w0 T st.obj w b ∨ ((Gq b ∨ (w.heap.size ≤ b ∧ b < w'.heap.size)) ∧ ¬ F' b)
  have g2 : Own w' B (G 1) (.sl true k' rows'') (a.eval x) := g1.mono (fun b hb => by
    obtain ⟨h3, h4, h5⟩ := hb
    rcases h3 with h3 | h3 | h3
    · exact .inl h3
    · exact .inr ⟨.inl h3, h5⟩
    · exact .inr ⟨.inr ⟨h3, h4⟩, h5⟩) (fun _ h => h)
  have hG1 : ∀ b, G 1 b → Gq b ∨ (w.heap.size ≤ b ∧ b < w'.heap.size) := fun b hb => by
    obtain ⟨h3, h4⟩ := hF' b (s2 1 b hb)
    exact h3.imp (fun h => h) (fun h => ⟨h, h4⟩)
  have hnew := q3 w' B (G 1) rows'' (fun b hb hq => hframe.heap b (by
      rcases hb with hb | hb
      · exact hb.2.1
      · exact (hT.own id (by simp [hid]) b hb).2) hq) (fun b hb => .inl hb) (fun b hb hq => by
      rcases hG1 b hb with h | ⟨h, _⟩
      · exact hq.2 h
      · have := (hT.own id (by simp [hid]) b hq.1).2; omega) g2
  obtain ⟨hv', T', k1, k2, k3⟩ := hT.swap (ds := [id]) (ks := [id]) (w' := w') (fun q hq => by simp at hq; subst hq; simp [hid]) (hframe.mono fun b hb => ⟨id, by simp, q1 b hb⟩)
    [⟨id, .arr k (rows.set i (row.set j (.sl true k' rows''))), hv id, fun b => (T id b ∧ ¬ Gq b) ∨ G 1 b⟩] (by simp)
    (fun q hq => by simp at hq; subst hq; exact .inr ⟨by simp, rfl, _, hid, .inl ⟨_, _, _, rfl, rfl⟩, fun _ => by simp⟩)
    (fun q hq b hb => by
      simp at hq; subst hq
      rcases hb with hb | hb
      · exact .inl ⟨id, by simp, hb.1⟩
      · exact (hG1 b hb).imp (fun h => ⟨id, by simp, q1 b h⟩) (fun h => h))
    (fun p hp q hq hne => by simp at hp hq; subst hp hq; exact absurd rfl hne) B
    (fun b hb => hb.imp (fun h => h) fun ⟨h3, h4⟩ => ⟨h3.imp (fun h => ⟨id, by simp, q1 b h⟩) (fun h => h), fun q hq => by
      simp at hq; subst hq
      rintro (h5 | h5)
      · rcases h3 with h3 | h3
        · exact h5.2 h3
        · have := (hT.own id (by simp [hid]) b h5.1).2; omega
      · exact h4 (s2 1 b h5)⟩)
    (fun q hq => by simp at hq; subst hq; exact hnew) (fun q hq z hz => by simp at hq; subst hq; simp [Obj.ids] at hz)
  refine hK _ _ ?_
  have : apps (dels [id] ++ (killsU [id] ++ (putsO [(id, .arr k (rows.set i (row.set j (.sl true k' rows''))))] ++ [.set d (aInt r)]))) st =
      (Upd.set d (aInt r)).app (apps (dels [id] ++ (killsU [id] ++ putsO [(id, .arr k (rows.set i (row.set j (.sl true k' rows''))))])) st) := by
    simp only [apps_append]; rfl
  rw [this]
  exact ⟨hv', T', k1.set hn fun _ => .c (.lit _)⟩
end
theorem setLP {α : Type} {f : α → List Cell} {l : List α} {i j : Nat} {x x' : α} {z : Cell} (h : (f x).set j z = f x') : (l.map f).set i ((f x).set j z) = (l.set i x').map f := by rw [h, List.map_set]
end Go.Am
