/- A set of ints, kept as a map to true. Own work; generic. -/
import Derived.Test.YtcbpckbehdaloaaAmYi
import Derived.MapKept
set_option linter.unusedSimpArgs false
set_option linter.unusedVariables false
namespace Go.Am
open Go

/-- One more of a set. -/
def insKey (keys : List Int) (n : Int) : List Int := if n ∈ keys then keys else keys ++ [n]

theorem findNow_is {n : Int} : ∀ {keys : List Int} {l : List MapEntry} (i : Nat), l.map (fun e => (e.key, e.val)) = keys.map (fun n => (Value.int .i64 n, Value.bool true)) →
    (n ∈ keys → ∃ q, q < l.length ∧ (l[q]?).map (·.key) = some (.int .i64 n) ∧ Instr.findNow (.int .i64) (.int .i64 n) l i = some (some (i + q, .bool true))) ∧ (n ∉ keys → Instr.findNow (.int .i64) (.int .i64 n) l i = some none)
  | [], [], i, _ => ⟨fun h => by simp at h, fun _ => rfl⟩
  | [], _ :: _, i, h => by simp at h
  | _ :: _, [], i, h => by simp at h
  | k :: keys, e :: l, i, h => by
    simp only [List.map_cons, List.cons.injEq, Prod.mk.injEq] at h
    obtain ⟨⟨h1, h2⟩, h3⟩ := h
    obtain ⟨i1, i2⟩ := findNow_is (n := n) (i + 1) h3
    have key : Instr.findNow (.int .i64) (.int .i64 n) (e :: l) i = if n = k then some (some (i, .bool true)) else Instr.findNow (.int .i64) (.int .i64 n) l (i + 1) := by
      rw [Instr.findNow, h1, h2]
      by_cases hk : n = k
      · simp [Instr.sameNow, hk]
      · have hb : (n == k) = false := by simp [hk]
        simp [Instr.sameNow, hk, hb]
    refine ⟨fun hm => ?_, fun hm => ?_⟩
    · by_cases e : n = k
      · exact ⟨0, by simp, by simp [h1, e], by rw [key, if_pos e]; rfl⟩
      · obtain ⟨q, q1, q2, q3⟩ := i1 (by simpa [e] using hm)
        exact ⟨q + 1, by simp; omega, by simpa using q2, by rw [key, if_neg e, q3]; congr 3; omega⟩
    · simp only [List.mem_cons, not_or] at hm
      rw [key, if_neg hm.1]; exact i2 hm.2

section
variable {P : Program} {n : Nat}
variable {pn : Nat → Option Value} {w0 : World} {A0 F0 : Blks} {hv hv' : Nat → Value} {T T' : Nat → Blks} {st st' : St} {a : Act} {w w' : World}

/-- A map's block turned. -/
theorem StSim.setMap (h : StSim n pn w0 A0 F0 hv T st a w) {id b : Nat} {keys keys' : List Int} {es es' : Array MapEntry} {clock clock' : Nat} (hid : st.obj id = some (.mp keys)) (hh : hv id = .map (some b)) (hb : w.heap[b]? = some (.map es clock)) (hT : T id b)
    (hnd : keys'.Nodup) (hes : MapIs keys' es') : StSim n pn w0 A0 F0 hv T ((Upd.put id (.mp keys')).app st) a { w with heap := w.heap.setIfInBounds b (.map es' clock') } := by
  obtain ⟨hs1, hs2⟩ := MapKept.heap_set (o' := .map es' clock') hb
  have hobj : ∀ i, ((Upd.put id (.mp keys')).app st).obj i = if id = i then some (.mp keys') else st.obj i := fun i => upd_apply _ _ _ _
  have hlive : ∀ i, (((Upd.put id (.mp keys')).app st).obj i).isSome = true → (st.obj i).isSome = true := by
    intro i hi; rw [hobj] at hi
    by_cases e : id = i
    · subst e; simp [hid]
    · rwa [if_neg e] at hi
  have hfr : Frame (fun x => ∃ d, d = id ∧ T d x) w { w with heap := w.heap.setIfInBounds b (.map es' clock') } :=
    ⟨fun x _ hx => hs2 x (fun e => hx ⟨id, rfl, by subst e; exact hT⟩), by simp, rfl, rfl⟩
  have tr : Trade w0 A0 F0 hv hv T T st.obj ((Upd.put id (.mp keys')).app st).obj (fun d => d = id) w { w with heap := w.heap.setIfInBounds b (.map es' clock') } := by
    refine ⟨fun d hd => by subst hd; simp [hid], hfr, fun i hi hnd => ⟨?_, rfl, rfl⟩, fun i hi hor x hx => ?_⟩
    · rw [hobj, if_neg (fun e => hnd e.symm)]
    · rcases hor with rfl | hno
      · exact .inl ⟨_, rfl, hx⟩
      · have := hlive i hi; rw [hno] at this; cases this
  have keep : ∀ {av : AV} {v : Value}, AVSim w (Sh A0 F0 w0 T st.obj w) hv st.obj av v → AVSim { w with heap := w.heap.setIfInBounds b (.map es' clock') } (Sh A0 F0 w0 T ((Upd.put id (.mp keys')).app st).obj { w with heap := w.heap.setIfInBounds b (.map es' clock') }) hv ((Upd.put id (.mp keys')).app st).obj av v := by
    intro av v ha
    have hblk : ∀ i, (st.obj i).isSome = true → i ≠ id → ∀ x, Sh A0 F0 w0 T st.obj w x ∨ T i x → (w.heap.setIfInBounds b (.map es' clock'))[x]? = w.heap[x]? := by
      intro i hs hne x hx
      rcases hx with hx | hx
      · exact tr.same hx
      · exact hs2 x (fun e => by subst e; exact h.dis i id hne hs (by simp [hid]) x hx hT)
    induction ha with
    | dead v => exact .dead v
    | c ho => exact .c (tr.own ho)
    | row hs hh => exact .row hs fun i x v h1 h2 => tr.own (hh i x v h1 h2)
    | @ref i p k1 k2 o rw1 rw2 v ho hg hh =>
      have hne : i ≠ id := fun e => by subst e; rw [hid] at ho; cases ho
      exact .ref (by rw [hobj, if_neg hne.symm]; exact ho) hg (Hdr.frame (h.heap i _ ho) (hblk i (by simp [ho]) hne) hh)
    | @ptr i p k1 i1 j1 k0 rw1 o rw2 b2 off len cap ho hg hh =>
      have hne : i ≠ id := fun e => by subst e; rw [hid] at ho; cases ho
      exact .ptr (n := len) (cap := cap) (by rw [hobj, if_neg hne.symm]; exact ho) hg (Hdr.frame (h.heap i _ ho) (hblk i (by simp [ho]) hne) hh)
    | @bx i j b2 xs ho hh =>
      have hne : i ≠ id := fun e => by subst e; rw [hid] at ho; cases ho
      exact .bx (by rw [hobj, if_neg hne.symm]; exact ho) hh
    | @pts xs b2 off c e fr hb2 hA hs hh => exact .pts ((tr.same hA).trans hb2) (tr.sh hA) hs fun i x v h1 h2 => tr.own (hh i x v h1 h2)
    | @mp i ks v ho hh =>
      by_cases e : id = i
      · subst e; exact .mp (by rw [hobj, if_pos rfl]) hh
      · exact .mp (by rw [hobj, if_neg e]; exact ho) hh
    | agg hs _ ih => exact .agg hs ih
    | tup hs _ ih => exact .tup hs ih
    | fn hs _ ih => exact .fn hs ih
  have lv : ∀ {av : AV}, Live ((Upd.put id (.mp keys')).app st).obj av → Live st.obj av := fun hl i hi => hlive i (hl i hi)
  refine h.trade tr h.size h.defers ?_ ?_ h.slt ?_ ?_ ?_ ?_ ?_ ?_
  · intro i j hij hi hj x h1 h2
    exact h.dis i j hij (hlive i hi.1) (hlive j hj.1) x h1 h2
  · intro i o hor ho
    rw [hobj] at ho
    by_cases e : id = i
    · subst e
      rw [if_pos rfl] at ho; cases ho
      exact ⟨b, es', clock', hh, hs1, hT, hnd, hes⟩
    · rw [if_neg e] at ho
      rcases hor with rfl | hno
      · exact absurd rfl e
      · rw [hno] at ho; cases ho
  · intro x av hx i hi; exact addU_true.2 (.inl (h.uenv x av hx i hi))
  · intro i hi; exact addU_true.2 (.inl (h.uobj i (hlive i hi)))
  · intro i v hp; exact ⟨addU_true.2 (.inl (h.pin i v hp).1), fun hi => (h.pin i v hp).2 (hlive i hi)⟩
  · intro i xs hx j hj
    rw [hobj] at hx
    by_cases e : id = i
    · rw [if_pos e] at hx; cases hx
    · rw [if_neg e] at hx; exact addU_true.2 (.inl (h.ubox i xs hx j hj))
  · intro i xs _ _ av _ hl; exact ⟨lv hl, fun v ha => keep ha⟩
  · intro x av hx hl
    obtain ⟨v, h1, h2⟩ := h.env x av hx (lv hl)
    exact ⟨v, h1, keep h2⟩

variable {d : Nat} {ty : TypeId} {pos : String} {after : Array Edge} {g : Option (Nat × Bool)} {t kt et : TypeId} {x y z : Operand}

theorem op_makeMap (hn : d < n) : OpL0 P n ⟨some d, .makeMap t none, ty, pos, after, g⟩ [.fresh d] [.put d (.mp []), .set d (.bx d 0)] := by
  intro pn w0 A0 F0 st a w hB hS hs K Q hK
  obtain ⟨hv, T, hT⟩ := hS
  have hf : st.used d = false := at0 hs
  have hrun : (execOp a.eval ⟨some d, .makeMap t none, ty, pos, after, g⟩).run P w = .ok (.value (.map (some w.heap.size))) (w.alloc (.map #[] 0)) := by
    simp [execOp, Instr.makeMap]
  unfold Oper.wp
  rw [hrun]
  have h1 := hT.create (S := fun b => b = w.heap.size) (v := .map (some w.heap.size)) (o := .mp []) (frame_alloc w (.map #[] 0)) hf (fun b hb => by subst hb; exact ⟨Nat.le_refl _, by show w.heap.size < (w.heap.push _).size; simp⟩) (fun j hj => by simp [Obj.ids] at hj)
    ⟨w.heap.size, #[], 0, upd_same _ _ _, alloc_new _ _, rfl, .nil, rfl⟩
  exact hK _ _ ⟨_, _, h1.set hn fun _ => .mp (by simp [Upd.app, upd_same]; rfl) (by rw [upd_same])⟩

theorem mp_at {a : Act} (hT : StSim n pn w0 A0 F0 hv T st a w) {id : Nat} {keys : List Int} (hx : opIs st x (.bx id 0)) (hid : st.obj id = some (.mp keys)) :
    ∃ b es clock, a.eval x = .map (some b) ∧ hv id = .map (some b) ∧ w.heap[b]? = some (.map es clock) ∧ T id b ∧ keys.Nodup ∧ MapIs keys es := by
  have h0 := hT.eval hx (fun i hi => by simp [AV.ids] at hi; subst hi; simp [hid])
  obtain ⟨b, es, clock, k1, k2, k3, k4, k5⟩ := hT.heap id _ hid
  refine ⟨b, es, clock, ?_, k1, k2, k3, k4, k5⟩
  generalize hvx : a.eval x = v at h0
  cases h0 with
  | bx ho => rw [hid] at ho; cases ho
  | mp ho hh => rw [← hh]; exact k1

theorem run_mapUpd {b : Nat} {es : Array MapEntry} {clock : Nat} {keys : List Int} {i : Int} (hm : P.underlying t = some (.map kt et)) (hk : P.underlying kt = some (.int .i64)) (hb : w.heap[b]? = some (.map es clock)) (hes : MapIs keys es) (hnd : keys.Nodup) :
    ∃ es' clock', (Instr.mapUpdate t (.map (some b)) (.int .i64 i) (.bool true)).run P w = .ok () { w with heap := w.heap.setIfInBounds b (.map es' clock') } ∧ MapIs (insKey keys i) es' ∧ (insKey keys i).Nodup := by
  have hc : (Instr.checkKey false 10000 kt (.int .i64 i)).run P w = .ok () w := MapKept.run_checkKey (k := .int .i64 i) hk (by simp [MapKept.IsKey]) false 9999
  obtain ⟨f1, f2⟩ := findNow_is (n := i) 0 hes
  by_cases hin : i ∈ keys
  · obtain ⟨q, q1, q2, q3⟩ := f1 hin
    have hkey : ((es[q]?).map (·.key)).getD (Value.int .i64 i) = .int .i64 i := by
      rw [← Array.getElem?_toList, q2]; rfl
    have hst : (Instr.keyThatStays (.int .i64 i) (.int .i64 i)).run P w = .ok (.int .i64 i) w := by simp [Instr.keyThatStays, Instr.sameBits]
    refine ⟨es.modify q fun e => { e with key := .int .i64 i, val := .bool true }, clock, ?_, ?_, ?_⟩
    · have hf := MapKept.run_findKey (P := P) (w := w) (kt := kt) hk q3
      simp only [Nat.zero_add] at hf
      simp [Instr.mapUpdate, run_underlying hm, MapKept.run_getObj_map hb, hc, hf, hkey, hst, MapKept.run_setObj_map _ hb, Result.andThen]
    · rw [insKey, if_pos hin]
      unfold MapIs at hes ⊢
      rw [← hes]
      refine List.ext_getElem? fun m => ?_
      simp only [List.getElem?_map, Array.getElem?_toList, Array.getElem?_modify]
      by_cases hqm : q = m
      · subst hqm
        have hlt : q < es.size := by simpa using q1
        have hp : (es.toList.map fun e => (e.key, e.val))[q]? = (keys.map fun n => (Value.int .i64 n, Value.bool true))[q]? := by rw [hes]
        simp only [List.getElem?_map, Array.getElem?_toList, Array.getElem?_eq_getElem hlt, Option.map_some] at hp q2 ⊢
        cases hkq : keys[q]? with
        | none => rw [hkq] at hp; cases hp
        | some kq =>
          rw [hkq] at hp
          simp only [Option.map_some, Option.some.injEq, Prod.mk.injEq] at hp q2
          simp [hlt, hp.2, q2]
      · simp [hqm]
    · rw [insKey, if_pos hin]; exact hnd
  · refine ⟨es.push { key := .int .i64 i, val := .bool true, born := clock }, clock + 1, ?_, ?_, ?_⟩
    · have hf := MapKept.run_findKey (P := P) (w := w) (kt := kt) hk (f2 hin)
      simp [Instr.mapUpdate, run_underlying hm, MapKept.run_getObj_map hb, hc, hf, MapKept.run_setObj_map _ hb, Result.andThen]
    · rw [insKey, if_neg hin]
      unfold MapIs at hes ⊢
      simp [hes]
    · rw [insKey, if_neg hin]
      exact List.nodup_append.2 ⟨hnd, by simp, by intro a ha b hb; simp at hb; subst hb; exact fun e => hin (e ▸ ha)⟩

theorem op_mapUpd {id : Nat} {keys : List Int} {i : Int} (hm : P.underlying t = some (.map kt et)) (hk : P.underlying kt = some (.int .i64)) {o : Op} (hop : o = .mapUpdate t x y z ∨ o = .insert t x y z) :
    OpL0 P n ⟨none, o, ty, pos, after, g⟩ [.opd x (.bx id 0), .opd y (aInt i), .opd z (aBool true), .obj id (.mp keys)] [.put id (.mp (insKey keys i))] := by
  intro pn w0 A0 F0 st a w hB hS hs K Q hK
  obtain ⟨hv, T, hT⟩ := hS
  have h1 : opIs st y (aInt i) := at1 hs
  have h2 : opIs st z (aBool true) := at2 hs
  have hid : st.obj id = some (.mp keys) := at3 hs
  obtain ⟨b, es, clock, k0, k1, k2, k3, k4, k5⟩ := mp_at hT (at0 hs) hid
  obtain ⟨es', clock', r1, r2, r3⟩ := run_mapUpd (P := P) (t := t) (i := i) hm hk k2 k5 k4
  have hrun : (execOp a.eval ⟨none, o, ty, pos, after, g⟩).run P w = .ok .skip { w with heap := w.heap.setIfInBounds b (.map es' clock') } := by
    rcases hop with rfl | rfl <;> simp [execOp, k0, hT.lit h1, hT.lit h2, r1]
  unfold Oper.wp
  rw [hrun]
  exact hK _ _ ⟨hv, T, hT.setMap hid k1 k2 k3 r3 r2⟩

theorem op_lookup {id : Nat} {keys : List Int} {i : Int} (hm : P.underlying t = some (.map kt et)) (hk : P.underlying kt = some (.int .i64)) (hz : ∀ w, (zeroValue et).run P w = .ok (.bool false) w) (hn : d < n) :
    OpL0 P n ⟨some d, .lookup t x y false, ty, pos, after, g⟩ [.opd x (.bx id 0), .opd y (aInt i), .obj id (.mp keys)] [.set d (aBool (decide (i ∈ keys)))] :=
  op_value rfl hn fun pn w0 A0 F0 hv T st a w _ hT hs => by
    have h1 : opIs st y (aInt i) := at1 hs
    have hid : st.obj id = some (.mp keys) := at2 hs
    obtain ⟨b, es, clock, k0, k1, k2, k3, k4, k5⟩ := mp_at hT (at0 hs) hid
    refine ⟨.bool (decide (i ∈ keys)), ?_, fun _ => .c (.lit _)⟩
    have hc : ∀ e, (Instr.checkKey e 10000 kt (.int .i64 i)).run P w = .ok () w := fun e => MapKept.run_checkKey (k := .int .i64 i) hk (by simp [MapKept.IsKey]) e 9999
    obtain ⟨f1, f2⟩ := findNow_is (n := i) 0 k5
    by_cases hin : i ∈ keys
    · obtain ⟨q, q1, q2, q3⟩ := f1 hin
      have hf := MapKept.run_findKey (P := P) (w := w) (kt := kt) hk q3
      simp [execOp, k0, hT.lit h1, Instr.lookup, run_underlying hm, MapKept.run_getObj_map k2, hc, hf, hin]
    · have hf := MapKept.run_findKey (P := P) (w := w) (kt := kt) hk (f2 hin)
      simp [execOp, k0, hT.lit h1, Instr.lookup, run_underlying hm, MapKept.run_getObj_map k2, hc, hf, hin, hz w]
end
end Go.Am
