/- Operations that make memory: boxes, structs. Own work; generic. -/
import Derived.Test.YtcbpckbehdaloaaAmF
import Derived.Laws.Tables
import Derived.Great.BuildSlice
set_option linter.unusedSimpArgs false
set_option linter.unusedVariables false
namespace Go.Am
open Go

section
variable {P : Program} {ops : Array Oper} {n : Nat}
variable {pn : Nat → Option Value} {w0 : World} {A0 F0 : Blks} {hv : Nat → Value} {T : Nat → Blks} {st : St} {a : Act} {w w' : World}

theorem ids_used (h : StSim n pn w0 A0 F0 hv T st a w) {x : Operand} {av : AV} (hx : opIs st x av) : ∀ id ∈ av.ids, st.used id = true := by
  cases x with
  | tmp t => exact h.uenv t av hx
  | const v => obtain rfl := hx; cases v <;> intro id hid <;> simp [constAV, AV.ids] at hid
  | func f => obtain rfl := hx; intro id hid; simp [AV.ids, idsL] at hid
  | global => exact hx.elim

/-- A new object under a fresh name. -/
theorem trade_create (h : StSim n pn w0 A0 F0 hv T st a w) (hfr : Frame noBlk w w') {id : Nat} (hid : st.used id = false) (v : Value) {S : Blks} (hS : ∀ b, S b → w.heap.size ≤ b ∧ b < w'.heap.size) (o : Obj) :
    Trade w0 A0 F0 hv (upd hv id v) T (upd T id S) st.obj (upd st.obj id (some o)) (fun _ => False) w w' := by
  have hn : st.obj id = none := by
    cases ho : st.obj id with
    | none => rfl
    | some o => rw [h.uobj id (by simp [ho])] at hid; cases hid
  refine ⟨fun _ f => f.elim, hfr.mono fun b f => f.elim, fun j hj _ => ?_, fun j hj hno b hb => ?_⟩
  · have hne : id ≠ j := fun e => by subst e; rw [hn] at hj; cases hj
    exact ⟨upd_ne _ _ hne, upd_ne _ _ hne, upd_ne _ _ hne⟩
  · by_cases e : id = j
    · subst e; rw [upd_same] at hb; exact .inr (hS b hb)
    · rw [upd_ne _ _ e] at hj
      rcases hno with f | hno
      · exact f.elim
      · rw [hno] at hj; cases hj

theorem live_create (h : StSim n pn w0 A0 F0 hv T st a w) {id : Nat} (hid : st.used id = false) {o : Obj} {av : AV} (hu : ∀ i ∈ av.ids, st.used i = true) (hl : Live (upd st.obj id (some o)) av) : Live st.obj av := by
  intro i hi
  have := hl i hi
  have hne : id ≠ i := fun e => by subst e; rw [hu _ hi] at hid; cases hid
  rwa [upd_ne _ _ hne] at this

theorem StSim.create (h : StSim n pn w0 A0 F0 hv T st a w) (hfr : Frame noBlk w w') {id : Nat} (hid : st.used id = false) {v : Value} {S : Blks} (hS : ∀ b, S b → w.heap.size ≤ b ∧ b < w'.heap.size) {o : Obj}
    (hu : ∀ j ∈ o.ids, st.used j = true) (ho : ObjSim w' (Sh A0 F0 w0 (upd T id S) (upd st.obj id (some o)) w') (upd hv id v) (upd st.obj id (some o)) S id o) :
    StSim n pn w0 A0 F0 (upd hv id v) (upd T id S) ((Upd.put id o).app st) a w' := by
  have tr := trade_create h hfr hid v hS o
  have hn : st.obj id = none := by
    cases ho : st.obj id with
    | none => rfl
    | some o => rw [h.uobj id (by simp [ho])] at hid; cases hid
  refine StSim.trade (st' := (Upd.put id o).app st) h tr h.size h.defers ?_ ?_ h.slt ?_ ?_ ?_ ?_ ?_ ?_
  · intro i j hij hi hj
    have hi' : i = id := by
      rcases hi.2 with f | e
      · exact f.elim
      · by_cases hh : id = i
        · exact hh.symm
        · have := hi.1; simp only [Upd.app] at this; rw [upd_ne _ _ hh, e] at this; cases this
    have hj' : j = id := by
      rcases hj.2 with f | e
      · exact f.elim
      · by_cases hh : id = j
        · exact hh.symm
        · have := hj.1; simp only [Upd.app] at this; rw [upd_ne _ _ hh, e] at this; cases this
    exact absurd (hi'.trans hj'.symm) hij
  · intro i o' hno ho'
    by_cases hh : id = i
    · subst hh
      simp only [Upd.app] at ho' ⊢
      rw [upd_same] at ho'; cases ho'
      rw [upd_same]
      exact ho
    · rcases hno with f | e
      · exact f.elim
      · simp only [Upd.app] at ho'; rw [upd_ne _ _ hh, e] at ho'; cases ho'
  · intro x av hx i hi
    exact addU_true.2 (.inl (h.uenv x av hx i hi))
  · intro i hi
    refine addU_true.2 ?_
    by_cases hh : id = i
    · exact .inr (by simp [hh])
    · simp only [Upd.app] at hi; rw [upd_ne _ _ hh] at hi; exact .inl (h.uobj i hi)
  · intro i v' hp
    obtain ⟨p1, p2⟩ := h.pin i v' hp
    have hne : id ≠ i := fun e => by subst e; rw [p1] at hid; cases hid
    refine ⟨addU_true.2 (.inl p1), fun hi => ?_⟩
    simp only [Upd.app] at hi
    rw [upd_ne _ _ hne] at hi ⊢
    exact p2 hi
  · intro i xs hx j hj
    refine addU_true.2 ?_
    by_cases hh : id = i
    · subst hh; simp only [Upd.app] at hx; rw [upd_same] at hx; cases hx; exact .inl (hu j hj)
    · simp only [Upd.app] at hx; rw [upd_ne _ _ hh] at hx; exact .inl (h.ubox i xs hx j hj)
  · intro i xs hx _ av hav hl
    have huse : ∀ k ∈ av.ids, st.used k = true := by
      intro k hk
      obtain ⟨l, hlt, rfl⟩ := List.mem_iff_getElem.1 hav
      exact h.ubox i xs hx k (mem_idsL (List.getElem?_eq_getElem hlt) hk)
    exact ⟨live_create h hid huse hl, fun v ha => h.keepAV tr ha fun _ _ f => f⟩
  · intro x av hx hl
    have hl' := live_create h hid (h.uenv x av hx) hl
    obtain ⟨v', h1, h2⟩ := h.env x av hx hl'
    exact ⟨v', h1, h.keepAV tr h2 fun _ _ f => f⟩

/-- The cells of what is not in a box. -/
def AV.cells? : AV → Option (List AV)
  | .row xs => some (xs.map .c)
  | .agg xs => some xs
  | .c (.lit (.agg _)) => none
  | .c (.lit (.tuple _)) => none
  | .tup _ => none
  | .dead => none
  | .c x => some [.c x]
  | .ref id p => some [.ref id p]
  | .ptr id p k i j => some [.ptr id p k i j]
  | .bx id j => some [.bx id j]
  | .pts xs => some [.pts xs]
  | .fn f xs => some [.fn f xs]

theorem cells_ids {av : AV} {ys : List AV} (h : av.cells? = some ys) : ∀ y ∈ ys, ∀ id ∈ y.ids, id ∈ av.ids := by
  intro y hy id hid
  cases av <;> simp only [AV.cells?] at h
  case row xs => cases h; obtain ⟨c, _, rfl⟩ := List.mem_map.1 hy; simp [AV.ids] at hid
  case agg xs =>
    cases h
    obtain ⟨l, hlt, rfl⟩ := List.mem_iff_getElem.1 hy
    exact mem_idsL (List.getElem?_eq_getElem hlt) hid
  case c x => split at h <;> first | (cases h; done) | (cases h; simp at hy; subst hy; exact hid) | (simp_all; done) | (simp_all [AV.ids]; done)
  all_goals first
    | (cases h; simp at hy; subst hy; exact hid)
    | (cases h; done)

theorem StSim.cells (hS : StSim n pn w0 A0 F0 hv T st a w) {av : AV} {v : Value} {ys : List AV} (h : AVSim w (Sh A0 F0 w0 T st.obj w) hv st.obj av v) (hc : av.cells? = some ys) :
    v.cells.size = ys.length ∧ ∀ (i : Nat) y u, ys[i]? = some y → v.cells[i]? = some u → AVSim w (Sh A0 F0 w0 T st.obj w) hv st.obj y u := by
  have one : ∀ {y : AV} {u : Value}, AVSim w (Sh A0 F0 w0 T st.obj w) hv st.obj y u → u.cells = #[u] → u.cells.size = [y].length ∧ ∀ (i : Nat) z t, [y][i]? = some z → u.cells[i]? = some t → AVSim w (Sh A0 F0 w0 T st.obj w) hv st.obj z t := by
    intro y u hs he
    rw [he]
    refine ⟨rfl, fun i z t h1 h2 => ?_⟩
    cases i with
    | zero => simp at h1 h2; subst h1 h2; exact hs
    | succ i => simp at h1
  cases h with
  | dead => cases hc
  | @c x _ ho =>
    cases ho with
    | lit =>
      cases v <;> simp only [AV.cells?] at hc <;> first | (cases hc; done) | (cases hc; exact one (.c (.lit _)) rfl)
    | nil => simp only [AV.cells?] at hc; cases hc; exact one (.c (.nil _ _)) rfl
    | emp => simp only [AV.cells?] at hc; cases hc; exact one (.c (.emp _ _)) rfl
    | shr hb hA hk hs hcap hh => simp only [AV.cells?] at hc; cases hc; exact one (.c (.shr hb hA hk hs hcap hh)) rfl
    | arr hb hk hs hcap hF hG hGb hd hh => exact hF.elim
    | bx hb hs hF hG hGb hd hh => exact hF.elim
  | row hs hh =>
    simp only [AV.cells?] at hc; cases hc
    refine ⟨by simpa [Value.cells] using hs, fun i y u h1 h2 => ?_⟩
    rw [List.getElem?_map] at h1
    obtain ⟨c, h3, rfl⟩ := Option.map_eq_some_iff.1 h1
    exact .c (hh i c u h3 h2)
  | ref ho hg hh =>
    simp only [AV.cells?] at hc; cases hc
    refine one (.ref ho hg hh) ?_
    obtain ⟨F', _, hown⟩ := Own.path (hS.heap _ _ ho) hg hh
    obtain ⟨b, c, rfl⟩ := own_slice hown
    rfl
  | ptr ho hg hh => simp only [AV.cells?] at hc; cases hc; exact one (.ptr ho hg hh) rfl
  | bx ho hh => simp only [AV.cells?] at hc; cases hc; exact one (.bx ho hh) rfl
  | pts hb hA hs hh => simp only [AV.cells?] at hc; cases hc; exact one (.pts hb hA hs hh) rfl
  | mp ho hh =>
    simp only [AV.cells?] at hc; cases hc
    refine one (.mp ho hh) ?_
    obtain ⟨b, es, clock, he, _⟩ := hS.heap _ _ ho
    rw [← hh, he]; rfl
  | agg hs hh => simp only [AV.cells?] at hc; cases hc; exact ⟨by simpa [Value.cells] using hs, fun i y u h1 h2 => hh i y u h1 h2⟩
  | tup => cases hc
  | fn hs hh => simp only [AV.cells?] at hc; cases hc; exact one (.fn hs hh) rfl

section
variable {d : Nat} {ty : TypeId} {pos : String} {after : Array Edge} {g : Option (Nat × Bool)}

theorem frame_alloc (w : World) (o : Go.Obj) : Frame noBlk w (w.alloc o) :=
  ⟨fun b hb _ => by show (w.heap.push o)[b]? = w.heap[b]?; rw [Array.getElem?_push, if_neg (by omega)], by show w.heap.size ≤ (w.heap.push o).size; simp, rfl, rfl⟩
theorem alloc_new (w : World) (o : Go.Obj) : (w.alloc o).heap[w.heap.size]? = some o := by show (w.heap.push o)[w.heap.size]? = some o; simp

/-- A new box. -/
theorem StSim.newBox (h : StSim n pn w0 A0 F0 hv T st a w) (hid : st.used d = false) (hn : d < n) {cs : Array Value} {e : TypeId} {ys : List AV} (hs : cs.size = ys.length)
    (hu : ∀ y ∈ ys, ∀ id ∈ y.ids, st.used id = true) (hsim : ∀ (i : Nat) y u, ys[i]? = some y → cs[i]? = some u → Live st.obj y → AVSim w (Sh A0 F0 w0 T st.obj w) hv st.obj y u) :
    Sim n pn w0 A0 F0 (apps [.put d (.box ys), .set d (.bx d 0)] st) (a.put (some d) (.pointer (some ⟨w.heap.size, 0, none⟩))) (w.alloc (.cells cs e)) := by
  have hfr := frame_alloc w (.cells cs e)
  have hS : ∀ b, (fun b => b = w.heap.size) b → w.heap.size ≤ b ∧ b < (w.alloc (.cells cs e)).heap.size := by
    intro b hb; subst hb; exact ⟨Nat.le_refl _, by show w.heap.size < (w.heap.push _).size; simp⟩
  have tr := trade_create h hfr hid (.pointer (some ⟨w.heap.size, 0, none⟩)) hS (.box ys)
  have huo : ∀ j ∈ (Obj.box ys).ids, st.used j = true := by
    intro j hj
    simp only [Obj.ids] at hj
    have : ∀ (l : List AV), (∀ y ∈ l, ∀ id ∈ y.ids, st.used id = true) → ∀ j ∈ idsL l, st.used j = true := by
      intro l
      induction l with
      | nil => intro _ j hj; simp [idsL] at hj
      | cons y l ih =>
        intro hl j hj
        simp only [idsL, List.mem_append] at hj
        rcases hj with hj | hj
        · exact hl y (by simp) j hj
        · exact ih (fun z hz => hl z (by simp [hz])) j hj
    exact this ys hu j hj
  have h1 := h.create hfr hid (v := .pointer (some ⟨w.heap.size, 0, none⟩)) hS huo (by
    refine ⟨w.heap.size, cs, e, upd_same _ _ _, alloc_new _ _, hs, rfl, fun i y u hy hu' hl => ?_⟩
    have hl' := live_create h hid (hu y (List.mem_of_getElem? hy)) hl
    exact h.keepAV (st' := (Upd.put d (.box ys)).app st) tr (hsim i y u hy hu' hl') fun _ _ f => f)
  exact ⟨_, _, h1.set hn fun _ => .bx (by simp [Upd.app, upd_same]; rfl) (by rw [upd_same])⟩

/-- box: a struct's own memory. -/
theorem op_box {x : Operand} {t : TypeId} {av : AV} {ys : List AV} (hc : av.cells? = some ys) (hn : d < n) :
    OpL0 P n ⟨some d, .box t x, ty, pos, after, g⟩ (.opd x av :: .fresh d :: lives av.ids) [.put d (.box ys), .set d (.bx d 0)] := by
  intro pn w0 A0 F0 st a w hB hS hs K Q hK
  obtain ⟨hv, T, hT⟩ := hS
  have h0 : opIs st x av := at0 hs
  have hf : st.used d = false := at1 hs
  have h1 := hT.eval h0 (live_of (at_tail (at_tail hs)))
  obtain ⟨h2, h3⟩ := hT.cells h1 hc
  have hu := ids_used hT h0
  have hrun : (execOp a.eval ⟨some d, .box t x, ty, pos, after, g⟩).run P w = .ok (.value (.pointer (some ⟨w.heap.size, 0, none⟩))) (w.alloc (.cells (a.eval x).cells t)) := by
    simp [execOp, Instr.box, newVar, newRow]
  unfold Oper.wp
  rw [hrun]
  exact hK _ _ (hT.newBox hf hn h2 (fun y hy id hid => hu id (cells_ids hc y hy id hid)) fun i y u hy hu' _ => h3 i y u hy hu')

/-- alloc: a variable, at zero. -/
theorem op_alloc {t : TypeId} {z : Value} {zs : List Value} (hz : ∀ w, (zeroValue t).run P w = .ok z w) (hc : z.cells.toList = zs) (hn : d < n) :
    OpL0 P n ⟨some d, .alloc t, ty, pos, after, g⟩ [.fresh d] [.put d (.box (zs.map fun v => .c (.lit v))), .set d (.bx d 0)] := by
  intro pn w0 A0 F0 st a w hB hS hs K Q hK
  obtain ⟨hv, T, hT⟩ := hS
  have hf : st.used d = false := at0 hs
  have hrun : (execOp a.eval ⟨some d, .alloc t, ty, pos, after, g⟩).run P w = .ok (.value (.pointer (some ⟨w.heap.size, 0, none⟩))) (w.alloc (.cells z.cells t)) := by
    simp [execOp, Instr.alloc, newVar, newRow, hz w]
  unfold Oper.wp
  rw [hrun]
  refine hK _ _ (hT.newBox hf hn (by subst hc; simp) ?_ ?_)
  · intro y hy id hid
    obtain ⟨v, _, rfl⟩ := List.mem_map.1 hy
    simp [AV.ids] at hid
  · intro i y u hy hu' _
    rw [List.getElem?_map] at hy
    obtain ⟨v, h1, rfl⟩ := Option.map_eq_some_iff.1 hy
    subst hc
    rw [Array.getElem?_toList, hu'] at h1
    cases h1
    exact .c (.lit _)

/-- Operands one by one. -/
inductive Opds (st : St) : List Operand → List AV → Prop
  | nil : Opds st [] []
  | cons {x : Operand} {av : AV} {xs : List Operand} {avs : List AV} (h : opIs st x av) (t : Opds st xs avs) : Opds st (x :: xs) (av :: avs)
def opds (xs : List Operand) (avs : List AV) : List Req := List.zipWith Req.opd xs avs
theorem Opds.length {xs : List Operand} {avs : List AV} (h : Opds st xs avs) : xs.length = avs.length := by
  induction h with
  | nil => rfl
  | cons _ _ ih => simp [ih]
theorem Opds.get {xs : List Operand} {avs : List AV} (h : Opds st xs avs) {i : Nat} {x : Operand} {av : AV} (hx : xs[i]? = some x) (ha : avs[i]? = some av) : opIs st x av := by
  induction h generalizing i with
  | nil => simp at hx
  | cons h0 _ ih =>
    cases i with
    | zero => simp at hx ha; subst hx ha; exact h0
    | succ i => exact ih (by simpa using hx) (by simpa using ha)
theorem sats_opds {xs : List Operand} {avs : List AV} {rs : List Req} (h : Opds st xs avs) (k : ∀ r ∈ rs, r.sat st) : ∀ r ∈ opds xs avs ++ rs, r.sat st := by
  induction h with
  | nil => simpa [opds] using k
  | cons h0 _ ih =>
    intro r hr
    simp only [opds, List.zipWith_cons_cons, List.cons_append, List.mem_cons] at hr
    rcases hr with rfl | hr
    · exact h0
    · exact ih r hr
theorem opds_of {xs : List Operand} {avs : List AV} {rs : List Req} (hl : xs.length = avs.length) (h : ∀ r ∈ opds xs avs ++ rs, r.sat st) : Opds st xs avs ∧ ∀ r ∈ rs, r.sat st := by
  induction xs generalizing avs with
  | nil =>
    cases avs with
    | nil => exact ⟨.nil, by simpa [opds] using h⟩
    | cons => simp at hl
  | cons x xs ih =>
    cases avs with
    | nil => simp at hl
    | cons av avs =>
      have h0 := h (.opd x av) (by simp [opds])
      obtain ⟨h1, h2⟩ := ih (by simpa using hl) (fun r hr => h r (by simp only [opds, List.zipWith_cons_cons, List.cons_append, List.mem_cons]; exact .inr hr))
      exact ⟨.cons h0 h1, h2⟩

/-- Parts laid into cells, as Go's builder does. -/
def splice {α : Type} (xs : List α) (off : Nat) (ys : List α) : List α := xs.take off ++ ys ++ xs.drop (off + ys.length)
theorem splice_get {α : Type} {xs ys : List α} {off : Nat} (h : off + ys.length ≤ xs.length) (i : Nat) :
    (splice xs off ys)[i]? = if off ≤ i ∧ i < off + ys.length then ys[i - off]? else xs[i]? := by
  unfold splice
  by_cases h1 : i < off
  · rw [List.append_assoc, List.getElem?_append_left (by simp; omega), List.getElem?_take, if_pos h1, if_neg (by omega)]
  · by_cases h2 : i < off + ys.length
    · rw [List.append_assoc, List.getElem?_append_right (by simp; omega), List.getElem?_append_left (by simp; omega), if_pos (by omega)]
      congr 1; simp; omega
    · rw [List.getElem?_append_right (by simp; omega), List.getElem?_drop, if_neg (by omega)]
      congr 1; simp; omega
theorem splice_length {α : Type} {xs ys : List α} {off : Nat} (h : off + ys.length ≤ xs.length) : (splice xs off ys).length = xs.length := by
  unfold splice; simp; omega

def fillA (places : List (Nat × Nat)) : List AV → List (Nat × AV) → Option (List AV)
  | cells, [] => some cells
  | cells, (i, av) :: rest =>
    match places[i]?, av.cells? with
    | some (off, size), some ys => bif Nat.beq ys.length size && Nat.ble (off + ys.length) cells.length then fillA places (splice cells off ys) rest else none
    | _, _ => none

theorem fill_sim (hS : StSim n pn w0 A0 F0 hv T st a w) {places : List (Nat × Nat)} :
    ∀ {pa : List (Nat × AV)} {pv : List (Nat × Value)} {ca ra : List AV} {cv : Array Value}, pa.length = pv.length →
      (∀ (i : Nat) k av k' v, pa[i]? = some (k, av) → pv[i]? = some (k', v) → k = k' ∧ AVSim w (Sh A0 F0 w0 T st.obj w) hv st.obj av v) →
      cv.size = ca.length → (∀ (i : Nat) y u, ca[i]? = some y → cv[i]? = some u → AVSim w (Sh A0 F0 w0 T st.obj w) hv st.obj y u) → fillA places ca pa = some ra →
      ∃ rv, Instr.fill (fun i => places.toArray[i]?) cv pv = some rv ∧ rv.size = ra.length ∧ ∀ (i : Nat) y u, ra[i]? = some y → rv[i]? = some u → AVSim w (Sh A0 F0 w0 T st.obj w) hv st.obj y u
  | [], pv, ca, ra, cv, hl, _, hs, hc, hf => by
    cases pv with
    | nil => simp only [fillA, Option.some.injEq] at hf; subst hf; exact ⟨cv, rfl, hs, hc⟩
    | cons => simp at hl
  | (k, av) :: pa, pv, ca, ra, cv, hl, hp, hs, hc, hf => by
    cases pv with
    | nil => simp at hl
    | cons kv pv =>
      obtain ⟨k', v⟩ := kv
      obtain ⟨rfl, hav⟩ := hp 0 k av k' v rfl rfl
      simp only [fillA] at hf
      cases hpl : places[k]? with
      | none => rw [hpl] at hf; cases hf
      | some os =>
        obtain ⟨off, size⟩ := os
        rw [hpl] at hf
        cases hcl : av.cells? with
        | none => rw [hcl] at hf; cases hf
        | some ys =>
          rw [hcl] at hf
          dsimp only at hf
          cases hcond : Nat.beq ys.length size && Nat.ble (off + ys.length) ca.length with
          | false => rw [hcond] at hf; cases hf
          | true =>
            rw [hcond] at hf
            simp only [cond_true] at hf
            simp only [Bool.and_eq_true] at hcond
            have hsz : ys.length = size := Nat.eq_of_beq_eq_true hcond.1
            have hle : off + ys.length ≤ ca.length := Nat.le_of_ble_eq_true hcond.2
            obtain ⟨h2, h3⟩ := hS.cells hav hcl
            obtain ⟨g1, g2⟩ := Great.foldl_set off v.cells.toList 0 cv
            have hzi : (v.cells.zipIdx.foldl (fun cs (x : Value × Nat) => cs.setIfInBounds (off + x.2) x.1) cv) = ((v.cells.toList.zipIdx 0).foldl (fun cs (x : Value × Nat) => cs.setIfInBounds (off + x.2) x.1) cv) := by
              rw [← Array.foldl_toList]; simp
            have := fill_sim hS (places := places) (pa := pa) (pv := pv) (ca := splice ca off ys) (ra := ra) (cv := (v.cells.zipIdx.foldl (fun cs (x : Value × Nat) => cs.setIfInBounds (off + x.2) x.1) cv)) (by simpa using hl)
              (fun i k av k' v h1 h2 => hp (i + 1) k av k' v (by simpa using h1) (by simpa using h2)) (by rw [hzi, g1, splice_length hle]; exact hs) (by
                intro i y u hy hu
                rw [hzi, g2 i] at hu
                rw [splice_get hle] at hy
                have hvl : v.cells.toList.length = ys.length := by simpa using h2
                by_cases hin : off ≤ i ∧ i < off + ys.length
                · rw [if_pos hin] at hy
                  rw [if_pos ⟨by omega, by omega, by omega⟩] at hu
                  exact h3 (i - off) y u hy (by simpa using hu)
                · rw [if_neg hin] at hy
                  rw [if_neg (by omega)] at hu
                  exact hc i y u hy hu) hf
            obtain ⟨rv, r1, r2, r3⟩ := this
            refine ⟨rv, ?_, r2, r3⟩
            simp only [Instr.fill]
            have hpl' : places.toArray[k]? = some (off, size) := by simpa using hpl
            rw [hpl']
            have c1 : ¬ (v.cells.size ≠ size ∨ off + v.cells.size > cv.size) := by omega
            simp only [ne_eq, Bool.or_eq_true, decide_eq_true_eq] at c1 ⊢
            rw [if_neg (by simpa using c1)]
            exact r1

/-- A struct of its fields. -/
theorem op_build {t : TypeId} {parts : List (Nat × Operand)} {avs ys : List AV} {places : List (Nat × Nat)} {zc : Array Value} (hb : ∀ ps, P.built t ps = Instr.fill (fun i => places.toArray[i]?) zc ps)
    (hl : parts.length = avs.length) (hf : fillA places (zc.toList.map fun v => .c (.lit v)) (List.zipWith (fun p av => (p.1, av)) parts avs) = some ys) (hn : d < n) :
    OpL0 P n ⟨some d, .build t parts.toArray, ty, pos, after, g⟩ (opds (parts.map (·.2)) avs ++ lives (idsL avs)) [.set d (.agg ys)] :=
  op_value rfl hn fun pn w0 A0 F0 hv T st a w _ hT hs => by
    obtain ⟨ho, hlv⟩ := opds_of (by simpa using hl) hs
    have hlive := live_of hlv
    obtain ⟨rv, h1, h2, h3⟩ := fill_sim hT (places := places) (pa := List.zipWith (fun p av => (p.1, av)) parts avs) (pv := parts.map fun p => (p.1, a.eval p.2)) (ca := zc.toList.map fun v => .c (.lit v)) (ra := ys) (cv := zc)
      (by simp; omega) (by
        intro i k av k' v h1 h2
        rw [List.getElem?_zipWith] at h1
        rw [List.getElem?_map] at h2
        cases hp : parts[i]? with
        | none => rw [hp] at h2; cases h2
        | some p =>
          rw [hp] at h1 h2
          cases hav : avs[i]? with
          | none => rw [hav] at h1; cases h1
          | some av' =>
            rw [hav] at h1
            cases h1; cases h2
            have hop : opIs st p.2 av := ho.get (by rw [List.getElem?_map, hp]; rfl) hav
            exact ⟨rfl, hT.eval hop fun id hid => hlive id (mem_idsL hav hid)⟩) (by simp) (by
        intro i y u hy hu
        rw [List.getElem?_map] at hy
        obtain ⟨v, h1, rfl⟩ := Option.map_eq_some_iff.1 hy
        rw [Array.getElem?_toList, hu] at h1; cases h1
        exact .c (.lit _)) hf
    refine ⟨.agg rv, ?_, fun _ => .agg h2 h3⟩
    have hrun := run_build (P := P) w t (parts.map fun p => (p.1, a.eval p.2)).toArray rv (by rw [hb]; simpa using h1)
    simp only [execOp, Sem.run_bind]
    have e : (parts.toArray.map fun (x : Nat × Operand) => match x with | (i, x) => (i, a.eval x)) = (parts.map fun p => (p.1, a.eval p.2)).toArray := by
      simp
    rw [e, hrun]; rfl
end
end
end Go.Am
