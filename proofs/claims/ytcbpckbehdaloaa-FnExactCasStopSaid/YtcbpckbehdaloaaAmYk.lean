/- Regions that draw their order, gone through in another order than the text's. Own work; generic. -/
import Derived.Test.YtcbpckbehdaloaaAmYj
set_option linter.unusedSimpArgs false
set_option linter.unusedVariables false
namespace Go.Am
open Go

def depB (ops : Array Oper) (x y : Nat) : Bool := match ops[x]? with
  | some o => o.after.toList.any fun e => Region.binds .any e && Nat.beq e.on y
  | none => false
section
variable {P : Program} {ops : Array Oper} {n : Nat}

theorem anyOrderD {pn : Nat → Option Value} {w0 : World} {A0 F0 : Blks} {Q : Exit → St → Prop} {fin : St} (hB : Base w0 A0 F0) (hf : ∀ (i : Nat) (o : Oper), ops[i]? = some o → ∀ e ∈ o.after, e.on < ops.size) (hQ : Q .normal fin) :
    ∀ (fuel : Nat) (listed : Array Bool) (items : List Item) (st : St) (a : Act) (w : World), items.length = fuel → listed.size = ops.size →
      (∀ i, i < ops.size → (listed.getD i true = false ↔ ∃ it ∈ items, it.i = i)) → (items.map Item.i).Pairwise (fun x y => x ≠ y ∧ depB ops x y = false) → (∀ it ∈ items, depB ops it.i it.i = false) →
      (∀ i o, ops[i]? = some o → listed.getD i false = true → ∀ e ∈ o.after, Region.binds .any e = true → listed.getD e.on false = true) →
      ChainI P ops n st items fin → indepB ops items = true → Sim n pn w0 A0 F0 st a w → wpAny P .any ops (Lift n pn w0 A0 F0 Q) fuel listed a w := by
  intro fuel
  induction fuel with
  | zero =>
    intro listed items st a w hl hsz hun _ _ _ hc _ hS
    obtain rfl : items = [] := List.length_eq_zero_iff.1 hl
    refine ⟨?_, fin, hQ, by have : st = fin := hc; exact this ▸ hS⟩
    cases hr : Region.ready .any ops listed with
    | nil => rfl
    | cons j r =>
      have hj : j ∈ Region.ready .any ops listed := by rw [hr]; simp
      obtain ⟨h0, o, ho, _⟩ := mem_ready.1 hj
      have hlt : j < ops.size := (Array.getElem?_eq_some_iff.1 ho).1
      obtain ⟨it, hit, _⟩ := (hun j hlt).1 h0
      cases hit
  | succ fuel ih =>
    intro listed items st a w hl hsz hun hpw hself hcl hc hi hS
    refine ⟨fun hnil => ?_, fun j hj => ?_⟩
    · exfalso
      cases items with
      | nil => simp at hl
      | cons it rest =>
        obtain ⟨⟨o, ho, _⟩, _⟩ := hc
        have hlt : it.i < ops.size := (Array.getElem?_eq_some_iff.1 ho).1
        have hmem : it.i ∈ Region.ready .any ops listed := by
          refine mem_ready.2 ⟨(hun it.i hlt).2 ⟨it, by simp, rfl⟩, o, ho, fun e he hb => ?_⟩
          have hon : e.on < listed.size := by have := hf it.i o ho e he; omega
          have hdep : ∀ q, q = e.on → depB ops it.i q = true := by
            intro q hq; subst hq
            unfold depB; rw [ho]
            exact List.any_eq_true.2 ⟨e, Array.mem_toList_iff.2 he, by simp [hb]⟩
          have : ¬ (listed.getD (e.on) true = false) := by
            intro h0
            obtain ⟨it', hit', he'⟩ := (hun _ (by omega)).1 h0
            rcases List.mem_cons.1 hit' with rfl | hm
            · have := hself it' (by simp); rw [hdep _ he'] at this; cases this
            · have hp := ((List.pairwise_cons.1 hpw).1 it'.i (List.mem_map.2 ⟨it', hm, rfl⟩)).2
              rw [hdep _ he'] at hp; cases hp
          simp only [Array.getD_eq_getD_getElem?, Array.getElem?_eq_getElem hon, Option.getD_some, Bool.not_eq_false] at this ⊢
          exact this
        rw [hnil] at hmem; cases hmem
    · obtain ⟨h0, o, ho, hdeps⟩ := mem_ready.1 hj
      have hlt : j < ops.size := (Array.getElem?_eq_some_iff.1 ho).1
      obtain ⟨it, hit, rfl⟩ := (hun j hlt).1 h0
      obtain ⟨pre, post, rfl⟩ := List.append_of_mem hit
      have hcomp : ∀ x ∈ pre, compat x it = true := by
        intro x hx
        have hx' : predsB ops ops.size it.i x.i = true ∨ compat x it = true := by
          have : ∀ (pre : List Item), indepB ops (pre ++ it :: post) = true → ∀ x ∈ pre, (predsB ops ops.size it.i x.i || compat x it) = true := by
            intro pre
            induction pre with
            | nil => intro _ x hx; cases hx
            | cons y pre ih2 =>
              intro h x hx
              simp only [List.cons_append, indepB, Bool.and_eq_true] at h
              rcases List.mem_cons.1 hx with rfl | hx
              · exact (List.all_eq_true.1 h.1) it (by simp)
              · exact ih2 h.2 x hx
          simpa using this pre hi x hx
        rcases hx' with hx' | hx'
        · exfalso
          have hlst := predsB_listed hcl ops.size it.i x.i o ho hdeps hx'
          have hxlt : x.i < ops.size := by
            rcases Nat.lt_or_ge x.i listed.size with h' | h'
            · omega
            · simp [Array.getElem?_eq_none h'] at hlst
          have := (hun x.i hxlt).2 ⟨x, by simp [hx], rfl⟩
          have h' : x.i < listed.size := by omega
          simp [h'] at this hlst
          rw [this] at hlst; cases hlst
        · exact hx'
      obtain ⟨⟨o', ho', hop⟩, hsat, hch⟩ := chain_front hcomp hc
      obtain rfl : o = o' := by rw [ho] at ho'; exact Option.some.inj ho'
      unfold wpOp
      rw [ho]
      have key : ∀ a' w', Sim n pn w0 A0 F0 (apps it.us st) a' w' → wpAny P .any ops (Lift n pn w0 A0 F0 Q) fuel (listed.setIfInBounds it.i true) a' w' := by
        intro a' w' hS'
        refine ih (listed.setIfInBounds it.i true) (pre ++ post) (apps it.us st) a' w' (by simp at hl ⊢; omega) (by simpa using hsz) ?_ ?_ (fun x hx => hself x (by simp only [List.mem_append, List.mem_cons] at hx ⊢; rcases hx with hx | hx; exact .inl hx; exact .inr (.inr hx))) ?_ hch ?_ hS'
        · intro i hi'
          have hnd : ∀ x ∈ pre ++ post, x.i ≠ it.i := by
            intro x hx e
            simp only [List.map_append, List.map_cons] at hpw
            rcases List.mem_append.1 hx with hx | hx
            · exact ((List.pairwise_append.1 hpw).2.2 x.i (List.mem_map.2 ⟨x, hx, rfl⟩) it.i (by simp)).1 e
            · exact ((List.pairwise_cons.1 (List.pairwise_append.1 hpw).2.1).1 x.i (List.mem_map.2 ⟨x, hx, rfl⟩)).1 e.symm
          by_cases hij : it.i = i
          · subst hij
            have h' : it.i < listed.size := by omega
            simp only [Array.getD_eq_getD_getElem?, Array.getElem?_setIfInBounds_self_of_lt h', Option.getD_some]
            constructor
            · intro h; cases h
            · rintro ⟨x, hx, e⟩; exact absurd e (hnd x hx)
          · rw [getD_set_ne true hij, hun i hi']
            constructor
            · rintro ⟨x, hx, rfl⟩
              simp only [List.mem_append, List.mem_cons] at hx
              rcases hx with hx | rfl | hx
              · exact ⟨x, by simp [hx], rfl⟩
              · exact absurd rfl hij
              · exact ⟨x, by simp [hx], rfl⟩
            · rintro ⟨x, hx, rfl⟩
              simp only [List.mem_append] at hx
              rcases hx with hx | hx
              · exact ⟨x, by simp [hx], rfl⟩
              · exact ⟨x, by simp [hx], rfl⟩
        · simp only [List.map_append, List.map_cons] at hpw ⊢
          have h1 := List.pairwise_append.1 hpw
          refine List.pairwise_append.2 ⟨h1.1, (List.pairwise_cons.1 h1.2.1).2, fun x hx y hy => h1.2.2 x hx y (by simp [hy])⟩
        · intro i o2 ho2 hl2 e he hb
          by_cases hij : it.i = i
          · subst hij
            obtain rfl : o = o2 := by rw [ho] at ho2; exact Option.some.inj ho2
            exact getD_set_true (hdeps e he hb)
          · rw [getD_set_ne false hij] at hl2
            exact getD_set_true (hcl i o2 ho2 hl2 e he hb)
        · have : ∀ (pre : List Item), indepB ops (pre ++ it :: post) = true → indepB ops (pre ++ post) = true := by
            intro pre
            induction pre with
            | nil => intro h; simp only [List.nil_append, indepB, Bool.and_eq_true] at h ⊢; exact h.2
            | cons y pre ih2 =>
              intro h
              simp only [List.cons_append, indepB, Bool.and_eq_true] at h ⊢
              refine ⟨?_, ih2 h.2⟩
              rw [List.all_eq_true] at h ⊢
              intro x hx
              exact h.1 x (by simp only [List.mem_append, List.mem_cons] at hx ⊢; rcases hx with hx | hx; exact .inl hx; exact .inr (.inr hx))
          exact this pre hi
      have := hop pn w0 A0 F0 st a w hB hS hsat _ (Lift n pn w0 A0 F0 Q) key
      dsimp only
      split
      · rename_i hw; rw [if_pos hw] at this; exact .inl this
      · rename_i hw; rw [if_neg hw] at this; exact this


def pairB (p : Nat → Nat → Bool) : List Nat → Bool
  | [] => true
  | x :: r => r.all (p x) && pairB p r
theorem pairB_spec {p : Nat → Nat → Bool} : ∀ {l : List Nat}, pairB p l = true → l.Pairwise fun x y => p x y = true
  | [], _ => .nil
  | x :: r, h => by
    simp only [pairB, Bool.and_eq_true] at h
    exact List.pairwise_cons.2 ⟨fun y hy => List.all_eq_true.1 h.1 y hy, pairB_spec h.2⟩
def inB (ops : Array Oper) : Bool := ops.toList.all fun o => o.after.toList.all fun e => Nat.blt e.on ops.size
def topoB (ops : Array Oper) (order : List Nat) : Bool :=
  pairB (fun x y => !Nat.beq x y && !depB ops x y) order && (order.all (fun x => !depB ops x x) && (inB ops && ((List.range ops.size).all (fun i => order.any (Nat.beq i)) && order.all (Nat.blt · ops.size))))

def RGD (P : Program) (ops : Array Oper) (n : Nat) (Q : Exit → St → Prop) (order : List Nat) (st : St) (acc : List Item) : Prop :=
  ∃ more fin, more.map Item.i = order ∧ ChainI P ops n st more fin ∧ indepB ops (acc.reverse ++ more) = true ∧ Q .normal fin
theorem rgd_step {Q : Exit → St → Prop} {i : Nat} {order : List Nat} {st : St} {acc : List Item} {o : Oper} {rs : List Req} {us : List Upd} (ho : ops[i]? = some o)
    (h : OpL P ops n o rs us) (hs : ∀ r ∈ rs, r.sat st) (k : RGD P ops n Q order (apps us st) (⟨i, rs, us⟩ :: acc)) : RGD P ops n Q (i :: order) st acc := by
  obtain ⟨more, fin, h1, h2, h3, h4⟩ := k
  exact ⟨⟨i, rs, us⟩ :: more, fin, by simp [h1], ⟨⟨o, ho, h⟩, hs, h2⟩, by simpa using h3, h4⟩
theorem rgd_nil {Q : Exit → St → Prop} {st : St} {acc : List Item} (hi : indepB ops acc.reverse = true) (h : Q .normal st) : RGD P ops n Q [] st acc := ⟨[], st, rfl, rfl, by simpa using hi, h⟩
theorem rgd_split {Q : Exit → St → Prop} {order : List Nat} {st : St} {acc : List Item} {b : Bool} (ht : b = true → RGD P ops n Q order st acc) (hf : b = false → RGD P ops n Q order st acc) : RGD P ops n Q order st acc := by
  cases b; exact hf rfl; exact ht rfl
section
variable {i : Nat} {order : List Nat} {acc : List Item} {o : Oper} {rs : List Req} {us : List Upd} {Q : Exit → St → Prop} {st : St}
theorem sd1 (ho : ops[i]? = some o) (hg : o.guard = none) (h : OpL0 P n o rs us) (hs : ∀ r ∈ rs, r.sat st) (k : RGD P ops n Q order (apps us st) (⟨i, rs, us⟩ :: acc)) : RGD P ops n Q (i :: order) st acc := rgd_step ho (opl_plain hg h) hs k
theorem sdon {g dg : Nat} {want b : Bool} (ho : ops[i]? = some o) (hg : o.guard = some (g, want)) (hd : (ops[g]?).bind (·.dst) = some dg) (hs0 : st.env dg = some (aBool b)) (hb : b = want) (h : OpL0 P n o rs us) (hs : ∀ r ∈ rs, r.sat st)
    (k : RGD P ops n Q order (apps us st) (⟨i, .opd (.tmp dg) (aBool b) :: rs, us⟩ :: acc)) : RGD P ops n Q (i :: order) st acc := rgd_step ho (opl_on hg hd hb h) (sats_cons hs0 hs) k
theorem sdoff {g dg d : Nat} {want b : Bool} (ho : ops[i]? = some o) (hg : o.guard = some (g, want)) (hdst : o.dst = some d) (hn : d < n) (hd : (ops[g]?).bind (·.dst) = some dg) (hs0 : st.env dg = some (aBool b)) (hb : b = !want)
    (k : RGD P ops n Q order (apps [.set d (.c (.lit undef))] st) (⟨i, [.opd (.tmp dg) (aBool b)], [.set d (.c (.lit undef))]⟩ :: acc)) : RGD P ops n Q (i :: order) st acc :=
  rgd_step ho (opl_offU hg hdst hn hd (.inl (by rw [hb]))) (sats_cons hs0 sats_nil) k
theorem sdund {g dg d : Nat} {want : Bool} (ho : ops[i]? = some o) (hg : o.guard = some (g, want)) (hdst : o.dst = some d) (hn : d < n) (hd : (ops[g]?).bind (·.dst) = some dg) (hs0 : st.env dg = some (.c (.lit undef)))
    (k : RGD P ops n Q order (apps [.set d (.c (.lit undef))] st) (⟨i, [.opd (.tmp dg) (.c (.lit undef))], [.set d (.c (.lit undef))]⟩ :: acc)) : RGD P ops n Q (i :: order) st acc :=
  rgd_step ho (opl_offU hg hdst hn hd (.inr rfl)) (sats_cons hs0 sats_nil) k
end

theorem acode_region_drawO {id : Nat} {l : List Oper} {st : St} {Q : Exit → St → Prop} (order : List Nat) (hm : P.follows .mixedOrders = true) (ht : topoB l.toArray order = true)
    (h : RGD P l.toArray n Q order st []) : ACode P n (.region id l.toArray true) st Q := by
  simp only [topoB, Bool.and_eq_true] at ht
  obtain ⟨t1, t2, t3, t4, t5⟩ := ht
  have hp := pairB_spec t1
  have hin : ∀ (i : Nat) (o : Oper), l.toArray[i]? = some o → ∀ e ∈ o.after, e.on < l.toArray.size := by
    intro i o ho e he
    have h1 := List.all_eq_true.1 t3 o (by simpa using List.mem_of_getElem? (by simpa using ho))
    have h2 := List.all_eq_true.1 h1 e (Array.mem_toList_iff.2 he)
    exact Nat.lt_of_succ_le (by simpa using Nat.le_of_ble_eq_true h2)
  intro pn w0 A0 F0 a w hB hS
  obtain ⟨more, fin, h1, h2, h3, h4⟩ := h
  have hnd : order.Nodup := hp.imp fun {x y} hxy => by
    simp only [Bool.and_eq_true, Bool.not_eq_true'] at hxy
    exact fun e => by subst e; simp at hxy
  have hmem : ∀ i, i < l.length ↔ i ∈ order := by
    intro i
    constructor
    · intro hi
      have := List.all_eq_true.1 t4 i (by simpa using hi)
      obtain ⟨x, hx, e⟩ := List.any_eq_true.1 this
      rw [Nat.eq_of_beq_eq_true e]; exact hx
    · intro hi
      have := List.all_eq_true.1 t5 i hi
      exact Nat.lt_of_succ_le (by simpa using Nat.le_of_ble_eq_true this)
  have hlen : more.length = l.length := by
    have e1 : more.length = order.length := by rw [← h1]; simp
    have e2 : order.Perm (List.range l.length) := (List.perm_ext_iff_of_nodup hnd List.nodup_range).2 fun i => by rw [← hmem i]; simp
    rw [e1, e2.length_eq]; simp
  have hit : ∀ i, (∃ it ∈ more, it.i = i) ↔ i < l.length := by
    intro i
    have : (∃ it ∈ more, it.i = i) ↔ i ∈ more.map Item.i := by simp [List.mem_map]
    rw [this, h1, hmem]
  refine wp_region_any hm (anyOrderD hB hin h4 _ _ more st a _ (by simpa using hlen) (by simp) ?_ ?_ ?_ ?_ h2 (by simpa using h3) hS.drew)
  · intro i hi
    rw [hit]
    simp only [List.size_toArray] at hi ⊢
    have : (Array.replicate l.length false).getD i true = false := by simp [hi]
    simp [this, hi]
  · rw [h1]
    refine hp.imp fun {x y} hxy => ?_
    simp only [Bool.and_eq_true, Bool.not_eq_true'] at hxy
    exact ⟨fun e => by subst e; simp at hxy, hxy.2⟩
  · intro it hi
    have := List.all_eq_true.1 t2 it.i (by rw [← h1]; exact List.mem_map.2 ⟨it, hi, rfl⟩)
    simpa using this
  · intro i o ho hl
    exfalso
    by_cases h' : i < l.length <;> simp [h'] at hl
end
end Go.Am
