/- The base: lemmas about the machine, the executor. Own work. -/
import Derived.Test.YtcbpckbehdaloaaGreatEdB3
set_option linter.unusedSimpArgs false
set_option linter.unusedVariables false
section
namespace Go.Am
open Go
variable {E : Option FP}
def boxOf (st : XSt) (id : Nat) : Option (List TV) :=
  match look st.obj id with
  | some (.box xs) => some xs
  | _ => none
structure AR where
  t : Ty
  l : List t.den
  o : Bool
def AR.ob (a : AR) : Obj := .arr a.t.w (a.l.map (a.t.cells a.o))
def arrOf (st : XSt) (id : Nat) : Option AR :=
  match look st.obj id with
  | some (.arr t l o) => some ⟨t, l, o⟩
  | some (.emp t) => some ⟨t, [], true⟩
  | _ => none
def tokOf (st : XSt) (k : Nat) : Option Tok :=
  match look st.nm.tk k with
  | some t => bif t.ok then some t else none
  | none => none
section
variable {st : XSt} {ac : St}
theorem z0kg (hR : Rf E st ac) {id : Nat} {xs : List TV} (h : boxOf st id = some xs) : ac.obj id = some (.box (avL st.nm xs)) ∧ dfnL st.nm xs = true := by
  unfold boxOf at h
  split at h
  · rename_i ys hk
    cases h
    obtain ⟨h1, h2⟩ := hR.obj _ _ hk
    exact ⟨h2, h1⟩
  · cases h
theorem z0kf (hR : Rf E st ac) {id : Nat} {a : AR} (h : arrOf st id = some a) : ac.obj id = some a.ob := by
  unfold arrOf at h
  split at h
  · rename_i hk; cases h; exact (hR.obj _ _ hk).2
  · rename_i hk; cases h; exact (hR.obj _ _ hk).2
  · cases h
theorem z0tl (hR : Rf E st ac) {k : Nat} {t : Tok} (h : tokOf st k = some t) : look st.nm.tk k = some t ∧ t.fits ac ∧ t.ok = true := by
  unfold tokOf at h
  split at h
  · rename_i u hk
    obtain ⟨h1, h2⟩ := bif_t h
    cases h2
    exact ⟨hk, hR.tok k t hk h1, h1⟩
  · cases h
theorem sbx {id : Nat} {xs : List TV} (hR : Rf E st ac) (h : boxOf st id = some xs) {rs : List Req} (k : ∀ r ∈ rs, r.sat ac) : ∀ r ∈ Req.obj id (.box (avL st.nm xs)) :: rs, r.sat ac := sb (z0kg hR h).1 k
end
theorem Tok.row {ac : St} {t : Tok} (h : t.fits ac) : ∃ k0 rows o' rows', ac.obj t.id = some (.arr k0 rows) ∧ (Cell.sl true k0 rows).get t.p = some (.sl o' t.t.w rows') ∧ rows'[t.i.toNat]? = some ((t.t.out t.o t.v).map Lf.cell) := by
  obtain ⟨k0, rows, o', l, h1, h2, h3⟩ := h
  exact ⟨k0, rows, o', _, h1, h2, by rw [List.getElem?_map, (z0gx h3).2.2, Ty.out_cell]; rfl⟩
theorem Tok.rp {ac : St} {t : Tok} (h : t.fits ac) {j : Nat} {o2 : Bool} {t2 : Ty} {l2 : List t2.den} (hj : (t.t.out t.o t.v)[j]? = some (.s o2 t2 l2)) :
    ∃ k0 rows, ac.obj t.id = some (.arr k0 rows) ∧ (Cell.sl true k0 rows).get (t.p ++ [(t.i.toNat, j)]) = some (.sl o2 t2.w (l2.map (t2.cells o2))) := by
  obtain ⟨k0, rows, o', rows', h1, h2, h3⟩ := Tok.row h
  refine ⟨k0, rows, h1, ?_⟩
  rw [Cell.get_append h2]
  exact getP1 h3 (by rw [List.getElem?_map, hj]; rfl)
def addTok {ρ : Type} (t : Tok) (st : XSt) (K : XSt → Nat → Option ρ) : Option ρ :=
  match look st.nm.tk st.nm.tk.length with
  | none => K { st with nm := { st.nm with tk := (st.nm.tk.length, t) :: st.nm.tk } } st.nm.tk.length
  | some _ => none
theorem z1wf {ρ : Type} {t : Tok} {st : XSt} {K : XSt → Nat → Option ρ} {r : ρ} {ac : St} (hR : Rf E st ac) (hf : t.fits ac) (h : addTok t st K = some r) :
    ∃ st1 k, Rf E st1 ac ∧ NmLe st.nm st1.nm ∧ look st1.nm.tk k = some t ∧ K st1 k = some r := by
  unfold addTok at h
  split at h
  · rename_i hn
    have hm : NmLe st.nm { st.nm with tk := (st.nm.tk.length, t) :: st.nm.tk } := by
      refine ⟨fun k q hk => ⟨q, hk, rfl⟩, fun k u hk => ⟨u, ?_, rfl, rfl, rfl, rfl⟩, rfl⟩
      rw [z15d]; exact hk
      intro e; subst e; rw [hn] at hk; cases hk
    refine ⟨_, _, hR.names hm (fun k u hk ho => ?_) hR.bs, hm, z0zf, h⟩
    rcases z0ba hk with ⟨_, rfl⟩ | ⟨_, hk⟩
    · exact hf
    · exact hR.tok k u hk ho
  · cases h
inductive SlV where
  | sh (t : Ty) (l : List t.den)
  | own (id : Nat) (p : Path) (t : Ty) (l : List t.den) (o : Bool)
def slv (st : XSt) : TV → Option SlV
  | .l (.s false t l) => some (.sh t l)
  | .ref id => (arrOf st id).bind fun a => some (.own id [] a.t a.l a.o)
  | .rp k j => (tokOf st k).bind fun t => match (t.t.out t.o t.v)[j]? with
    | some (.s o2 t2 l2) => some (.own t.id (t.p ++ [(t.i.toNat, j)]) t2 l2 o2)
    | _ => none
  | _ => none
theorem z24u {st : XSt} {tv : TV} {t : Ty} {l : List t.den} (h : slv st tv = some (.sh t l)) : tv = .l (.s false t l) := by
  unfold slv at h
  split at h
  · cases h; rfl
  · obtain ⟨a, h1, h⟩ := bnd h; cases h
  · obtain ⟨a, h1, h⟩ := bnd h
    split at h <;> cases h
  · cases h
theorem z230 {st : XSt} {ac : St} (hR : Rf E st ac) {tv : TV} {id : Nat} {p : Path} {t : Ty} {l : List t.den} {o : Bool} (h : slv st tv = some (.own id p t l o)) :
    tv.av st.nm = .ref id p ∧ ∃ k0 rows o', ac.obj id = some (.arr k0 rows) ∧ (Cell.sl true k0 rows).get p = some (.sl o' t.w (l.map (t.cells o))) := by
  unfold slv at h
  split at h
  · cases h
  · obtain ⟨a, h1, h⟩ := bnd h
    cases h
    exact ⟨rfl, _, _, true, z0kf hR h1, rfl⟩
  · obtain ⟨a, h1, h⟩ := bnd h
    obtain ⟨h2, h3, h4⟩ := z0tl hR h1
    split at h
    · rename_i hj
      cases h
      obtain ⟨k0, rows, g1, g2⟩ := Tok.rp h3 hj
      exact ⟨by simp only [TV.av, h2], k0, rows, _, g1, g2⟩
    · cases h
  · cases h
def x_nil {ρ : Type} (c : Cx) (d : Nat) (x : Operand) (st : XSt) (K : Kt ρ) : Option ρ :=
  (opd st x).bind fun tx =>
    match tx with
    | .pts _ => setK c d st tx [.opd x (tx.av st.nm)] K
    | .bx id _ => (boxOf st id).bind fun xs => setK c d st tx [.opd x (tx.av st.nm), .obj id (.box (avL st.nm xs))] K
    | .ptr k _ => (tokOf st k).bind fun t => (arrOf st t.id).bind fun a => setK c d st tx [.opd x (tx.av st.nm), .obj t.id a.ob] K
    | _ => none
def x_fld {ρ : Type} (c : Cx) (d : Nat) (t : TypeId) (x : Operand) (fi : Nat) (st : XSt) (K : Kt ρ) : Option ρ :=
  match look c.tt t with
  | some (.s n) => (n.places[fi]?).bind fun p => (opd st x).bind fun tx =>
    match tx with
    | .pts xs => bif Nat.ble p.1 xs.length then setK c d st (.pts (xs.drop p.1)) [.opd x (tx.av st.nm)] K else none
    | .bx id j => (boxOf st id).bind fun xs => setK c d st (.bx id (j + p.1)) [.opd x (tx.av st.nm), .obj id (.box (avL st.nm xs))] K
    | .ptr k j => (tokOf st k).bind fun t => (arrOf st t.id).bind fun a => setK c d st (.ptr k (j + p.1)) [.opd x (tx.av st.nm), .obj t.id a.ob] K
    | _ => none
  | _ => none
def x_idx {ρ : Type} (c : Cx) (d : Nat) (t : TypeId) (x y : Operand) (st : XSt) (K : Kt ρ) : Option ρ :=
  match look c.tt t with
  | some (.sl e) => (opd st x).bind fun tx => (opd st y).bind fun ty => (intv ty).bind fun i => (slv st tx).bind fun s =>
    match s with
    | .sh t' l => bif Nat.beq t'.w e.w then (getI l i).bind fun v => setK c d st (.pts (t'.out false v)) [.opd x (tx.av st.nm), .opd y (ty.av st.nm)] K else none
    | .own id p t' l o => bif Nat.beq t'.w e.w then (arrOf st id).bind fun a => (getI l i).bind fun v => addTok ⟨id, p, i, t', o, v, true⟩ st fun st1 k => setK c d st1 (.ptr k 0) [.opd x (tx.av st.nm), .opd y (ty.av st.nm), .obj id a.ob] K else none
  | _ => none
def x_len {ρ : Type} (c : Cx) (d : Nat) (t : TypeId) (x : Operand) (st : XSt) (K : Kt ρ) : Option ρ :=
  match look c.tt t with
  | some (.sl _) => (opd st x).bind fun tx =>
    match tx with
    | .l .nl => setK c d st (.l (.i 0)) [.opd x (tx.av st.nm)] K
    | tx => (slv st tx).bind fun s =>
      match s with
      | .sh _ l => setK c d st (.l (.i (l.length : Int))) [.opd x (tx.av st.nm)] K
      | .own id _ _ l _ => (arrOf st id).bind fun a => setK c d st (.l (.i (l.length : Int))) [.opd x (tx.av st.nm), .obj id a.ob] K
  | _ => none
def z205 {ρ : Type} (c : Cx) (d : Nat) (t : TypeId) (x : Operand) (lo hi : Option Operand) (st : XSt) (K : Kt ρ) : Option ρ :=
  match look c.tt t with
  | some (.sl e) => (opd st x).bind fun tx => (slv st tx).bind fun s =>
    match s with
    | .sh t' l => bif Nat.beq t'.w e.w then
      (match lo, hi with
      | some lo, some hi => (opd st lo).bind fun tl => (opd st hi).bind fun th => (intv tl).bind fun i => (intv th).bind fun j =>
          gd (0 ≤ i ∧ i ≤ j ∧ j ≤ (l.length : Int)) (setK c d st (.l (.s false t' ((l.take j.toNat).drop i.toNat))) [.opd x (tx.av st.nm), .opd lo (tl.av st.nm), .opd hi (th.av st.nm)] K)
      | none, some hi => (opd st hi).bind fun th => (intv th).bind fun j => gd (0 ≤ j ∧ j ≤ (l.length : Int)) (setK c d st (.l (.s false t' (l.take j.toNat))) [.opd x (tx.av st.nm), .opd hi (th.av st.nm)] K)
      | some lo, none => (opd st lo).bind fun tl => (intv tl).bind fun i => gd (0 ≤ i ∧ i ≤ (l.length : Int)) (setK c d st (.l (.s false t' (l.drop i.toNat))) [.opd x (tx.av st.nm), .opd lo (tl.av st.nm)] K)
      | none, none => none) else none
    | _ => none
  | _ => none
def Lf.own : Lf → Bool
  | .s o _ _ => o
  | _ => false
def peekT (k : Nat) : Nat → List Lf → List TV
  | _, [] => []
  | j, x :: xs => (bif x.own then .rp k j else .l x) :: peekT k (j + 1) xs
def z26o {ρ : Type} (c : Cx) (d : Nat) (t : TypeId) (x : Operand) (st : XSt) (K : Kt ρ) : Option ρ :=
  (look c.tt t).bind fun y => (opd st x).bind fun tx =>
    match tx with
    | .pts xs => bif y.isS then (bif Nat.ble y.w xs.length then setK c d st (.row (xs.take y.w)) [.opd x (tx.av st.nm)] K else none)
      else (xs[0]?).bind fun z => ofLf z st fun st1 tv => setK c d st1 tv [.opd x (tx.av st.nm)] K
    | .bx id j => (boxOf st id).bind fun xs => bif y.isS then (bif Nat.ble (j + y.w) xs.length then setK c d st (.agg ((xs.drop j).take y.w)) [.opd x (tx.av st.nm), .obj id (.box (avL st.nm xs))] K else none)
      else (xs[j]?).bind fun z => ofTV z st fun st1 tv => setK c d st1 tv [.opd x (tx.av st.nm), .obj id (.box (avL st.nm xs))] K
    | .ptr k j => (tokOf st k).bind fun q => (arrOf st q.id).bind fun a =>
      bif y.isS then
        (match ((q.t.out q.o q.v).drop j).take y.w with
        | zs => bif Nat.beq zs.length y.w then (bif zs.any Lf.own then setK c d st (.agg (peekT k j zs)) [.opd x (tx.av st.nm), .obj q.id a.ob] K
            else setK c d st (.row zs) [.opd x (tx.av st.nm), .obj q.id a.ob] K) else none)
      else ((q.t.out q.o q.v)[j]?).bind fun z => bif z.own then setK c d st (.rp k j) [.opd x (tx.av st.nm), .obj q.id a.ob] K
        else ofLf z st fun st1 tv => setK c d st1 tv [.opd x (tx.av st.nm), .obj q.id a.ob] K
    | _ => none
theorem z1yp (t : Ty) (o : Bool) (v : t.den) : (t.out o v).length = t.w := by
  have := congrArg List.length (t.out_cell o v)
  rw [List.length_map] at this
  rw [this]; exact t.row.len o v
theorem Lf.own_plain {x : Lf} (h : x.own = false) : x.cell.plain = true := by
  cases x with
  | s o t l => have : o = false := h; subst this; rfl
  | _ => rfl
theorem z1yq {m : Nm} {k : Nat} {q : Tok} (hk : look m.tk k = some q) : ∀ (j : Nat) (zs : List Lf), avL m (peekT k j zs) = peeks q.id q.p q.i.toNat j (zs.map Lf.cell) ∧ dfnL m (peekT k j zs) = true
  | _, [] => ⟨rfl, rfl⟩
  | j, x :: xs => by
    obtain ⟨h1, h2⟩ := z1yq hk (j + 1) xs
    have e : (bif x.own then TV.rp k j else .l x).av m = peek q.id q.p q.i.toNat j x.cell ∧ (bif x.own then TV.rp k j else .l x).dfn m = true := by
      cases x with
      | s o t l =>
        cases o with
        | true => exact ⟨by simp only [Lf.own, cond_true, TV.av, hk, Lf.cell, peek], by simp only [Lf.own, cond_true, TV.dfn, hk]; rfl⟩
        | false => exact ⟨rfl, rfl⟩
      | _ => exact ⟨rfl, rfl⟩
    exact ⟨by simp only [peekT, avL, List.map_cons, peeks, h1, e.1], by simp only [peekT, dfnL, h2, e.2]; rfl⟩
theorem z23c (m : Nm) (l : List TV) (j w : Nat) : avL m ((l.drop j).take w) = ((avL m l).drop j).take w := by simp only [z0d9, List.map_take, List.map_drop]
theorem z20f {m : Nm} {l : List TV} (h : dfnL m l = true) (j w : Nat) : dfnL m ((l.drop j).take w) = true :=
  (z05e m).2 fun x hx => (z05e m).1 h x (List.mem_of_mem_drop (List.mem_of_mem_take hx))
theorem z0da (m : Nm) (l : List TV) : (avL m l).length = l.length := by rw [z0d9, List.length_map]
section
variable {ρ : Type} {c : Cx} {d : Nat} {st : XSt} {K : Kt ρ} {r : ρ} {ac : St} {ty : TypeId} {pos : String} {after : Array Edge} {g : Option (Nat × Bool)} {x y : Operand} {t : TypeId}
theorem z220 (hR : Rf c.fp st ac) (h : x_nil c d x st K = some r) : Snd c ⟨some d, .nilCheck x, ty, pos, after, g⟩ ac K r := by
  obtain ⟨tx, h1, h⟩ := bnd h
  have hd := (z0kc hR h1).2
  split at h
  · exact z00p hR rfl (fun hn => z19p hn) (so' hR h1 sn) h
  · obtain ⟨xs, h2, h⟩ := bnd h
    exact z00p hR rfl (fun hn => z1f9 hn) (so' hR h1 (sbx hR h2 sn)) h
  · obtain ⟨q, h2, h⟩ := bnd h
    obtain ⟨a, h3, h⟩ := bnd h
    obtain ⟨h4, _, _⟩ := z0tl hR h2
    refine z00p hR hd (fun hn => ?_) (so' hR h1 (sb (z0kf hR h3) sn)) h
    simp only [TV.av, h4, AR.ob]; exact z19o hn
  · cases h
theorem z21t {fi : Nat} (hc : c.Ok) (hR : Rf c.fp st ac) (h : x_fld c d t x fi st K = some r) : Snd c ⟨some d, .fieldAddr t x fi, ty, pos, after, g⟩ ac K r := by
  unfold x_fld at h
  split at h
  · rename_i n ht
    obtain ⟨p, h0, h⟩ := bnd h
    obtain ⟨fs, e1, e2, _⟩ := (hc.ty _ _ ht).und
    obtain ⟨ft, e3, e4, e5⟩ := e2 fi p h0
    obtain ⟨tx, h1, h⟩ := bnd h
    have hd := (z0kc hR h1).2
    split at h
    · obtain ⟨h2, h⟩ := bif_t h
      refine z00p hR rfl (fun hn => ?_) (so' hR h1 sn) h
      simp only [TV.av]
      exact z1q1 e1 e3 e4 e5 (by simpa using h2) (by rw [List.map_drop]) hn
    · obtain ⟨xs, h2, h⟩ := bnd h
      exact z00p hR rfl (fun hn => z1ux e1 e3 e4 e5 rfl hn) (so' hR h1 (sbx hR h2 sn)) h
    · obtain ⟨q, h2, h⟩ := bnd h
      obtain ⟨a, h3, h⟩ := bnd h
      obtain ⟨h4, _, _⟩ := z0tl hR h2
      refine z00p hR (by simp only [TV.dfn, h4]; rfl) (fun hn => ?_) (so' hR h1 (sb (z0kf hR h3) sn)) h
      simp only [TV.av, h4, AR.ob]; exact z1q0 e1 e3 e4 e5 rfl hn
    · cases h
  · cases h
theorem z21u (hc : c.Ok) (hR : Rf c.fp st ac) (h : x_idx c d t x y st K = some r) : Snd c ⟨some d, .indexAddr t x y, ty, pos, after, g⟩ ac K r := by
  unfold x_idx at h
  split at h
  · rename_i e ht
    obtain ⟨et, bytes, e1, e2, _⟩ := (hc.ty _ _ ht).und
    obtain ⟨tx, h1, h⟩ := bnd h
    obtain ⟨tz, h2, h⟩ := bnd h
    obtain ⟨i, h3, h⟩ := bnd h
    obtain ⟨s, h4, h⟩ := bnd h
    have hs := so' hR h1 (so' hR h2 sn)
    split at h
    · rename_i t' l
      obtain ⟨h5, h⟩ := bif_t h
      obtain ⟨v, h6, h⟩ := bnd h
      have hx := z24u h4
      subst hx
      refine z00p hR rfl (fun hn => ?_) hs h
      rw [z0ch h3]
      simp only [TV.av, Lf.cell, Ty.out_cell]
      rw [← Nat.eq_of_beq_eq_true h5] at e2
      exact z1q3 e1 e2 hn h6
    · rename_i id p t' l o
      obtain ⟨h5, h⟩ := bif_t h
      obtain ⟨a, h7, h⟩ := bnd h
      obtain ⟨v, h6, h⟩ := bnd h
      obtain ⟨g1, k0, rows, o', g2, g3⟩ := z230 hR h4
      have ha := z0kf hR h7
      rw [g2] at ha
      simp only [AR.ob, Option.some.injEq, Obj.arr.injEq] at ha
      obtain ⟨ha1, ha2⟩ := ha
      subst ha1 ha2
      obtain ⟨st1, k, f1, f2, f3, h⟩ := z1wf hR ⟨_, _, o', l, g2, g3, h6⟩ h
      rw [← Nat.eq_of_beq_eq_true h5] at e2
      refine z00p f1 (by simp only [TV.dfn, f3]; rfl) (fun hn => ?_) (so' hR h1 (so' hR h2 (sb g2 sn))) h
      rw [z0ch h3, g1]
      simp only [TV.av, f3]
      exact z1l6 e1 e2 hn g3 h6
  · cases h
theorem z21v (hc : c.Ok) (hR : Rf c.fp st ac) (h : x_len c d t x st K = some r) : Snd c ⟨some d, .call ⟨.builtin .len, #[x], #[t]⟩, ty, pos, after, g⟩ ac K r := by
  unfold x_len at h
  split at h
  · rename_i e ht
    obtain ⟨et, bytes, e1, _⟩ := (hc.ty _ _ ht).und
    obtain ⟨tx, h1, h⟩ := bnd h
    split at h
    · exact z00p hR rfl (fun hn => z1yh e1 hn) (so' hR h1 sn) h
    · obtain ⟨s, h4, h⟩ := bnd h
      split at h
      · have hx := z24u h4
        subst hx
        exact z00p hR rfl (fun hn => z212 e1 hn) (so' hR h1 sn) h
      · obtain ⟨a, h7, h⟩ := bnd h
        obtain ⟨g1, k0, rows, o', g2, g3⟩ := z230 hR h4
        have ha := z0kf hR h7
        rw [g2] at ha
        simp only [AR.ob, Option.some.injEq, Obj.arr.injEq] at ha
        obtain ⟨ha1, ha2⟩ := ha
        subst ha1 ha2
        refine z00p hR rfl (fun hn => ?_) (so' hR h1 (sb g2 sn)) h
        rw [g1]; exact z1uz e1 hn g3
  · cases h
theorem z1w9 {lo hi : Option Operand} (hc : c.Ok) (hR : Rf c.fp st ac) (h : z205 c d t x lo hi st K = some r) : Snd c ⟨some d, .slice t x lo hi none, ty, pos, after, g⟩ ac K r := by
  unfold z205 at h
  split at h
  · rename_i e ht
    obtain ⟨et, bytes, e1, e2, _⟩ := (hc.ty _ _ ht).und
    obtain ⟨tx, h1, h⟩ := bnd h
    obtain ⟨s, h4, h⟩ := bnd h
    split at h
    · obtain ⟨h5, h⟩ := bif_t h
      have hx := z24u h4
      subst hx
      rw [← Nat.eq_of_beq_eq_true h5] at e2
      split at h
      · obtain ⟨tl, h6, h⟩ := bnd h
        obtain ⟨th, h7, h⟩ := bnd h
        obtain ⟨i, h8, h⟩ := bnd h
        obtain ⟨j, h9, h⟩ := bnd h
        obtain ⟨g1, h⟩ := gd_some h
        refine z00p hR rfl (fun hn => ?_) (so' hR h1 (so' hR h6 (so' hR h7 sn))) h
        rw [z0ch h8, z0ch h9]
        exact z1yl e1 e2 g1 hn
      · obtain ⟨th, h7, h⟩ := bnd h
        obtain ⟨j, h9, h⟩ := bnd h
        obtain ⟨g1, h⟩ := gd_some h
        refine z00p hR rfl (fun hn => ?_) (so' hR h1 (so' hR h7 sn)) h
        rw [z0ch h9]
        exact z1l9 e1 e2 g1 hn
      · obtain ⟨th, h7, h⟩ := bnd h
        obtain ⟨j, h9, h⟩ := bnd h
        obtain ⟨g1, h⟩ := gd_some h
        refine z00p hR rfl (fun hn => ?_) (so' hR h1 (so' hR h7 sn)) h
        rw [z0ch h9]
        exact z1la e1 e2 g1 hn
      · cases h
    · cases h
  · cases h
theorem z202 (hc : c.Ok) (hR : Rf c.fp st ac) (h : z26o c d t x st K = some r) : Snd c ⟨some d, .load t x, ty, pos, after, g⟩ ac K r := by
  obtain ⟨yy, ht, h⟩ := bnd h
  have hag := (hc.ty _ _ ht).agg
  have hsz := (hc.ty _ _ ht).size
  obtain ⟨tx, h1, h⟩ := bnd h
  have hd := (z0kc hR h1).2
  split at h
  · rename_i xs
    cases hi : yy.isS with
    | true =>
      rw [hi] at h hag
      obtain ⟨h2, h⟩ := bif_t h
      refine z00p hR rfl (fun hn => ?_) (so' hR h1 sn) h
      simp only [TV.av]
      have := Nat.le_of_ble_eq_true h2
      exact z19n hag hsz (by rw [List.map_take]) (by rw [List.length_map, List.length_take]; omega) hn
    | false =>
      rw [hi] at h hag
      obtain ⟨z, h2, h⟩ := bnd h
      obtain ⟨st1, tv, f1, f2, f3, f4, h⟩ := z1py hR h
      refine z00p f1 f3 (fun hn => ?_) (so' hR h1 sn) h
      rw [f4]
      exact z1v1 hag (by rw [List.getElem?_map, h2]; rfl) hn
  · rename_i id j
    obtain ⟨xs, h2, h⟩ := bnd h
    obtain ⟨b1, b2⟩ := z0kg hR h2
    cases hi : yy.isS with
    | true =>
      rw [hi] at h hag
      obtain ⟨h3, h⟩ := bif_t h
      have := Nat.le_of_ble_eq_true h3
      refine z00p hR (show (TV.agg ((xs.drop j).take yy.w)).dfn st.nm = true from z20f b2 _ _) (fun hn => ?_) (so' hR h1 (sbx hR h2 sn)) h
      simp only [TV.av]
      exact z1f8 hag hsz (z23c _ _ _ _).symm (by rw [z0da, List.length_take, List.length_drop]; omega) hn
    | false =>
      rw [hi] at h hag
      obtain ⟨z, h3, h⟩ := bnd h
      obtain ⟨st1, tv, f1, f2, f3, f4, h⟩ := z1ye hR ((z05e _).1 b2 z (List.mem_of_getElem? h3)) h
      refine z00p f1 f3 (fun hn => ?_) (so' hR h1 (sbx hR h2 sn)) h
      rw [f4]
      exact z1yj hag (by rw [z0d9, List.getElem?_map, h3]; rfl) hn
  · rename_i k j
    obtain ⟨q, h2, h⟩ := bnd h
    obtain ⟨a, h3, h⟩ := bnd h
    obtain ⟨q1, q2, q3⟩ := z0tl hR h2
    obtain ⟨k0, rows, o', rows', g1, g2, g3⟩ := Tok.row q2
    have ha := z0kf hR h3
    rw [g1] at ha
    simp only [AR.ob, Option.some.injEq, Obj.arr.injEq] at ha
    obtain ⟨ha1, ha2⟩ := ha
    subst ha1 ha2
    have hs := so' hR h1 (sb g1 sn)
    have ea : (TV.ptr k j).av st.nm = .ptr q.id q.p q.t.w q.i.toNat j := by simp only [TV.av, q1]
    rw [ea] at hs h
    cases hi : yy.isS with
    | true =>
      rw [hi] at h hag
      simp only [cond_true] at h
      obtain ⟨h4, h⟩ := bif_t h
      have hl := Nat.eq_of_beq_eq_true h4
      cases hw : (((q.t.out q.o q.v).drop j).take yy.w).any Lf.own with
      | true =>
        rw [hw] at h
        obtain ⟨p1, p2⟩ := z1yq q1 j (((q.t.out q.o q.v).drop j).take yy.w)
        refine z00p hR (show (TV.agg (peekT k j (((q.t.out q.o q.v).drop j).take yy.w))).dfn st.nm = true from p2) (fun hn => ?_) hs h
        simp only [TV.av, p1]
        exact z19k hag hsz g2 g3 (by rw [List.map_take, List.map_drop]) (by rw [List.length_map]; exact hl) hn
      | false =>
        rw [hw] at h
        refine z00p hR rfl (fun hn => ?_) hs h
        simp only [TV.av]
        refine z19m hag hsz g2 g3 (by rw [List.map_take, List.map_drop]) (by rw [List.length_map]; exact hl) (List.all_eq_true.2 fun z hz => ?_) hn
        obtain ⟨u, hu, rfl⟩ := List.mem_map.1 hz
        refine Lf.own_plain ?_
        cases ho : u.own with
        | false => rfl
        | true => rw [List.any_eq_true.2 ⟨u, hu, ho⟩] at hw; cases hw
    | false =>
      rw [hi] at h hag
      obtain ⟨z, h4, h⟩ := bnd h
      have hz : ((q.t.out q.o q.v).map Lf.cell)[j]? = some z.cell := by rw [List.getElem?_map, h4]; rfl
      cases hw : z.own with
      | true =>
        rw [hw] at h
        refine z00p hR (by simp only [TV.dfn, q1]; rfl) (fun hn => ?_) hs h
        cases z with
        | s o t2 l2 =>
          simp only [TV.av, q1]
          exact z19l hag g2 g3 hz hn
        | _ => cases hw
      | false =>
        rw [hw] at h
        obtain ⟨st1, tv, f1, f2, f3, f4, h⟩ := z1py hR h
        refine z00p f1 f3 (fun hn => ?_) hs h
        rw [f4]
        exact z1v0 hag g2 g3 hz (Lf.own_plain hw) hn
  · cases h
end
end Go.Am
end
section
namespace Go.Am
open Go
variable {E : Option FP}
theorem XSt.apps_append : ∀ (us vs : List TU) (st : XSt), XSt.apps (us ++ vs) st = XSt.apps vs (XSt.apps us st)
  | [], _, _ => rfl
  | u :: us, vs, st => XSt.apps_append us vs (st.app u)
theorem NmLe.apps : ∀ (us : List TU) (st : XSt), NmLe st.nm (XSt.apps us st).nm
  | [], _ => .refl _
  | u :: us, st => (NmLe.app st u).trans (NmLe.apps us (st.app u))
def upK {ρ : Type} (us : List TU) (rs : List Req) (st : XSt) (K : Kt ρ) : Option ρ := K (XSt.apps us st) rs (us.map (TU.up st.nm))
theorem z0rg {ρ : Type} {c : Cx} {o : Oper} {us : List TU} {rs : List Req} {st : XSt} {K : Kt ρ} {r : ρ} {ac : St} (hR : Rf c.fp st ac) (hd : ∀ u ∈ us, u.dfn st.nm = true) (ho : OpL0 c.P c.n o rs (us.map (TU.up st.nm)))
    (hs : ∀ q ∈ rs, q.sat ac) (h : upK us rs st K = some r) : Snd c o ac K r := ⟨_, _, _, ho, hs, hR.apps hd, h⟩
def csT : TV → Option (List TV)
  | .row xs => some (xs.map .l)
  | .agg xs => some xs
  | .l x => some [.l x]
  | .kb v => some [.kb v]
  | .b k n => some [.b k n]
  | .ref id => some [.ref id]
  | .ptr k j => some [.ptr k j]
  | .bx id j => some [.bx id j]
  | .pts xs => some [.pts xs]
  | .fn f xs => some [.fn f xs]
  | _ => none
def oneT : TV → Bool
  | .l _ => true
  | .kb _ => true
  | .b _ _ => true
  | .ref _ => true
  | .rp _ _ => true
  | .ptr _ _ => true
  | .bx _ _ => true
  | .pts _ => true
  | .fn _ _ => true
  | _ => false
theorem z25h {x : Lf} : AV.cells? (.c x.cell) = some [.c x.cell] := by cases x <;> rfl
theorem z20d {m : Nm} {tv : TV} {ys : List TV} (h : csT tv = some ys) (hd : tv.dfn m = true) : (tv.av m).cells? = some (avL m ys) ∧ dfnL m ys = true := by
  cases tv with
  | row xs =>
    cases h
    refine ⟨?_, (z05e m).2 fun x hx => ?_⟩
    · simp only [TV.av, AV.cells?, z0d9, List.map_map]; rfl
    · obtain ⟨y, _, rfl⟩ := List.mem_map.1 hx; rfl
  | agg xs => cases h; exact ⟨rfl, hd⟩
  | l x => cases h; exact ⟨z25h, rfl⟩
  | kb v => cases h; exact ⟨rfl, rfl⟩
  | b k n =>
    cases h
    have hd' := hd
    simp only [TV.dfn] at hd'
    refine ⟨?_, by simp only [dfnL, hd]; rfl⟩
    simp only [avL, TV.av]
    split <;> first | rfl | (rename_i hn; rw [hn] at hd'; cases hd')
  | ref id => cases h; exact ⟨rfl, rfl⟩
  | ptr k j =>
    cases h
    have hd' := hd
    simp only [TV.dfn] at hd'
    refine ⟨?_, by simp only [dfnL, hd]; rfl⟩
    simp only [avL, TV.av]
    split <;> first | rfl | (rename_i hn; rw [hn] at hd'; cases hd')
  | bx id j => cases h; exact ⟨rfl, rfl⟩
  | pts xs => cases h; exact ⟨rfl, rfl⟩
  | fn f xs => cases h; exact ⟨rfl, by simp only [dfnL, hd]; rfl⟩
  | _ => cases h
theorem z262 {m : Nm} {x : TV} (h : oneT x = true) (hd : x.dfn m = true) : (x.av m).one = true := by
  cases x with
  | l x => cases x <;> rfl
  | kb v => rfl
  | b k n =>
    simp only [TV.dfn] at hd
    simp only [TV.av]
    split <;> first | rfl | (rename_i hn; rw [hn] at hd; cases hd)
  | ref id => rfl
  | rp k j =>
    simp only [TV.dfn] at hd
    simp only [TV.av]
    split <;> first | rfl | (rename_i hn; rw [hn] at hd; cases hd)
  | ptr k j =>
    simp only [TV.dfn] at hd
    simp only [TV.av]
    split <;> first | rfl | (rename_i hn; rw [hn] at hd; cases hd)
  | bx id j => rfl
  | pts xs => rfl
  | fn f xs => rfl
  | _ => cases h
theorem z261 {m : Nm} {l : List TV} (h : l.all oneT = true) (hd : dfnL m l = true) : (avL m l).all AV.one = true := by
  refine List.all_eq_true.2 fun y hy => ?_
  rw [z0d9] at hy
  obtain ⟨x, hx, rfl⟩ := List.mem_map.1 hy
  exact z262 (List.all_eq_true.1 h x hx) ((z05e m).1 hd x hx)
theorem z1lm {α β : Type} (f : α → β) : ∀ (xs : List α) (j : Nat) (ys : List α), (spl xs j ys).map f = spl (xs.map f) j (ys.map f)
  | [], _, _ => rfl
  | x :: xs, 0, [] => rfl
  | x :: xs, 0, y :: ys => by simp only [spl, List.map_cons]; rw [z1lm f xs 0 ys]
  | x :: xs, n + 1, ys => by simp only [spl, List.map_cons]; rw [z1lm f xs n ys]
theorem z1sp {α : Type} : ∀ {xs : List α} {j : Nat} {ys : List α} {z : α}, z ∈ spl xs j ys → z ∈ xs ∨ z ∈ ys
  | [], _, _, _, h => by simp [spl] at h
  | x :: xs, 0, [], _, h => .inl h
  | x :: xs, 0, y :: ys, z, h => by
    simp only [spl, List.mem_cons] at h
    rcases h with rfl | h
    · exact .inr (List.mem_cons_self ..)
    · exact (z1sp h).imp (List.mem_cons_of_mem _) (List.mem_cons_of_mem _)
  | x :: xs, n + 1, ys, z, h => by
    simp only [spl, List.mem_cons] at h
    rcases h with rfl | h
    · exact .inl (List.mem_cons_self ..)
    · exact (z1sp h).imp (List.mem_cons_of_mem _) id
def z233 {ρ : Type} (c : Cx) (d : Nat) (t : TypeId) (st : XSt) (K : Kt ρ) : Option ρ :=
  (look c.tt t).bind fun y => bif Nat.blt d c.n && !(st.usd d) then upK [.put d (.box (y.lks.map LK.zt)), .set d (.bx d 0)] [.fresh d] st K else none
def x_box {ρ : Type} (c : Cx) (d : Nat) (x : Operand) (st : XSt) (K : Kt ρ) : Option ρ :=
  (opd st x).bind fun tx => (csT tx).bind fun ys => bif Nat.blt d c.n && (!(st.usd d) && st.liv (tx.ids st.nm)) then
    upK [.put d (.box ys), .set d (.bx d 0)] (.opd x (tx.av st.nm) :: .fresh d :: lives (tx.ids st.nm)) st K else none
def fillT (places : List (Nat × Nat)) : List TV → List (Nat × TV) → Option (List TV)
  | cells, [] => some cells
  | cells, (i, tv) :: rest =>
    (places[i]?).bind fun p => (csT tv).bind fun ys => bif Nat.beq ys.length p.2 && Nat.ble (p.1 + ys.length) cells.length then fillT places (spl cells p.1 ys) rest else none
def opdL (st : XSt) : List Operand → Option (List TV)
  | [] => some []
  | x :: xs => (opd st x).bind fun tv => (opdL st xs).bind fun tvs => some (tv :: tvs)
def z200 {ρ : Type} (c : Cx) (d : Nat) (t : TypeId) (parts : List (Nat × Operand)) (st : XSt) (K : Kt ρ) : Option ρ :=
  match look c.tt t with
  | some (.s n) => (opdL st (parts.map (·.2))).bind fun tvs => bif st.liv (tidsL st.nm tvs) then
      (fillT n.places ((Ty.s n).lks.map LK.zt) (List.zipWith (fun p tv => (p.1, tv)) parts tvs)).bind fun ys => setK c d st (.agg ys) (opds (parts.map (·.2)) (avL st.nm tvs) ++ lives (tidsL st.nm tvs)) K else none
  | _ => none
def x_fn {ρ : Type} (c : Cx) (d : Nat) (f : FuncId) (caps : List Operand) (st : XSt) (K : Kt ρ) : Option ρ :=
  (opdL st caps).bind fun tvs => bif st.liv (tidsL st.nm tvs) then setK c d st (.fn f tvs) (opds caps (avL st.nm tvs) ++ lives (tidsL st.nm tvs)) K else none
def Ty.hasS (t : Ty) : Bool := t.lks.any fun k => match k with | .S _ => true | _ => false
def Lf.isNl : Lf → Bool
  | .nl => true
  | _ => false
def absE (st : XSt) (tv : TV) (old : Lf) : Option (Lf × Objs) :=
  match tv with
  | .l (.s false t l) => some (.s false t l, [])
  | .l (.i n) => some (.i n, [])
  | .l (.y n) => some (.y n, [])
  | .l .nl => match old with
    | .s o t _ => some (.s o t [], [])
    | _ => none
  | .kb v => some (.b v, [])
  | .b k n => (boolv st.nm (.b k n)).bind fun v => some (.b v, [])
  | .l (.b v) => some (.b v, [])
  | .ref id => (arrOf st id).bind fun a => bif a.o || !a.t.hasS then some (.s true a.t a.l, [(id, a.t.w, a.l.map (a.t.cells true))]) else none
  | _ => none
def absL (st : XSt) : List TV → List Lf → Option (List Lf × Objs)
  | [], _ => some ([], [])
  | tv :: tvs, old :: olds => (absE st tv old).bind fun a => (absL st tvs olds).bind fun b => bif a.2.all fun p => b.2.all fun q => !Nat.beq q.1 p.1 then some (a.1 :: b.1, a.2 ++ b.2) else none
  | _ :: _, [] => none
def z235 {ρ : Type} (c : Cx) (t : TypeId) (x y : Operand) (st : XSt) (K : Kt ρ) : Option ρ :=
  (look c.tt t).bind fun e => (opd st x).bind fun tx => (opd st y).bind fun ty => (csT ty).bind fun cs => bif cs.all oneT && (Nat.beq cs.length e.w && st.liv (ty.ids st.nm)) then
    (match tx with
    | .bx id j => (boxOf st id).bind fun xs => bif Nat.ble (j + e.w) xs.length then
        upK [.put id (.box (spl xs j cs))] (.opd x (tx.av st.nm) :: .opd y (ty.av st.nm) :: .obj id (.box (avL st.nm xs)) :: lives (ty.ids st.nm)) st K else none
    | .ptr k j => (tokOf st k).bind fun q =>
      match look st.obj q.id with
      | some (.arr t' l' o') => (absL st cs ((q.t.out q.o q.v).drop j)).bind fun a =>
        bif !(isP q.p) && (Nat.ble (j + e.w) t'.w && (!(a.2.any fun p => Nat.beq p.1 q.id) && !((spl (q.t.out q.o q.v) j a.1).any Lf.isNl))) then
          (t'.inn o' (spl (q.t.out q.o q.v) j a.1)).bind fun v2 =>
            let us : List TU := a.2.map (fun p => .del p.1) ++ [.kill q.id, .put q.id (.arr t' (l'.set q.i.toNat v2) o')]
            let st1 := XSt.apps us st
            K { st1 with nm := { st1.nm with tk := (k, ⟨q.id, q.p, q.i, t', o', v2, true⟩) :: st1.nm.tk } }
              (.opd x (tx.av st.nm) :: .opd y (ty.av st.nm) :: .obj q.id (.arr t'.w (l'.map (t'.cells o'))) :: (objReqs a.2 ++ lives (ty.ids st.nm))) (us.map (TU.up st.nm))
        else none
      | _ => none
    | _ => none) else none
theorem z1xu {o o' : Bool} : ∀ {ks : List LK} {h : HL ks}, (ks.any fun k => match k with | .S _ => true | _ => false) = false → lvs o ks h = lvs o' ks h
  | [], _, _ => rfl
  | k :: ks, h, hn => by
    simp only [List.any_cons, Bool.or_eq_false_iff] at hn
    simp only [lvs]
    rw [z1xu (o := o) (o' := o') hn.2]
    cases k with
    | S t => cases hn.1
    | _ => rfl
theorem z0tv {t : Ty} (h : t.hasS = false) (o o' : Bool) : t.cells o = t.cells o' := by
  funext x
  rw [← Ty.out_cell, ← Ty.out_cell]
  congr 1
  cases t with
  | s n => exact z1xu h
  | sl t => cases h
  | _ => rfl
theorem z245 {o : Bool} {xs ys : List Lf} (h : LfNs o xs ys) : xs.any Lf.isNl = false → ys = xs := by
  induction h with
  | nil => intro _; rfl
  | cons h t ih =>
    intro hn
    simp only [List.any_cons, Bool.or_eq_false_iff] at hn
    rw [ih hn.2]
    cases h with
    | same => rfl
    | nil => cases hn.1
theorem z09h {t : Ty} {o : Bool} {xs : List Lf} {x : t.den} (h : t.inn o xs = some x) (hn : xs.any Lf.isNl = false) : t.out o x = xs := z245 (Ty.inn_out h) hn
section
variable {st : XSt} {ac : St}
theorem z1ld (hR : Rf E st ac) : ∀ {xs : List Operand} {tvs : List TV}, opdL st xs = some tvs → Opds ac xs (avL st.nm tvs) ∧ dfnL st.nm tvs = true ∧ xs.length = (avL st.nm tvs).length
  | [], _, h => by cases h; exact ⟨.nil, rfl, rfl⟩
  | x :: xs, _, h => by
    obtain ⟨tv, h1, h⟩ := bnd h
    obtain ⟨tvs, h2, h⟩ := bnd h
    cases h
    obtain ⟨a1, a2⟩ := z0kc hR h1
    obtain ⟨b1, b2, b3⟩ := z1ld hR h2
    exact ⟨.cons a1 b1, by simp only [dfnL, a2, b2]; rfl, by simp only [avL, List.length_cons, b3]⟩
theorem z0tu (hR : Rf E st ac) {id : Nat} {a : AR} (h : arrOf st id = some a) (ho : (a.o || !a.t.hasS) = true) : ac.obj id = some (.arr a.t.w (a.l.map (a.t.cells true))) := by
  rw [z0kf hR h]
  simp only [AR.ob]
  cases hh : a.o with
  | true => rfl
  | false =>
    rw [hh] at ho
    have hs : a.t.hasS = false := by simpa using ho
    rw [z0tv hs false true]
theorem z256 (hR : Rf E st ac) {tv : TV} {old x : Lf} {os : Objs} (h : absE st tv old = some (x, os)) {tvs : List TV} {xs : List Lf} {os' : Objs} (ht : Absorb (avL st.nm tvs) (xs.map Lf.cell) os')
    (hd : (os.all fun p => os'.all fun q => !Nat.beq q.1 p.1) = true) : Absorb (avL st.nm (tv :: tvs)) ((x :: xs).map Lf.cell) (os ++ os') ∧ ∀ p ∈ os, ac.obj p.1 = some (.arr p.2.1 p.2.2) := by
  have no : ∀ p ∈ ([] : Objs), ac.obj p.1 = some (.arr p.2.1 p.2.2) := fun p hp => (by cases hp)
  unfold absE at h
  split at h
  · cases h; exact ⟨.c rfl ht, no⟩
  · cases h; exact ⟨.c rfl ht, no⟩
  · cases h; exact ⟨.c rfl ht, no⟩
  · split at h
    · cases h; exact ⟨.nilc ht, no⟩
    · cases h
  · cases h; exact ⟨.c rfl ht, no⟩
  · obtain ⟨v, h1, h⟩ := bnd h
    cases h
    refine ⟨?_, no⟩
    simp only [avL, z0gr h1]
    exact .c rfl ht
  · cases h; exact ⟨.c rfl ht, no⟩
  · obtain ⟨a, h1, h⟩ := bnd h
    obtain ⟨h2, h⟩ := bif_t h
    cases h
    refine ⟨.ref ?_ ht, fun p hp => ?_⟩
    · have := List.all_eq_true.1 hd _ (List.mem_cons_self ..)
      rw [Bool.eq_false_iff]
      intro he
      obtain ⟨q, hq, hb⟩ := List.any_eq_true.1 he
      have := List.all_eq_true.1 this q hq
      simp only [hb] at this; cases this
    · simp at hp; subst hp; exact z0tu hR h1 h2
  · cases h
theorem z1fm (hR : Rf E st ac) : ∀ {tvs : List TV} {olds : List Lf} {xs : List Lf} {os : Objs}, absL st tvs olds = some (xs, os) → Absorb (avL st.nm tvs) (xs.map Lf.cell) os ∧ ∀ p ∈ os, ac.obj p.1 = some (.arr p.2.1 p.2.2)
  | [], _, _, _, h => by cases h; exact ⟨.nil, fun p hp => (by cases hp)⟩
  | _ :: _, [], _, _, h => by cases h
  | tv :: tvs, old :: olds, _, _, h => by
    obtain ⟨⟨x, os1⟩, h1, h⟩ := bnd h
    obtain ⟨⟨xs, os2⟩, h2, h⟩ := bnd h
    obtain ⟨h3, h⟩ := bif_t h
    cases h
    obtain ⟨b1, b2⟩ := z1fm hR h2
    obtain ⟨a1, a2⟩ := z256 hR h1 b1 h3
    exact ⟨a1, fun p hp => (List.mem_append.1 hp).elim (a2 p) (b2 p)⟩
theorem z1xg {m : Nm} {places : List (Nat × Nat)} : ∀ {pa : List (Nat × TV)} {cells ys : List TV}, fillT places cells pa = some ys → dfnL m cells = true → (∀ p ∈ pa, p.2.dfn m = true) →
    fillA places (avL m cells) (pa.map fun p => (p.1, p.2.av m)) = some (avL m ys) ∧ dfnL m ys = true
  | [], _, _, h, hd, _ => by cases h; exact ⟨rfl, hd⟩
  | (i, tv) :: rest, cells, ys, h, hd, hp => by
    simp only [fillT] at h
    obtain ⟨p, h1, h⟩ := bnd h
    obtain ⟨zs, h2, h⟩ := bnd h
    obtain ⟨h3, h⟩ := bif_t h
    obtain ⟨c1, c2⟩ := z20d h2 (hp (i, tv) (List.mem_cons_self ..))
    simp only [Bool.and_eq_true] at h3
    have hl := Nat.le_of_ble_eq_true h3.2
    have hd2 : dfnL m (spl cells p.1 zs) = true := (z05e m).2 fun x hx => (z1sp hx).elim ((z05e m).1 hd x) ((z05e m).1 c2 x)
    obtain ⟨e1, e2⟩ := z1xg h hd2 fun q hq => hp q (List.mem_cons_of_mem _ hq)
    refine ⟨?_, e2⟩
    simp only [List.map_cons, fillA, h1, c1, z0da, h3.1, h3.2, Bool.and_self, cond_true]
    rw [← e1, z0d9 m (spl cells p.1 zs), z1lm, ← z0d9, ← z0d9, z1zp _ _ _ (by simp only [z0da]; omega)]
end
section
variable {ρ : Type} {c : Cx} {d : Nat} {st : XSt} {K : Kt ρ} {r : ρ} {ac : St} {ty : TypeId} {pos : String} {after : Array Edge} {g : Option (Nat × Bool)} {x y : Operand} {t : TypeId}
theorem zt_av (m : Nm) (k : LK) : k.zt.av m = .c (.lit k.zv) := by cases k <;> rfl
theorem z26q (m : Nm) (ks : List LK) : avL m (ks.map LK.zt) = (ks.map LK.zv).map (fun v => .c (.lit v)) ∧ dfnL m (ks.map LK.zt) = true := by
  refine ⟨?_, (z05e m).2 fun x hx => ?_⟩
  · rw [z0d9, List.map_map, List.map_map]
    exact List.map_congr_left fun k _ => zt_av m k
  · obtain ⟨k, _, rfl⟩ := List.mem_map.1 hx; cases k <;> rfl
theorem z1w5 (hc : c.Ok) (hR : Rf c.fp st ac) (h : z233 c d t st K = some r) : Snd c ⟨some d, .alloc t, ty, pos, after, g⟩ ac K r := by
  obtain ⟨yy, ht, h⟩ := bnd h
  obtain ⟨h1, h⟩ := bif_t h
  simp only [Bool.and_eq_true, Bool.not_eq_true'] at h1
  obtain ⟨z, hz, hzc⟩ := (hc.ty _ _ ht).zero
  obtain ⟨e1, e2⟩ := z26q st.nm yy.lks
  refine z0rg hR (fun u hu => ?_) ?_ (sf' hR h1.2 sn) h
  · simp only [List.mem_cons, List.not_mem_nil, or_false] at hu
    rcases hu with rfl | rfl
    · exact e2
    · rfl
  · simp only [List.map_cons, List.map_nil, TU.up, TO.ob, e1]
    exact z248 hz hzc (lb h1.1)
theorem z21r (hR : Rf c.fp st ac) (h : x_box c d x st K = some r) : Snd c ⟨some d, .box t x, ty, pos, after, g⟩ ac K r := by
  obtain ⟨tx, h1, h⟩ := bnd h
  obtain ⟨ys, h2, h⟩ := bnd h
  obtain ⟨h3, h⟩ := bif_t h
  simp only [Bool.and_eq_true, Bool.not_eq_true'] at h3
  have hd := (z0kc hR h1).2
  obtain ⟨e1, e2⟩ := z20d h2 hd
  refine z0rg hR (fun u hu => ?_) ?_ (so' hR h1 (sf' hR h3.2.1 (sl' hR h3.2.2))) h
  · simp only [List.mem_cons, List.not_mem_nil, or_false] at hu
    rcases hu with rfl | rfl
    · exact e2
    · rfl
  · rw [← TV.ids_av st.nm hR.fpi tx hd]
    exact z26z e1 (lb h3.1)
theorem z1w6 {parts : List (Nat × Operand)} (hc : c.Ok) (hR : Rf c.fp st ac) (h : z200 c d t parts st K = some r) : Snd c ⟨some d, .build t parts.toArray, ty, pos, after, g⟩ ac K r := by
  unfold z200 at h
  split at h
  · rename_i n ht
    obtain ⟨tvs, h1, h⟩ := bnd h
    obtain ⟨h2, h⟩ := bif_t h
    obtain ⟨ys, h3, h⟩ := bnd h
    obtain ⟨fs, _, _, hb⟩ := (hc.ty _ _ ht).und
    obtain ⟨o1, o2, o3⟩ := z1ld hR h1
    obtain ⟨e1, e2⟩ := z26q st.nm (Ty.s n).lks
    obtain ⟨f1, f2⟩ := z1xg (m := st.nm) h3 e2 (fun p hp => by
      have : p.2 ∈ tvs := by
        obtain ⟨i, hi⟩ := List.mem_iff_getElem?.1 hp
        rw [List.getElem?_zipWith] at hi
        cases ha : parts[i]? with
        | none => rw [ha] at hi; cases hi
        | some a =>
          cases hb : tvs[i]? with
          | none => rw [ha, hb] at hi; cases hi
          | some b => rw [ha, hb] at hi; cases hi; exact List.mem_of_getElem? hb
      exact (z05e _).1 o2 _ this)
    refine z00p hR (show (TV.agg ys).dfn st.nm = true from f2) (fun hn => ?_) (z0wd o1 (sl' hR h2)) h
    rw [← z0fp st.nm hR.fpi tvs o2]
    simp only [TV.av]
    refine z249 (zc := (Ty.s n).zv.toArray) hb (by simpa using o3) ?_ hn
    rw [e1] at f1
    rw [← f1]
    congr 1
    rw [z0d9, List.zipWith_map_right, List.map_zipWith]
  · cases h
theorem z251 {f : FuncId} {caps : List Operand} (hR : Rf c.fp st ac) (h : x_fn c d f caps st K = some r) : Snd c ⟨some d, .makeFunc (.func f) #[] caps.toArray, ty, pos, after, g⟩ ac K r := by
  obtain ⟨tvs, h1, h⟩ := bnd h
  obtain ⟨h2, h⟩ := bif_t h
  obtain ⟨o1, o2, o3⟩ := z1ld hR h1
  refine z00p hR (show (TV.fn f tvs).dfn st.nm = true from o2) (fun hn => ?_) (z0wd o1 (sl' hR h2)) h
  rw [← z0fp st.nm hR.fpi tvs o2]
  exact z1v2 o3 hn
theorem z1wa (hc : c.Ok) (hR : Rf c.fp st ac) (h : z235 c t x y st K = some r) : Snd c ⟨none, .store t x y, ty, pos, after, g⟩ ac K r := by
  obtain ⟨e, ht, h⟩ := bnd h
  have hsz := (hc.ty _ _ ht).size
  obtain ⟨tx, h1, h⟩ := bnd h
  have hh := bnd h; clear h; obtain ⟨tz, h2, h⟩ := hh
  have hh := bnd h; clear h; obtain ⟨cs, h3, h⟩ := hh
  have hh := bif_t h; clear h; obtain ⟨h4, h⟩ := hh
  simp only [Bool.and_eq_true] at h4
  obtain ⟨h5, h6, h7⟩ := h4
  have hd := (z0kc hR h2).2
  obtain ⟨c1, c2⟩ := z20d h3 hd
  have c3 := z261 h5 c2
  have c4 : (avL st.nm cs).length = e.w := by rw [z0da]; exact Nat.eq_of_beq_eq_true h6
  split at h
  · rename_i id j
    obtain ⟨xs, g1, h⟩ := bnd h
    obtain ⟨g2, h⟩ := bif_t h
    obtain ⟨b1, b2⟩ := z0kg hR g1
    refine z0rg hR (fun u hu => ?_) ?_ (so' hR h1 (so' hR h2 (sbx hR g1 (sl' hR h7)))) h
    · simp only [List.mem_cons, List.not_mem_nil, or_false] at hu
      subst hu
      exact (z05e _).2 fun z hz => (z1sp hz).elim ((z05e _).1 b2 z) ((z05e _).1 c2 z)
    · simp only [List.map_cons, List.map_nil, TU.up, TO.ob]
      rw [← TV.ids_av st.nm hR.fpi tz hd, z0d9 _ (spl xs j cs), z1lm, ← z0d9, ← z0d9]
      exact z1q9 hsz c1 c3 c4 (by rw [z0da]; exact g2)
  · rename_i k j
    obtain ⟨q, g1, h⟩ := bnd h
    obtain ⟨q1, q2, q3⟩ := z0tl hR g1
    split at h
    · rename_i t' l' o' hob
      obtain ⟨⟨ls, os⟩, g2, h⟩ := bnd h
      obtain ⟨g3, h⟩ := bif_t h
      simp only [Bool.and_eq_true, Bool.not_eq_true'] at g3
      obtain ⟨p1, p2, p3, p4⟩ := g3
      obtain ⟨v2, g4, h⟩ := bnd h
      obtain ⟨a1, a2⟩ := z1fm hR g2
      have hp : q.p = [] := by
        cases hq : q.p with
        | nil => rfl
        | cons z w => rw [hq] at p1; cases p1
      obtain ⟨k0, rows, o2, rows', r1, r2, r3⟩ := Tok.row q2
      have r0 := (hR.obj _ _ hob).2
      simp only [TO.ob] at r0
      rw [r0] at r1
      simp only [Option.some.injEq, Obj.arr.injEq] at r1
      obtain ⟨r1, r1'⟩ := r1
      subst r1 r1'
      rw [hp] at r2
      simp only [Cell.get, Option.some.injEq, Cell.sl.injEq] at r2
      obtain ⟨_, w2, r2⟩ := r2
      subst r2
      have hx := z09h g4 p4
      have hilt : q.i.toNat < l'.length := by
        have := (List.getElem?_eq_some_iff.1 r3).1
        simpa using this
      have hi0 : 0 ≤ q.i := by
        obtain ⟨_, _, _, l, _, _, f3⟩ := q2
        exact (z0gx f3).1
      have eN : (l'.map (t'.cells o')).set q.i.toNat (spl ((q.t.out q.o q.v).map Lf.cell) j (ls.map Lf.cell)) = (l'.set q.i.toNat v2).map (t'.cells o') := by
        rw [← z1lm, ← hx, Ty.out_cell, List.map_set]
      have hop := z1lb (P := c.P) (n := c.n) (ty := ty) (pos := pos) (after := after) (g := g) (x := x) (y := y) (id := q.id) (i := q.i.toNat) (j := j) hsz r3 c1 a1 p3 c3 c4 p2
        (by rw [List.length_map, z1yp, w2]) eN
      let us : List TU := os.map (fun p => TU.del p.1) ++ [.kill q.id, .put q.id (.arr t' (l'.set q.i.toNat v2) o')]
      have eus : us.map (TU.up st.nm) = dels (os.map (·.1)) ++ [.kill q.id, .put q.id (.arr t'.w ((l'.set q.i.toNat v2).map (t'.cells o')))] := by
        simp only [us, List.map_append, List.map_map, dels, List.map_cons, List.map_nil, TU.up, TO.ob]; rfl
      have hus : ∀ u ∈ us, u.dfn st.nm = true := by
        intro u hu
        rcases List.mem_append.1 hu with hu | hu
        · obtain ⟨p, _, rfl⟩ := List.mem_map.1 hu; rfl
        · simp only [List.mem_cons, List.not_mem_nil, or_false] at hu
          rcases hu with rfl | rfl <;> rfl
      have R1 := hR.apps hus
      have hle := NmLe.apps us st
      have lo : look (XSt.apps us st).obj q.id = some (.arr t' (l'.set q.i.toNat v2) o') := by
        simp only [us]
        rw [XSt.apps_append]
        exact z0zf
      have ao := (R1.obj _ _ lo).2
      refine ⟨_, _, _, ?_, ?_, R1.names (m := { (XSt.apps us st).nm with tk := (k, ⟨q.id, q.p, q.i, t', o', v2, true⟩) :: (XSt.apps us st).nm.tk }) ?_ ?_ R1.bs, h⟩
      · rw [eus, ← TV.ids_av st.nm hR.fpi tz hd]
        have ea : (TV.ptr k j).av st.nm = .ptr q.id [] t'.w q.i.toNat j := by simp only [TV.av, q1, hp, w2]
        rw [ea]
        exact hop
      · exact so' hR h1 (so' hR h2 (sb r0 (z1fh a2 (sl' hR h7))))
      · refine ⟨fun k' b hb => ⟨b, hb, rfl⟩, fun k' u hu => ?_, rfl⟩
        obtain ⟨u', hu', e1, e2, e3, e4⟩ := hle.tk k q q1
        by_cases hk : k' = k
        · subst hk
          rw [hu'] at hu
          cases hu
          exact ⟨_, z0zf, e1.symm, e2.symm, e3.symm, by rw [e4]; exact w2⟩
        · exact ⟨u, by rw [z15d hk]; exact hu, rfl, rfl, rfl, rfl⟩
      · intro k' u hu ho
        rcases z0ba hu with ⟨_, rfl⟩ | ⟨_, hu⟩
        · refine ⟨t'.w, _, true, l'.set q.i.toNat v2, ao, by rw [hp]; rfl, ?_⟩
          unfold getI
          rw [if_pos hi0, List.getElem?_set_self hilt]
        · exact R1.tok k' u hu ho
    · cases h
  · cases h
end
end Go.Am
end
section
namespace Go.Am
open Go
variable {E : Option FP}
def LK.zd : (k : LK) → k.den
  | .I => (0 : Int)
  | .B => false
  | .Y => (0 : Int)
  | .S _ => []
def zHL : (ks : List LK) → HL ks
  | [] => ()
  | k :: ks => (k.zd, zHL ks)
def Ty.zd : (t : Ty) → t.den
  | .I => (0 : Int)
  | .B => false
  | .Y => (0 : Int)
  | .s n => n.mk (zHL n.lay)
  | .sl _ => []
theorem z0i4 (o : Bool) : ∀ (ks : List LK), Zeros (ks.map LK.zv) ((lvs o ks (zHL ks)).map Lf.cell)
  | [] => .nil
  | k :: ks => by
    simp only [List.map_cons, lvs, zHL]
    cases k with
    | S t => exact .sl (z0i4 o ks)
    | _ => exact .lit (z0i4 o ks)
theorem z252 (t : Ty) (o : Bool) : Zeros t.zv (t.cells o t.zd) := by
  rw [← Ty.out_cell]
  cases t with
  | s n => simp only [Ty.out, Ty.zd, SN.un_mk]; exact z0i4 o n.lay
  | sl t => exact z0i4 o [.S t]
  | I => exact z0i4 o [.I]
  | B => exact z0i4 o [.B]
  | Y => exact z0i4 o [.Y]
def sameO : Operand → Operand → Bool
  | .tmp a, .tmp b => Nat.beq a b
  | .const (.int .i64 a), .const (.int .i64 b) => decide (a = b)
  | _, _ => false
theorem z24o : ∀ {x y : Operand}, sameO x y = true → x = y := by
  intro x y h
  unfold sameO at h
  split at h
  · rw [Nat.eq_of_beq_eq_true h]
  · rw [of_decide_eq_true h]
  · cases h
def x_mks {ρ : Type} (c : Cx) (d : Nat) (t : TypeId) (x y : Operand) (st : XSt) (K : Kt ρ) : Option ρ :=
  match look c.tt t with
  | some (.sl e) => (opd st x).bind fun tx => (intv tx).bind fun m => bif sameO x y && (Nat.blt d c.n && !(st.usd d)) then
      gd ((0 : Int) ≤ m ∧ m ≤ (1000000000 : Int)) (upK [.put d (.arr e (List.replicate m.toNat e.zd) true), .set d (.ref d)] [.opd x (tx.av st.nm), .opd y (tx.av st.nm), .fresh d] st K) else none
  | _ => none
def isShv : TV → Bool
  | .l (.s _ _ _) => true
  | _ => false
def bldR (st : XSt) (o : Bool) (e : Ty) : List TV → Option (List e.den × (Objs × List (List TV)))
  | [] => some ([], [], [])
  | tv :: tvs => (csT tv).bind fun cs => (absL st cs (e.out o e.zd)).bind fun a => bif Nat.beq cs.length e.w && !(a.1.any Lf.isNl) then
      (e.inn o a.1).bind fun v => (bldR st o e tvs).bind fun b => bif a.2.all fun p => b.2.1.all fun q => !Nat.beq q.1 p.1 then some (v :: b.1, a.2 ++ b.2.1, cs :: b.2.2) else none
      else none
def beqL : List Nat → List Nat → Bool
  | [], [] => true
  | x :: xs, y :: ys => Nat.beq x y && beqL xs ys
  | _, _ => false
theorem z225 : ∀ {a b : List Nat}, beqL a b = true → a = b
  | [], [], _ => rfl
  | x :: xs, y :: ys, h => by
    simp only [beqL, Bool.and_eq_true] at h
    rw [Nat.eq_of_beq_eq_true h.1, z225 h.2]
  | [], _ :: _, h => by cases h
  | _ :: _, [], h => by cases h
def x_bls {ρ : Type} (c : Cx) (d : Nat) (t : TypeId) (len : Nat) (parts : List (Nat × Operand)) (st : XSt) (K : Kt ρ) : Option ρ :=
  match look c.tt t with
  | some (.sl e) => bif Nat.blt d c.n && !(st.usd d) then
      (match len, parts with
      | 0, [] => upK [.put d (.emp e), .set d (.ref d)] [.fresh d] st K
      | _, _ => (opdL st (parts.map (·.2))).bind fun tvs => bif st.liv (tidsL st.nm tvs) then
          (match !(tvs.any fun tv => ((csT tv).getD []).any isShv) with
          | o => (bldR st o e tvs).bind fun b => bif beqL (parts.map (·.1)) (List.range len) && (Nat.blt 0 len && (Nat.beq tvs.length len && Nat.ble (len * e.w) 16777216)) then
              upK (b.2.1.map (fun p => .del p.1) ++ [.put d (.arr e b.1 o), .set d (.ref d)]) (opds (parts.map (·.2)) (avL st.nm tvs) ++ (.fresh d :: (objReqs b.2.1 ++ lives (tidsL st.nm tvs)))) st K else none)
          else none) else none
  | _ => none
structure ApV (e : Ty) where
  l : List e.den
  o : Option Bool
  id : Option Nat
  sh : Bool
def apv (st : XSt) (e : Ty) : TV → Option (ApV e)
  | .l .nl => some ⟨[], none, none, false⟩
  | .l (.s false t l) => (t.cast e l).bind fun l => some ⟨l, some false, none, true⟩
  | .ref id => match look st.obj id with
    | some (.arr t l o) => (t.cast e l).bind fun l => some ⟨l, some o, some id, false⟩
    | some (.emp t) => bif Nat.beq t.w e.w then some ⟨[], none, some id, false⟩ else none
    | _ => none
  | _ => none
def mrg (hs : Bool) (a b : Option Bool) : Option Bool :=
  bif hs then (match a, b with
    | none, none => some true
    | some a, none => some a
    | none, some b => some b
    | some a, some b => bif a == b then some a else none) else some true
def ApV.ids {e : Ty} (a : ApV e) : List Nat := match a.id with | some id => [id] | none => []
def ApV.os {e : Ty} (a : ApV e) (o : Bool) : Objs := match a.id with | some id => [(id, e.w, a.l.map (e.cells o))] | none => []
def x_app {ρ : Type} (c : Cx) (d : Nat) (t tx : TypeId) (x y : Operand) (st : XSt) (K : Kt ρ) : Option ρ :=
  match look c.tt t, look c.tt tx with
  | some (.sl e), some (.sl _) => (opd st x).bind fun vx => (opd st y).bind fun vy => (apv st e vx).bind fun a => (apv st e vy).bind fun b => (mrg e.hasS a.o b.o).bind fun o =>
      bif !a.sh && (Nat.blt d c.n && (!(st.usd d) && a.ids.all fun p => b.ids.all fun q => !Nat.beq p q)) then
        gd (a.l.length + b.l.length ≤ SMALL) (upK ((a.ids ++ b.ids).map (fun i => .del i) ++ [.put d (.arr e (a.l ++ b.l) o), .set d (.ref d)])
          (.opd x (vx.av st.nm) :: .opd y (vy.av st.nm) :: .fresh d :: (objReqs (a.os o ++ b.os o) ++ [])) st K) else none
  | _, _ => none
def mpOf (st : XSt) (id : Nat) : Option (List Int) :=
  match look st.obj id with
  | some (.mp ks) => some ks
  | _ => none
def x_mkm {ρ : Type} (c : Cx) (d : Nat) (st : XSt) (K : Kt ρ) : Option ρ :=
  bif Nat.blt d c.n && !(st.usd d) then upK [.put d (.mp []), .set d (.bx d 0)] [.fresh d] st K else none
def x_upd {ρ : Type} (c : Cx) (t : TypeId) (x y z : Operand) (st : XSt) (K : Kt ρ) : Option ρ :=
  bif c.mt.any (Nat.beq t) then (opd st x).bind fun tx => (opd st y).bind fun ty => (opd st z).bind fun tz => (intv ty).bind fun i => (knownv st.nm tz).bind fun v => bif v then
    (match tx with
    | .bx id 0 => (mpOf st id).bind fun ks => upK [.put id (.mp (insKey ks i))] [.opd x (tx.av st.nm), .opd y (ty.av st.nm), .opd z (tz.av st.nm), .obj id (.mp ks)] st K
    | _ => none) else none else none
def x_lkp {ρ : Type} (c : Cx) (d : Nat) (t : TypeId) (x y : Operand) (st : XSt) (K : Kt ρ) : Option ρ :=
  bif c.mt.any (Nat.beq t) then (opd st x).bind fun tx => (opd st y).bind fun ty => (intv ty).bind fun i =>
    (match tx with
    | .bx id 0 => (mpOf st id).bind fun ks => withB (decide (i ∈ ks)) st fun st1 tv => setK c d st1 tv [.opd x (tx.av st.nm), .opd y (ty.av st.nm), .obj id (.mp ks)] K
    | _ => none) else none
section
variable {st : XSt} {ac : St}
theorem z227 (hR : Rf E st ac) {o : Bool} {e : Ty} : ∀ {tvs : List TV} {b : List e.den × (Objs × List (List TV))}, bldR st o e tvs = some b → dfnL st.nm tvs = true →
    AbsorbL e.w (avL st.nm tvs) (b.1.map (e.cells o)) b.2.1 (b.2.2.map (avL st.nm)) ∧ (∀ p ∈ b.2.1, ac.obj p.1 = some (.arr p.2.1 p.2.2)) ∧ b.1.length = tvs.length
  | [], _, h, _ => by cases h; exact ⟨.nil, (fun p hp => (by cases hp)), rfl⟩
  | tv :: tvs, _, h, hd => by
    simp only [dfnL, Bool.and_eq_true] at hd
    obtain ⟨cs, h1, h⟩ := bnd h
    obtain ⟨a, h2, h⟩ := bnd h
    obtain ⟨h3, h⟩ := bif_t h
    simp only [Bool.and_eq_true, Bool.not_eq_true'] at h3
    obtain ⟨v, h4, h⟩ := bnd h
    obtain ⟨b, h5, h⟩ := bnd h
    obtain ⟨h6, h⟩ := bif_t h
    cases h
    obtain ⟨i1, i2, i3⟩ := z227 hR h5 hd.2
    obtain ⟨c1, c2⟩ := z20d h1 hd.1
    obtain ⟨a1, a2⟩ := z1fm hR h2
    have hx := z09h h4 h3.2
    rw [← hx, Ty.out_cell] at a1
    refine ⟨.cons c1 (by rw [z0da]; exact h3.1) (by rw [e.row.len]; simp) a1 i1 h6, fun p hp => (List.mem_append.1 hp).elim (a2 p) (i2 p), by simp only [List.length_cons, i3]⟩
theorem z1x3 {e : Ty} {o no : Bool} (h : e.hasS = false ∨ o = no) : e.cells o = e.cells no := h.elim (fun h => z0tv h _ _) (fun h => by rw [h])
theorem z25a (hR : Rf E st ac) {e : Ty} {tv : TV} {a : ApV e} (h : apv st e tv = some a) {no : Bool} (hf : e.hasS = false ∨ ∀ o, a.o = some o → o = no) :
    SlOf (tv.av st.nm) (!a.sh) e.w (a.l.map (e.cells no)) (a.os no) ∧ ∀ p ∈ a.os no, ac.obj p.1 = some (.arr p.2.1 p.2.2) := by
  have no0 : ∀ p ∈ ([] : Objs), ac.obj p.1 = some (.arr p.2.1 p.2.2) := fun p hp => (by cases hp)
  unfold apv at h
  split at h
  · cases h; exact ⟨.nil, no0⟩
  · obtain ⟨l', h1, h⟩ := bnd h
    cases h
    obtain ⟨e1, rfl⟩ := Ty.cast_some h1
    subst e1
    refine ⟨?_, no0⟩
    simp only [TV.av, Lf.cell]
    rw [z1x3 (hf.imp id fun h => h false rfl)]
    exact .sh
  · split at h
    · rename_i hob
      obtain ⟨l', h1, h⟩ := bnd h
      cases h
      obtain ⟨e1, rfl⟩ := Ty.cast_some h1
      subst e1
      have ho := (hR.obj _ _ hob).2
      simp only [TO.ob] at ho
      rw [z1x3 (hf.imp id fun h => h _ rfl)] at ho
      exact ⟨.ref, fun p hp => by simp [ApV.os] at hp; subst hp; exact ho⟩
    · rename_i hob
      obtain ⟨h1, h⟩ := bif_t h
      cases h
      have ho := (hR.obj _ _ hob).2
      simp only [TO.ob] at ho
      rw [Nat.eq_of_beq_eq_true h1] at ho
      exact ⟨.ref, fun p hp => by simp [ApV.os] at hp; subst hp; exact ho⟩
    · cases h
  · cases h
theorem ApV.os_ids {e : Ty} (a : ApV e) (o : Bool) : (a.os o).map (·.1) = a.ids := by
  unfold ApV.os ApV.ids; cases a.id <;> rfl
theorem mrg_l {hs : Bool} {a b : Option Bool} {o : Bool} (h : mrg hs a b = some o) : (hs = false ∨ ∀ p, a = some p → p = o) ∧ (hs = false ∨ ∀ p, b = some p → p = o) := by
  unfold mrg at h
  cases hs with
  | false => exact ⟨.inl rfl, .inl rfl⟩
  | true =>
    simp only [cond_true] at h
    split at h
    · exact ⟨.inr (fun p hp => (by cases hp)), .inr (fun p hp => (by cases hp))⟩
    · cases h; exact ⟨.inr fun p hp => by cases hp; rfl, .inr (fun p hp => (by cases hp))⟩
    · cases h; exact ⟨.inr (fun p hp => (by cases hp)), .inr fun p hp => by cases hp; rfl⟩
    · obtain ⟨h1, h⟩ := bif_t h
      cases h
      rw [beq_iff_eq] at h1
      exact ⟨.inr fun p hp => by cases hp; rfl, .inr fun p hp => by cases hp; exact h1.symm⟩
end
section
variable {ρ : Type} {c : Cx} {d : Nat} {st : XSt} {K : Kt ρ} {r : ρ} {ac : St} {ty : TypeId} {pos : String} {after : Array Edge} {g : Option (Nat × Bool)} {x y z : Operand} {t : TypeId}
theorem z21y (hc : c.Ok) (hR : Rf c.fp st ac) (h : x_mks c d t x y st K = some r) : Snd c ⟨some d, .makeSlice t x y, ty, pos, after, g⟩ ac K r := by
  unfold x_mks at h
  split at h
  · rename_i e ht
    obtain ⟨et, bytes, e1, e2, e3, e4, e5⟩ := (hc.ty _ _ ht).und
    obtain ⟨tx, h1, h⟩ := bnd h
    obtain ⟨m, h2, h⟩ := bnd h
    obtain ⟨h3, h⟩ := bif_t h
    simp only [Bool.and_eq_true, Bool.not_eq_true'] at h3
    obtain ⟨g1, h⟩ := gd_some h
    have hxy := z24o h3.1
    subst hxy
    refine z0rg hR (fun u hu => ?_) ?_ (so' hR h1 (so' hR h1 (sf' hR h3.2.2 sn))) h
    · simp only [List.mem_cons, List.not_mem_nil, or_false] at hu
      rcases hu with rfl | rfl <;> rfl
    · rw [z0ch h2]
      exact z1l7 e3 e5 (z252 e true) g1 e4 (lb h3.2.1) repG
  · cases h
theorem z21q {len : Nat} {parts : List (Nat × Operand)} (hc : c.Ok) (hR : Rf c.fp st ac) (h : x_bls c d t len parts st K = some r) : Snd c ⟨some d, .buildSlice t len parts.toArray, ty, pos, after, g⟩ ac K r := by
  unfold x_bls at h
  split at h
  · rename_i e ht
    obtain ⟨et, bytes, e1, e2, e3, e4, e5⟩ := (hc.ty _ _ ht).und
    obtain ⟨h3, h⟩ := bif_t h
    simp only [Bool.and_eq_true, Bool.not_eq_true'] at h3
    split at h
    · refine z0rg hR (fun u hu => ?_) ?_ (sf' hR h3.2 sn) h
      · simp only [List.mem_cons, List.not_mem_nil, or_false] at hu
        rcases hu with rfl | rfl <;> rfl
      · exact z1f6 e3 (lb h3.1)
    · obtain ⟨tvs, h1, h⟩ := bnd h
      obtain ⟨h2, h⟩ := bif_t h
      obtain ⟨b, h5, h⟩ := bnd h
      obtain ⟨h6, h⟩ := bif_t h
      simp only [Bool.and_eq_true] at h6
      obtain ⟨p1, p2, p3, p4⟩ := h6
      obtain ⟨o1, o2, o3⟩ := z1ld hR h1
      obtain ⟨i1, i2, i3⟩ := z227 hR h5 o2
      refine z0rg hR (fun u hu => ?_) ?_ (z0wd o1 (sf' hR h3.2 (z1fh i2 (sl' hR h2)))) h
      · rcases List.mem_append.1 hu with hu | hu
        · obtain ⟨p, _, rfl⟩ := List.mem_map.1 hu; rfl
        · simp only [List.mem_cons, List.not_mem_nil, or_false] at hu
          rcases hu with rfl | rfl <;> rfl
      · rw [← z0fp st.nm hR.fpi tvs o2]
        have := z1f7 (P := c.P) (n := c.n) (d := d) (ty := ty) (pos := pos) (after := after) (g := g) e3 (z225 p1) (by simpa using o3) i1 (by rw [List.length_map, i3]; exact Nat.eq_of_beq_eq_true p3) p2 p4 (lb h3.1)
        simpa only [List.map_append, List.map_map, dels, List.map_cons, List.map_nil, TU.up, TO.ob, Function.comp_def, TV.av] using this
  · cases h
theorem z21o {tx : TypeId} (hc : c.Ok) (hR : Rf c.fp st ac) (h : x_app c d t tx x y st K = some r) : Snd c ⟨some d, .call ⟨.builtin .append, #[x, y], #[t, tx]⟩, ty, pos, after, g⟩ ac K r := by
  unfold x_app at h
  split at h
  · rename_i e e' ht htx
    obtain ⟨et, bytes, e1, e2, e3, e4, e5⟩ := (hc.ty _ _ ht).und
    obtain ⟨et', _, f1, _⟩ := (hc.ty _ _ htx).und
    obtain ⟨vx, h1, h⟩ := bnd h
    obtain ⟨vy, h2, h⟩ := bnd h
    obtain ⟨a, h3, h⟩ := bnd h
    obtain ⟨b, h4, h⟩ := bnd h
    obtain ⟨o, h5, h⟩ := bnd h
    obtain ⟨h6, h⟩ := bif_t h
    simp only [Bool.and_eq_true, Bool.not_eq_true'] at h6
    obtain ⟨p1, p2, p3, p4⟩ := h6
    obtain ⟨g1, h⟩ := gd_some h
    obtain ⟨m1, m2⟩ := mrg_l h5
    obtain ⟨a1, a2⟩ := z25a hR h3 m1
    obtain ⟨b1, b2⟩ := z25a hR h4 m2
    rw [p1] at a1
    have hab : ∀ p ∈ a.os o ++ b.os o, ac.obj p.1 = some (.arr p.2.1 p.2.2) := fun p hp => (List.mem_append.1 hp).elim (a2 p) (b2 p)
    refine z0rg hR (fun u hu => ?_) ?_ (so' hR h1 (so' hR h2 (sf' hR p3 (z1fh hab sn)))) h
    · rcases List.mem_append.1 hu with hu | hu
      · obtain ⟨p, _, rfl⟩ := List.mem_map.1 hu; rfl
      · simp only [List.mem_cons, List.not_mem_nil, or_false] at hu
        rcases hu with rfl | rfl <;> rfl
    · have hdis : ((a.os o).all fun p => (b.os o).all fun q => !Nat.beq p.1 q.1) = true := by
        refine List.all_eq_true.2 fun p hp => List.all_eq_true.2 fun q hq => ?_
        have hp' : p.1 ∈ a.ids := by rw [← a.os_ids o]; exact List.mem_map.2 ⟨p, hp, rfl⟩
        have hq' : q.1 ∈ b.ids := by rw [← b.os_ids o]; exact List.mem_map.2 ⟨q, hq, rfl⟩
        exact List.all_eq_true.1 (List.all_eq_true.1 p4 _ hp') _ hq'
      have := z1yf (P := c.P) (n := c.n) (d := d) (ty := ty) (pos := pos) (after := after) (g := g) (x := x) (y := y) e3 f1 a1 b1 hdis (okAll (e.row.rok o b.l)) e4 (lenG g1) (lb p2) appG
      have e6 : (a.os o ++ b.os o).map (·.1) = a.ids ++ b.ids := by rw [List.map_append, a.os_ids, b.os_ids]
      rw [e6] at this
      simpa only [List.map_append, List.map_map, dels, List.map_cons, List.map_nil, TU.up, TO.ob, Function.comp_def, TV.av] using this
  · cases h
theorem z1xw (hR : Rf E st ac) {id : Nat} {ks : List Int} (h : mpOf st id = some ks) : ac.obj id = some (.mp ks) := by
  unfold mpOf at h
  split at h
  · rename_i hk; cases h; exact (hR.obj _ _ hk).2
  · cases h
theorem z21x (hR : Rf c.fp st ac) (h : x_mkm c d st K = some r) : Snd c ⟨some d, .makeMap t none, ty, pos, after, g⟩ ac K r := by
  obtain ⟨h3, h⟩ := bif_t h
  simp only [Bool.and_eq_true, Bool.not_eq_true'] at h3
  refine z0rg hR (fun u hu => ?_) (z1yk (lb h3.1)) (sf' hR h3.2 sn) h
  simp only [List.mem_cons, List.not_mem_nil, or_false] at hu
  rcases hu with rfl | rfl <;> rfl
theorem z1sw {o : Op} (ho : o = .mapUpdate t x y z ∨ o = .insert t x y z) (hc : c.Ok) (hR : Rf c.fp st ac) (h : x_upd c t x y z st K = some r) : Snd c ⟨none, o, ty, pos, after, g⟩ ac K r := by
  obtain ⟨h0, h⟩ := bif_t h
  obtain ⟨tt, ht, he⟩ := List.any_eq_true.1 h0
  have he' := Nat.eq_of_beq_eq_true he
  subst he'
  obtain ⟨kt, et, m1, m2, m3⟩ := hc.mt _ ht
  obtain ⟨tx, h1, h⟩ := bnd h
  obtain ⟨tz, h2, h⟩ := bnd h
  obtain ⟨tw, h3, h⟩ := bnd h
  obtain ⟨i, h4, h⟩ := bnd h
  obtain ⟨v, h5, h⟩ := bnd h
  obtain ⟨h6, h⟩ := bif_t h
  subst h6
  have hw := z0vi hR h5
  split at h
  · rename_i hx
    have hh := bnd h; clear h; obtain ⟨ks, h7, h⟩ := hh
    refine z0rg hR (fun u hu => ?_) ?_ (so' hR h1 (so' hR h2 (so' hR h3 (sb (z1xw hR h7) sn)))) h
    · simp only [List.mem_cons, List.not_mem_nil, or_false] at hu
      subst hu; rfl
    · rw [z0ch h4, hw]
      exact z214 m1 m2 ho
  · cases h
theorem z21w (hc : c.Ok) (hR : Rf c.fp st ac) (h : x_lkp c d t x y st K = some r) : Snd c ⟨some d, .lookup t x y false, ty, pos, after, g⟩ ac K r := by
  obtain ⟨h0, h⟩ := bif_t h
  obtain ⟨tt, ht, he⟩ := List.any_eq_true.1 h0
  have he' := Nat.eq_of_beq_eq_true he
  subst he'
  obtain ⟨kt, et, m1, m2, m3⟩ := hc.mt _ ht
  obtain ⟨tx, h1, h⟩ := bnd h
  obtain ⟨tz, h2, h⟩ := bnd h
  obtain ⟨i, h4, h⟩ := bnd h
  split at h
  · have hh := bnd h; clear h; obtain ⟨ks, h7, h⟩ := hh
    obtain ⟨st1, k, a1, a2, a3, _, _, h⟩ := z07j hR h
    refine z08s a1 a3 (fun hn => ?_) (so' hR h1 (so' hR h2 (sb (z1xw hR h7) sn))) h
    rw [z0ch h4]
    exact z213 m1 m2 m3 hn
  · cases h
end
end Go.Am
end
section
namespace Go.Am
open Go
variable {P : Program} {E : Option FP}
structure DV where
  t : Ty
  v : t.den
inductive PT where
  | v (t : Ty) (o : Bool)
  | ptr (t : Ty) (o : Bool)
  | pts (t : Ty)
  | fn (t : Ty)
abbrev PT.den : PT → Type
  | .v t _ => t.den
  | .ptr t _ => t.den
  | .pts t => t.den
  | .fn t => t.den → Option Bool
abbrev HP : List PT → Type
  | [] => Unit
  | p :: r => p.den × HP r
abbrev HT : List Ty → Type
  | [] => Unit
  | t :: r => t.den × HT r
abbrev HR : List Ty → Type
  | [] => Unit
  | [t] => t.den
  | t :: u :: r => t.den × HR (u :: r)
def hrs : (ts : List Ty) → HR ts → List DV
  | [], _ => []
  | [t], x => [⟨t, x⟩]
  | t :: u :: r, x => ⟨t, x.1⟩ :: hrs (u :: r) x.2
theorem z1ip : ∀ (ts : List Ty) (z : HR ts), (hrs ts z).length = ts.length
  | [], _ => rfl
  | [_], _ => rfl
  | t :: u :: r, z => by simp only [hrs, List.length_cons, z1ip (u :: r)]
abbrev PT.ty : PT → Ty
  | .v t _ => t
  | .ptr t _ => t
  | .pts t => t
  | .fn t => t
structure Con where
  f : FuncId
  ps : List PT
  rs : List (Ty × Bool)
  bs : List (Nat × PT)
  M : HP ps → Option (HR (rs.map (·.1) ++ bs.map (·.2.ty)))
def PArg (P : Program) : (p : PT) → p.den → Arg → Prop
  | .v t o, x, a => a = argV t o x
  | .ptr t o, x, a => a = .c (.bx (t.cells o x))
  | .pts t, x, a => a = .pts (t.cells false x)
  | .fn t, q, a => ∃ f caps, a = .fn f caps ∧ FnOk P f ∧ plainArgs caps = true ∧ ∀ x y, q x = some y → FnB P f (argV t false x :: caps) [.c (cB y)] []
def PArgs (P : Program) : (ps : List PT) → HP ps → List Arg → Prop
  | [], _, ags => ags = []
  | p :: ps, x, ags => ∃ a r, ags = a :: r ∧ PArg P p x.1 a ∧ PArgs P ps x.2 r
def resA : List (Ty × Bool) → List DV → List Arg
  | p :: ps, v :: vs => argV v.t p.2 v.v :: resA ps vs
  | _, _ => []
def backA : PT → DV → Arg
  | .ptr _ o, v => .c (.bx (v.t.cells o v.v))
  | _, v => argV v.t true v.v
def bksA : List (Nat × PT) → List DV → List (Nat × Arg)
  | b :: bs, v :: vs => (b.1, backA b.2 v) :: bksA bs vs
  | _, _ => []
def Con.dvs (k : Con) (z : HR (k.rs.map (·.1) ++ k.bs.map (·.2.ty))) : List DV := hrs _ z
def Con.Ok (P : Program) (k : Con) : Prop :=
  FnOk P k.f ∧ ∀ x ags z, PArgs P k.ps x ags → k.M x = some z → FnB P k.f ags (resA k.rs ((k.dvs z).take k.rs.length)) (bksA k.bs ((k.dvs z).drop k.rs.length))
structure FCon where
  f : FuncId
  t : Ty
  cs : List Ty
  M : t.den → HT cs → Option Bool
def capA : (cs : List Ty) → HT cs → List Arg
  | [], _ => []
  | t :: cs, x => .pts (t.cells false x.1) :: capA cs x.2
def FCon.Ok (P : Program) (k : FCon) : Prop := FnOk P k.f ∧ ∀ z cv y, k.M z cv = some y → FnB P k.f (argV k.t false z :: capA k.cs cv) [.c (cB y)] []
def objAt (st : XSt) (id : Nat) : Obj :=
  match look st.obj id with
  | some o => o.ob st.nm
  | none => .mp []
def obsOf (st : XSt) (ids : List Nat) : Obs := ids.map fun id => (id, objAt st id)
def apt (a b : List Nat) : Bool := a.all fun p => b.all fun q => !Nat.beq p q
theorem z1f4 (st : XSt) (a b : List Nat) : obsOf st (a ++ b) = obsOf st a ++ obsOf st b := List.map_append
theorem z0tt {st : XSt} {a b : List Nat} (h : apt a b = true) : noCommon (obsOf st a) (obsOf st b) = true := by
  refine List.all_eq_true.2 fun p hp => List.all_eq_true.2 fun q hq => ?_
  obtain ⟨i, hi, rfl⟩ := List.mem_map.1 hp
  obtain ⟨j, hj, rfl⟩ := List.mem_map.1 hq
  exact List.all_eq_true.1 (List.all_eq_true.1 h i hi) j hj
abbrev G3 (α : Type) := α × (List Nat × List Nat)
def givC (st : XSt) (o : Bool) : TV → Option (G3 Lf)
  | .l .nl => some (.nl, [], [])
  | .l (.s f t l) => bif f || o then none else some (.s false t l, [], [])
  | .l (.i n) => some (.i n, [], [])
  | .l (.y n) => some (.y n, [], [])
  | .l (.b n) => some (.b n, [], [])
  | .kb v => some (.b v, [], [])
  | .b k n => (boolv st.nm (.b k n)).bind fun v => some (.b v, [], [])
  | .ref id => (arrOf st id).bind fun a => bif o then (bif a.o || !a.t.hasS then some (.s true a.t a.l, [], [id]) else none) else some (.s false a.t a.l, [id], [])
  | .rp k j => (tokOf st k).bind fun t => bif !o && (look st.obj t.id).isSome then (match (t.t.out t.o t.v)[j]? with
    | some (.s _ t2 l2) => some (.s false t2 l2, [t.id], [])
    | _ => none) else none
  | _ => none
def givR (st : XSt) (o : Bool) : List TV → Option (G3 (List Lf))
  | [] => some ([], [], [])
  | tv :: tvs => (givC st o tv).bind fun a => (givR st o tvs).bind fun b => bif apt a.2.2 b.2.2 then some (a.1 :: b.1, a.2.1 ++ b.2.1, a.2.2 ++ b.2.2) else none
def yv : TV → Option Int
  | .l (.y n) => some n
  | _ => none
def givS (st : XSt) (n : SN) (o : Bool) : TV → Option (G3 n.den)
  | .row xs => bif xs.any Lf.own then none else ((Ty.s n).inn o xs).bind fun x => some (x, [], [])
  | .agg ys => (givR st o ys).bind fun a => ((Ty.s n).inn o a.1).bind fun x => some (x, a.2)
  | _ => none
def givV (st : XSt) : (t : Ty) → Bool → TV → Option (G3 t.den)
  | .I, _, tv => (intv tv).bind fun n => some (n, [], [])
  | .B, _, tv => (boolv st.nm tv).bind fun n => some (n, [], [])
  | .Y, _, tv => (yv tv).bind fun n => some (n, [], [])
  | .sl t, o, tv => (givC st o tv).bind fun a => ((Ty.sl t).inn o [a.1]).bind fun x => some (x, a.2)
  | .s n, o, tv => givS st n o tv
def givT (st : XSt) (t : Ty) : TV → Option (t.den × List Nat)
  | .pts xs => bif xs.any Lf.own || xs.any Lf.isNl then none else (t.inn false xs).bind fun x => some (x, [])
  | .bx id 0 => (boxOf st id).bind fun ys => (givR st false ys).bind fun a => (t.inn false a.1).bind fun x => bif a.2.2.isEmpty then some (x, id :: a.2.1) else none
  | _ => none
def givH (st : XSt) : (cs : List Ty) → List TV → Option (HT cs × List Nat)
  | [], [] => some ((), [])
  | t :: cs, tv :: tvs => (givT st t tv).bind fun a => (givH st cs tvs).bind fun b => some ((a.1, b.1), a.2 ++ b.2)
  | _, _ => none
def fcOf (l : List FCon) (f : FuncId) : Option FCon :=
  match l with
  | [] => none
  | k :: r => bif Nat.beq k.f f then some k else fcOf r f
def givF (fc : List FCon) (st : XSt) (t : Ty) : TV → Option ((t.den → Option Bool) × List Nat)
  | .fp => match st.nm.fp with
    | some q => if h : q.t = t then some (h ▸ q.f, []) else none
    | none => none
  | .fn f caps => (fcOf fc f).bind fun k => (givH st k.cs caps).bind fun a => if h : k.t = t then some ((h ▸ fun z => k.M z a.1), a.2) else none
  | _ => none
def givP (fc : List FCon) (st : XSt) : (p : PT) → TV → Option (G3 p.den)
  | .v t o, tv => givV st t o tv
  | .ptr t o, .bx id 0 => (boxOf st id).bind fun ys => (givR st o ys).bind fun a => (t.inn o a.1).bind fun x => bif a.2.1.isEmpty && apt [id] a.2.2 then some (x, [], id :: a.2.2) else none
  | .ptr _ _, _ => none
  | .pts t, tv => (givT st t tv).bind fun a => some (a.1, a.2, [])
  | .fn t, tv => (givF fc st t tv).bind fun a => some (a.1, a.2, [])
def givA (fc : List FCon) (st : XSt) : (ps : List PT) → List TV → Option (G3 (HP ps))
  | [], [] => some ((), [], [])
  | p :: ps, tv :: tvs => (givP fc st p tv).bind fun a => (givA fc st ps tvs).bind fun b => bif apt a.2.2 b.2.2 then some ((a.1, b.1), a.2.1 ++ b.2.1, a.2.2 ++ b.2.2) else none
  | _, _ => none
section
variable {st : XSt} {ac : St}
theorem z1yd (hR : Rf E st ac) {id : Nat} (h : (look st.obj id).isSome = true) : ac.obj id = some (objAt st id) := by
  unfold objAt
  cases ho : look st.obj id with
  | none => rw [ho] at h; cases h
  | some o => exact (hR.obj _ _ ho).2
theorem z1m2 (hR : Rf E st ac) {id : Nat} {xs : List TV} (h : boxOf st id = some xs) : objAt st id = .box (avL st.nm xs) := by
  unfold boxOf at h; unfold objAt
  split at h
  · rename_i hk; cases h; rw [hk]; rfl
  · cases h
theorem z23b {id : Nat} {a : AR} (h : arrOf st id = some a) : objAt st id = a.ob := by
  unfold arrOf at h; unfold objAt
  split at h
  · rename_i hk; cases h; rw [hk]; rfl
  · rename_i hk; cases h; rw [hk]; rfl
  · cases h
theorem z22i (hR : Rf E st ac) {o : Bool} {tv : TV} {x : Lf} {ls ms : List Nat} (h : givC st o tv = some (x, ls, ms)) {y : Lf} (hy : LfN o x y) : Giv (tv.av st.nm) (.c y.cell) (obsOf st ls) (obsOf st ms) := by
  have lit : ∀ {x y : Lf}, LfN o x y → x.isNl = false → y = x := by
    intro x y h hn
    cases h with
    | same => rfl
    | nil => cases hn
  unfold givC at h
  split at h
  · cases h
    cases hy with
    | same => exact .c rfl
    | nil t => exact .nil
  · rename_i f t l
    cases hf : f || o with
    | true => rw [hf] at h; cases h
    | false =>
      rw [hf] at h
      cases h
      simp only [Bool.or_eq_false_iff] at hf
      obtain ⟨rfl, rfl⟩ := hf
      rw [lit hy rfl]; exact .c rfl
  · cases h; rw [lit hy rfl]; exact .c rfl
  · cases h; rw [lit hy rfl]; exact .c rfl
  · cases h; rw [lit hy rfl]; exact .c rfl
  · cases h; rw [lit hy rfl]; exact .c rfl
  · obtain ⟨v, h1, h⟩ := bnd h
    cases h
    rw [lit hy rfl, z0gr h1]; exact .c rfl
  · rename_i id
    obtain ⟨a, h1, h⟩ := bnd h
    have hat := z23b h1
    cases o with
    | true =>
      simp only [cond_true] at h
      obtain ⟨h2, h⟩ := bif_t h
      cases h
      rw [lit hy rfl]
      have h3 := z0tu hR h1 h2
      rw [z0kf hR h1] at h3
      show Giv (.ref id []) (.c (.sl true a.t.w (a.l.map (a.t.cells true)))) [] [(id, objAt st id)]
      rw [hat, Option.some.inj h3]
      exact .own
    | false =>
      simp only [cond_false] at h
      cases h
      rw [lit hy rfl]
      show Giv (.ref id []) (.c (.sl false a.t.w (a.l.map (a.t.cells false)))) [(id, objAt st id)] []
      rw [hat]
      exact .ref (o := true) (p := []) rfl (a.t.row.rnobox a.o a.l) (a.t.row.rshare a.o a.l)
  · rename_i k j
    have hh := bnd h; clear h; obtain ⟨t, h1, h⟩ := hh
    have hh := bif_t h; clear h; obtain ⟨h2, h⟩ := hh
    simp only [Bool.and_eq_true, Bool.not_eq_true'] at h2
    obtain ⟨ho, h3⟩ := h2
    subst ho
    obtain ⟨q1, q2, q3⟩ := z0tl hR h1
    split at h
    · rename_i o2 t2 l2 hj
      cases h
      rw [lit hy rfl]
      obtain ⟨k0, rows, g1, g2⟩ := Tok.rp q2 hj
      have hat := z1yd hR h3
      rw [g1] at hat
      have ea : (TV.rp k j).av st.nm = .ref t.id (t.p ++ [(t.i.toNat, j)]) := by simp only [TV.av, q1]
      rw [ea]
      show Giv _ (.c (.sl false t2.w (l2.map (t2.cells false)))) [(t.id, objAt st t.id)] []
      rw [← Option.some.inj hat]
      exact .ref g2 (t2.row.rnobox o2 l2) (t2.row.rshare o2 l2)
    · cases h
  · cases h
theorem z1rw (hR : Rf E st ac) {o : Bool} : ∀ {tvs : List TV} {xs : List Lf} {ls ms : List Nat}, givR st o tvs = some (xs, ls, ms) → ∀ {ys : List Lf}, LfNs o xs ys →
    Giv (.agg (avL st.nm tvs)) (.row (ys.map Lf.cell)) (obsOf st ls) (obsOf st ms)
  | [], _, _, _, h, _, hy => by cases h; cases hy; exact .aggNil
  | tv :: tvs, _, _, _, h, _, hy => by
    obtain ⟨⟨x, l1, m1⟩, h1, h⟩ := bnd h
    obtain ⟨⟨xs, l2, m2⟩, h2, h⟩ := bnd h
    obtain ⟨h3, h⟩ := bif_t h
    cases h
    cases hy with
    | cons hy ht =>
      simp only [z1f4]
      exact .aggCons (z22i hR h1 hy) (z1rw hR h2 ht) (z0tt h3)
theorem z26f {o : Bool} {xs ys : List Lf} (h : LfNs o xs ys) : xs.any Lf.own = false → RowN (xs.map Lf.cell) (ys.map Lf.cell) := by
  induction h with
  | nil => intro _; exact .nil
  | cons h t ih =>
    intro hn
    simp only [List.any_cons, Bool.or_eq_false_iff] at hn
    cases h with
    | same => exact .c (Lf.own_plain hn.1) (ih hn.2)
    | nil => exact .nilc (ih hn.2)
theorem z22l (hR : Rf E st ac) {t : Ty} {o : Bool} {tv : TV} {x : t.den} {ls ms : List Nat} (h : givV st t o tv = some (x, ls, ms)) : Giv (tv.av st.nm) (argV t o x) (obsOf st ls) (obsOf st ms) := by
  cases t with
  | I => obtain ⟨n, h1, h⟩ := bnd h; cases h; rw [z0ch h1]; exact .c rfl
  | B => obtain ⟨n, h1, h⟩ := bnd h; cases h; rw [z0gr h1]; exact .c rfl
  | Y =>
    obtain ⟨n, h1, h⟩ := bnd h
    unfold yv at h1
    split at h1
    · cases h1; cases h; exact .c rfl
    · cases h1
  | sl t =>
    obtain ⟨⟨lf, l1, m1⟩, h1, h⟩ := bnd h
    obtain ⟨y, h2, h⟩ := bnd h
    cases h
    cases Ty.inn_out h2 with
    | cons hy _ => exact z22i hR h1 hy
  | s n =>
    replace h : givS st n o tv = some (x, ls, ms) := h
    unfold givS at h
    split at h
    · rename_i xs
      cases ho : xs.any Lf.own with
      | true => rw [ho] at h; cases h
      | false =>
        rw [ho] at h
        obtain ⟨y, h2, h⟩ := bnd h
        cases h
        have := z26f (Ty.inn_out h2) ho
        rw [Ty.out_cell] at this
        exact .rowN this
    · rename_i ys
      obtain ⟨⟨lf, l1, m1⟩, h1, h⟩ := bnd h
      obtain ⟨y, h2, h⟩ := bnd h
      cases h
      have := z1rw hR h1 (Ty.inn_out h2)
      rw [Ty.out_cell] at this
      exact this
    · cases h
end
end Go.Am
end
section
namespace Go.Am
open Go
variable {P : Program} {E : Option FP}
section
variable {st : XSt} {ac : St}
theorem isE {α : Type} {l : List α} (h : l.isEmpty = true) : l = [] := by cases l with | nil => rfl | cons _ _ => cases h
theorem z22k (hR : Rf E st ac) {t : Ty} {tv : TV} {x : t.den} {ls : List Nat} (h : givT st t tv = some (x, ls)) : Giv (tv.av st.nm) (.pts (t.cells false x)) (obsOf st ls) [] := by
  unfold givT at h
  split at h
  · rename_i xs
    cases ho : (xs.any Lf.own || xs.any Lf.isNl) with
    | true => rw [ho] at h; cases h
    | false =>
      rw [ho] at h
      obtain ⟨y, h1, h⟩ := bnd h
      cases h
      simp only [Bool.or_eq_false_iff] at ho
      rw [← Ty.out_cell, z09h h1 ho.2]
      refine .pts (List.all_eq_true.2 fun z hz => ?_)
      obtain ⟨u, hu, rfl⟩ := List.mem_map.1 hz
      refine Lf.own_plain ?_
      cases hw : u.own with
      | false => rfl
      | true => have := List.any_eq_true.2 ⟨u, hu, hw⟩; rw [ho.1] at this; cases this
  · rename_i id
    have hh := bnd h; clear h; obtain ⟨ys, h1, h⟩ := hh
    have hh := bnd h; clear h; obtain ⟨⟨lf, l1, m1⟩, h2, h⟩ := hh
    have hh := bnd h; clear h; obtain ⟨y, h3, h⟩ := hh
    have hh := bif_t h; clear h; obtain ⟨h4, h⟩ := hh
    cases h
    have hm : m1 = [] := isE h4
    subst hm
    have := z1rw hR h2 (Ty.inn_out h3)
    rw [Ty.out_cell] at this
    show Giv _ _ ((id, objAt st id) :: obsOf st l1) []
    rw [z1m2 hR h1]
    exact .bxs this
  · cases h
theorem z22j (hR : Rf E st ac) {f : FuncId} : ∀ {cs : List Ty} {tvs : List TV} {x : HT cs} {ls : List Nat}, givH st cs tvs = some (x, ls) → Giv (.fn f (avL st.nm tvs)) (.fn f (capA cs x)) (obsOf st ls) []
  | [], [], _, _, h => by cases h; exact .fnNil
  | [], _ :: _, _, _, h => by cases h
  | _ :: _, [], _, _, h => by cases h
  | t :: cs, tv :: tvs, _, _, h => by
    obtain ⟨⟨a, l1⟩, h1, h⟩ := bnd h
    obtain ⟨⟨b, l2⟩, h2, h⟩ := bnd h
    cases h
    simp only [z1f4]
    exact .fnCons (z22k hR h1) (z22j hR h2)
theorem z1fq : ∀ (cs : List Ty) (x : HT cs), plainArgs (capA cs x) = true
  | [], _ => rfl
  | t :: cs, x => by simp only [capA, plainArgs, Arg.plain, t.row.plain, z1fq cs, Bool.and_self]
theorem z23o {l : List FCon} {f : FuncId} {k : FCon} (h : fcOf l f = some k) : k ∈ l ∧ k.f = f := by
  induction l with
  | nil => cases h
  | cons q r ih =>
    simp only [fcOf] at h
    cases hb : Nat.beq q.f f with
    | true => rw [hb] at h; cases h; exact ⟨List.mem_cons_self .., Nat.eq_of_beq_eq_true hb⟩
    | false => rw [hb] at h; obtain ⟨h1, h2⟩ := ih h; exact ⟨List.mem_cons_of_mem _ h1, h2⟩
theorem z25p (hR : Rf E st ac) {fc : List FCon} (hfp : ∀ q, E = some q → q.Ok P) (hfc : ∀ k ∈ fc, k.Ok P) {t : Ty} {tv : TV} {q : t.den → Option Bool} {ls : List Nat} (h : givF fc st t tv = some (q, ls)) :
    ∃ a, PArg P (.fn t) q a ∧ Giv (tv.av st.nm) a (obsOf st ls) [] := by
  unfold givF at h
  split at h
  · split at h
    · rename_i p hp
      split at h
      · rename_i e
        cases h
        obtain ⟨fid, caps, g1, g2, g3, g4⟩ := hfp p (hR.fp.symm.trans hp)
        subst e
        refine ⟨_, ⟨fid, caps, rfl, g2, g3, g4⟩, ?_⟩
        simp only [TV.av, hp, FPav, g1]
        exact z134 fid caps g3
      · cases h
    · cases h
  · rename_i f caps
    obtain ⟨k, h1, h⟩ := bnd h
    obtain ⟨⟨cv, l1⟩, h2, h⟩ := bnd h
    obtain ⟨hm, hk⟩ := z23o h1
    obtain ⟨g1, g2⟩ := hfc k hm
    split at h
    · rename_i e
      cases h
      subst e
      subst hk
      exact ⟨_, ⟨k.f, capA k.cs cv, rfl, g1, z1fq _ _, fun z y hz => g2 z cv y hz⟩, z22j hR h2⟩
    · cases h
  · cases h
theorem z25q (hR : Rf E st ac) {fc : List FCon} (hfp : ∀ q, E = some q → q.Ok P) (hfc : ∀ k ∈ fc, k.Ok P) {p : PT} {tv : TV} {x : p.den} {ls ms : List Nat} (h : givP fc st p tv = some (x, ls, ms)) :
    ∃ a, PArg P p x a ∧ Giv (tv.av st.nm) a (obsOf st ls) (obsOf st ms) := by
  unfold givP at h
  split at h
  · exact ⟨_, rfl, z22l hR h⟩
  · rename_i t o id
    have hh := bnd h; clear h; obtain ⟨ys, h1, h⟩ := hh
    have hh := bnd h; clear h; obtain ⟨⟨lf, l1, m1⟩, h2, h⟩ := hh
    have hh := bnd h; clear h; obtain ⟨y, h3, h⟩ := hh
    have hh := bif_t h; clear h; obtain ⟨h4, h⟩ := hh
    cases h
    simp only [Bool.and_eq_true] at h4
    have hm : l1 = [] := isE h4.1
    subst hm
    have := z1rw hR h2 (Ty.inn_out h3)
    rw [Ty.out_cell] at this
    refine ⟨_, rfl, ?_⟩
    have hc := z0tt (st := st) h4.2
    have e : obsOf st [id] = [(id, .box (avL st.nm ys))] := by rw [← z1m2 hR h1]; rfl
    rw [e] at hc
    show Giv _ _ [] ((id, objAt st id) :: obsOf st m1)
    rw [z1m2 hR h1]
    exact .bxm this hc
  · cases h
  · obtain ⟨⟨y, l1⟩, h1, h⟩ := bnd h
    cases h
    exact ⟨_, rfl, z22k hR h1⟩
  · obtain ⟨⟨y, l1⟩, h1, h⟩ := bnd h
    cases h
    exact z25p hR hfp hfc h1
theorem z22h (hR : Rf E st ac) {fc : List FCon} (hfp : ∀ q, E = some q → q.Ok P) (hfc : ∀ k ∈ fc, k.Ok P) : ∀ {ps : List PT} {tvs : List TV} {x : HP ps} {ls ms : List Nat}, givA fc st ps tvs = some (x, ls, ms) →
    ∃ ags, PArgs P ps x ags ∧ GivL (avL st.nm tvs) ags (obsOf st ls) (obsOf st ms)
  | [], [], _, _, _, h => by cases h; exact ⟨[], rfl, .nil⟩
  | [], _ :: _, _, _, _, h => by cases h
  | _ :: _, [], _, _, _, h => by cases h
  | p :: ps, tv :: tvs, _, _, _, h => by
    obtain ⟨⟨a, l1, m1⟩, h1, h⟩ := bnd h
    obtain ⟨⟨b, l2, m2⟩, h2, h⟩ := bnd h
    obtain ⟨h3, h⟩ := bif_t h
    cases h
    obtain ⟨a', i1, i2⟩ := z25q hR hfp hfc h1
    obtain ⟨ags, j1, j2⟩ := z22h hR hfp hfc h2
    simp only [z1f4]
    exact ⟨a' :: ags, ⟨a', ags, rfl, i1, j1⟩, .cons i2 j2 (z0tt h3)⟩
end
def TOs (m : Nm) (l : List (Nat × TO)) : Obs := l.map fun p => (p.1, p.2.ob m)
def openC (i : Nat) : Lf → TV × List (Nat × TO)
  | .s true t l => (.ref i, [(i, .arr t l true)])
  | x => (.l x, [])
def openR (i : Nat) : List Lf → List TV × List (Nat × TO)
  | [] => ([], [])
  | x :: xs => ((openC i x).1 :: (openR (i + 10000) xs).1, (openC i x).2 ++ (openR (i + 10000) xs).2)
def openV (i : Nat) (o : Bool) (v : DV) : TV × List (Nat × TO) :=
  match v with
  | ⟨.I, n⟩ => (.l (.i n), [])
  | ⟨.B, b⟩ => (.l (.b b), [])
  | ⟨.Y, n⟩ => (.l (.y n), [])
  | ⟨.sl t, l⟩ => openC i (.s o t l)
  | ⟨.s n, x⟩ => bif ((Ty.s n).out o x).any Lf.own then (.agg (openR i ((Ty.s n).out o x)).1, (openR i ((Ty.s n).out o x)).2) else (.row ((Ty.s n).out o x), [])
def openVs (i : Nat) : List (Ty × Bool) → List DV → List TV × List (Nat × TO)
  | p :: ps, v :: vs => ((openV i p.2 v).1 :: (openVs (i + 110000) ps vs).1, (openV i p.2 v).2 ++ (openVs (i + 110000) ps vs).2)
  | _, _ => ([], [])
def openT (d : Nat) (rs : List (Ty × Bool)) (vs : List DV) : TV × List (Nat × TO) :=
  match rs, vs with
  | [p], v :: _ => openV d p.2 v
  | p :: q :: rs, v :: w :: vs => (.tup (openVs d (p :: q :: rs) (v :: w :: vs)).1, (openVs d (p :: q :: rs) (v :: w :: vs)).2)
  | _, _ => (.tup [], [])
theorem z12c (m : Nm) (a b : List (Nat × TO)) : TOs m (a ++ b) = TOs m a ++ TOs m b := List.map_append
theorem z1re (a b : Objs) : asObs (a ++ b) = asObs a ++ asObs b := List.map_append
structure OpenOk (m : Nm) (a : TV × List (Nat × TO)) (b : AV × Objs) : Prop where
  av : a.1.av m = b.1
  dfn : a.1.dfn m = true
  obs : asObs b.2 = TOs m a.2
  od : ∀ p ∈ a.2, p.2.dfn m = true
theorem z1ym (m : Nm) (i : Nat) (x : Lf) : OpenOk m (openC i x) (openCell i x.cell) := by
  cases x with
  | s o t l =>
    cases o with
    | true => exact ⟨rfl, rfl, rfl, fun p hp => by simp only [openC, List.mem_cons, List.not_mem_nil, or_false] at hp; subst hp; rfl⟩
    | false => exact ⟨rfl, rfl, rfl, fun p hp => (by cases hp)⟩
  | _ => exact ⟨rfl, rfl, rfl, fun p hp => (by cases hp)⟩
theorem z1fa (m : Nm) : ∀ (xs : List Lf) (i : Nat), avL m (openR i xs).1 = (openRow i (xs.map Lf.cell)).1 ∧ dfnL m (openR i xs).1 = true ∧ asObs (openRow i (xs.map Lf.cell)).2 = TOs m (openR i xs).2 ∧ ∀ p ∈ (openR i xs).2, p.2.dfn m = true
  | [], _ => ⟨rfl, rfl, rfl, fun p hp => (by cases hp)⟩
  | x :: xs, i => by
    obtain ⟨h1, h2, h3, h4⟩ := z1fa m xs (i + 10000)
    obtain ⟨g1, g2, g3, g4⟩ := z1ym m i x
    refine ⟨by simp only [openR, avL, List.map_cons, openRow, h1, g1], by simp only [openR, dfnL, h2, g2]; rfl, ?_, fun p hp => (List.mem_append.1 hp).elim (g4 p) (h4 p)⟩
    simp only [openR, List.map_cons, openRow, z1re, z12c, h3, g3]
theorem z209 {xs : List Lf} : (xs.map Lf.cell).all Cell.plain = !(xs.any Lf.own) := by
  induction xs with
  | nil => rfl
  | cons x xs ih =>
    simp only [List.map_cons, List.all_cons, List.any_cons, ih, Bool.not_or]
    congr 1
    cases x with
    | s o t l => rfl
    | _ => rfl
theorem z1qb (m : Nm) (i : Nat) (o : Bool) (v : DV) : OpenOk m (openV i o v) (openArg i (argV v.t o v.v)) := by
  obtain ⟨t, x⟩ := v
  cases t with
  | I => exact ⟨rfl, rfl, rfl, fun p hp => (by cases hp)⟩
  | B => exact ⟨rfl, rfl, rfl, fun p hp => (by cases hp)⟩
  | Y => exact ⟨rfl, rfl, rfl, fun p hp => (by cases hp)⟩
  | sl t => exact z1ym m i (.s o t x)
  | s n =>
    have e : n.cells o x = ((Ty.s n).out o x).map Lf.cell := ((Ty.s n).out_cell o x).symm
    obtain ⟨h1, h2, h3, h4⟩ := z1fa m ((Ty.s n).out o x) i
    simp only [openV, argV, openArg]
    rw [e, z209]
    cases ha : ((Ty.s n).out o x).any Lf.own with
    | true => exact ⟨by simp only [cond_true, TV.av, h1]; rfl, h2, h3, h4⟩
    | false => exact ⟨rfl, rfl, rfl, fun p hp => (by cases hp)⟩
theorem z1sc (m : Nm) : ∀ (rs : List (Ty × Bool)) (vs : List DV) (i : Nat), avL m (openVs i rs vs).1 = (openArgs i (resA rs vs)).1 ∧ dfnL m (openVs i rs vs).1 = true ∧ asObs (openArgs i (resA rs vs)).2 = TOs m (openVs i rs vs).2 ∧
    ∀ p ∈ (openVs i rs vs).2, p.2.dfn m = true
  | [], _, _ => ⟨rfl, rfl, rfl, fun p hp => (by cases hp)⟩
  | _ :: _, [], _ => ⟨rfl, rfl, rfl, fun p hp => (by cases hp)⟩
  | p :: ps, v :: vs, i => by
    obtain ⟨h1, h2, h3, h4⟩ := z1sc m ps vs (i + 110000)
    obtain ⟨g1, g2, g3, g4⟩ := z1qb m i p.2 v
    refine ⟨by simp only [openVs, avL, resA, openArgs, h1, g1], by simp only [openVs, dfnL, h2, g2]; rfl, ?_, fun p hp => (List.mem_append.1 hp).elim (g4 p) (h4 p)⟩
    simp only [openVs, resA, openArgs, z1re, z12c, h3, g3]
theorem z24d (m : Nm) (d : Nat) (rs : List (Ty × Bool)) (vs : List DV) (h : vs.length = rs.length) : OpenOk m (openT d rs vs) (openRes d (resA rs vs)) := by
  match rs, vs, h with
  | [], [], _ => exact ⟨rfl, rfl, rfl, fun p hp => (by cases hp)⟩
  | [p], [v], _ => exact z1qb m d p.2 v
  | p :: q :: rs, v :: w :: vs, _ =>
    obtain ⟨h1, h2, h3, h4⟩ := z1sc m (p :: q :: rs) (v :: w :: vs) d
    exact ⟨by simp only [openT, TV.av, h1]; rfl, h2, h3, h4⟩
def bkAgg : List TV → List Lf → Option (List (Nat × TO) × List Nat)
  | [], [] => some ([], [])
  | .ref id :: ys, .s true t l :: xs => (bkAgg ys xs).bind fun b => some ((id, .arr t l true) :: b.1, id :: b.2)
  | .l _ :: ys, _ :: xs => bkAgg ys xs
  | .kb _ :: ys, _ :: xs => bkAgg ys xs
  | _, _ => none
def bkT (tv : TV) (i : Nat) (p : PT) (v : DV) : Option (List (Nat × TO) × (List (Nat × TO) × List Nat)) :=
  match p, tv, v with
  | .ptr _ o, .bx id 0, v => some ([(id, .box (openR i (v.t.out o v.v)).1)], (openR i (v.t.out o v.v)).2, [])
  | .v _ _, .ref id, ⟨.sl t, l⟩ => some ([(id, .arr t l true)], [], [id])
  | .v _ _, .agg ys, ⟨.s n, x⟩ => (bkAgg ys ((Ty.s n).out true x)).bind fun b => some (b.1, [], b.2)
  | _, _, _ => none
def bkL (tvs : List TV) : Nat → List (Nat × PT) → List DV → Option (List (Nat × TO) × (List (Nat × TO) × List Nat))
  | _, [], [] => some ([], [], [])
  | i, b :: bs, v :: vs => (tvs[b.1]?).bind fun tv => (bkT tv i b.2 v).bind fun x => (bkL tvs (i + 100000) bs vs).bind fun y => some (x.1 ++ y.1, x.2.1 ++ y.2.1, x.2.2 ++ y.2.2)
  | _, _, _ => none
theorem z23e (m : Nm) (i : Nat) : ∀ {ys : List TV} {xs : List Lf} {b : List (Nat × TO) × List Nat}, bkAgg ys xs = some b → Bk i (.agg (avL m ys)) (.row (xs.map Lf.cell)) (TOs m b.1) [] ∧ ∀ p ∈ b.1, p.2.dfn m = true := by
  intro ys
  induction ys with
  | nil =>
    intro xs b h
    unfold bkAgg at h
    split at h <;> first | contradiction | (cases h; exact ⟨.aggNil, fun p hp => (by cases hp)⟩) | (rename_i h0; cases h0)
  | cons y ys ih =>
    intro xs b h
    unfold bkAgg at h
    split at h
    · rename_i h0; cases h0
    · rename_i h0; cases h0
      obtain ⟨b, h1, h⟩ := bnd h
      cases h
      obtain ⟨i1, i2⟩ := ih h1
      refine ⟨.aggRef i1, fun p hp => ?_⟩
      rcases List.mem_cons.1 hp with rfl | hp
      · rfl
      · exact i2 p hp
    · rename_i h0; cases h0
      obtain ⟨i1, i2⟩ := ih h
      exact ⟨.aggC i1, i2⟩
    · rename_i h0; cases h0
      obtain ⟨i1, i2⟩ := ih h
      exact ⟨.aggC i1, i2⟩
    · cases h
theorem z26s (m : Nm) {tv : TV} {i : Nat} {p : PT} {v : DV} {b : List (Nat × TO) × (List (Nat × TO) × List Nat)} (h : bkT tv i p v = some b) :
    Bk i (tv.av m) (backA p v) (TOs m b.1) (TOs m b.2.1) ∧ (∀ p ∈ b.1, p.2.dfn m = true) ∧ ∀ p ∈ b.2.1, p.2.dfn m = true := by
  unfold bkT at h
  split at h
  · cases h
    rename_i o id
    obtain ⟨h1, h2, h3, h4⟩ := z1fa m (v.t.out o v.v) i
    rw [Ty.out_cell] at h1 h3
    refine ⟨?_, fun p hp => ?_, h4⟩
    · show Bk i (.bx id 0) (.c (.bx (v.t.cells o v.v))) [(id, .box (avL m (openR i (v.t.out o v.v)).1))] _
      rw [h1, ← h3]
      exact .bx
    · simp only [List.mem_cons, List.not_mem_nil, or_false] at hp
      subst hp; exact h2
  · cases h
    exact ⟨.sl, fun p hp => by simp only [List.mem_cons, List.not_mem_nil, or_false] at hp; subst hp; rfl, fun p hp => (by cases hp)⟩
  · obtain ⟨b, h1, h⟩ := bnd h
    cases h
    obtain ⟨i1, i2⟩ := z23e m i h1
    rw [Ty.out_cell] at i1
    exact ⟨i1, i2, fun p hp => (by cases hp)⟩
  · cases h
theorem z25c (m : Nm) {tvs : List TV} : ∀ {bs : List (Nat × PT)} {vs : List DV} {i : Nat} {b : List (Nat × TO) × (List (Nat × TO) × List Nat)}, bkL tvs i bs vs = some b →
    BkL (avL m tvs) i (bksA bs vs) (TOs m b.1) (TOs m b.2.1) ∧ (∀ p ∈ b.1, p.2.dfn m = true) ∧ ∀ p ∈ b.2.1, p.2.dfn m = true
  | [], [], _, _, h => by cases h; exact ⟨.nil, fun p hp => ((by cases hp)), fun p hp => ((by cases hp))⟩
  | [], _ :: _, _, _, h => by cases h
  | _ :: _, [], _, _, h => by cases h
  | b :: bs, v :: vs, i, _, h => by
    obtain ⟨tv, h1, h⟩ := bnd h
    obtain ⟨x, h2, h⟩ := bnd h
    obtain ⟨y, h3, h⟩ := bnd h
    cases h
    obtain ⟨a1, a2, a3⟩ := z26s m h2
    obtain ⟨b1, b2, b3⟩ := z25c m h3
    simp only [z12c]
    exact ⟨.cons (by rw [z0d9, List.getElem?_map, h1]; rfl) a1 b1, fun p hp => (List.mem_append.1 hp).elim (a2 p) (b2 p), fun p hp => (List.mem_append.1 hp).elim (a3 p) (b3 p)⟩
end Go.Am
end
section
namespace Go.Am
open Go
variable {E : Option FP}
def tagK {ρ : Type} (d : Nat) (st : XSt) (K : XSt → Option ρ) : Option ρ :=
  match look st.env d with
  | some (.l (.b v)) => withB v st fun st1 tv => K { st1 with env := (d, tv) :: st1.env }
  | _ => K st
theorem z1zu {ρ : Type} {d : Nat} {st : XSt} {K : XSt → Option ρ} {r : ρ} {ac : St} (hR : Rf E st ac) (h : tagK d st K = some r) : ∃ st1, Rf E st1 ac ∧ K st1 = some r := by
  unfold tagK at h
  split at h
  · rename_i v hk
    obtain ⟨st1, k, a1, a2, a3, a4, a5, h⟩ := z07j hR h
    obtain ⟨g1, g2⟩ := hR.env _ _ hk
    refine ⟨{ st1 with env := (d, .b k 0) :: st1.env }, ⟨fun x tv hx => ?_, a1.obj, a1.used, a1.tok, a1.bs, a1.fp, a1.fpi⟩, h⟩
    rcases z0ba hx with ⟨rfl, rfl⟩ | ⟨hne, hx⟩
    · refine ⟨by simp only [TV.dfn, a3]; rfl, .inr ?_⟩
      rcases g2 with g2 | g2
      · cases g2
      · rw [g2]; simp only [TV.av, a3]; rfl
    · exact a1.env x tv hx
  · exact ⟨st, hR, h⟩
def solB : List (Ty × Bool) → List DV → Bool
  | p :: ps, v :: vs => (p.2 || !v.t.hasS) && solB ps vs
  | _, _ => true
theorem z1wj {t : Ty} {o : Bool} {x : t.den} (h : (o || !t.hasS) = true) : (argV t o x).solid = true := by
  cases t with
  | sl t =>
    have : o = true := by simpa [Ty.hasS, Ty.lks] using h
    subst this
    exact z0a2 t.row x
  | s n =>
    show solidRow ((Ty.s n).cells o x) = true
    cases o with
    | true => exact (Ty.s n).row.solid x
    | false => rw [z0tv (t := Ty.s n) (by simpa using h) false true]; exact (Ty.s n).row.solid x
  | _ => rfl
theorem z231 : ∀ {rs : List (Ty × Bool)} {vs : List DV}, solB rs vs = true → ∀ x ∈ resA rs vs, x.solid = true
  | [], _, _, x, hx => by simp [resA] at hx
  | _ :: _, [], _, x, hx => by simp [resA] at hx
  | p :: ps, v :: vs, h, x, hx => by
    simp only [solB, Bool.and_eq_true] at h
    rcases List.mem_cons.1 hx with rfl | hx
    · exact z1wj h.1
    · exact z231 h.2 x hx
def z250 {ρ : Type} (c : Cx) (fc : List FCon) (k : Con) (d : Nat) (xs : List Operand) (st : XSt) (K : Kt ρ) : Option ρ :=
  (opdL st xs).bind fun tvs => (givA fc st k.ps tvs).bind fun g => (k.M g.1).bind fun z =>
    (bkL tvs (d + 600000) k.bs ((k.dvs z).drop k.rs.length)).bind fun b =>
      bif st.liv g.2.1 && (st.liv g.2.2 && (apt g.2.1 g.2.2 && ((g.2.1.isEmpty || (k.bs.isEmpty && solB k.rs ((k.dvs z).take k.rs.length))) && (Nat.blt d c.n &&
        (nodupB (((openT d k.rs ((k.dvs z).take k.rs.length)).2 ++ (b.1 ++ b.2.1)).map (·.1)) && ((TOs st.nm b.1).all (renewB (obsOf st g.2.2) b.2.2) &&
          ((openT d k.rs ((k.dvs z).take k.rs.length)).2 ++ b.2.1).all fun p => !(st.usd p.1))))))) then
        upK (g.2.2.map (fun i => .del i) ++ (b.2.2.map (fun i => .kill i) ++ (((openT d k.rs ((k.dvs z).take k.rs.length)).2 ++ (b.1 ++ b.2.1)).map (fun p => .put p.1 p.2) ++ [.set d (openT d k.rs ((k.dvs z).take k.rs.length)).1])))
          (opds xs (avL st.nm tvs) ++ (freshL ((asObs (openRes d (resA k.rs ((k.dvs z).take k.rs.length))).2 ++ TOs st.nm b.2.1).map (·.1)) ++ needsO (obsOf st g.2.1 ++ obsOf st g.2.2))) st
          fun st' rs us => tagK d st' fun st'' => K st'' rs us
      else none
def z201 {ρ : Type} (c : Cx) (d : Nat) (t x : Operand) (st : XSt) (K : Kt ρ) : Option ρ :=
  match opd st t, st.nm.fp with
  | some .fp, some q => (opd st x).bind fun tv => (givV st q.t false tv).bind fun g => (q.f g.1).bind fun v =>
      bif st.liv g.2.1 && g.2.2.isEmpty then
        withB v st fun st1 tb => setK c d st1 tb (.opd t (FPav st.nm.fp) :: (opds [x] [tv.av st.nm] ++ (freshL [] ++ needsO (obsOf st g.2.1 ++ [])))) K
      else none
  | _, _ => none
def z234 {ρ : Type} (c : Cx) (k : Con) (d : Nat) (x y : Operand) (st : XSt) (K : Kt ρ) : Option ρ :=
  (opd st x).bind fun tx => (opd st y).bind fun ty => (intv ty).bind fun m =>
    match tx, k with
    | .rp q j, ⟨_, [.v (.sl t2) true, .v .I false], [(.I, _)], [(0, .v (.sl t3) _)], M⟩ => (tokOf st q).bind fun u =>
      match look st.obj u.id, (u.t.out u.o u.v)[j]? with
      | some (.arr t' l' o'), some (.s true t1 l1) => (t1.cast t2 l1).bind fun l2 => (M (l2, m, ())).bind fun z =>
        let z : Int × List t3.den := z
        let row := (u.t.out u.o u.v).set j (.s true t3 z.2)
        bif Nat.blt d c.n && (!(isP u.p) && (!(row.any Lf.isNl) && Nat.beq t3.w t1.w)) then (t'.inn o' row).bind fun v2 =>
          let us : List TU := [.del u.id, .kill u.id, .put u.id (.arr t' (l'.set u.i.toNat v2) o'), .set d (.l (.i z.1))]
          let st1 := XSt.apps us st
          K { st1 with nm := { st1.nm with tk := (q, ⟨u.id, u.p, u.i, t', o', v2, true⟩) :: st1.nm.tk } }
            [.opd x (tx.av st.nm), .opd y (ty.av st.nm), .obj u.id (.arr t'.w (l'.map (t'.cells o')))] (us.map (TU.up st.nm))
          else none
      | _, _ => none
    | _, _ => none
theorem z24z {st : XSt} {ac : St} (hR : Rf E st ac) {q : Tok} (q2 : q.fits ac) {t' : Ty} {l' : List t'.den} {o' : Bool} (hob : look st.obj q.id = some (.arr t' l' o')) (hp : q.p = []) :
    ac.obj q.id = some (.arr t'.w (l'.map (t'.cells o'))) ∧ t'.w = q.t.w ∧ (l'.map (t'.cells o'))[q.i.toNat]? = some ((q.t.out q.o q.v).map Lf.cell) ∧ q.i.toNat < l'.length ∧ 0 ≤ q.i := by
  obtain ⟨k0, rows, o2, rows', r1, r2, r3⟩ := Tok.row q2
  have r0 := (hR.obj _ _ hob).2
  simp only [TO.ob] at r0
  rw [r0] at r1
  simp only [Option.some.injEq, Obj.arr.injEq] at r1
  obtain ⟨r1, r1'⟩ := r1
  subst r1 r1'
  rw [hp] at r2
  simp only [Cell.get, Option.some.injEq, Cell.sl.injEq] at r2
  obtain ⟨_, w2, r2⟩ := r2
  subst r2
  refine ⟨r0, w2, r3, ?_, ?_⟩
  · have := (List.getElem?_eq_some_iff.1 r3).1
    simpa using this
  · obtain ⟨_, _, _, l, _, _, f3⟩ := q2
    exact (z0gx f3).1
theorem rowput {st : XSt} {ac : St} (hR : Rf E st ac) {k : Nat} {q : Tok} (q1 : look st.nm.tk k = some q) {t' : Ty} {l' : List t'.den} {o' : Bool} (hp : q.p = []) (hw : t'.w = q.t.w) (hi : q.i.toNat < l'.length) (h0 : 0 ≤ q.i) (v2 : t'.den) {us : List TU}
    (hus : ∀ u ∈ us, u.dfn st.nm = true) (lo : look (XSt.apps us st).obj q.id = some (.arr t' (l'.set q.i.toNat v2) o')) :
    Rf E { XSt.apps us st with nm := { (XSt.apps us st).nm with tk := (k, ⟨q.id, q.p, q.i, t', o', v2, true⟩) :: (XSt.apps us st).nm.tk } } (apps (us.map (TU.up st.nm)) ac) := by
  have R1 := hR.apps hus
  have hle := NmLe.apps us st
  have ao := (R1.obj _ _ lo).2
  refine R1.names (m := { (XSt.apps us st).nm with tk := (k, ⟨q.id, q.p, q.i, t', o', v2, true⟩) :: (XSt.apps us st).nm.tk }) ?_ ?_ R1.bs
  · refine ⟨fun k' b hb => ⟨b, hb, rfl⟩, fun k' u hu => ?_, rfl⟩
    obtain ⟨u', hu', e1, e2, e3, e4⟩ := hle.tk k q q1
    by_cases hk : k' = k
    · subst hk
      rw [hu'] at hu
      cases hu
      exact ⟨_, z0zf, e1.symm, e2.symm, e3.symm, by rw [e4]; exact hw⟩
    · exact ⟨u, by rw [z15d hk]; exact hu, rfl, rfl, rfl, rfl⟩
  · intro k' u hu ho
    rcases z0ba hu with ⟨_, rfl⟩ | ⟨_, hu⟩
    · refine ⟨t'.w, _, true, l'.set q.i.toNat v2, ao, by rw [hp]; rfl, ?_⟩
      unfold getI
      rw [if_pos h0, List.getElem?_set_self hi]
    · exact R1.tok k' u hu ho
section
variable {ρ : Type} {c : Cx} {d : Nat} {st : XSt} {K : Kt ρ} {r : ρ} {ac : St} {ty : TypeId} {pos : String} {after : Array Edge} {g : Option (Nat × Bool)} {x y : Operand} {t : Operand} {tys : Array TypeId}
theorem z1px (hR : Rf E st ac) {l : List Nat} (h : st.liv l = true) : ∀ p ∈ obsOf st l, ac.obj p.1 = some p.2 := by
  intro p hp
  obtain ⟨i, hi, rfl⟩ := List.mem_map.1 hp
  exact z1yd hR (List.all_eq_true.1 h i hi)
theorem z1lr {fc : List FCon} {k : Con} {xs : List Operand} (hc : c.Ok) (hR : Rf c.fp st ac) (hfc : ∀ k ∈ fc, k.Ok c.P) (hk : k.Ok c.P) (h : z250 c fc k d xs st K = some r) :
    Snd c ⟨some d, .call ⟨.value (.func k.f), xs.toArray, tys⟩, ty, pos, after, g⟩ ac K r := by
  obtain ⟨tvs, h1, h⟩ := bnd h
  obtain ⟨⟨gx, ls, ms⟩, h2, h⟩ := bnd h
  obtain ⟨z, h3, h⟩ := bnd h
  obtain ⟨⟨rn, nf, ks⟩, h4, h⟩ := bnd h
  obtain ⟨h5, h⟩ := bif_t h
  simp only [Bool.and_eq_true] at h5
  obtain ⟨b1, b2, b3, b4, b5, b6, b7, b8⟩ := h5
  obtain ⟨o1, o2, o3⟩ := z1ld hR h1
  obtain ⟨ags, p1, p2⟩ := z22h hR hc.fp hfc h2
  obtain ⟨⟨fn, cd, f1, f2, f3⟩, hF⟩ := hk
  have hB := hF gx ags z p1 h3
  have hvl : ((k.dvs z).take k.rs.length).length = k.rs.length := by
    have : (k.dvs z).length = k.rs.length + k.bs.length := by unfold Con.dvs; rw [z1ip, List.length_append, List.length_map, List.length_map]
    rw [List.length_take]; omega
  obtain ⟨t1, t2, t3, t4⟩ := z24d st.nm d k.rs _ hvl
  obtain ⟨c1, c2, c3⟩ := z25c st.nm h4
  have hids : ∀ (l : List (Nat × TO)), (TOs st.nm l).map (·.1) = l.map (·.1) := fun l => by simp [TOs, Function.comp_def]
  have hnd : nodupB ((asObs (openRes d (resA k.rs ((k.dvs z).take k.rs.length))).2 ++ (TOs st.nm rn ++ TOs st.nm nf)).map (·.1)) = true := by
    rw [t3, ← z12c, ← z12c, hids]; exact b6
  have hfr : ((asObs (openRes d (resA k.rs ((k.dvs z).take k.rs.length))).2 ++ TOs st.nm nf).map (·.1)).all (fun i => !(ac.used i)) = true := by
    rw [t3, ← z12c, hids]
    refine List.all_eq_true.2 fun i hi => ?_
    obtain ⟨p, hp, rfl⟩ := List.mem_map.1 hi
    have := List.all_eq_true.1 b8 p hp
    cases hu : ac.used p.1 with
    | false => rfl
    | true => rw [hR.used _ hu] at this; cases this
  have hsol : obsOf st ls = [] ∨ (∀ x ∈ resA k.rs ((k.dvs z).take k.rs.length), x.solid = true) ∧ ∀ p ∈ bksA k.bs ((k.dvs z).drop k.rs.length), p.2.solid = true := by
    simp only [Bool.or_eq_true, Bool.and_eq_true] at b4
    rcases b4 with b4 | ⟨b4, b4'⟩
    · left; have : ls = [] := isE b4; subst this; rfl
    · right
      refine ⟨z231 b4', fun p hp => ?_⟩
      have : k.bs = [] := isE b4
      rw [this] at hp
      simp [bksA] at hp
  have hop := z24a (P := c.P) (n := c.n) (d := d) (ty := ty) (pos := pos) (after := after) (g := g) (tys := tys) (xs := xs) (ks := ks) f1 f2 f3 hB p2 o3 (z0tt b3) hsol c1 hnd b7 (lb b5)
  have hs : ∀ q ∈ opds xs (avL st.nm tvs) ++ (freshL ((asObs (openRes d (resA k.rs ((k.dvs z).take k.rs.length))).2 ++ TOs st.nm nf).map (·.1)) ++ needsO (obsOf st ls ++ obsOf st ms)), q.sat ac :=
    z0wd o1 (z1zf (z1am hfr) (z1an fun p hp => (List.mem_append.1 hp).elim (z1px hR b1 p) (z1px hR b2 p)))
  have hfin : ∀ {us : List TU}, (∀ u ∈ us, u.dfn st.nm = true) → OpL0 c.P c.n ⟨some d, .call ⟨.value (.func k.f), xs.toArray, tys⟩, ty, pos, after, g⟩ (opds xs (avL st.nm tvs) ++ (freshL ((asObs (openRes d (resA k.rs ((k.dvs z).take k.rs.length))).2 ++ TOs st.nm nf).map (·.1)) ++ needsO (obsOf st ls ++ obsOf st ms))) (us.map (TU.up st.nm)) →
      upK us (opds xs (avL st.nm tvs) ++ (freshL ((asObs (openRes d (resA k.rs ((k.dvs z).take k.rs.length))).2 ++ TOs st.nm nf).map (·.1)) ++ needsO (obsOf st ls ++ obsOf st ms))) st (fun st' rs us => tagK d st' fun st'' => K st'' rs us) = some r →
      Snd c ⟨some d, .call ⟨.value (.func k.f), xs.toArray, tys⟩, ty, pos, after, g⟩ ac K r := by
    intro us hd ho h
    obtain ⟨st', rs, us, s1, s2, s3, h⟩ := z0rg hR hd ho hs h
    obtain ⟨st1, q1, q2⟩ := z1zu s3 h
    exact ⟨st1, rs, us, s1, s2, q1, q2⟩
  refine hfin (fun u hu => ?_) ?_ h
  · simp only [List.mem_append, List.mem_map, List.mem_cons, List.not_mem_nil, or_false] at hu
    rcases hu with ⟨_, _, rfl⟩ | ⟨_, _, rfl⟩ | ⟨p, hp, rfl⟩ | rfl
    · rfl
    · rfl
    · rcases hp with hp | hp | hp
      · exact t4 p hp
      · exact c2 p hp
      · exact c3 p hp
    · exact t2
  · have e : ∀ (l : List (Nat × TO)), l.map (TU.up st.nm ∘ fun p => TU.put p.1 p.2) = putsO (TOs st.nm l) := fun l => by simp [putsO, TOs, Function.comp_def, TU.up]
    have e2 : (obsOf st ms).map (·.1) = ms := by simp [obsOf, Function.comp_def]
    unfold callU at hop
    have e3 : ∀ a b : Obs, putsO (a ++ b) = putsO a ++ putsO b := fun a b => List.map_append
    rw [e2, t3, ← t1, e3, e3] at hop
    rw [t3]
    simp only [List.map_append, List.map_map, List.map_cons, List.map_nil, e] at hop ⊢
    exact hop
theorem z1w8 (hc : c.Ok) (hR : Rf c.fp st ac) (h : z201 c d t x st K = some r) : Snd c ⟨some d, .call ⟨.value t, #[x], tys⟩, ty, pos, after, g⟩ ac K r := by
  unfold z201 at h
  split at h
  · rename_i q ht hq
    obtain ⟨tv, h1, h⟩ := bnd h
    obtain ⟨⟨gx, ls, ms⟩, h2, h⟩ := bnd h
    obtain ⟨v, h3, h⟩ := bnd h
    obtain ⟨h4, h⟩ := bif_t h
    simp only [Bool.and_eq_true] at h4
    have hm : ms = [] := isE h4.2
    subst hm
    obtain ⟨fid, caps, g1, g2, g3, g4⟩ := hc.fp q (hR.fp.symm.trans hq)
    have hg := z22l hR h2
    obtain ⟨st1, kk, a1, a2, a3, _, _, h⟩ := z07j hR h
    have ea : FPav st.nm.fp = .fn fid (argAVs caps) := by rw [hq]; exact g1
    have hx := z0kc hR h1
    have hto := (z0kc hR ht).1
    refine z08s a1 a3 (fun hn => ?_) (so hto (z0wd (.cons hx.1 .nil) (z1zf (z1am rfl) (z1an fun p hp => ?_)))) h
    · show OpL0 _ _ _ (.opd t (FPav st.nm.fp) :: _) _
      rw [ea]
      exact z24b g2 g3 (g4 gx v h3) hg hn
    · simp only [List.append_nil] at hp
      exact z1px hR h4.1 p hp
  · cases h
theorem z1w7 {k : Con} (hR : Rf c.fp st ac) (hk : k.Ok c.P) (h : z234 c k d x y st K = some r) : Snd c ⟨some d, .call ⟨.value (.func k.f), #[x, y], tys⟩, ty, pos, after, g⟩ ac K r := by
  have hh := bnd h; clear h; obtain ⟨tx, h1, h⟩ := hh
  have hh := bnd h; clear h; obtain ⟨tz, h2, h⟩ := hh
  have hh := bnd h; clear h; obtain ⟨m, h3, h⟩ := hh
  split at h
  · rename_i q j f t2 o1 t3 o2 M
    have hh := bnd h; clear h; obtain ⟨u, h4, h⟩ := hh
    obtain ⟨q1, q2, q3⟩ := z0tl hR h4
    split at h
    · rename_i t' l' o' t1 l1 hob hj
      have hh := bnd h; clear h; obtain ⟨l2, h5, h⟩ := hh
      have hh := bnd h; clear h; obtain ⟨z, h6, h⟩ := hh
      have hh := bif_t h; clear h; obtain ⟨h7, h⟩ := hh
      have hh := bnd h; clear h; obtain ⟨v2, h8, h⟩ := hh
      simp only [Bool.and_eq_true, Bool.not_eq_true'] at h7
      obtain ⟨n1, n2, n3, n4⟩ := h7
      have hp : u.p = [] := by
        cases hq : u.p with
        | nil => rfl
        | cons a b => rw [hq] at n2; cases n2
      obtain ⟨r0, w2, r3, hi, h0⟩ := z24z hR q2 hob hp
      obtain ⟨⟨fn, cd, f1, f2, f3⟩, hF⟩ := hk
      have hB := hF (l2, m, ()) [argV (.sl t2) true l2, argV .I false m] z ⟨_, _, rfl, rfl, _, _, rfl, rfl, rfl⟩ h6
      have hx := z09h h8 n3
      obtain ⟨e1, rfl⟩ := Ty.cast_some h5
      subst e1
      have hB' : FnB c.P f [.c (.sl true t1.w (l1.map (t1.cells true))), .c (.lit (.int .i64 m))] [.c (.lit (.int .i64 (z : Int × List t3.den).1))] [(0, .c (.sl true t1.w ((z : Int × List t3.den).2.map (t3.cells true))))] := by
        have hB0 : FnB c.P f [.c (.sl true t1.w (l1.map (t1.cells true))), .c (.lit (.int .i64 m))] [.c (.lit (.int .i64 (z : Int × List t3.den).1))] [(0, .c (.sl true t3.w ((z : Int × List t3.den).2.map (t3.cells true))))] := hB
        rw [Nat.eq_of_beq_eq_true n4] at hB0; exact hB0
      let us : List TU := [.del u.id, .kill u.id, .put u.id (.arr t' (l'.set u.i.toNat v2) o'), .set d (.l (.i (z : Int × List t3.den).1))]
      have hus : ∀ a ∈ us, a.dfn st.nm = true := by
        intro a ha
        simp only [us, List.mem_cons, List.not_mem_nil, or_false] at ha
        rcases ha with rfl | rfl | rfl | rfl <;> rfl
      have R1 := rowput hR q1 hp w2 hi h0 v2 hus (o' := o') z0zf
      refine ⟨_, _, _, ?_, so' hR h1 (so' hR h2 (sb r0 sn)), R1, h⟩
      have ea : (TV.rp q j).av st.nm = .ref u.id [(u.i.toNat, j)] := by simp only [TV.av, q1, hp]; rfl
      rw [ea, z0ch h3]
      have hN : (l'.map (t'.cells o')).set u.i.toNat (((u.t.out u.o u.v).map Lf.cell).set j (.sl true t1.w ((z : Int × List t3.den).2.map (t3.cells true)))) = (l'.set u.i.toNat v2).map (t'.cells o') := by
        have : ((u.t.out u.o u.v).map Lf.cell).set j (.sl true t1.w ((z : Int × List t3.den).2.map (t3.cells true))) = t'.cells o' v2 := by
          rw [← Ty.out_cell, hx, List.map_set]
          show _ = (List.map Lf.cell (u.t.out u.o u.v)).set j (.sl true t3.w _)
          rw [Nat.eq_of_beq_eq_true n4]
        rw [this, List.map_set]
      exact z211 f1 f2 f3 hB' r3 (by rw [List.getElem?_map, hj]; rfl) (lb n1) hN
    · cases h
  · cases h
end
end Go.Am
end
section
namespace Go.Am
open Go
variable {E : Option FP}
structure Fs where
  ks : List Con
  fc : List FCon
structure Fs.Ok (P : Program) (f : Fs) : Prop where
  ks : ∀ k ∈ f.ks, k.Ok P
  fc : ∀ k ∈ f.fc, k.Ok P
def conOf : List Con → FuncId → Option Con
  | [], _ => none
  | k :: r, f => bif Nat.beq k.f f then some k else conOf r f
theorem z1rn : ∀ {l : List Con} {f : FuncId} {k : Con}, conOf l f = some k → k ∈ l ∧ k.f = f
  | q :: r, f, k, h => by
    simp only [conOf] at h
    cases hb : Nat.beq q.f f with
    | true => rw [hb] at h; cases h; exact ⟨List.mem_cons_self .., Nat.eq_of_beq_eq_true hb⟩
    | false => rw [hb] at h; obtain ⟨h1, h2⟩ := z1rn h; exact ⟨List.mem_cons_of_mem _ h1, h2⟩
def isRp (st : XSt) (x : Operand) : Bool :=
  match opd st x with
  | some (.rp _ _) => true
  | _ => false
def callx {ρ : Type} (c : Cx) (f : Fs) (d : Nat) (e : Callee) (xs : List Operand) (ts : List TypeId) (st : XSt) (K : Kt ρ) : Option ρ :=
  match e with
  | .builtin .len => match xs, ts with
    | [x], [t] => x_len c d t x st K
    | _, _ => none
  | .builtin .append => match xs, ts with
    | [x, y], [t, tx] => x_app c d t tx x y st K
    | _, _ => none
  | .value (.func g) => (conOf f.ks g).bind fun k =>
    match xs, k.bs with
    | [x, y], _ :: _ => bif isRp st x then z234 c k d x y st K else z250 c f.fc k d [x, y] st K
    | xs, _ => z250 c f.fc k d xs st K
  | .value t => match xs with
    | [x] => z201 c d t x st K
    | _ => none
  | _ => none
def opx {ρ : Type} (c : Cx) (f : Fs) (dst : Option Nat) (op : Op) (st : XSt) (K : Kt ρ) : Option ρ :=
  match dst with
  | some d => match op with
    | .move x => x_mov c d x st K
    | .assign x => x_mov c d x st K
    | .pick e x y => z26p c d e x y st K
    | .binOp b t x y _ => x_bin c d b t x y st K
    | .unOp .not _ x => x_not c d x st K
    | .unOp .neg _ x => x_neg c d x st K
    | .nilCheck x => x_nil c d x st K
    | .extract x i => x_ext c d x i st K
    | .alloc t => z233 c d t st K
    | .box _ x => x_box c d x st K
    | .build t ps => z200 c d t ps.toList st K
    | .buildSlice t n ps => x_bls c d t n ps.toList st K
    | .load t x => z26o c d t x st K
    | .makeFunc (.func g) fi caps => match fi.toList with
      | [] => x_fn c d g caps.toList st K
      | _ => none
    | .makeMap _ none => x_mkm c d st K
    | .makeSlice t x y => x_mks c d t x y st K
    | .slice t x lo hi none => z205 c d t x lo hi st K
    | .fieldAddr t x i => x_fld c d t x i st K
    | .indexAddr t x y => x_idx c d t x y st K
    | .lookup t x y false => x_lkp c d t x y st K
    | .call cl => callx c f d cl.callee cl.args.toList cl.argTypes.toList st K
    | _ => none
  | none => match op with
    | .store t x y => z235 c t x y st K
    | .mapUpdate t x y z => x_upd c t x y z st K
    | .insert t x y z => x_upd c t x y z st K
    | _ => none
theorem arr1 {α : Type} {a : Array α} {l : List α} (h : a.toList = l) : a = l.toArray := by rw [← h]
theorem z20b {ρ : Type} {c : Cx} {f : Fs} {d : Nat} {e : Callee} {xs : Array Operand} {ts : Array TypeId} {st : XSt} {K : Kt ρ} {r : ρ} {ac : St} {ty : TypeId} {pos : String} {after : Array Edge} {g : Option (Nat × Bool)}
    (hc : c.Ok) (hf : f.Ok c.P) (hR : Rf c.fp st ac) (h : callx c f d e xs.toList ts.toList st K = some r) : Snd c ⟨some d, .call ⟨e, xs, ts⟩, ty, pos, after, g⟩ ac K r := by
  unfold callx at h
  split at h
  · split at h
    · rename_i hx ht
      rw [arr1 hx, arr1 ht]; exact z21v hc hR h
    · cases h
  · split at h
    · rename_i hx ht
      rw [arr1 hx, arr1 ht]; exact z21o hc hR h
    · cases h
  · have hh := bnd h; clear h; obtain ⟨k, h1, h⟩ := hh
    obtain ⟨hm, hk⟩ := z1rn h1
    subst hk
    split at h
    · rename_i hx _
      rw [arr1 hx]
      rename_i x y _ _ _
      cases hr : isRp st x with
      | true => rw [hr] at h; exact z1w7 hR (hf.ks k hm) h
      | false => rw [hr] at h; exact z1lr (xs := [x, y]) hc hR hf.fc (hf.ks k hm) h
    · have := z1lr (xs := xs.toList) (tys := ts) (ty := ty) (pos := pos) (after := after) (g := g) hc hR hf.fc (hf.ks k hm) h
      rwa [Array.toArray_toList] at this
  · split at h
    · rename_i hx
      rw [arr1 hx]; exact z1w8 hc hR h
    · cases h
  · cases h
theorem z22v {ρ : Type} {c : Cx} {f : Fs} {st : XSt} {K : Kt ρ} {r : ρ} {ac : St} (hc : c.Ok) (hf : f.Ok c.P) (hR : Rf c.fp st ac) {o : Oper} (h : opx c f o.dst o.op st K = some r) : Snd c o ac K r := by
  obtain ⟨dst, op, ty, pos, after, g⟩ := o
  simp only at h
  unfold opx at h
  split at h
  · split at h
    · exact z203 hR h
    · exact z1r8 hR h
    · exact z204 hR h
    · exact z21p hc hR h
    · exact z221 hR h
    · exact z21z hR h
    · exact z220 hR h
    · exact z21s hR h
    · exact z1w5 hc hR h
    · exact z21r hR h
    · rename_i t ps
      have := z1w6 (ty := ty) (pos := pos) (after := after) (g := g) hc hR h
      rwa [Array.toArray_toList] at this
    · have := z21q (ty := ty) (pos := pos) (after := after) (g := g) hc hR h
      rwa [Array.toArray_toList] at this
    · exact z202 hc hR h
    · split at h
      · rename_i hx
        rw [arr1 hx]
        have := z251 (ty := ty) (pos := pos) (after := after) (g := g) hR h
        rwa [Array.toArray_toList] at this
      · cases h
    · exact z21x hR h
    · exact z21y hc hR h
    · exact z1w9 hc hR h
    · exact z21t hc hR h
    · exact z21u hc hR h
    · exact z21w hc hR h
    · exact z20b hc hf hR h
    · cases h
  · split at h
    · exact z1wa hc hR h
    · exact z1sw (.inl rfl) hc hR h
    · exact z1sw (.inr rfl) hc hR h
    · cases h
def XSt.know (st : XSt) (k : Nat) (c b : Bool) : XSt := { st with nm := { st.nm with bs := (k, .k c b) :: st.nm.bs } }
def splitB {α : Type} (tv : TV) (st : XSt) (F : XSt → Option α) : Option α :=
  match tv with
  | .b k _ => match look st.nm.bs k with
    | some (.s b) => if b = true then F (st.know k true b) else F (st.know k false b)
    | _ => F st
  | _ => F st
theorem z240 {st : XSt} {ac : St} (hR : Rf E st ac) {k : Nat} {b : Bool} (hk : look st.nm.bs k = some (.s b)) : Rf E (st.know k b b) ac := by
  refine hR.names (m := { st.nm with bs := (k, .k b b) :: st.nm.bs }) ?_ hR.tok (fun k' c' b' h => ?_)
  · refine ⟨fun k' q hq => ?_, fun k' t ht => ⟨t, ht, rfl, rfl, rfl, rfl⟩, rfl⟩
    by_cases he : k' = k
    · subst he
      rw [hk] at hq; cases hq
      exact ⟨_, z0zf, rfl⟩
    · exact ⟨q, by rw [z15d he]; exact hq, rfl⟩
  · rcases z0ba h with ⟨_, e⟩ | ⟨_, h⟩
    · cases e; rfl
    · exact hR.bs _ _ _ h
theorem z16n {α : Type} {tv : TV} {st : XSt} {F : XSt → Option α} {r : α} {ac : St} (hR : Rf E st ac) (h : splitB tv st F = some r) : ∃ st1, Rf E st1 ac ∧ F st1 = some r := by
  unfold splitB at h
  split at h
  · split at h
    · rename_i b hk
      have hk' := z240 hR hk
      cases b with
      | true => rw [if_pos rfl] at h; exact ⟨_, hk', h⟩
      | false => rw [if_neg (by simp)] at h; exact ⟨_, hk', h⟩
    · exact ⟨st, hR, h⟩
  · exact ⟨st, hR, h⟩
def pickS {α : Type} (op : Op) (st : XSt) (F : XSt → Option α) : Option α :=
  match op with
  | .pick e _ _ => (opd st e).bind fun tv => splitB tv st F
  | _ => F st
theorem z1si {α : Type} {op : Op} {st : XSt} {F : XSt → Option α} {r : α} {ac : St} (hR : Rf E st ac) (h : pickS op st F = some r) : ∃ st1, Rf E st1 ac ∧ F st1 = some r := by
  unfold pickS at h
  split at h
  · obtain ⟨tv, _, h⟩ := bnd h; exact z16n hR h
  · exact ⟨st, hR, h⟩
def runO {ρ : Type} (c : Cx) (f : Fs) (ops : List Oper) (o : Oper) (st : XSt) (K : Kt ρ) : Option ρ :=
  match o.guard with
  | none => pickS o.op st fun st => opx c f o.dst o.op st K
  | some (g, want) => ((ops[g]?).bind (·.dst)).bind fun dg => (look st.env dg).bind fun tv =>
    match tv with
    | .und => match o.dst with
      | some d => setK c d st .und [.opd (.tmp dg) (.c (.lit undef))] K
      | none => none
    | tv => splitB tv st fun st => (look st.env dg).bind fun tv => (knownv st.nm tv).bind fun b =>
      bif b == want then pickS o.op st fun st => opx c f o.dst o.op st fun st' rs us => K st' (.opd (.tmp dg) (aBool b) :: rs) us
      else match o.dst with
        | some d => setK c d st .und [.opd (.tmp dg) (aBool b)] K
        | none => none
def runR {ρ : Type} (c : Cx) (f : Fs) (ops : List Oper) : List Oper → XSt → (XSt → Option ρ) → Option ρ
  | [], st, K => K st
  | o :: rest, st, K => runO c f ops o st fun st' _ _ => runR c f ops rest st' K
def runD {ρ : Type} (c : Cx) (f : Fs) (ops : List Oper) : List Nat → XSt → List Item → (XSt → Option ρ) → Option ρ
  | [], st, acc, K => bif indepB ops.toArray acc.reverse then K st else none
  | i :: order, st, acc, K => (ops[i]?).bind fun o => runO c f ops o st fun st' rs us => runD c f ops order st' (⟨i, rs, us⟩ :: acc) K
def topo (ops : Array Oper) : Nat → List Nat → List Nat
  | 0, _ => []
  | n + 1, left => match left.find? fun x => left.all fun y => !depB ops x y with
    | some x => x :: topo ops n (left.filter fun y => !Nat.beq y x)
    | none => []
section
variable {ρ : Type} {c : Cx} {f : Fs} {Q : Exit → St → Prop}
inductive StepD (c : Cx) (ops : Array Oper) (i : Nat) (ac : St) (rs : List Req) (us : List Upd) : Prop
  | mk (o : Oper) (ho : ops[i]? = some o) (h : OpL c.P ops c.n o rs us) (hs : ∀ r ∈ rs, r.sat ac)
theorem z232 {st : XSt} {ac : St} (hR : Rf c.fp st ac) {d : Nat} : Rf c.fp (st.app (.set d .und)) (apps [.set d (.c (.lit undef))] ac) := hR.app (u := .set d .und) rfl
theorem z1yx {ops : List Oper} {i : Nat} {o : Oper} {st : XSt} {K : Kt ρ} {r : ρ} {ac : St} (hc : c.Ok) (hf : f.Ok c.P) (hR : Rf c.fp st ac) (ho : ops[i]? = some o) (h : runO c f ops o st K = some r) :
    ∃ st' rs us, StepD c ops.toArray i ac rs us ∧ Rf c.fp st' (apps us ac) ∧ K st' rs us = some r := by
  have ho' : ops.toArray[i]? = some o := by simpa using ho
  unfold runO at h
  split at h
  · rename_i hg
    obtain ⟨st1, r1, h⟩ := z1si hR h
    obtain ⟨st', rs, us, s1, s2, s3, s4⟩ := z22v hc hf r1 h
    exact ⟨st', rs, us, ⟨o, ho', z1sf hg s1, s2⟩, s3, s4⟩
  · rename_i g want hg
    obtain ⟨dg, h1, h⟩ := bnd h
    have h1' : (ops.toArray[g]?).bind (·.dst) = some dg := by simpa using h1
    obtain ⟨tv, h2, h⟩ := bnd h
    have he := (hR.env _ _ h2).2
    split at h
    · split at h
      · rename_i d hd
        obtain ⟨h3, h⟩ := bif_t h
        rcases he with he | he
        · cases he
        · exact ⟨_, _, _, ⟨o, ho', z1yo hg hd (lb h3) h1' (.inr rfl), so he sn⟩, z232 hR, h⟩
      · cases h
    · obtain ⟨st1, r1, h⟩ := z16n hR h
      obtain ⟨tv1, h3, h⟩ := bnd h
      obtain ⟨b, h4, h⟩ := bnd h
      have hav := z0vi r1 h4
      have hee : ac.env dg = some (aBool b) := by
        rcases (r1.env _ _ h3).2 with e | e
        · subst e; cases h4
        · rw [e, hav]
      cases hb : b == want with
      | true =>
        rw [hb] at h
        have hb' : b = want := by simpa using hb
        obtain ⟨st2, r2, h⟩ := z1si r1 h
        obtain ⟨st', rs, us, s1, s2, s3, s4⟩ := z22v hc hf r2 h
        exact ⟨st', _, us, ⟨o, ho', z27e hg h1' hb' s1, so hee s2⟩, s3, s4⟩
      | false =>
        rw [hb] at h
        have hb' : b = !want := by cases b <;> cases want <;> simp_all
        split at h
        · rename_i d hd
          obtain ⟨h5, h⟩ := bif_t h
          exact ⟨_, _, _, ⟨o, ho', z1yo hg hd (lb h5) h1' (.inl (by rw [hb'])), so hee sn⟩, z232 r1, h⟩
        · cases h
theorem z1yy {ops : List Oper} {r : ρ} {K : XSt → Option ρ} (hc : c.Ok) (hf : f.Ok c.P) (hK : ∀ st' ac', Rf c.fp st' ac' → K st' = some r → Q .normal ac') : ∀ (rest : List Oper) (i : Nat) (st : XSt) (ac : St), Rf c.fp st ac → rest = ops.drop i →
    runR c f ops rest st K = some r → RG c.P ops.toArray c.n Q false i ac [] rest
  | [], _, st, ac, hR, _, h => z1yu (hK _ _ hR h)
  | o :: rest, i, st, ac, hR, hd, h => by
    have hd' : o :: rest = ops.toArray.toList.drop i := by simpa using hd
    obtain ⟨ho, hr⟩ := z1bf hd'
    obtain ⟨st', rs, us, ⟨o', ho2, s1, s2⟩, s3, s4⟩ := z1yx hc hf hR (by simpa using ho) h
    rw [ho] at ho2; cases ho2
    exact z22w s1 s2 (z1yy hc hf hK rest (i + 1) st' _ s3 (by simpa using hr) s4)
theorem z1yw {ops : List Oper} {r : ρ} {K : XSt → Option ρ} (hc : c.Ok) (hf : f.Ok c.P) (hK : ∀ st' ac', Rf c.fp st' ac' → K st' = some r → Q .normal ac') : ∀ (order : List Nat) (st : XSt) (ac : St) (acc : List Item), Rf c.fp st ac →
    runD c f ops order st acc K = some r → RGD c.P ops.toArray c.n Q order ac acc
  | [], st, ac, acc, hR, h => by
    obtain ⟨h1, h⟩ := bif_t h
    exact z26e h1 (hK _ _ hR h)
  | i :: order, st, ac, acc, hR, h => by
    obtain ⟨o, ho, h⟩ := bnd h
    obtain ⟨st', rs, us, ⟨o', ho2, s1, s2⟩, s3, s4⟩ := z1yx hc hf hR ho h
    exact z24j ho2 s1 s2 (z1yw hc hf hK order st' _ _ s3 s4)
end
end Go.Am
end
section
namespace Go.Am
open Go
variable {E : Option FP}
inductive Wk where
  | e (x id : Nat) (t : Ty)
  | b (b j id : Nat) (t : Ty)
  | share (id : Nat)
def wk1 : Wk → XSt → Option XSt
  | .e x id t, st => match look st.env x with
    | some (.l .nl) => bif st.usd id then none else some (XSt.apps [.put id (.emp t), .set x (.ref id)] st)
    | _ => none
  | .b b j id t, st => (boxOf st b).bind fun xs => match xs[j]? with
    | some (.l .nl) => bif st.usd id then none else some (XSt.apps [.put id (.emp t), .put b (.box (xs.set j (.ref id)))] st)
    | _ => none
  | .share id, st => match look st.obj id with
    | some (.arr t l _) => some (XSt.apps [.del id, .kill id, .put id (.arr t l false)] st)
    | _ => none
def wks : List Wk → XSt → Option XSt
  | [], st => some st
  | w :: ws, st => (wk1 w st).bind fun st => wks ws st
theorem unused {st : XSt} {ac : St} (hR : Rf E st ac) {id : Nat} (h : st.usd id = false) : ac.used id = false := by
  cases hu : ac.used id with
  | false => rfl
  | true => rw [hR.used id hu] at h; cases h
theorem z26n {n : Nat} {w : Wk} {st st' : XSt} {ac : St} (hR : Rf E st ac) (h : wk1 w st = some st') : ∃ ac', Le n ac ac' ∧ Rf E st' ac' := by
  cases w with
  | e x id t =>
    simp only [wk1] at h
    split at h
    · rename_i hk
      cases hu : st.usd id with
      | true => rw [hu] at h; cases h
      | false =>
        rw [hu] at h; cases h
        have he : ac.env x = some (.c (.lit (.slice none 0 0))) := by
          rcases (hR.env _ _ hk).2 with e | e
          · cases e
          · exact e
        exact ⟨_, z25y (k := t.w) he (unused hR hu), hR.apps (us := [.put id (.emp t), .set x (.ref id)]) (fun u hu => by
          simp only [List.mem_cons, List.not_mem_nil, or_false] at hu
          rcases hu with rfl | rfl <;> rfl)⟩
    · cases h
  | b b j id t =>
    simp only [wk1] at h
    have hh := bnd h; clear h; obtain ⟨xs, h1, h⟩ := hh
    split at h
    · rename_i hk
      obtain ⟨b1, b2⟩ := z0kg hR h1
      cases hu : st.usd id with
      | true => rw [hu] at h; cases h
      | false =>
        rw [hu] at h; cases h
        have hj : (avL st.nm xs)[j]? = some (.c (.lit (.slice none 0 0))) := by rw [z0d9, List.getElem?_map, hk]; rfl
        have hd : ∀ u ∈ [TU.put id (.emp t), .put b (.box (xs.set j (.ref id)))], u.dfn st.nm = true := fun u hu => by
          simp only [List.mem_cons, List.not_mem_nil, or_false] at hu
          rcases hu with rfl | rfl
          · rfl
          · exact (z05e _).2 fun z hz => (List.mem_or_eq_of_mem_set hz).elim ((z05e _).1 b2 z) (fun e => by subst e; rfl)
        refine ⟨_, z25x (k := t.w) b1 hj (unused hR hu), ?_⟩
        have := hR.apps hd
        simp only [List.map_cons, List.map_nil, TU.up, TO.ob] at this
        have e : avL st.nm (xs.set j (.ref id)) = (avL st.nm xs).set j (.ref id []) := by rw [z0d9, z0d9, List.map_set]; rfl
        rw [e] at this
        exact this
    · cases h
  | share id =>
    simp only [wk1] at h
    split at h
    · rename_i t l o hk
      cases h
      have ho := (hR.obj _ _ hk).2
      refine ⟨_, z242 ho (t.row.rnobox o l) (t.row.rshare o l), ?_⟩
      exact hR.apps (us := [.del id, .kill id, .put id (.arr t l false)]) (fun u hu => by
        simp only [List.mem_cons, List.not_mem_nil, or_false] at hu
        rcases hu with rfl | rfl | rfl <;> rfl)
    · cases h
theorem Le.trans {n : Nat} {a b c : St} (h : Le n a b) (h' : Le n b c) : Le n a c := fun pn w0 A0 F0 x w hs => h' _ _ _ _ _ _ (h _ _ _ _ _ _ hs)
theorem z1zz {n : Nat} : ∀ {ws : List Wk} {st st' : XSt} {ac : St}, Rf E st ac → wks ws st = some st' → ∃ ac', Le n ac ac' ∧ Rf E st' ac'
  | [], _, _, ac, hR, h => by cases h; exact ⟨ac, fun _ _ _ _ _ _ h => h, hR⟩
  | w :: ws, _, _, ac, hR, h => by
    obtain ⟨st1, h1, h⟩ := bnd h
    obtain ⟨ac1, l1, r1⟩ := z26n (n := n) hR h1
    obtain ⟨ac2, l2, r2⟩ := z1zz (n := n) r1 h
    exact ⟨ac2, l1.trans l2, r2⟩
def loops : Code → List Code
  | .seq a b => loops a ++ loops b
  | .cond _ a b => loops a ++ loops b
  | .block _ a => loops a
  | .loop a => [a]
  | _ => []
abbrev Ks (ρ : Type) := Exit → XSt → Option ρ
abbrev Hdl (ρ : Type) := XSt → Ks ρ → Option ρ
def LSnd {ρ : Type} (c : Cx) (F : XSt → Option ρ) (h : Hdl ρ) (body : Code) : Prop :=
  ∀ (st : XSt) (ac : St) (K : Ks ρ) (r : ρ) (Q : Exit → St → Prop), Rf c.fp st ac → h st K = some r → (∀ st, K .ret st = F st) → (∀ e st' ac', Rf c.fp st' ac' → K e st' = some r → Q e ac') → ACode c.P c.n (.loop body) ac Q
def wOf (W : List (Nat × List Wk)) (id : Nat) : List Wk := (look W id).getD []
def run {ρ : Type} (c : Cx) (f : Fs) (W : List (Nat × List Wk)) (H : List (Hdl ρ)) : Code → Nat → XSt → Ks ρ → Option ρ
  | .skip, _, st, K => K .normal st
  | .ret, _, st, K => K .ret st
  | .exit i, _, st, K => K (.exit i) st
  | .seq a b, j, st, K => run c f W H a j st fun e st' => match e with
    | .normal => run c f W H b (j + (loops a).length) st' K
    | e => K e st'
  | .block i a, j, st, K => run c f W H a j st fun e st' => match e with
    | .exit q => bif Nat.beq q i then K .normal st' else K (.exit q) st'
    | e => K e st'
  | .cond x a b, j, st, K => (opd st x).bind fun tv => splitB tv st fun st => (opd st x).bind fun tv => (knownv st.nm tv).bind fun v => match v with
    | true => run c f W H a j st K
    | false => run c f W H b (j + (loops a).length) st K
  | .region id ops md, _, st, K => (wks (wOf W id) st).bind fun st =>
    bif md then (match topo ops ops.size (List.range ops.size) with
      | order => bif topoB ops order then runD c f ops.toList order st [] (K .normal) else none)
    else runR c f ops.toList ops.toList st (K .normal)
  | .loop _, j, st, K => (H[j]?).bind fun h => h st K
  | _, _, _, _ => none
section
variable {ρ : Type} {c : Cx} {f : Fs} {W : List (Nat × List Wk)} {H : List (Hdl ρ)} {F : XSt → Option ρ}
theorem z22z (hc : c.Ok) (hf : f.Ok c.P) {r : ρ} : ∀ (code : Code) (j : Nat) (st : XSt) (ac : St) (K : Ks ρ) (Q : Exit → St → Prop), (∀ (i : Nat) (b : Code) (h : Hdl ρ), (loops code)[i]? = some b → H[j + i]? = some h → LSnd c F h b) → Rf c.fp st ac →
    run c f W H code j st K = some r → (∀ st, K .ret st = F st) → (∀ e st' ac', Rf c.fp st' ac' → K e st' = some r → Q e ac') → ACode c.P c.n code ac Q := by
  intro code
  induction code with
  | skip => intro j st ac K Q hL hR h hF hK; exact z1we (hK _ _ _ hR h)
  | ret => intro j st ac K Q hL hR h hF hK; exact z206 (hK _ _ _ hR h)
  | exit i => intro j st ac K Q hL hR h hF hK; exact z1wb (hK _ _ _ hR h)
  | seq a b iha ihb =>
    intro j st ac K Q hL hR h hF hK
    refine z207 (iha j st ac _ _ (fun i x q hx hq => hL i x q ?_ hq) hR h hF ?_)
    · simp only [loops]; rw [List.getElem?_append_left (List.getElem?_eq_some_iff.1 hx).1]; exact hx
    · intro e st' ac' hR' h'
      cases e with
      | normal =>
        refine ihb _ st' ac' K Q (fun i x q hx hq => hL ((loops a).length + i) x q ?_ (by rw [← Nat.add_assoc]; exact hq)) hR' h' hF hK
        simp only [loops]; rw [List.getElem?_append_right (by omega)]; simpa using hx
      | _ => exact hK _ _ _ hR' h'
  | block i a ih =>
    intro j st ac K Q hL hR h hF hK
    refine z1t2 (ih j st ac _ _ (fun i x q hx hq => hL i x q hx hq) hR h hF ?_)
    intro e st' ac' hR' h'
    cases e with
    | exit q =>
      show (bif Nat.beq q i then Q .normal ac' else Q (.exit q) ac')
      simp only at h'
      cases hb : Nat.beq q i with
      | true => rw [hb] at h'; exact hK _ _ _ hR' h'
      | false => rw [hb] at h'; exact hK _ _ _ hR' h'
    | _ => exact hK _ _ _ hR' h'
  | cond x a b iha ihb =>
    intro j st ac K Q hL hR h hF hK
    obtain ⟨tv, h1, h⟩ := bnd h
    obtain ⟨st1, r1, h⟩ := z16n hR h
    obtain ⟨tv1, h2, h⟩ := bnd h
    obtain ⟨v, h3, h⟩ := bnd h
    have ho := (z0kc r1 h2).1
    rw [z0vi r1 h3] at ho
    cases v with
    | true =>
      refine z17t ho rfl (iha j st1 ac K Q (fun i x q hx hq => hL i x q ?_ hq) r1 h hF hK)
      simp only [loops]; rw [List.getElem?_append_left (List.getElem?_eq_some_iff.1 hx).1]; exact hx
    | false =>
      refine z12d ho rfl (ihb _ st1 ac K Q (fun i x q hx hq => hL ((loops a).length + i) x q ?_ (by rw [← Nat.add_assoc]; exact hq)) r1 h hF hK)
      simp only [loops]; rw [List.getElem?_append_right (by omega)]; simpa using hx
  | region id ops md =>
    intro j st ac K Q hL hR h hF hK
    obtain ⟨st1, h1, h⟩ := bnd h
    obtain ⟨ac1, l1, r1⟩ := z1zz (n := c.n) hR h1
    refine z237 l1 ?_
    have e : ops = ops.toList.toArray := by rw [Array.toArray_toList]
    cases md with
    | true =>
      simp only [cond_true] at h
      obtain ⟨h2, h⟩ := bif_t h
      have := z1yw (Q := Q) hc hf (fun st' ac' hR' h' => hK _ _ _ hR' h') _ st1 ac1 [] r1 h
      rw [e] at h2 ⊢
      exact z0x3 _ hc.mixed h2 (by simpa using this)
    | false =>
      simp only [cond_false] at h
      have := z1yy (Q := Q) hc hf (fun st' ac' hR' h' => hK _ _ _ hR' h') ops.toList 0 st1 ac1 r1 rfl h
      rw [e]
      exact z1ly (by simpa using this)
  | loop b ih =>
    intro j st ac K Q hL hR h hF hK
    obtain ⟨q, h1, h⟩ := bnd h
    exact hL 0 b q rfl h1 st ac K r Q hR h hF hK
  | _ => intro j st ac K Q hL hR h hF hK; cases h
end
end Go.Am
end
section
namespace Go.Am
open Go
variable {P : Program} {E : Option FP}
def parT (i : Nat) : (p : PT) → p.den → TV × List (Nat × TO)
  | .v t o, x => openV i o ⟨t, x⟩
  | .ptr t o, x => (.bx i 0, (i, .box (openR (i + 10000) (t.out o x)).1) :: (openR (i + 10000) (t.out o x)).2)
  | .pts t, x => (.pts (t.out false x), [])
  | .fn _, _ => (.fp, [])
def parTs (i : Nat) : (ps : List PT) → HP ps → List TV × List (Nat × TO)
  | [], _ => ([], [])
  | p :: ps, x => ((parT i p x.1).1 :: (parTs (i + 120000) ps x.2).1, (parT i p x.1).2 ++ (parTs (i + 120000) ps x.2).2)
def fpOf : (ps : List PT) → HP ps → AV → Option FP
  | [], _, _ => none
  | p :: ps, x, av => match p, x with
    | .fn t, x => some ⟨av, t, x.1⟩
    | _, x => fpOf ps x.2 av
def nfn : List PT → Nat
  | [] => 0
  | .fn _ :: ps => nfn ps + 1
  | _ :: ps => nfn ps
def enumF (k : Nat) : List TV → List (Nat × TV)
  | [] => []
  | x :: xs => (k, x) :: enumF (k + 1) xs
def startX (ps : List PT) (x : HP ps) (fp : Option FP) : XSt := ⟨enumF 0 (parTs 1000000 ps x).1, (parTs 1000000 ps x).2, ⟨[], [], fp⟩, []⟩
theorem z1jd : ∀ {xs : List TV} {k i : Nat} {tv : TV}, look (enumF k xs) i = some tv → ∃ j, i = k + j ∧ xs[j]? = some tv
  | [], _, _, _, h => by simp [enumF, look] at h
  | x :: xs, k, i, tv, h => by
    rcases z0ba h with ⟨rfl, rfl⟩ | ⟨_, h⟩
    · exact ⟨0, rfl, rfl⟩
    · obtain ⟨j, rfl, hj⟩ := z1jd h
      exact ⟨j + 1, by omega, by simpa using hj⟩
structure ParOkT (m : Nm) (a : TV × List (Nat × TO)) (b : AV × Obs) : Prop where
  av : a.1.av m = b.1
  dfn : a.1.dfn m = true
  obs : b.2 = TOs m a.2
  od : ∀ p ∈ a.2, p.2.dfn m = true
theorem z1qd (i : Nat) (t : Ty) (o : Bool) (x : t.den) : parOpen i (argV t o x) = ((openArg i (argV t o x)).1, asObs (openArg i (argV t o x)).2) := by
  cases t with
  | sl t => cases o <;> rfl
  | s n =>
    simp only [argV, parOpen, openArg]
    cases (n.cells o x).all Cell.plain <;> rfl
  | _ => rfl
theorem z26a {m : Nm} (i : Nat) {p : PT} {x : p.den} {a : Arg} (h : PArg P p x a) (hf : ∀ f caps, a = .fn f caps → FPav m.fp = .fn f (argAVs caps)) : ParOkT m (parT i p x) (parOpen i a) := by
  cases p with
  | v t o =>
    have e : a = argV t o x := h
    subst e
    obtain ⟨g1, g2, g3, g4⟩ := z1qb m i o ⟨t, x⟩
    rw [z1qd]
    exact ⟨g1, g2, g3, g4⟩
  | ptr t o =>
    have e : a = .c (.bx (t.cells o x)) := h
    subst e
    obtain ⟨h1, h2, h3, h4⟩ := z1fa m (t.out o x) (i + 10000)
    rw [Ty.out_cell] at h1 h3
    refine ⟨rfl, rfl, ?_, fun q hq => ?_⟩
    · simp only [parOpen, parT, h3]
      rw [← h1]; rfl
    · rcases List.mem_cons.1 hq with rfl | hq
      · exact h2
      · exact h4 q hq
  | pts t =>
    have e : a = .pts (t.cells false x) := h
    subst e
    exact ⟨by simp only [parT, TV.av, Ty.out_cell]; rfl, rfl, rfl, fun q hq => (by cases hq)⟩
  | fn t =>
    obtain ⟨f, caps, rfl, _⟩ := h
    exact ⟨by simp only [parT, TV.av, parOpen]; exact hf f caps rfl, rfl, rfl, fun q hq => (by cases hq)⟩
theorem z1qe {m : Nm} : ∀ {ps : List PT} {x : HP ps} {ags : List Arg} (i : Nat), PArgs P ps x ags → (∀ f caps, Arg.fn f caps ∈ ags → FPav m.fp = .fn f (argAVs caps)) →
    avL m (parTs i ps x).1 = (parOpens i ags).1 ∧ dfnL m (parTs i ps x).1 = true ∧ (parOpens i ags).2 = TOs m (parTs i ps x).2 ∧ ∀ p ∈ (parTs i ps x).2, p.2.dfn m = true
  | [], _, ags, i, h, _ => by
    have e : ags = [] := h
    subst e
    exact ⟨rfl, rfl, rfl, fun p hp => (by cases hp)⟩
  | p :: ps, x, _, i, h, hf => by
    obtain ⟨a, r, rfl, h1, h2⟩ := h
    obtain ⟨g1, g2, g3, g4⟩ := z26a (m := m) i h1 (fun f caps e => hf f caps (by rw [e]; exact List.mem_cons_self ..))
    obtain ⟨k1, k2, k3, k4⟩ := z1qe (m := m) (i + 120000) h2 (fun f caps hm => hf f caps (List.mem_cons_of_mem _ hm))
    refine ⟨by simp only [parTs, avL, parOpens, g1, k1], by simp only [parTs, dfnL, g2, k2]; rfl, ?_, fun q hq => (List.mem_append.1 hq).elim (g4 q) (k4 q)⟩
    simp only [parTs, parOpens, z12c, g3, k3]
theorem z168 (m : Nm) : ∀ {l : List (Nat × TO)} {id : Nat} {o : TO}, look l id = some o → objOf (TOs m l) id = some (o.ob m)
  | [], _, _, h => by simp [look] at h
  | (y, u) :: r, id, o, h => by
    simp only [look] at h
    simp only [TOs, List.map_cons, objOf]
    cases hb : Nat.beq y id with
    | true => rw [hb] at h; cases h; rfl
    | false => rw [hb] at h; exact z168 m h
theorem z21g {ps : List PT} {x : HP ps} {ags : List Arg} (hE : (FPav E).ids = []) (h : PArgs P ps x ags) (hf : ∀ f caps, Arg.fn f caps ∈ ags → FPav E = .fn f (argAVs caps)) : Rf E (startX ps x E) (startSt2 ags) := by
  obtain ⟨h1, h2, h3, h4⟩ := z1qe (m := ⟨[], [], E⟩) 1000000 h hf
  refine ⟨fun y tv hy => ?_, fun id o ho => ?_, fun id hid => ?_, fun k t hk => by simp [startX, look] at hk, fun k c b hk => by simp [startX, look] at hk, rfl, hE⟩
  · obtain ⟨j, rfl, hj⟩ := z1jd hy
    refine ⟨(z05e _).1 h2 tv (List.mem_of_getElem? hj), .inr ?_⟩
    show (parOpens 1000000 ags).1[0 + j]? = some _
    rw [← h1, z0d9, List.getElem?_map, Nat.zero_add, hj]; rfl
  · refine ⟨h4 _ (z15c ho), ?_⟩
    show objOf (parOpens 1000000 ags).2 id = _
    rw [h3]; exact z168 _ ho
  · have : Nat.ble 1000000 id = true := hid
    simp only [XSt.usd, this, Bool.true_or]
def resV (st : XSt) : (t : Ty) → Bool → TV → Option (t.den × Objs)
  | .I, _, tv => (intv tv).bind fun n => some (n, [])
  | .B, _, tv => (boolv st.nm tv).bind fun n => some (n, [])
  | .Y, _, tv => (yv tv).bind fun n => some (n, [])
  | .sl t, o, tv => (absE st tv (.s o t [])).bind fun a => bif a.1.isNl then none else ((Ty.sl t).inn o [a.1]).bind fun x => some (x, a.2)
  | .s _, _, _ => none
def res1 (c : Cx) (st : XSt) (t : Ty) (o : Bool) : ResultVar → Option (t.den × Objs)
  | .tmp s => (opd st (.tmp s)).bind fun tv => resV st t o tv
  | .cell a ty => (look c.tt ty).bind fun y => (opd st (.tmp a)).bind fun tv => match tv with
    | .bx id 0 => (boxOf st id).bind fun xs => (absL st xs (t.out o t.zd)).bind fun a =>
      bif y.isS && (t.isS && (Nat.beq xs.length y.w && (nodupB (a.2.map (·.1)) && !(a.1.any Lf.isNl)))) then (t.inn o a.1).bind fun x => some (x, a.2) else none
    | _ => none
def finR (c : Cx) (st : XSt) : (rs : List (Ty × Bool)) → List ResultVar → Option (HT (rs.map (·.1)) × Objs)
  | [], [] => some ((), [])
  | p :: rs, rv :: rvs => (res1 c st p.1 p.2 rv).bind fun a => (finR c st rs rvs).bind fun b => some ((a.1, b.1), a.2 ++ b.2)
  | _, _ => none
def bkS (st : XSt) : List TV → Option (List Lf × Obs)
  | [] => some ([], [])
  | .ref id :: ys => (arrOf st id).bind fun a => (bkS st ys).bind fun b => bif (a.o || !a.t.hasS) && apt [id] (b.2.map (·.1)) then some (.s true a.t a.l :: b.1, (id, .arr a.t.w (a.l.map (a.t.cells true))) :: b.2) else none
  | .l x :: ys => (bkS st ys).bind fun b => some (x :: b.1, b.2)
  | _ :: _ => none
def backT (st : XSt) (tv : TV) : (p : PT) → Option (p.ty.den × Obs)
  | .v (.sl t) true => match tv with
    | .ref id => (arrOf st id).bind fun a => bif a.o || !a.t.hasS then (a.t.cast t a.l).bind fun l => some (l, [(id, .arr a.t.w (a.l.map (a.t.cells true)))]) else none
    | _ => none
  | .v (.s n) true => match tv with
    | .agg ys => (bkS st ys).bind fun b => bif b.1.any Lf.isNl then none else ((Ty.s n).inn true b.1).bind fun x => some (x, b.2)
    | _ => none
  | .ptr t o => match tv with
    | .bx id 0 => (boxOf st id).bind fun ys => (absL st ys (t.out o t.zd)).bind fun a => bif nodupB (id :: a.2.map (·.1)) && !(a.1.any Lf.isNl) then (t.inn o a.1).bind fun x => some (x, (id, .box (avL st.nm ys)) :: asObs a.2) else none
    | _ => none
  | _ => none
def finB (st : XSt) (tvs : List TV) : (bs : List (Nat × PT)) → Option (HT (bs.map (·.2.ty)) × Obs)
  | [] => some ((), [])
  | b :: bs => (tvs[b.1]?).bind fun tv => (backT st tv b.2).bind fun x => (finB st tvs bs).bind fun y => bif apt (x.2.map (·.1)) (y.2.map (·.1)) then some ((x.1, y.1), x.2 ++ y.2) else none
def happ : (a b : List Ty) → HT a → HT b → HT (a ++ b)
  | [], _, _, y => y
  | _ :: a, b, x, y => (x.1, happ a b x.2 y)
def toR : (ts : List Ty) → HT ts → HR ts
  | [], _ => ()
  | [_], x => x.1
  | _ :: u :: r, x => (x.1, toR (u :: r) x.2)
def htL : (ts : List Ty) → HT ts → List DV
  | [], _ => []
  | t :: r, x => ⟨t, x.1⟩ :: htL r x.2
theorem z22o : ∀ (ts : List Ty) (x : HT ts), hrs ts (toR ts x) = htL ts x
  | [], _ => rfl
  | [_], _ => rfl
  | t :: u :: r, x => by simp only [toR, hrs, htL]; rw [z22o (u :: r)]; rfl
theorem z22p : ∀ (a b : List Ty) (x : HT a) (y : HT b), htL (a ++ b) (happ a b x y) = htL a x ++ htL b y
  | [], _, _, _ => rfl
  | t :: a, b, x, y => by simp only [List.cons_append, happ, htL]; rw [z22p a b]
theorem z1iq : ∀ (a : List Ty) (x : HT a), (htL a x).length = a.length
  | [], _ => rfl
  | t :: a, x => by simp only [htL, List.length_cons, z1iq a]
def fin (c : Cx) (k : Con) (rvs : List ResultVar) (tvs : List TV) (st : XSt) : Option (HR (k.rs.map (·.1) ++ k.bs.map (·.2.ty))) :=
  (finR c st k.rs rvs).bind fun a => (finB st tvs k.bs).bind fun b => bif nodupB (a.2.map (·.1)) && apt (a.2.map (·.1)) (b.2.map (·.1)) then some (toR _ (happ _ _ a.1 b.1)) else none
section
variable {c : Cx} {st : XSt} {ac : St}
theorem z236 (hR : Rf E st ac) {tv : TV} {old x : Lf} {os : Objs} (h : absE st tv old = some (x, os)) {s : Nat} (ho : ac.env s = some (tv.av st.nm)) : Res1 P ac (.tmp s) (.c x.cell) os := by
  unfold absE at h
  split at h
  · cases h; exact .c ho
  · cases h; exact .c ho
  · cases h; exact .c ho
  · split at h
    · cases h; exact .nilc ho
    · cases h
  · cases h; exact .c ho
  · obtain ⟨v, h1, h⟩ := bnd h
    cases h
    rw [z0gr h1] at ho
    exact .c ho
  · cases h; exact .c ho
  · obtain ⟨a, h1, h⟩ := bnd h
    obtain ⟨h2, h⟩ := bif_t h
    cases h
    exact .ref ho (z0tu hR h1 h2)
  · cases h
theorem z257 {ys : List AV} {cs : List Cell} {os : Objs} (h : Absorb ys cs os) : (∀ p ∈ os, ac.obj p.1 = some (.arr p.2.1 p.2.2)) → Abs ac ys cs os := by
  induction h with
  | nil => intro _; exact .nil
  | c hp t ih => intro ho; exact .c hp (ih ho)
  | nilc t ih => intro ho; exact .nilc (ih ho)
  | ref hn t ih => intro ho; exact .ref (ho _ (List.mem_cons_self ..)) (ih fun p hp => ho p (List.mem_cons_of_mem _ hp))
theorem z26d (hR : Rf E st ac) {t : Ty} {o : Bool} {tv : TV} {x : t.den} {os : Objs} (h : resV st t o tv = some (x, os)) {s : Nat} (ho : ac.env s = some (tv.av st.nm)) : Res1 P ac (.tmp s) (argV t o x) os := by
  cases t with
  | I => obtain ⟨n, h1, h⟩ := bnd h; cases h; rw [z0ch h1] at ho; exact .c ho
  | B => obtain ⟨n, h1, h⟩ := bnd h; cases h; rw [z0gr h1] at ho; exact .c ho
  | Y =>
    obtain ⟨n, h1, h⟩ := bnd h
    unfold yv at h1
    split at h1
    · cases h1; cases h; exact .c ho
    · cases h1
  | sl t =>
    obtain ⟨⟨lf, os1⟩, h1, h⟩ := bnd h
    cases hn : lf.isNl with
    | true => simp only [hn] at h; cases h
    | false =>
      simp only [hn] at h
      obtain ⟨y, h2, h⟩ := bnd h
      cases h
      have e := z09h h2 (by simp [hn])
      have e' : Lf.s o t x = lf := by simpa [Ty.out] using e
      show Res1 P ac (.tmp s) (.c (Lf.s o t x).cell) os
      rw [e']
      exact z236 hR h1 ho
  | s n => cases h
theorem z26c (hc : c.Ok) (hR : Rf E st ac) {t : Ty} {o : Bool} {rv : ResultVar} {x : t.den} {os : Objs} (h : res1 c st t o rv = some (x, os)) : Res1 c.P ac rv (argV t o x) os := by
  cases rv with
  | tmp s =>
    obtain ⟨tv, h1, h⟩ := bnd h
    exact z26d hR h (z0kc hR h1).1
  | cell a ty =>
    obtain ⟨y, h0, h⟩ := bnd h
    obtain ⟨tv, h1, h⟩ := bnd h
    split at h
    · have hh := bnd h; clear h; obtain ⟨xs, h2, h⟩ := hh
      have hh := bnd h; clear h; obtain ⟨⟨ls, os1⟩, h3, h⟩ := hh
      have hh := bif_t h; clear h; obtain ⟨h4, h⟩ := hh
      have hh := bnd h; clear h; obtain ⟨z, h5, h⟩ := hh
      cases h
      simp only [Bool.and_eq_true, Bool.not_eq_true'] at h4
      obtain ⟨p1, p2, p3, p4, p5⟩ := h4
      obtain ⟨a1, a2⟩ := z1fm hR h3
      obtain ⟨b1, b2⟩ := z0kg hR h2
      have e : t.out o x = ls := z09h h5 p5
      rw [← e, Ty.out_cell] at a1
      have hag := (hc.ty _ _ h0).agg
      rw [p1] at hag
      cases t with
      | s n => exact .agg (z0kc hR h1).1 b1 hag (hc.ty _ _ h0).size (by rw [z0da]; exact Nat.eq_of_beq_eq_true p3) (z257 a1 a2) p4
      | _ => cases p2
    · cases h
theorem z22d (hc : c.Ok) (hR : Rf E st ac) : ∀ {rs : List (Ty × Bool)} {rvs : List ResultVar} {x : HT (rs.map (·.1))} {os : Objs}, finR c st rs rvs = some (x, os) → ResL c.P ac rvs (resA rs (htL _ x)) os
  | [], [], _, _, h => by cases h; exact .nil
  | [], _ :: _, _, _, h => by cases h
  | _ :: _, [], _, _, h => by cases h
  | p :: rs, rv :: rvs, _, _, h => by
    obtain ⟨⟨a, o1⟩, h1, h⟩ := bnd h
    obtain ⟨⟨b, o2⟩, h2, h⟩ := bnd h
    cases h
    exact .cons (z26c hc hR h1) (z22d hc hR h2)
theorem z26r (hR : Rf E st ac) {m : Nm} : ∀ {ys : List TV} {xs : List Lf} {os : Obs}, bkS st ys = some (xs, os) → BkE ac (.agg (avL m ys)) (.row (xs.map Lf.cell)) os := by
  intro ys
  induction ys with
  | nil => intro xs os h; cases h; exact .aggNil
  | cons y ys ih =>
    intro xs os h
    unfold bkS at h
    split at h
    · rename_i h0; cases h0
    · rename_i h0; cases h0
      obtain ⟨a, h1, h⟩ := bnd h
      obtain ⟨⟨b1, b2⟩, h2, h⟩ := bnd h
      obtain ⟨h3, h⟩ := bif_t h
      cases h
      simp only [Bool.and_eq_true] at h3
      refine .aggRef (z0tu hR h1 h3.1) (ih h2) ?_
      refine List.all_eq_true.2 fun p hp => List.all_eq_true.2 fun q hq => ?_
      simp only [List.mem_cons, List.not_mem_nil, or_false] at hp
      subst hp
      exact List.all_eq_true.1 (List.all_eq_true.1 h3.2 _ (List.mem_cons_self ..)) _ (List.mem_map.2 ⟨q, hq, rfl⟩)
    · rename_i h0; cases h0
      obtain ⟨⟨b1, b2⟩, h2, h⟩ := bnd h
      cases h
      exact .aggC (ih h2)
    · cases h
theorem z23d (hR : Rf E st ac) {m : Nm} {tv : TV} {p : PT} {x : p.ty.den} {os : Obs} (h : backT st tv p = some (x, os)) : BkE ac (tv.av m) (backA p ⟨p.ty, x⟩) os := by
  unfold backT at h
  split at h
  · split at h
    · obtain ⟨a, h1, h⟩ := bnd h
      obtain ⟨h2, h⟩ := bif_t h
      obtain ⟨l, h3, h⟩ := bnd h
      cases h
      obtain ⟨e, rfl⟩ := Ty.cast_some h3
      subst e
      exact .sl (z0tu hR h1 h2)
    · cases h
  · split at h
    · rename_i n ys
      obtain ⟨⟨b1, b2⟩, h1, h⟩ := bnd h
      cases hn : b1.any Lf.isNl with
      | true => simp only [hn] at h; cases h
      | false =>
        simp only [hn] at h
        obtain ⟨y, h2, h⟩ := bnd h
        cases h
        have := z26r hR (m := m) h1
        rw [← z09h h2 hn, Ty.out_cell] at this
        exact this
    · cases h
  · split at h
    · obtain ⟨ys, h1, h⟩ := bnd h
      obtain ⟨⟨a1, a2⟩, h2, h⟩ := bnd h
      obtain ⟨h3, h⟩ := bif_t h
      obtain ⟨y, h4, h⟩ := bnd h
      cases h
      simp only [Bool.and_eq_true, Bool.not_eq_true'] at h3
      obtain ⟨b1, b2⟩ := z0kg hR h1
      obtain ⟨c1, c2⟩ := z1fm hR h2
      have e := z09h (xs := a1) h4 h3.2
      rw [← e, Ty.out_cell] at c1
      exact .bx b1 (z257 c1 c2) h3.1
    · cases h
  · cases h
theorem z222 {a b : Obs} (h : apt (a.map (·.1)) (b.map (·.1)) = true) : noCommon a b = true :=
  List.all_eq_true.2 fun p hp => List.all_eq_true.2 fun q hq => List.all_eq_true.1 (List.all_eq_true.1 h _ (List.mem_map.2 ⟨p, hp, rfl⟩)) _ (List.mem_map.2 ⟨q, hq, rfl⟩)
theorem z22c (hR : Rf E st ac) {m : Nm} {tvs : List TV} : ∀ {bs : List (Nat × PT)} {x : HT (bs.map (·.2.ty))} {os : Obs}, finB st tvs bs = some (x, os) → BkEL ac (avL m tvs) (bksA bs (htL _ x)) os
  | [], _, _, h => by cases h; exact .nil
  | b :: bs, _, _, h => by
    obtain ⟨tv, h1, h⟩ := bnd h
    obtain ⟨⟨x, o1⟩, h2, h⟩ := bnd h
    obtain ⟨⟨y, o2⟩, h3, h⟩ := bnd h
    obtain ⟨h4, h⟩ := bif_t h
    cases h
    exact .cons (by rw [z0d9, List.getElem?_map, h1]; rfl) (z23d hR h2) (z22c hR h3) (z222 h4)
theorem z25m (hc : c.Ok) (hR : Rf E st ac) {m : Nm} {k : Con} {rvs : List ResultVar} {tvs : List TV} {z : HR (k.rs.map (·.1) ++ k.bs.map (·.2.ty))} (h : fin c k rvs tvs st = some z) :
    ∃ res os bk ob, Closes c.P ac rvs res os ∧ BkEL ac (avL m tvs) bk ob ∧ noCommon (asObs os) ob = true ∧ res = resA k.rs ((k.dvs z).take k.rs.length) ∧ bk = bksA k.bs ((k.dvs z).drop k.rs.length) := by
  obtain ⟨⟨a, os⟩, h1, h⟩ := bnd h
  obtain ⟨⟨b, ob⟩, h2, h⟩ := bnd h
  obtain ⟨h3, h⟩ := bif_t h
  cases h
  simp only [Bool.and_eq_true] at h3
  have e : k.dvs (toR _ (happ _ _ a b)) = htL _ a ++ htL _ b := by unfold Con.dvs; rw [z22o, z22p]
  have el : (htL _ a).length = k.rs.length := by rw [z1iq, List.length_map]
  refine ⟨_, os, _, ob, (z22d hc hR h1).closes h3.1, z22c hR h2, z222 ?_, ?_, ?_⟩
  · simpa [asObs, Function.comp_def] using h3.2
  · rw [e, List.take_left' el]
  · rw [e, List.drop_left' el]
end
def cxOf (b : Cx) (n : Nat) (fp : Option FP) : Cx := { b with n := n, fp := fp }
def exec (b : Cx) (f : Fs) (k : Con) (fn : Func) (W : List (Nat × List Wk)) (H : List (Hdl (HR (k.rs.map (·.1) ++ k.bs.map (·.2.ty))))) (av : AV) (x : HP k.ps) : Option (HR (k.rs.map (·.1) ++ k.bs.map (·.2.ty))) :=
  match fn.body with
  | some code =>
    let T := parTs 1000000 k.ps x
    bif Nat.ble k.ps.length fn.ntmps && (Nat.ble (nfn k.ps) 1 && (nodupB (T.2.map (·.1)) && (T.2.all (fun p => Nat.ble 1000000 p.1 && (p.2.ids ⟨[], [], none⟩).all (Nat.ble 1000000)) && (tidsL ⟨[], [], none⟩ T.1).all (Nat.ble 1000000)))) then
      run (cxOf b fn.ntmps (fpOf k.ps x av)) f W H code 0 (startX k.ps x (fpOf k.ps x av)) fun e st => match e with
        | .normal => fin (cxOf b fn.ntmps (fpOf k.ps x av)) k fn.results.toList T.1 st
        | .ret => fin (cxOf b fn.ntmps (fpOf k.ps x av)) k fn.results.toList T.1 st
        | _ => none
    else none
  | none => none
end Go.Am
end
section
namespace Go.Am
open Go
variable {P : Program}
mutual
theorem z25t {fp : Option FP} : ∀ (x : TV), x.ids ⟨[], [], fp⟩ = x.ids ⟨[], [], none⟩
  | .fp => rfl
  | .agg xs => by simp only [TV.ids]; exact z13b xs
  | .tup xs => by simp only [TV.ids]; exact z13b xs
  | .fn _ xs => by simp only [TV.ids]; exact z13b xs
  | .rp _ _ => rfl
  | .ptr _ _ => rfl
  | .b _ _ => rfl
  | .dead => rfl
  | .und => rfl
  | .l _ => rfl
  | .kb _ => rfl
  | .row _ => rfl
  | .ref _ => rfl
  | .bx _ _ => rfl
  | .pts _ => rfl
theorem z13b {fp : Option FP} : ∀ (l : List TV), tidsL ⟨[], [], fp⟩ l = tidsL ⟨[], [], none⟩ l
  | [] => rfl
  | x :: l => by simp only [tidsL, z25t x, z13b l]
end
theorem z1rc {t : Ty} {o : Bool} {x : t.den} {f : FuncId} {caps : List Arg} : argV t o x ≠ .fn f caps := by
  cases t <;> intro h <;> cases h
theorem z24h {ps : List PT} : ∀ {x : HP ps} {ags : List Arg}, nfn ps = 0 → PArgs P ps x ags → (∀ f caps, Arg.fn f caps ∉ ags) ∧ ∀ av, fpOf ps x av = none := by
  induction ps with
  | nil => intro x ags _ h; have e : ags = [] := h; subst e; exact ⟨(fun f caps hm => (by cases hm)), fun av => rfl⟩
  | cons p ps ih =>
    intro x ags hn h
    obtain ⟨a, r, rfl, h1, h2⟩ := h
    cases p with
    | fn t => simp [nfn] at hn
    | v t o =>
      obtain ⟨i1, i2⟩ := ih (by simpa [nfn] using hn) h2
      have e : a = argV t o x.1 := h1
      subst e
      exact ⟨fun f caps hm => (List.mem_cons.1 hm).elim (fun e => z1rc e.symm) (i1 f caps), i2⟩
    | ptr t o =>
      obtain ⟨i1, i2⟩ := ih (by simpa [nfn] using hn) h2
      have e : a = .c (.bx (t.cells o x.1)) := h1
      subst e
      exact ⟨fun f caps hm => (List.mem_cons.1 hm).elim (fun e => (by cases e)) (i1 f caps), i2⟩
    | pts t =>
      obtain ⟨i1, i2⟩ := ih (by simpa [nfn] using hn) h2
      have e : a = .pts (t.cells false x.1) := h1
      subst e
      exact ⟨fun f caps hm => (List.mem_cons.1 hm).elim (fun e => (by cases e)) (i1 f caps), i2⟩
theorem z24g {ps : List PT} : ∀ {x : HP ps} {ags : List Arg}, nfn ps ≤ 1 → PArgs P ps x ags → ∃ av, (∀ f caps, Arg.fn f caps ∈ ags → FPav (fpOf ps x av) = .fn f (argAVs caps)) ∧ (∀ q, fpOf ps x av = some q → q.Ok P) ∧ (FPav (fpOf ps x av)).ids = [] := by
  induction ps with
  | nil => intro x ags _ h; have e : ags = [] := h; subst e; exact ⟨.dead, fun f caps hm => ((by cases hm)), fun q hq => ((by cases hq)), rfl⟩
  | cons p ps ih =>
    intro x ags hn h
    obtain ⟨a, r, rfl, h1, h2⟩ := h
    cases p with
    | fn t =>
      obtain ⟨f, caps, rfl, g1, g2, g3⟩ := h1
      have hn0 : nfn ps = 0 := by simp only [nfn] at hn; omega
      obtain ⟨i1, i2⟩ := z24h hn0 h2
      refine ⟨.fn f (argAVs caps), fun f' caps' hm => ?_, fun q hq => ?_, z1rb (.fn f caps)⟩
      · rcases List.mem_cons.1 hm with e | hm
        · cases e; rfl
        · exact absurd hm (i1 f' caps')
      · cases hq; exact ⟨f, caps, rfl, g1, g2, g3⟩
    | v t o =>
      obtain ⟨av, i1, i2, i3⟩ := ih (by simpa [nfn] using hn) h2
      have e : a = argV t o x.1 := h1
      subst e
      exact ⟨av, fun f caps hm => (List.mem_cons.1 hm).elim (fun e => absurd e.symm z1rc) (i1 f caps), i2, i3⟩
    | ptr t o =>
      obtain ⟨av, i1, i2, i3⟩ := ih (by simpa [nfn] using hn) h2
      have e : a = .c (.bx (t.cells o x.1)) := h1
      subst e
      exact ⟨av, fun f caps hm => (List.mem_cons.1 hm).elim (fun e => (by cases e)) (i1 f caps), i2, i3⟩
    | pts t =>
      obtain ⟨av, i1, i2, i3⟩ := ih (by simpa [nfn] using hn) h2
      have e : a = .pts (t.cells false x.1) := h1
      subst e
      exact ⟨av, fun f caps hm => (List.mem_cons.1 hm).elim (fun e => (by cases e)) (i1 f caps), i2, i3⟩
theorem z217 {ps : List PT} : ∀ {x : HP ps} {ags : List Arg}, PArgs P ps x ags → ags.all Arg.par = true ∧ ags.length = ps.length := by
  induction ps with
  | nil => intro x ags h; have e : ags = [] := h; subst e; exact ⟨rfl, rfl⟩
  | cons p ps ih =>
    intro x ags h
    obtain ⟨a, r, rfl, h1, h2⟩ := h
    obtain ⟨i1, i2⟩ := ih h2
    have ha : a.par = true := by
      cases p with
      | v t o => have e : a = argV t o x.1 := h1; subst e; cases t <;> rfl
      | ptr t o => have e : a = .c (.bx (t.cells o x.1)) := h1; subst e; rfl
      | pts t => have e : a = .pts (t.cells false x.1) := h1; subst e; exact t.row.plain _
      | fn t => obtain ⟨f, caps, rfl, _, g, _⟩ := h1; exact g
    exact ⟨by simp only [List.all_cons, ha, i1, Bool.and_self], by simp only [List.length_cons, i2]⟩
theorem z26t {b : Cx} {f : Fs} {k : Con} {fn : Func} {code : Code} {W : List (Nat × List Wk)} {H : AV → HP k.ps → List (Hdl (HR (k.rs.map (·.1) ++ k.bs.map (·.2.ty))))} (hc : b.Ok) (hfs : f.Ok b.P) (hf : b.P.funcs[k.f]? = some fn)
    (hname : (fn.name == "runtime.NumGoroutine") = false) (hb : fn.body = some code)
    (hL : ∀ (av : AV) (x : HP k.ps), (cxOf b fn.ntmps (fpOf k.ps x av)).Ok → (FPav (fpOf k.ps x av)).ids = [] → ∀ (i : Nat) (bd : Code) (h : Hdl (HR (k.rs.map (·.1) ++ k.bs.map (·.2.ty)))), (loops code)[i]? = some bd → (H av x)[i]? = some h → LSnd (cxOf b fn.ntmps (fpOf k.ps x av)) (fin (cxOf b fn.ntmps (fpOf k.ps x av)) k fn.results.toList (parTs 1000000 k.ps x).1) h bd)
    (hx : ∀ av x, exec b f k fn W (H av x) av x = k.M x) : k.Ok b.P := by
  refine ⟨⟨fn, code, hf, hname, hb⟩, fun x ags z ha hz => ?_⟩
  have hx' := hx .dead x
  have hnf : nfn k.ps ≤ 1 := by
    rw [hz] at hx'
    unfold exec at hx'
    rw [hb] at hx'
    obtain ⟨h1, _⟩ := bif_t hx'
    simp only [Bool.and_eq_true] at h1
    exact Nat.le_of_ble_eq_true h1.2.1
  obtain ⟨av, f1, f2, f3⟩ := z24g hnf ha
  have hrun := hx av x
  rw [hz] at hrun
  unfold exec at hrun
  rw [hb] at hrun
  obtain ⟨h1, hrun⟩ := bif_t hrun
  simp only [Bool.and_eq_true] at h1
  obtain ⟨p1, _, p2, p3, p4⟩ := h1
  obtain ⟨g1, g2, g3, g4⟩ := z1qe (m := ⟨[], [], fpOf k.ps x av⟩) 1000000 ha f1
  obtain ⟨q1, q2⟩ := z217 ha
  have hc' : (cxOf b fn.ntmps (fpOf k.ps x av)).Ok := ⟨hc.ty, hc.mt, f2, hc.mixed⟩
  have hids : ∀ (l : List (Nat × TO)) (m : Nm), (TOs m l).map (·.1) = l.map (·.1) := fun l m => by simp [TOs, Function.comp_def]
  refine z20m (n := fn.ntmps) (rvs := fn.results.toList) hf hb (by rw [Array.toArray_toList]) rfl (by rw [q2]; exact Nat.le_of_ble_eq_true p1) q1 (by rw [g3, hids]; exact p2) ?_ ?_ ?_ ?_
  · rw [g3]
    refine List.all_eq_true.2 fun p hp => ?_
    obtain ⟨q, hq, rfl⟩ := List.mem_map.1 hp
    have := List.all_eq_true.1 p3 q hq
    simp only [Bool.and_eq_true] at this
    exact this.1
  · rw [g3]
    refine List.all_eq_true.2 fun p hp => ?_
    obtain ⟨q, hq, rfl⟩ := List.mem_map.1 hp
    have := List.all_eq_true.1 p3 q hq
    simp only [Bool.and_eq_true] at this
    show (q.2.ob _).ids.all _ = true
    rw [TO.ids_ob _ f3 _ (g4 q hq)]
    have e : q.2.ids ⟨[], [], fpOf k.ps x av⟩ = q.2.ids ⟨[], [], none⟩ := by
      cases q.2 with
      | box xs => exact z13b xs
      | _ => rfl
    rw [e]; exact this.2
  · rw [← g1]
    refine List.all_eq_true.2 fun a ha => List.all_eq_true.2 fun i hi => ?_
    have : i ∈ idsL (avL ⟨[], [], fpOf k.ps x av⟩ (parTs 1000000 k.ps x).1) := by
      obtain ⟨j, hj⟩ := List.mem_iff_getElem?.1 ha
      exact z02o hj hi
    rw [z0fp _ f3 _ g2, z13b] at this
    exact List.all_eq_true.1 p4 i this
  · refine z22z hc' hfs code 0 (startX k.ps x (fpOf k.ps x av)) (startSt2 ags) _ _ (fun i bd h hi hh => hL av x hc' f3 i bd h hi (by simpa using hh)) (z21g f3 ha f1) hrun (fun st => rfl) ?_
    intro e st' ac' hR' h'
    cases e with
    | normal =>
      obtain ⟨res, os, bk, ob, e1, e2, e3, e4, e5⟩ := z25m hc' hR' (m := ⟨[], [], fpOf k.ps x av⟩) h'
      rw [g1] at e2
      exact ⟨res, os, bk, ob, e1, e2, e3, e4, e5⟩
    | ret =>
      obtain ⟨res, os, bk, ob, e1, e2, e3, e4, e5⟩ := z25m hc' hR' (m := ⟨[], [], fpOf k.ps x av⟩) h'
      rw [g1] at e2
      exact ⟨res, os, bk, ob, e1, e2, e3, e4, e5⟩
    | _ => cases h'
def hpT : (cs : List Ty) → HP (cs.map .pts) → HT cs
  | [], _ => ()
  | _ :: cs, x => (x.1, hpT cs x.2)
def htP : (cs : List Ty) → HT cs → HP (cs.map .pts)
  | [], _ => ()
  | _ :: cs, x => (x.1, htP cs x.2)
theorem z22n : ∀ (cs : List Ty) (x : HT cs), hpT cs (htP cs x) = x
  | [], _ => rfl
  | _ :: cs, x => by simp only [hpT, htP, z22n cs]
def FCon.con (k : FCon) : Con := ⟨k.f, .v k.t false :: k.cs.map .pts, [(.B, false)], [], fun x => k.M x.1 (hpT k.cs x.2)⟩
theorem z1rk : ∀ (cs : List Ty) (x : HT cs), PArgs P (cs.map .pts) (htP cs x) (capA cs x)
  | [], _ => rfl
  | _ :: cs, x => ⟨_, _, rfl, rfl, z1rk cs x.2⟩
theorem FCon.ok {k : FCon} (h : k.con.Ok P) : k.Ok P := by
  refine ⟨h.1, fun z cv y hy => ?_⟩
  exact h.2 (z, htP k.cs cv) _ y ⟨_, _, rfl, rfl, z1rk k.cs cv⟩ (by show k.M z (hpT k.cs (htP k.cs cv)) = _; rw [z22n]; exact hy)
end Go.Am
end
section
namespace Go.Am
open Go Go.Proofs
set_option maxRecDepth 100000
theorem fcA {P : Program} {a : Nat × Ty} {l : List (Nat × Ty)} (h : TyOk P a.1 a.2) (t : ∀ p ∈ l, TyOk P p.1 p.2) : ∀ p ∈ a :: l, TyOk P p.1 p.2 := fun p hp => (List.mem_cons.1 hp).elim (fun e => e ▸ h) (t p)
theorem fcN {P : Program} : ∀ p ∈ ([] : List (Nat × Ty)), TyOk P p.1 p.2 := fun p hp => (by cases hp)
theorem tyOk3 : TyOk Tryz.prog 3 (.I) := ⟨Tryz.sizeOf3, Tryz.isAgg3, ⟨_, Tryz.zeroValue3, rfl⟩, Tryz.underlying3, (fun h => (by cases h))⟩
theorem tyOk4 : TyOk Tryz.prog 4 (.B) := ⟨Tryz.sizeOf4, Tryz.isAgg4, ⟨_, Tryz.zeroValue4, rfl⟩, Tryz.underlying4, (fun h => (by cases h))⟩
theorem tyOk5 : TyOk Tryz.prog 5 (.Y) := ⟨Tryz.sizeOf5, Tryz.isAgg5, ⟨_, Tryz.zeroValue5, rfl⟩, Tryz.underlying5, (fun h => (by cases h))⟩
theorem tyOk42 : TyOk Tryz.prog 42 (.s .ask) := ⟨Tryz.sizeOf42, Tryz.isAgg42, ⟨_, Tryz.zeroValue42, rfl⟩, ⟨_, Tryz.underlying42, (fun fi p h => match fi, h with | 0, h => by cases h; exact ⟨3, Tryz.sizeOf3, rfl, rfl⟩ | 1, h => by cases h; exact ⟨3, Tryz.sizeOf3, rfl, rfl⟩ | 2, h => by cases h; exact ⟨3, Tryz.sizeOf3, rfl, rfl⟩ | fi + 3, h => (by have h2 : none = some p := h; cases h2)), built42⟩, (fun _ => ⟨3, eqfacts42.1, eqfacts42.2.1, eqfacts42.2.2.1, Tryz.underlying3, Tryz.isAgg3, eqfacts42.2.2.2, by kernel_rfl⟩)⟩
theorem tyOk234 : TyOk Tryz.prog 234 (.s .flow) := ⟨Tryz.sizeOf234, Tryz.isAgg234, ⟨_, Tryz.zeroValue234, rfl⟩, ⟨_, Tryz.underlying234, (fun fi p h => match fi, h with | 0, h => by cases h; exact ⟨3, Tryz.sizeOf3, rfl, rfl⟩ | 1, h => by cases h; exact ⟨42, Tryz.sizeOf42, rfl, rfl⟩ | fi + 2, h => (by have h2 : none = some p := h; cases h2)), built234⟩, (fun h => (by cases h))⟩
theorem tyOk187 : TyOk Tryz.prog 187 (.s .task) := ⟨Tryz.sizeOf187, Tryz.isAgg187, ⟨_, Tryz.zeroValue187, rfl⟩, ⟨_, Tryz.underlying187, (fun fi p h => match fi, h with | 0, h => by cases h; exact ⟨3, Tryz.sizeOf3, rfl, rfl⟩ | 1, h => by cases h; exact ⟨3, Tryz.sizeOf3, rfl, rfl⟩ | 2, h => by cases h; exact ⟨23, Tryz.sizeOf23, rfl, rfl⟩ | 3, h => by cases h; exact ⟨185, Tryz.sizeOf185, rfl, rfl⟩ | 4, h => by cases h; exact ⟨23, Tryz.sizeOf23, rfl, rfl⟩ | 5, h => by cases h; exact ⟨3, Tryz.sizeOf3, rfl, rfl⟩ | 6, h => by cases h; exact ⟨3, Tryz.sizeOf3, rfl, rfl⟩ | 7, h => by cases h; exact ⟨3, Tryz.sizeOf3, rfl, rfl⟩ | 8, h => by cases h; exact ⟨3, Tryz.sizeOf3, rfl, rfl⟩ | fi + 9, h => (by have h2 : none = some p := h; cases h2)), built187⟩, (fun h => (by cases h))⟩
theorem tyOk81 : TyOk Tryz.prog 81 (.s .net) := ⟨Tryz.sizeOf81, Tryz.isAgg81, ⟨_, Tryz.zeroValue81, rfl⟩, ⟨_, Tryz.underlying81, (fun fi p h => match fi, h with | 0, h => by cases h; exact ⟨3, Tryz.sizeOf3, rfl, rfl⟩ | 1, h => by cases h; exact ⟨79, Tryz.sizeOf79, rfl, rfl⟩ | fi + 2, h => (by have h2 : none = some p := h; cases h2)), built81⟩, (fun h => (by cases h))⟩
theorem tyOk137 : TyOk Tryz.prog 137 (.s .item) := ⟨Tryz.sizeOf137, Tryz.isAgg137, ⟨_, Tryz.zeroValue137, rfl⟩, ⟨_, Tryz.underlying137, (fun fi p h => match fi, h with | 0, h => by cases h; exact ⟨3, Tryz.sizeOf3, rfl, rfl⟩ | 1, h => by cases h; exact ⟨3, Tryz.sizeOf3, rfl, rfl⟩ | 2, h => by cases h; exact ⟨3, Tryz.sizeOf3, rfl, rfl⟩ | fi + 3, h => (by have h2 : none = some p := h; cases h2)), built137⟩, (fun _ => ⟨3, eqfacts137.1, eqfacts137.2.1, eqfacts137.2.2.1, Tryz.underlying3, Tryz.isAgg3, eqfacts137.2.2.2, by kernel_rfl⟩)⟩
theorem tyOk154 : TyOk Tryz.prog 154 (.s .did) := ⟨Tryz.sizeOf154, Tryz.isAgg154, ⟨_, Tryz.zeroValue154, rfl⟩, ⟨_, Tryz.underlying154, (fun fi p h => match fi, h with | 0, h => by cases h; exact ⟨3, Tryz.sizeOf3, rfl, rfl⟩ | 1, h => by cases h; exact ⟨3, Tryz.sizeOf3, rfl, rfl⟩ | fi + 2, h => (by have h2 : none = some p := h; cases h2)), built154⟩, (fun _ => ⟨3, eqfacts154.1, eqfacts154.2.1, eqfacts154.2.2.1, Tryz.underlying3, Tryz.isAgg3, eqfacts154.2.2.2, by kernel_rfl⟩)⟩
theorem tyOk76 : TyOk Tryz.prog 76 (.s .kase) := ⟨Tryz.sizeOf76, Tryz.isAgg76, ⟨_, Tryz.zeroValue76, rfl⟩, ⟨_, Tryz.underlying76, (fun fi p h => match fi, h with | 0, h => by cases h; exact ⟨3, Tryz.sizeOf3, rfl, rfl⟩ | 1, h => by cases h; exact ⟨23, Tryz.sizeOf23, rfl, rfl⟩ | 2, h => by cases h; exact ⟨73, Tryz.sizeOf73, rfl, rfl⟩ | 3, h => by cases h; exact ⟨23, Tryz.sizeOf23, rfl, rfl⟩ | 4, h => by cases h; exact ⟨74, Tryz.sizeOf74, rfl, rfl⟩ | fi + 5, h => (by have h2 : none = some p := h; cases h2)), built76⟩, (fun h => (by cases h))⟩
theorem tyOk168 : TyOk Tryz.prog 168 (.s .node) := ⟨Tryz.sizeOf168, Tryz.isAgg168, ⟨_, Tryz.zeroValue168, rfl⟩, ⟨_, Tryz.underlying168, (fun fi p h => match fi, h with | 0, h => by cases h; exact ⟨42, Tryz.sizeOf42, rfl, rfl⟩ | 1, h => by cases h; exact ⟨3, Tryz.sizeOf3, rfl, rfl⟩ | 2, h => by cases h; exact ⟨3, Tryz.sizeOf3, rfl, rfl⟩ | 3, h => by cases h; exact ⟨3, Tryz.sizeOf3, rfl, rfl⟩ | 4, h => by cases h; exact ⟨23, Tryz.sizeOf23, rfl, rfl⟩ | fi + 5, h => (by have h2 : none = some p := h; cases h2)), built168⟩, (fun h => (by cases h))⟩
theorem tyOk124 : TyOk Tryz.prog 124 (.s .run) := ⟨Tryz.sizeOf124, Tryz.isAgg124, ⟨_, Tryz.zeroValue124, rfl⟩, ⟨_, Tryz.underlying124, (fun fi p h => match fi, h with | 0, h => by cases h; exact ⟨3, Tryz.sizeOf3, rfl, rfl⟩ | 1, h => by cases h; exact ⟨76, Tryz.sizeOf76, rfl, rfl⟩ | fi + 2, h => (by have h2 : none = some p := h; cases h2)), built124⟩, (fun h => (by cases h))⟩
theorem tyOk38 : TyOk Tryz.prog 38 (.s .house) := ⟨Tryz.sizeOf38, Tryz.isAgg38, ⟨_, Tryz.zeroValue38, rfl⟩, ⟨_, Tryz.underlying38, (fun fi p h => match fi, h with | 0, h => by cases h; exact ⟨34, Tryz.sizeOf34, rfl, rfl⟩ | 1, h => by cases h; exact ⟨23, Tryz.sizeOf23, rfl, rfl⟩ | 2, h => by cases h; exact ⟨35, Tryz.sizeOf35, rfl, rfl⟩ | 3, h => by cases h; exact ⟨36, Tryz.sizeOf36, rfl, rfl⟩ | fi + 4, h => (by have h2 : none = some p := h; cases h2)), built38⟩, (fun h => (by cases h))⟩
theorem tyOk44 : TyOk Tryz.prog 44 (.s .req) := ⟨Tryz.sizeOf44, Tryz.isAgg44, ⟨_, Tryz.zeroValue44, rfl⟩, ⟨_, Tryz.underlying44, (fun fi p h => match fi, h with | 0, h => by cases h; exact ⟨3, Tryz.sizeOf3, rfl, rfl⟩ | 1, h => by cases h; exact ⟨3, Tryz.sizeOf3, rfl, rfl⟩ | 2, h => by cases h; exact ⟨3, Tryz.sizeOf3, rfl, rfl⟩ | 3, h => by cases h; exact ⟨3, Tryz.sizeOf3, rfl, rfl⟩ | 4, h => by cases h; exact ⟨3, Tryz.sizeOf3, rfl, rfl⟩ | 5, h => by cases h; exact ⟨3, Tryz.sizeOf3, rfl, rfl⟩ | 6, h => by cases h; exact ⟨23, Tryz.sizeOf23, rfl, rfl⟩ | 7, h => by cases h; exact ⟨42, Tryz.sizeOf42, rfl, rfl⟩ | 8, h => by cases h; exact ⟨3, Tryz.sizeOf3, rfl, rfl⟩ | fi + 9, h => (by have h2 : none = some p := h; cases h2)), built44⟩, (fun h => (by cases h))⟩
theorem built29 : ∀ ps, Tryz.prog.built 29 ps = Instr.fill (fun i => [(0, 1), (1, 1), (2, 1)].toArray[i]?) #[.int .i64 0, .int .i64 0, .int .i64 0] ps := z03y (it := Tryz.t29) (z := .agg #[.int .i64 0, .int .i64 0, .int .i64 0]) (by kernel_rfl) Tryz.underlying29 (by kernel_rfl) (by kernel_rfl) rfl
theorem eqfacts29 : Tryz.prog.underlying 29 = some (.struct (Tryz.prog.fieldsOf 29)) ∧ Tryz.prog.stoodInHeld 29 = false ∧ Tryz.prog.eqGuardType Tryz.prog.depth 29 = false ∧ flatF Tryz.prog 3 (Tryz.prog.fieldsOf 29).toList 0 = true := ⟨by kernel_rfl, by kernel_rfl, by kernel_rfl, by kernel_rfl⟩
theorem tyOk29 : TyOk Tryz.prog 29 (.s .ask) := ⟨Tryz.sizeOf29, Tryz.isAgg29, ⟨_, Tryz.zeroValue29, rfl⟩, ⟨_, Tryz.underlying29, (fun fi p h => match fi, h with | 0, h => by cases h; exact ⟨3, Tryz.sizeOf3, rfl, rfl⟩ | 1, h => by cases h; exact ⟨3, Tryz.sizeOf3, rfl, rfl⟩ | 2, h => by cases h; exact ⟨3, Tryz.sizeOf3, rfl, rfl⟩ | fi + 3, h => (by have h2 : none = some p := h; cases h2)), built29⟩, (fun _ => ⟨3, eqfacts29.1, eqfacts29.2.1, eqfacts29.2.2.1, Tryz.underlying3, Tryz.isAgg3, eqfacts29.2.2.2, by kernel_rfl⟩)⟩
theorem built244 : ∀ ps, Tryz.prog.built 244 ps = Instr.fill (fun i => [(0, 1), (1, 3)].toArray[i]?) #[.int .i64 0, .int .i64 0, .int .i64 0, .int .i64 0] ps := z03y (it := Tryz.t244) (z := .agg #[.int .i64 0, .int .i64 0, .int .i64 0, .int .i64 0]) (by kernel_rfl) Tryz.underlying244 (by kernel_rfl) (by kernel_rfl) rfl
theorem tyOk244 : TyOk Tryz.prog 244 (.s .flow) := ⟨Tryz.sizeOf244, Tryz.isAgg244, ⟨_, Tryz.zeroValue244, rfl⟩, ⟨_, Tryz.underlying244, (fun fi p h => match fi, h with | 0, h => by cases h; exact ⟨3, Tryz.sizeOf3, rfl, rfl⟩ | 1, h => by cases h; exact ⟨29, Tryz.sizeOf29, rfl, rfl⟩ | fi + 2, h => (by have h2 : none = some p := h; cases h2)), built244⟩, (fun h => (by cases h))⟩
theorem built194 : ∀ ps, Tryz.prog.built 194 ps = Instr.fill (fun i => [(0, 1), (1, 1), (2, 1), (3, 1), (4, 1), (5, 1), (6, 1), (7, 1), (8, 1)].toArray[i]?) #[.int .i64 0, .int .i64 0, .slice none 0 0, .slice none 0 0, .slice none 0 0, .int .i64 0, .int .i64 0, .int .i64 0, .int .i64 0] ps := z03y (it := Tryz.t194) (z := .agg #[.int .i64 0, .int .i64 0, .slice none 0 0, .slice none 0 0, .slice none 0 0, .int .i64 0, .int .i64 0, .int .i64 0, .int .i64 0]) (by kernel_rfl) Tryz.underlying194 (by kernel_rfl) (by kernel_rfl) rfl
theorem tyOk194 : TyOk Tryz.prog 194 (.s .task) := ⟨Tryz.sizeOf194, Tryz.isAgg194, ⟨_, Tryz.zeroValue194, rfl⟩, ⟨_, Tryz.underlying194, (fun fi p h => match fi, h with | 0, h => by cases h; exact ⟨3, Tryz.sizeOf3, rfl, rfl⟩ | 1, h => by cases h; exact ⟨3, Tryz.sizeOf3, rfl, rfl⟩ | 2, h => by cases h; exact ⟨23, Tryz.sizeOf23, rfl, rfl⟩ | 3, h => by cases h; exact ⟨192, Tryz.sizeOf192, rfl, rfl⟩ | 4, h => by cases h; exact ⟨23, Tryz.sizeOf23, rfl, rfl⟩ | 5, h => by cases h; exact ⟨3, Tryz.sizeOf3, rfl, rfl⟩ | 6, h => by cases h; exact ⟨3, Tryz.sizeOf3, rfl, rfl⟩ | 7, h => by cases h; exact ⟨3, Tryz.sizeOf3, rfl, rfl⟩ | 8, h => by cases h; exact ⟨3, Tryz.sizeOf3, rfl, rfl⟩ | fi + 9, h => (by have h2 : none = some p := h; cases h2)), built194⟩, (fun h => (by cases h))⟩
theorem built66 : ∀ ps, Tryz.prog.built 66 ps = Instr.fill (fun i => [(0, 1), (1, 1)].toArray[i]?) #[.int .i64 0, .slice none 0 0] ps := z03y (it := Tryz.t66) (z := .agg #[.int .i64 0, .slice none 0 0]) (by kernel_rfl) Tryz.underlying66 (by kernel_rfl) (by kernel_rfl) rfl
theorem tyOk66 : TyOk Tryz.prog 66 (.s .net) := ⟨Tryz.sizeOf66, Tryz.isAgg66, ⟨_, Tryz.zeroValue66, rfl⟩, ⟨_, Tryz.underlying66, (fun fi p h => match fi, h with | 0, h => by cases h; exact ⟨3, Tryz.sizeOf3, rfl, rfl⟩ | 1, h => by cases h; exact ⟨64, Tryz.sizeOf64, rfl, rfl⟩ | fi + 2, h => (by have h2 : none = some p := h; cases h2)), built66⟩, (fun h => (by cases h))⟩
theorem built199 : ∀ ps, Tryz.prog.built 199 ps = Instr.fill (fun i => [(0, 1), (1, 1), (2, 1)].toArray[i]?) #[.int .i64 0, .int .i64 0, .int .i64 0] ps := z03y (it := Tryz.t199) (z := .agg #[.int .i64 0, .int .i64 0, .int .i64 0]) (by kernel_rfl) Tryz.underlying199 (by kernel_rfl) (by kernel_rfl) rfl
theorem eqfacts199 : Tryz.prog.underlying 199 = some (.struct (Tryz.prog.fieldsOf 199)) ∧ Tryz.prog.stoodInHeld 199 = false ∧ Tryz.prog.eqGuardType Tryz.prog.depth 199 = false ∧ flatF Tryz.prog 3 (Tryz.prog.fieldsOf 199).toList 0 = true := ⟨by kernel_rfl, by kernel_rfl, by kernel_rfl, by kernel_rfl⟩
theorem tyOk199 : TyOk Tryz.prog 199 (.s .item) := ⟨Tryz.sizeOf199, Tryz.isAgg199, ⟨_, Tryz.zeroValue199, rfl⟩, ⟨_, Tryz.underlying199, (fun fi p h => match fi, h with | 0, h => by cases h; exact ⟨3, Tryz.sizeOf3, rfl, rfl⟩ | 1, h => by cases h; exact ⟨3, Tryz.sizeOf3, rfl, rfl⟩ | 2, h => by cases h; exact ⟨3, Tryz.sizeOf3, rfl, rfl⟩ | fi + 3, h => (by have h2 : none = some p := h; cases h2)), built199⟩, (fun _ => ⟨3, eqfacts199.1, eqfacts199.2.1, eqfacts199.2.2.1, Tryz.underlying3, Tryz.isAgg3, eqfacts199.2.2.2, by kernel_rfl⟩)⟩
theorem built201 : ∀ ps, Tryz.prog.built 201 ps = Instr.fill (fun i => [(0, 1), (1, 1)].toArray[i]?) #[.int .i64 0, .int .i64 0] ps := z03y (it := Tryz.t201) (z := .agg #[.int .i64 0, .int .i64 0]) (by kernel_rfl) Tryz.underlying201 (by kernel_rfl) (by kernel_rfl) rfl
theorem eqfacts201 : Tryz.prog.underlying 201 = some (.struct (Tryz.prog.fieldsOf 201)) ∧ Tryz.prog.stoodInHeld 201 = false ∧ Tryz.prog.eqGuardType Tryz.prog.depth 201 = false ∧ flatF Tryz.prog 3 (Tryz.prog.fieldsOf 201).toList 0 = true := ⟨by kernel_rfl, by kernel_rfl, by kernel_rfl, by kernel_rfl⟩
theorem tyOk201 : TyOk Tryz.prog 201 (.s .did) := ⟨Tryz.sizeOf201, Tryz.isAgg201, ⟨_, Tryz.zeroValue201, rfl⟩, ⟨_, Tryz.underlying201, (fun fi p h => match fi, h with | 0, h => by cases h; exact ⟨3, Tryz.sizeOf3, rfl, rfl⟩ | 1, h => by cases h; exact ⟨3, Tryz.sizeOf3, rfl, rfl⟩ | fi + 2, h => (by have h2 : none = some p := h; cases h2)), built201⟩, (fun _ => ⟨3, eqfacts201.1, eqfacts201.2.1, eqfacts201.2.2.1, Tryz.underlying3, Tryz.isAgg3, eqfacts201.2.2.2, by kernel_rfl⟩)⟩
theorem built70 : ∀ ps, Tryz.prog.built 70 ps = Instr.fill (fun i => [(0, 1), (1, 1), (2, 1), (3, 1), (4, 1)].toArray[i]?) #[.int .i64 0, .slice none 0 0, .slice none 0 0, .slice none 0 0, .slice none 0 0] ps := z03y (it := Tryz.t70) (z := .agg #[.int .i64 0, .slice none 0 0, .slice none 0 0, .slice none 0 0, .slice none 0 0]) (by kernel_rfl) Tryz.underlying70 (by kernel_rfl) (by kernel_rfl) rfl
theorem tyOk70 : TyOk Tryz.prog 70 (.s .kase) := ⟨Tryz.sizeOf70, Tryz.isAgg70, ⟨_, Tryz.zeroValue70, rfl⟩, ⟨_, Tryz.underlying70, (fun fi p h => match fi, h with | 0, h => by cases h; exact ⟨3, Tryz.sizeOf3, rfl, rfl⟩ | 1, h => by cases h; exact ⟨23, Tryz.sizeOf23, rfl, rfl⟩ | 2, h => by cases h; exact ⟨67, Tryz.sizeOf67, rfl, rfl⟩ | 3, h => by cases h; exact ⟨23, Tryz.sizeOf23, rfl, rfl⟩ | 4, h => by cases h; exact ⟨68, Tryz.sizeOf68, rfl, rfl⟩ | fi + 5, h => (by have h2 : none = some p := h; cases h2)), built70⟩, (fun h => (by cases h))⟩
theorem built157 : ∀ ps, Tryz.prog.built 157 ps = Instr.fill (fun i => [(0, 3), (3, 1), (4, 1), (5, 1), (6, 1)].toArray[i]?) #[.int .i64 0, .int .i64 0, .int .i64 0, .int .i64 0, .int .i64 0, .int .i64 0, .slice none 0 0] ps := z03y (it := Tryz.t157) (z := .agg #[.int .i64 0, .int .i64 0, .int .i64 0, .int .i64 0, .int .i64 0, .int .i64 0, .slice none 0 0]) (by kernel_rfl) Tryz.underlying157 (by kernel_rfl) (by kernel_rfl) rfl
theorem tyOk157 : TyOk Tryz.prog 157 (.s .node) := ⟨Tryz.sizeOf157, Tryz.isAgg157, ⟨_, Tryz.zeroValue157, rfl⟩, ⟨_, Tryz.underlying157, (fun fi p h => match fi, h with | 0, h => by cases h; exact ⟨29, Tryz.sizeOf29, rfl, rfl⟩ | 1, h => by cases h; exact ⟨3, Tryz.sizeOf3, rfl, rfl⟩ | 2, h => by cases h; exact ⟨3, Tryz.sizeOf3, rfl, rfl⟩ | 3, h => by cases h; exact ⟨3, Tryz.sizeOf3, rfl, rfl⟩ | 4, h => by cases h; exact ⟨23, Tryz.sizeOf23, rfl, rfl⟩ | fi + 5, h => (by have h2 : none = some p := h; cases h2)), built157⟩, (fun h => (by cases h))⟩
theorem built160 : ∀ ps, Tryz.prog.built 160 ps = Instr.fill (fun i => [(0, 1), (1, 5)].toArray[i]?) #[.int .i64 0, .int .i64 0, .slice none 0 0, .slice none 0 0, .slice none 0 0, .slice none 0 0] ps := z03y (it := Tryz.t160) (z := .agg #[.int .i64 0, .int .i64 0, .slice none 0 0, .slice none 0 0, .slice none 0 0, .slice none 0 0]) (by kernel_rfl) Tryz.underlying160 (by kernel_rfl) (by kernel_rfl) rfl
theorem tyOk160 : TyOk Tryz.prog 160 (.s .run) := ⟨Tryz.sizeOf160, Tryz.isAgg160, ⟨_, Tryz.zeroValue160, rfl⟩, ⟨_, Tryz.underlying160, (fun fi p h => match fi, h with | 0, h => by cases h; exact ⟨3, Tryz.sizeOf3, rfl, rfl⟩ | 1, h => by cases h; exact ⟨70, Tryz.sizeOf70, rfl, rfl⟩ | fi + 2, h => (by have h2 : none = some p := h; cases h2)), built160⟩, (fun h => (by cases h))⟩
theorem built27 : ∀ ps, Tryz.prog.built 27 ps = Instr.fill (fun i => [(0, 1), (1, 1), (2, 1), (3, 1)].toArray[i]?) #[.slice none 0 0, .slice none 0 0, .slice none 0 0, .slice none 0 0] ps := z03y (it := Tryz.t27) (z := .agg #[.slice none 0 0, .slice none 0 0, .slice none 0 0, .slice none 0 0]) (by kernel_rfl) Tryz.underlying27 (by kernel_rfl) (by kernel_rfl) rfl
theorem tyOk27 : TyOk Tryz.prog 27 (.s .house) := ⟨Tryz.sizeOf27, Tryz.isAgg27, ⟨_, Tryz.zeroValue27, rfl⟩, ⟨_, Tryz.underlying27, (fun fi p h => match fi, h with | 0, h => by cases h; exact ⟨22, Tryz.sizeOf22, rfl, rfl⟩ | 1, h => by cases h; exact ⟨23, Tryz.sizeOf23, rfl, rfl⟩ | 2, h => by cases h; exact ⟨24, Tryz.sizeOf24, rfl, rfl⟩ | 3, h => by cases h; exact ⟨25, Tryz.sizeOf25, rfl, rfl⟩ | fi + 4, h => (by have h2 : none = some p := h; cases h2)), built27⟩, (fun h => (by cases h))⟩
theorem built31 : ∀ ps, Tryz.prog.built 31 ps = Instr.fill (fun i => [(0, 1), (1, 1), (2, 1), (3, 1), (4, 1), (5, 1), (6, 1), (7, 3), (10, 1)].toArray[i]?) #[.int .i64 0, .int .i64 0, .int .i64 0, .int .i64 0, .int .i64 0, .int .i64 0, .slice none 0 0, .int .i64 0, .int .i64 0, .int .i64 0, .int .i64 0] ps := z03y (it := Tryz.t31) (z := .agg #[.int .i64 0, .int .i64 0, .int .i64 0, .int .i64 0, .int .i64 0, .int .i64 0, .slice none 0 0, .int .i64 0, .int .i64 0, .int .i64 0, .int .i64 0]) (by kernel_rfl) Tryz.underlying31 (by kernel_rfl) (by kernel_rfl) rfl
theorem tyOk31 : TyOk Tryz.prog 31 (.s .req) := ⟨Tryz.sizeOf31, Tryz.isAgg31, ⟨_, Tryz.zeroValue31, rfl⟩, ⟨_, Tryz.underlying31, (fun fi p h => match fi, h with | 0, h => by cases h; exact ⟨3, Tryz.sizeOf3, rfl, rfl⟩ | 1, h => by cases h; exact ⟨3, Tryz.sizeOf3, rfl, rfl⟩ | 2, h => by cases h; exact ⟨3, Tryz.sizeOf3, rfl, rfl⟩ | 3, h => by cases h; exact ⟨3, Tryz.sizeOf3, rfl, rfl⟩ | 4, h => by cases h; exact ⟨3, Tryz.sizeOf3, rfl, rfl⟩ | 5, h => by cases h; exact ⟨3, Tryz.sizeOf3, rfl, rfl⟩ | 6, h => by cases h; exact ⟨23, Tryz.sizeOf23, rfl, rfl⟩ | 7, h => by cases h; exact ⟨29, Tryz.sizeOf29, rfl, rfl⟩ | 8, h => by cases h; exact ⟨3, Tryz.sizeOf3, rfl, rfl⟩ | fi + 9, h => (by have h2 : none = some p := h; cases h2)), built31⟩, (fun h => (by cases h))⟩
theorem tyOk23 : TyOk Tryz.prog 23 (.sl .I) := ⟨Tryz.sizeOf23, Tryz.isAgg23, ⟨_, Tryz.zeroValue23, rfl⟩, ⟨_, _, Tryz.underlying23, Tryz.sizeOf3, elem23, rfl, zero23⟩, (fun h => (by cases h))⟩
theorem tyOk240 : TyOk Tryz.prog 240 (.sl .B) := ⟨Tryz.sizeOf240, Tryz.isAgg240, ⟨_, Tryz.zeroValue240, rfl⟩, ⟨_, _, Tryz.underlying240, Tryz.sizeOf4, elem240, rfl, zero240⟩, (fun h => (by cases h))⟩
theorem tyOk185 : TyOk Tryz.prog 185 (.sl (.s .flow)) := ⟨Tryz.sizeOf185, Tryz.isAgg185, ⟨_, Tryz.zeroValue185, rfl⟩, ⟨_, _, Tryz.underlying185, Tryz.sizeOf234, elem185, rfl, zero185⟩, (fun h => (by cases h))⟩
theorem tyOk79 : TyOk Tryz.prog 79 (.sl (.s .task)) := ⟨Tryz.sizeOf79, Tryz.isAgg79, ⟨_, Tryz.zeroValue79, rfl⟩, ⟨_, _, Tryz.underlying79, Tryz.sizeOf187, elem79, rfl, zero79⟩, (fun h => (by cases h))⟩
theorem tyOk34 : TyOk Tryz.prog 34 (.sl (.s .net)) := ⟨Tryz.sizeOf34, Tryz.isAgg34, ⟨_, Tryz.zeroValue34, rfl⟩, ⟨_, _, Tryz.underlying34, Tryz.sizeOf81, elem34, rfl, zero34⟩, (fun h => (by cases h))⟩
theorem tyOk73 : TyOk Tryz.prog 73 (.sl (.s .item)) := ⟨Tryz.sizeOf73, Tryz.isAgg73, ⟨_, Tryz.zeroValue73, rfl⟩, ⟨_, _, Tryz.underlying73, Tryz.sizeOf137, elem73, rfl, zero73⟩, (fun h => (by cases h))⟩
theorem tyOk74 : TyOk Tryz.prog 74 (.sl (.s .did)) := ⟨Tryz.sizeOf74, Tryz.isAgg74, ⟨_, Tryz.zeroValue74, rfl⟩, ⟨_, _, Tryz.underlying74, Tryz.sizeOf154, elem74, rfl, zero74⟩, (fun h => (by cases h))⟩
theorem tyOk35 : TyOk Tryz.prog 35 (.sl (.s .node)) := ⟨Tryz.sizeOf35, Tryz.isAgg35, ⟨_, Tryz.zeroValue35, rfl⟩, ⟨_, _, Tryz.underlying35, Tryz.sizeOf168, elem35, rfl, zero35⟩, (fun h => (by cases h))⟩
theorem tyOk36 : TyOk Tryz.prog 36 (.sl (.s .run)) := ⟨Tryz.sizeOf36, Tryz.isAgg36, ⟨_, Tryz.zeroValue36, rfl⟩, ⟨_, _, Tryz.underlying36, Tryz.sizeOf124, elem36, rfl, zero36⟩, (fun h => (by cases h))⟩
theorem tyOk55 : TyOk Tryz.prog 55 (.sl (.s .req)) := ⟨Tryz.sizeOf55, Tryz.isAgg55, ⟨_, Tryz.zeroValue55, rfl⟩, ⟨_, _, Tryz.underlying55, Tryz.sizeOf44, elem55, rfl, zero55⟩, (fun h => (by cases h))⟩
theorem tyOk192 : TyOk Tryz.prog 192 (.sl (.s .flow)) := ⟨Tryz.sizeOf192, Tryz.isAgg192, ⟨_, Tryz.zeroValue192, rfl⟩, ⟨_, _, Tryz.underlying192, Tryz.sizeOf244, elem192, rfl, zero192⟩, (fun h => (by cases h))⟩
theorem tyOk64 : TyOk Tryz.prog 64 (.sl (.s .task)) := ⟨Tryz.sizeOf64, Tryz.isAgg64, ⟨_, Tryz.zeroValue64, rfl⟩, ⟨_, _, Tryz.underlying64, Tryz.sizeOf194, elem64, rfl, zero64⟩, (fun h => (by cases h))⟩
theorem tyOk22 : TyOk Tryz.prog 22 (.sl (.s .net)) := ⟨Tryz.sizeOf22, Tryz.isAgg22, ⟨_, Tryz.zeroValue22, rfl⟩, ⟨_, _, Tryz.underlying22, Tryz.sizeOf66, elem22, rfl, zero22⟩, (fun h => (by cases h))⟩
theorem tyOk67 : TyOk Tryz.prog 67 (.sl (.s .item)) := ⟨Tryz.sizeOf67, Tryz.isAgg67, ⟨_, Tryz.zeroValue67, rfl⟩, ⟨_, _, Tryz.underlying67, Tryz.sizeOf199, elem67, rfl, zero67⟩, (fun h => (by cases h))⟩
theorem tyOk68 : TyOk Tryz.prog 68 (.sl (.s .did)) := ⟨Tryz.sizeOf68, Tryz.isAgg68, ⟨_, Tryz.zeroValue68, rfl⟩, ⟨_, _, Tryz.underlying68, Tryz.sizeOf201, elem68, rfl, zero68⟩, (fun h => (by cases h))⟩
theorem tyOk24 : TyOk Tryz.prog 24 (.sl (.s .node)) := ⟨Tryz.sizeOf24, Tryz.isAgg24, ⟨_, Tryz.zeroValue24, rfl⟩, ⟨_, _, Tryz.underlying24, Tryz.sizeOf157, elem24, rfl, zero24⟩, (fun h => (by cases h))⟩
theorem tyOk25 : TyOk Tryz.prog 25 (.sl (.s .run)) := ⟨Tryz.sizeOf25, Tryz.isAgg25, ⟨_, Tryz.zeroValue25, rfl⟩, ⟨_, _, Tryz.underlying25, Tryz.sizeOf160, elem25, rfl, zero25⟩, (fun h => (by cases h))⟩
theorem tyOk51 : TyOk Tryz.prog 51 (.sl (.s .req)) := ⟨Tryz.sizeOf51, Tryz.isAgg51, ⟨_, Tryz.zeroValue51, rfl⟩, ⟨_, _, Tryz.underlying51, Tryz.sizeOf31, elem51, rfl, zero51⟩, (fun h => (by cases h))⟩
def tyT : List (Nat × Ty) := [
  (4, .B),
  (5, .Y),
  (42, .s .ask),
  (234, .s .flow),
  (187, .s .task),
  (81, .s .net),
  (137, .s .item),
  (154, .s .did),
  (76, .s .kase),
  (168, .s .node),
  (124, .s .run),
  (38, .s .house),
  (44, .s .req),
  (29, .s .ask),
  (244, .s .flow),
  (194, .s .task),
  (66, .s .net),
  (199, .s .item),
  (201, .s .did),
  (70, .s .kase),
  (157, .s .node),
  (160, .s .run),
  (27, .s .house),
  (31, .s .req),
  (23, .sl .I),
  (240, .sl .B),
  (185, .sl (.s .flow)),
  (79, .sl (.s .task)),
  (34, .sl (.s .net)),
  (73, .sl (.s .item)),
  (74, .sl (.s .did)),
  (35, .sl (.s .node)),
  (36, .sl (.s .run)),
  (55, .sl (.s .req)),
  (192, .sl (.s .flow)),
  (64, .sl (.s .task)),
  (22, .sl (.s .net)),
  (67, .sl (.s .item)),
  (68, .sl (.s .did)),
  (24, .sl (.s .node)),
  (25, .sl (.s .run)),
  (51, .sl (.s .req)),
  (3, .I)]
theorem z27j : ∀ p ∈ tyT, TyOk Tryz.prog p.1 p.2 :=
  fcA tyOk4 <|
  fcA tyOk5 <|
  fcA tyOk42 <|
  fcA tyOk234 <|
  fcA tyOk187 <|
  fcA tyOk81 <|
  fcA tyOk137 <|
  fcA tyOk154 <|
  fcA tyOk76 <|
  fcA tyOk168 <|
  fcA tyOk124 <|
  fcA tyOk38 <|
  fcA tyOk44 <|
  fcA tyOk29 <|
  fcA tyOk244 <|
  fcA tyOk194 <|
  fcA tyOk66 <|
  fcA tyOk199 <|
  fcA tyOk201 <|
  fcA tyOk70 <|
  fcA tyOk157 <|
  fcA tyOk160 <|
  fcA tyOk27 <|
  fcA tyOk31 <|
  fcA tyOk23 <|
  fcA tyOk240 <|
  fcA tyOk185 <|
  fcA tyOk79 <|
  fcA tyOk34 <|
  fcA tyOk73 <|
  fcA tyOk74 <|
  fcA tyOk35 <|
  fcA tyOk36 <|
  fcA tyOk55 <|
  fcA tyOk192 <|
  fcA tyOk64 <|
  fcA tyOk22 <|
  fcA tyOk67 <|
  fcA tyOk68 <|
  fcA tyOk24 <|
  fcA tyOk25 <|
  fcA tyOk51 <|
  fcA tyOk3 fcN
def mpT : List Nat := [
  239
  ]
theorem z26w : ∀ t ∈ mpT, ∃ kt et, Tryz.prog.underlying t = some (.map kt et) ∧ Tryz.prog.underlying kt = some (.int .i64) ∧ ∀ w, (zeroValue et).run Tryz.prog w = .ok (.bool false) w := by
  intro t ht
  (simp only [mpT, List.mem_cons, List.not_mem_nil, or_false] at ht; subst ht; exact ⟨3, 4, Tryz.underlying239, Tryz.underlying3, Tryz.zeroValue4⟩)
noncomputable def cx : Cx := ⟨Tryz.prog, 0, tyT, mpT, none⟩
theorem cx_ok : cx.Ok := ⟨fun t y h => z27j _ (z15c h), z26w, (fun q hq => (by cases hq)), mixed⟩
end Go.Am
end
section
namespace Go.Am
open Go
variable {E : Option FP}
inductive CK where
  | i | y | b | nl | und | fp
  | k (c : Bool)
  | s (t : Ty)
  | row (t : Ty)
  | pts (t : Ty)
  | ref (q : Nat)
  | bx (q j : Nat)
abbrev CK.den : CK → Type
  | .i => Int
  | .y => Int
  | .b => Bool
  | .s t => List t.den
  | .row t => t.den
  | .pts t => t.den
  | _ => Unit
abbrev HC : List CK → Type
  | [] => Unit
  | k :: r => k.den × HC r
inductive TK where
  | c (k : CK)
  | agg (xs : List CK)
  | tup (xs : List CK)
  | rowl (xs : List CK)
  | fn (f : FuncId) (xs : List CK)
abbrev TK.den : TK → Type
  | .c k => k.den
  | .agg xs => HC xs
  | .tup xs => HC xs
  | .rowl xs => HC xs
  | .fn _ xs => HC xs
inductive OK where
  | arr (t : Ty) (o : Bool)
  | emp (t : Ty)
  | box (xs : List CK)
  | boxT (t : Ty)
  | mp
abbrev OK.den : OK → Type
  | .arr t _ => List t.den
  | .box xs => HC xs
  | .boxT t => t.den
  | .mp => List Int
  | .emp _ => Unit
abbrev HE : List (Nat × TK) → Type
  | [] => Unit
  | p :: r => p.2.den × HE r
abbrev HO : List (Nat × OK) → Type
  | [] => Unit
  | p :: r => p.2.den × HO r
structure Tmpl where
  env : List (Nat × TK)
  obj : List (Nat × OK)
abbrev Tmpl.den (t : Tmpl) : Type := HE t.env × HO t.obj
def fillC : (k : CK) → k.den → TV
  | .i, n => .l (.i n)
  | .y, n => .l (.y n)
  | .b, b => .l (.b b)
  | .nl, _ => .l .nl
  | .und, _ => .und
  | .fp, _ => .fp
  | .k c, _ => .kb c
  | .s t, l => .l (.s false t l)
  | .row t, x => .row (t.out false x)
  | .pts t, x => .pts (t.out false x)
  | .ref q, _ => .ref q
  | .bx q j, _ => .bx q j
def fillCs : (ks : List CK) → HC ks → List TV
  | [], _ => []
  | k :: ks, v => fillC k v.1 :: fillCs ks v.2
def lfOf : TV → Lf
  | .l x => x
  | _ => .nl
def fillT' : (k : TK) → k.den → TV
  | .c k, v => fillC k v
  | .agg xs, v => .agg (fillCs xs v)
  | .tup xs, v => .tup (fillCs xs v)
  | .rowl xs, v => .row ((fillCs xs v).map lfOf)
  | .fn f xs, v => .fn f (fillCs xs v)
def fillO : (k : OK) → k.den → TO
  | .arr t o, l => .arr t l o
  | .emp t, _ => .emp t
  | .box xs, v => .box (fillCs xs v)
  | .boxT t, x => .box ((t.out false x).map .l)
  | .mp, l => .mp l
def fillE : (es : List (Nat × TK)) → HE es → List (Nat × TV)
  | [], _ => []
  | p :: r, v => (p.1, fillT' p.2 v.1) :: fillE r v.2
def fillOs : (es : List (Nat × OK)) → HO es → List (Nat × TO)
  | [], _ => []
  | p :: r, v => (p.1, fillO p.2 v.1) :: fillOs r v.2
def envA (m : Nm) (l : List (Nat × TV)) : List (Nat × AV) := l.map fun p => (p.1, p.2.av m)
def Tmpl.fill (t : Tmpl) (fp : Option FP) (v : t.den) : XSt :=
  ⟨fillE t.env v.1, fillOs t.obj v.2, ⟨[], [], fp⟩, (fillE t.env v.1).flatMap (fun p => p.2.ids ⟨[], [], none⟩) ++ (fillOs t.obj v.2).flatMap fun p => p.1 :: p.2.ids ⟨[], [], none⟩⟩
def Tmpl.st (t : Tmpl) (fp : Option FP) (v : t.den) : St := stU (envA ⟨[], [], fp⟩ (fillE t.env v.1)) (TOs ⟨[], [], fp⟩ (fillOs t.obj v.2))
def renC : CK → TV → List (Nat × Nat)
  | .ref q, .ref id => [(q, id)]
  | .bx q _, .bx id _ => [(q, id)]
  | _, _ => []
def renCs : List CK → List TV → List (Nat × Nat)
  | k :: ks, x :: xs => renC k x ++ renCs ks xs
  | _, _ => []
def renT : TK → TV → List (Nat × Nat)
  | .c k, x => renC k x
  | .agg ks, .agg xs => renCs ks xs
  | .tup ks, .tup xs => renCs ks xs
  | .fn _ ks, .fn _ xs => renCs ks xs
  | _, _ => []
def renE (st : XSt) : List (Nat × TK) → List (Nat × Nat)
  | [] => []
  | p :: r => (match look st.env p.1 with
    | some tv => renT p.2 tv
    | none => []) ++ renE st r
def renO (st : XSt) : List (Nat × OK) → List (Nat × Nat) → List (Nat × Nat)
  | [], ren => ren
  | p :: r, ren => renO st r (ren ++ match p.2, look ren p.1 with
    | .box ks, some id => renCs ks ((boxOf st id).getD [])
    | _, _ => [])
def tauOf (ren : List (Nat × Nat)) (i : Nat) : Nat := (look ren i).getD i
def getC (st : XSt) (τ : Nat → Nat) : (k : CK) → TV → Option k.den
  | .i, tv => intv tv
  | .y, tv => yv tv
  | .b, tv => boolv st.nm tv
  | .nl, tv => match tv with | .l .nl => some () | _ => none
  | .und, tv => match tv with | .und => some () | _ => none
  | .fp, tv => match tv with | .fp => some () | _ => none
  | .k c, tv => (knownv st.nm tv).bind fun v => bif v == c then some () else none
  | .s t, tv => match tv with | .l (.s false t' l) => t'.cast t l | _ => none
  | .row t, tv => match tv with | .row xs => bif xs.any Lf.isNl then none else t.inn false xs | _ => none
  | .pts t, tv => match tv with | .pts xs => bif xs.any Lf.isNl then none else t.inn false xs | _ => none
  | .ref q, tv => match tv with | .ref id => bif Nat.beq (τ q) id then some () else none | _ => none
  | .bx q j, tv => match tv with | .bx id i => bif Nat.beq (τ q) id && Nat.beq i j then some () else none | _ => none
def getCs (st : XSt) (τ : Nat → Nat) : (ks : List CK) → List TV → Option (HC ks)
  | [], [] => some ()
  | k :: ks, x :: xs => (getC st τ k x).bind fun a => (getCs st τ ks xs).bind fun b => some (a, b)
  | _, _ => none
def getT (st : XSt) (τ : Nat → Nat) : (k : TK) → TV → Option k.den
  | .c k, tv => getC st τ k tv
  | .agg ks, tv => match tv with | .agg xs => getCs st τ ks xs | _ => none
  | .tup ks, tv => match tv with | .tup xs => getCs st τ ks xs | _ => none
  | .rowl ks, tv => match tv with | .row xs => getCs st τ ks (xs.map .l) | _ => none
  | .fn f ks, tv => match tv with | .fn g xs => bif Nat.beq f g then getCs st τ ks xs else none | _ => none
def lfT1 (st : XSt) : TV → Option Lf
  | .l x => some x
  | .kb v => some (.b v)
  | .b k n => (boolv st.nm (.b k n)).bind fun v => some (.b v)
  | _ => none
def lfTs (st : XSt) : List TV → Option (List Lf)
  | [] => some []
  | x :: xs => (lfT1 st x).bind fun a => (lfTs st xs).bind fun b => some (a :: b)
def getO (st : XSt) (τ : Nat → Nat) (id : Nat) : (k : OK) → Option k.den
  | .arr t o => match look st.obj id with
    | some (.arr t' l o') => bif o' == o || !t.hasS then t'.cast t l else none
    | some (.emp t') => bif Nat.beq t'.w t.w then some [] else none
    | _ => none
  | .emp t => match look st.obj id with
    | some (.emp t') => bif Nat.beq t'.w t.w then some () else none
    | _ => none
  | .box ks => (boxOf st id).bind fun xs => getCs st τ ks xs
  | .boxT t => (boxOf st id).bind fun xs => (lfTs st xs).bind fun a => bif a.any Lf.isNl then none else t.inn false a
  | .mp => mpOf st id
def getE (st : XSt) (τ : Nat → Nat) : (es : List (Nat × TK)) → Option (HE es)
  | [] => some ()
  | p :: r => (look st.env p.1).bind fun tv => (getT st τ p.2 tv).bind fun a => (getE st τ r).bind fun b => some (a, b)
def getOs (st : XSt) (τ : Nat → Nat) : (es : List (Nat × OK)) → Option (HO es)
  | [] => some ()
  | p :: r => bif Nat.blt p.1 1000000 || Nat.beq (τ p.1) p.1 then (getO st τ (τ p.1) p.2).bind fun a => (getOs st τ r).bind fun b => some (a, b) else none
def Tmpl.get (t : Tmpl) (st : XSt) : Option t.den :=
  let τ := tauOf (renO st t.obj (renE st t.env))
  bif nodupB (t.obj.map fun p => τ p.1) then (getE st τ t.env).bind fun a => (getOs st τ t.obj).bind fun b => some (a, b) else none
mutual
theorem z1ys {τ : Nat → Nat} : ∀ (x : AV), x.ids = [] → x.ren τ = x
  | .ref id p, h => by simp [AV.ids] at h
  | .ptr id p k i j, h => by simp [AV.ids] at h
  | .bx id j, h => by simp [AV.ids] at h
  | .agg xs, h => by simp only [AV.ids] at h; simp only [AV.ren, z11d xs h]
  | .tup xs, h => by simp only [AV.ids] at h; simp only [AV.ren, z11d xs h]
  | .fn f xs, h => by simp only [AV.ids] at h; simp only [AV.ren, z11d xs h]
  | .dead, _ => rfl
  | .c x, _ => rfl
  | .row xs, _ => rfl
  | .pts xs, _ => rfl
theorem z11d {τ : Nat → Nat} : ∀ (l : List AV), idsL l = [] → renL τ l = l
  | [], _ => rfl
  | x :: l, h => by
    simp only [idsL, List.append_eq_nil_iff] at h
    simp only [renL, z1ys x h.1, z11d l h.2]
end
section
variable {st : XSt} {ac : St} {τ : Nat → Nat}
theorem z1rr (m : Nm) : ∀ (k : CK) (v : k.den), (fillC k v).dfn m = true := by intro k v; cases k <;> rfl
theorem z0ki (m : Nm) : ∀ (ks : List CK) (v : HC ks), dfnL m (fillCs ks v) = true
  | [], _ => rfl
  | k :: ks, v => by simp only [fillCs, dfnL, z1rr, z0ki m ks, Bool.and_self]
theorem z20l (m : Nm) (k : TK) (v : k.den) : (fillT' k v).dfn m = true := by
  cases k with
  | c k => exact z1rr m k v
  | rowl xs => rfl
  | agg xs => exact z0ki m xs v
  | tup xs => exact z0ki m xs v
  | fn f xs => exact z0ki m xs v
theorem z20k (m : Nm) (k : OK) (v : k.den) : (fillO k v).dfn m = true := by
  cases k with
  | box xs => exact z0ki m xs v
  | boxT t => exact (z05e m).2 fun x hx => by obtain ⟨y, _, rfl⟩ := List.mem_map.1 hx; rfl
  | _ => rfl
theorem z22e (hR : Rf E st ac) (hE : (FPav E).ids = []) {k : CK} {tv : TV} {v : k.den} (h : getC st τ k tv = some v) : tv.av st.nm = ((fillC k v).av ⟨[], [], E⟩).ren τ := by
  cases k with
  | i => rw [z0ch h]; rfl
  | y =>
    simp only [getC, yv] at h
    split at h
    · cases h; rfl
    · cases h
  | b => rw [z0gr h]; rfl
  | nl => simp only [getC] at h; split at h; · rfl
          · cases h
  | und => simp only [getC] at h; split at h; · rfl
           · cases h
  | fp =>
    simp only [getC] at h
    split at h
    · simp only [TV.av, fillC, hR.fp]; exact (z1ys _ hE).symm
    · cases h
  | k c =>
    obtain ⟨b, h1, h⟩ := bnd h
    obtain ⟨h2, h⟩ := bif_t h
    have e : b = c := by simpa using h2
    subst e
    rw [z0vi hR h1]; rfl
  | s t =>
    simp only [getC] at h
    split at h
    · obtain ⟨e, rfl⟩ := Ty.cast_some h
      subst e; rfl
    · cases h
  | row t =>
    simp only [getC] at h
    split at h
    · rename_i xs
      cases hn : xs.any Lf.isNl with
      | true => rw [hn] at h; cases h
      | false =>
        rw [hn] at h
        simp only [TV.av, fillC, z09h h hn]; rfl
    · cases h
  | pts t =>
    simp only [getC] at h
    split at h
    · rename_i xs
      cases hn : xs.any Lf.isNl with
      | true => rw [hn] at h; cases h
      | false =>
        rw [hn] at h
        simp only [TV.av, fillC, z09h h hn]; rfl
    · cases h
  | ref q =>
    simp only [getC] at h
    split at h
    · obtain ⟨h1, _⟩ := bif_t h
      simp only [TV.av, fillC, AV.ren, Nat.eq_of_beq_eq_true h1]
    · cases h
  | bx q j =>
    simp only [getC] at h
    split at h
    · obtain ⟨h1, _⟩ := bif_t h
      simp only [Bool.and_eq_true] at h1
      simp only [TV.av, fillC, AV.ren, Nat.eq_of_beq_eq_true h1.1, Nat.eq_of_beq_eq_true h1.2]
    · cases h
theorem z133 (hR : Rf E st ac) (hE : (FPav E).ids = []) : ∀ {ks : List CK} {xs : List TV} {v : HC ks}, getCs st τ ks xs = some v → avL st.nm xs = renL τ (avL ⟨[], [], E⟩ (fillCs ks v))
  | [], [], _, _ => rfl
  | [], _ :: _, _, h => by cases h
  | _ :: _, [], _, h => by cases h
  | k :: ks, x :: xs, _, h => by
    obtain ⟨a, h1, h⟩ := bnd h
    obtain ⟨b, h2, h⟩ := bnd h
    cases h
    simp only [avL, fillCs, renL, z22e hR hE h1, z133 hR hE h2]
theorem z26u {k : CK} {x : Lf} {v : k.den} (h : getC st τ k (.l x) = some v) : (lfOf (fillC k v)).cell = x.cell := by
  cases k with
  | i => simp only [getC, intv] at h; split at h; · rename_i e; cases e; cases h; rfl
         · cases h
  | y => simp only [getC, yv] at h; split at h; · rename_i e; cases e; cases h; rfl
         · cases h
  | b => simp only [getC, boolv] at h; split at h <;> first | (rename_i e; cases e; done) | (rename_i e; cases e; cases h; rfl) | cases h
  | nl => simp only [getC] at h; split at h; · rename_i e; cases e; rfl
          · cases h
  | s t =>
    simp only [getC] at h
    split at h
    · rename_i e
      cases e
      obtain ⟨e, rfl⟩ := Ty.cast_some h
      subst e; rfl
    · cases h
  | _ => cases h
theorem z22f : ∀ {ks : List CK} {xs : List Lf} {v : HC ks}, getCs st τ ks (xs.map .l) = some v → ((fillCs ks v).map lfOf).map Lf.cell = xs.map Lf.cell
  | [], [], _, _ => rfl
  | [], _ :: _, _, h => by cases h
  | _ :: _, [], _, h => by cases h
  | k :: ks, x :: xs, _, h => by
    obtain ⟨a, h1, h⟩ := bnd h
    obtain ⟨b, h2, h⟩ := bnd h
    cases h
    simp only [fillCs, List.map_cons, z26u h1, z22f h2]
theorem z25o (hR : Rf E st ac) (hE : (FPav E).ids = []) {k : TK} {tv : TV} {v : k.den} (h : getT st τ k tv = some v) : tv.av st.nm = ((fillT' k v).av ⟨[], [], E⟩).ren τ := by
  cases k with
  | c k => exact z22e hR hE h
  | agg ks =>
    simp only [getT] at h
    split at h
    · simp only [TV.av, fillT', AV.ren, z133 hR hE h]
    · cases h
  | tup ks =>
    simp only [getT] at h
    split at h
    · simp only [TV.av, fillT', AV.ren, z133 hR hE h]
    · cases h
  | rowl ks =>
    simp only [getT] at h
    split at h
    · simp only [TV.av, fillT', AV.ren, z22f h]
    · cases h
  | fn f ks =>
    simp only [getT] at h
    split at h
    · obtain ⟨h1, h⟩ := bif_t h
      simp only [TV.av, fillT', AV.ren, z133 hR hE h, Nat.eq_of_beq_eq_true h1]
    · cases h
theorem z260 {x : TV} {a : Lf} (h : lfT1 st x = some a) : x.av st.nm = .c a.cell := by
  cases x with
  | l x => cases h; rfl
  | kb v => cases h; rfl
  | b k n => obtain ⟨v, h1, h⟩ := bnd h; cases h; rw [z0gr h1]; rfl
  | _ => cases h
theorem z22q : ∀ {xs : List TV} {a : List Lf}, lfTs st xs = some a → avL st.nm xs = a.map fun z => .c z.cell
  | [], _, h => by cases h; rfl
  | x :: xs, _, h => by
    obtain ⟨a, h1, h⟩ := bnd h
    obtain ⟨b, h2, h⟩ := bnd h
    cases h
    simp only [avL, List.map_cons, z260 h1, z22q h2]
theorem l_av (m : Nm) (l : List Lf) : avL m (l.map .l) = l.map fun z => .c z.cell := by
  rw [z0d9, List.map_map]; rfl
theorem z27g {α : Type} {τ : Nat → Nat} (g : α → Cell) (l : List α) : renL τ (l.map fun z => AV.c (g z)) = l.map fun z => AV.c (g z) := by
  rw [z0qm, List.map_map]; rfl
theorem z25n (hR : Rf E st ac) (hE : (FPav E).ids = []) {k : OK} {id : Nat} {v : k.den} (h : getO st τ id k = some v) : ac.obj id = some (((fillO k v).ob ⟨[], [], E⟩).ren τ) := by
  cases k with
  | arr t o =>
    simp only [getO] at h
    split at h
    · rename_i t' l' o' ho
      obtain ⟨h1, h⟩ := bif_t h
      obtain ⟨e, rfl⟩ := Ty.cast_some h
      subst e
      rw [(hR.obj _ _ ho).2]
      simp only [TO.ob, fillO, Obj.ren]
      simp only [Bool.or_eq_true, Bool.not_eq_true', beq_iff_eq] at h1
      rcases h1 with h1 | h1
      · subst h1; rfl
      · rw [z0tv h1 o' o]
    · rename_i t' ho
      obtain ⟨h1, h⟩ := bif_t h
      cases h
      rw [(hR.obj _ _ ho).2]
      simp only [TO.ob, fillO, Obj.ren, Nat.eq_of_beq_eq_true h1]; rfl
    · cases h
  | emp t =>
    simp only [getO] at h
    split at h
    · rename_i t' ho
      obtain ⟨h1, h⟩ := bif_t h
      rw [(hR.obj _ _ ho).2]
      simp only [TO.ob, fillO, Obj.ren, Nat.eq_of_beq_eq_true h1]
    · cases h
  | box ks =>
    obtain ⟨xs, h1, h⟩ := bnd h
    rw [(z0kg hR h1).1]
    simp only [TO.ob, fillO, Obj.ren, z133 hR hE h]
  | boxT t =>
    obtain ⟨xs, h1, h⟩ := bnd h
    obtain ⟨a, h2, h⟩ := bnd h
    cases hn : a.any Lf.isNl with
    | true => rw [hn] at h; cases h
    | false =>
      rw [hn] at h
      rw [(z0kg hR h1).1]
      simp only [TO.ob, fillO, Obj.ren]
      rw [z09h h hn, z22q h2, l_av, z27g]
  | mp => rw [z1xw hR h]; rfl
theorem z22g {n : Nat} (hR : Rf E st ac) (hE : (FPav E).ids = []) : ∀ {es : List (Nat × TK)} {v : HE es}, getE st τ es = some v → (∀ p ∈ es, p.1 < n) → Ents n ac τ (envA ⟨[], [], E⟩ (fillE es v))
  | [], _, _, _ => .nil
  | p :: r, _, h, hn => by
    obtain ⟨tv, h1, h⟩ := bnd h
    obtain ⟨a, h2, h⟩ := bnd h
    obtain ⟨b, h3, h⟩ := bnd h
    cases h
    have ih := z22g (n := n) hR hE h3 fun q hq => hn q (List.mem_cons_of_mem _ hq)
    have e := z25o hR hE h2
    rcases (hR.env _ _ h1).2 with hd | hd
    · subst hd
      have e' : (fillT' p.2 a).av ⟨[], [], E⟩ = .dead := by
        cases h4 : (fillT' p.2 a).av ⟨[], [], E⟩ <;> rw [h4] at e <;> first | rfl | cases e
      show Ents n ac τ ((p.1, (fillT' p.2 a).av ⟨[], [], E⟩) :: envA ⟨[], [], E⟩ (fillE r b))
      rw [e']
      exact .dead (hn p (List.mem_cons_self ..)) ih
    · exact .cons hd e ih
theorem z1xk (hR : Rf E st ac) (hE : (FPav E).ids = []) : ∀ {es : List (Nat × OK)} {v : HO es}, getOs st τ es = some v → Obls ac τ (TOs ⟨[], [], E⟩ (fillOs es v))
  | [], _, _ => .nil
  | p :: r, _, h => by
    obtain ⟨h0, h⟩ := bif_t h
    obtain ⟨a, h2, h⟩ := bnd h
    obtain ⟨b, h3, h⟩ := bnd h
    cases h
    simp only [Bool.or_eq_true] at h0
    exact .cons (z25n hR hE h2) rfl (h0.imp id Nat.eq_of_beq_eq_true) (z1xk hR hE h3)
end
def Tmpl.lt (t : Tmpl) (n : Nat) : Bool := t.env.all fun p => Nat.blt p.1 n
theorem z19s : ∀ (es : List (Nat × OK)) (v : HO es), (fillOs es v).map (·.1) = es.map (·.1)
  | [], _ => rfl
  | p :: r, v => by simp only [fillOs, List.map_cons, z19s r]
theorem z23q {n : Nat} {st : XSt} {ac : St} (hR : Rf E st ac) (hE : (FPav E).ids = []) {t : Tmpl} {v : t.den} (hn : t.lt n = true) (h : t.get st = some v) : Le n ac (t.st E v) := by
  obtain ⟨h1, h⟩ := bif_t h
  obtain ⟨a, h2, h⟩ := bnd h
  obtain ⟨b, h3, h⟩ := bnd h
  cases h
  refine z26v (tauOf (renO st t.obj (renE st t.env))) (z22g hR hE h2 fun p hp => lb (List.all_eq_true.1 hn p hp)) (z1xk hR hE h3) ?_
  have e : (TOs ⟨[], [], E⟩ (fillOs t.obj b)).map (fun p => tauOf (renO st t.obj (renE st t.env)) p.1) = t.obj.map fun p => tauOf (renO st t.obj (renE st t.env)) p.1 := by
    have e1 : ∀ (g : Nat → Nat) (l : List (Nat × TO)), (TOs ⟨[], [], E⟩ l).map (fun p => g p.1) = (l.map (·.1)).map g := fun g l => by simp [TOs, Function.comp_def]
    rw [e1, z19s, List.map_map]; rfl
  rw [e]; exact h1
theorem z1ft (m : Nm) : ∀ {l : List (Nat × TV)} {x : Nat} {tv : TV}, look l x = some tv → envOf (envA m l) x = some (tv.av m)
  | [], _, _, h => by simp [look] at h
  | (y, u) :: r, x, tv, h => by
    simp only [look] at h
    simp only [envA, List.map_cons, envOf]
    cases hb : Nat.beq y x with
    | true => rw [hb] at h; cases h; rfl
    | false => rw [hb] at h; exact z1ft m h
theorem z1cq (m : Nm) : ∀ (es : List (Nat × TK)) (v : HE es), ∀ p ∈ fillE es v, p.2.dfn m = true
  | [], _, _, h => by simp [fillE] at h
  | p :: r, v, q, h => by
    rcases List.mem_cons.1 h with rfl | h
    · exact z20l m _ _
    · exact z1cq m r v.2 q h
theorem z12n (m : Nm) : ∀ (es : List (Nat × OK)) (v : HO es), ∀ p ∈ fillOs es v, p.2.dfn m = true
  | [], _, _, h => by simp [fillOs] at h
  | p :: r, v, q, h => by
    rcases List.mem_cons.1 h with rfl | h
    · exact z20k m _ _
    · exact z12n m r v.2 q h
theorem z1s0 {fp : Option FP} (hE : (FPav fp).ids = []) : ∀ (l : List (Nat × TV)), (∀ p ∈ l, p.2.dfn ⟨[], [], fp⟩ = true) → idsE (envA ⟨[], [], fp⟩ l) = l.flatMap fun p => p.2.ids ⟨[], [], none⟩
  | [], _ => rfl
  | p :: l, h => by
    have e := TV.ids_av ⟨[], [], fp⟩ hE p.2 (h p (List.mem_cons_self ..))
    rw [z25t] at e
    show (p.2.av ⟨[], [], fp⟩).ids ++ idsE (envA ⟨[], [], fp⟩ l) = _
    rw [e, z1s0 hE l fun q hq => h q (List.mem_cons_of_mem _ hq)]; rfl
theorem z1s1 {fp : Option FP} (hE : (FPav fp).ids = []) : ∀ (l : List (Nat × TO)), (∀ p ∈ l, p.2.dfn ⟨[], [], fp⟩ = true) → idsO (TOs ⟨[], [], fp⟩ l) = l.flatMap fun p => p.1 :: p.2.ids ⟨[], [], none⟩
  | [], _ => rfl
  | p :: l, h => by
    have e := TO.ids_ob ⟨[], [], fp⟩ hE p.2 (h p (List.mem_cons_self ..))
    have e2 : p.2.ids ⟨[], [], fp⟩ = p.2.ids ⟨[], [], none⟩ := by
      cases p.2 with
      | box xs => exact z13b xs
      | _ => rfl
    rw [e2] at e
    show p.1 :: ((p.2.ob ⟨[], [], fp⟩).ids ++ idsO (TOs ⟨[], [], fp⟩ l)) = _
    rw [e, z1s1 hE l fun q hq => h q (List.mem_cons_of_mem _ hq)]; rfl
theorem z22b (hE : (FPav E).ids = []) (t : Tmpl) (v : t.den) : Rf E (t.fill E v) (t.st E v) := by
  refine ⟨fun x tv hx => ⟨z1cq _ _ _ _ (z15c hx), .inr (z1ft _ hx)⟩, fun id o ho => ⟨z12n _ _ _ _ (z15c ho), z168 _ ho⟩, fun id hid => ?_, fun k t hk => by simp [Tmpl.fill, look] at hk, fun k c b hk => by simp [Tmpl.fill, look] at hk, rfl, hE⟩
  have e := z1s0 hE (fillE t.env v.1) (z1cq _ _ _)
  have e2 := z1s1 hE (fillOs t.obj v.2) (z12n _ _ _)
  have hid : (Nat.ble 1000000 id || (idsE (envA ⟨[], [], E⟩ (fillE t.env v.1)) ++ idsO (TOs ⟨[], [], E⟩ (fillOs t.obj v.2))).any (Nat.beq · id)) = true := hid
  rw [e, e2] at hid
  exact hid
def Tmpl.bl (t : Tmpl) : List Nat := t.env.filterMap fun p => match p.2 with | .c .b => some p.1 | _ => none
def tagS {ρ : Type} : List Nat → XSt → (XSt → Option ρ) → Option ρ
  | [], st, K => K st
  | x :: xs, st, K => tagK x st fun st => tagS xs st K
theorem z1r6 {ρ : Type} : ∀ {xs : List Nat} {st : XSt} {K : XSt → Option ρ} {r : ρ} {ac : St}, Rf E st ac → tagS xs st K = some r → ∃ st1, Rf E st1 ac ∧ K st1 = some r
  | [], st, _, _, _, hR, h => ⟨st, hR, h⟩
  | x :: xs, st, _, _, _, hR, h => by
    obtain ⟨st1, r1, h⟩ := z1zu hR h
    exact z1r6 r1 h
def Tmpl.at {ρ : Type} (t : Tmpl) (fp : Option FP) (v : t.den) (K : XSt → Option ρ) : Option ρ := tagS t.bl (t.fill fp v) K
def outX {ρ : Type} (fp : Option FP) : List Tmpl → XSt → (XSt → Option ρ) → Option ρ
  | [], _, _ => none
  | t :: ts, st, K => match t.get st with
    | some v => t.at fp v K
    | none => outX fp ts st K
def lk {ρ : Type} (fp : Option FP) (t : Tmpl) (xs : List Tmpl) (L : t.den → Option ρ) (F : XSt → Option ρ) (K : Ks ρ) : Ks ρ := fun e st =>
  match e with
  | .normal => (t.get st).bind L
  | .ret => F st
  | e => outX fp xs st (K e)
noncomputable def hnd {ρ : Type} (ws : List Wk) (t : Tmpl) (L : Nat → t.den → Ks ρ → Option ρ) : Hdl ρ := fun st K => (wks ws st).bind fun st => (t.get st).bind fun v => L FUEL v K
theorem z1wd {P : Program} {n : Nat} {c : Code} {st : St} {Q1 Q2 : Exit → St → Prop} (h : ACode P n c st Q1) (hq : ∀ e s, Q1 e s → ∃ s', Le n s s' ∧ Q2 e s') : ACode P n c st Q2 := by
  intro pn w0 A0 F0 a w hB hS
  refine wp_mono (h pn w0 A0 F0 a w hB hS) ?_
  rintro e a' w' ⟨s, h1, h2⟩
  obtain ⟨s', l, q⟩ := hq e s h1
  exact ⟨s', q, l _ _ _ _ _ _ h2⟩
theorem Le.refl {n : Nat} (s : St) : Le n s s := fun _ _ _ _ _ _ h => h
theorem z16c {ρ : Type} {n : Nat} (hE : (FPav E).ids = []) : ∀ {xs : List Tmpl} {st : XSt} {ac : St} {K : XSt → Option ρ} {r : ρ}, Rf E st ac → (xs.all fun t => t.lt n) = true → outX E xs st K = some r → ∃ st1 ac1, Le n ac ac1 ∧ Rf E st1 ac1 ∧ K st1 = some r
  | [], _, _, _, _, _, _, h => by cases h
  | t :: ts, st, ac, K, r, hR, hn, h => by
    simp only [List.all_cons, Bool.and_eq_true] at hn
    simp only [outX] at h
    split at h
    · rename_i v hv
      obtain ⟨st1, r1, h⟩ := z1r6 (z22b hE t v) h
      exact ⟨st1, _, z23q hR hE hn.1 hv, r1, h⟩
    · exact z16c hE hR hn.2 h
theorem z244 {ρ : Type} {c : Cx} {f : Fs} {W : List (Nat × List Wk)} {H : List (Hdl ρ)} {F : XSt → Option ρ} {body : Code} {ws : List Wk} {t : Tmpl} {xs : List Tmpl} {L : Nat → t.den → Ks ρ → Option ρ} (hc : c.Ok) (hf : f.Ok c.P)
    (hE : (FPav c.fp).ids = []) (hl : (t :: xs).all (fun t => t.lt c.n) = true) (hin : ∀ (i : Nat) (b : Code) (h : Hdl ρ), (loops body)[i]? = some b → H[i]? = some h → LSnd c F h b) (h0 : ∀ v K, L 0 v K = none)
    (hs : ∀ n v K, L (n + 1) v K = t.at c.fp v fun st => run c f W H body 0 st (lk c.fp t xs (fun v' => L n v' K) F K)) : LSnd c F (hnd ws t L) body := by
  intro st ac K r Q hR h hF hK
  simp only [List.all_cons, Bool.and_eq_true] at hl
  obtain ⟨st1, g1, h⟩ := bnd h
  obtain ⟨ac1, l1, r1⟩ := z1zz (n := c.n) hR g1
  obtain ⟨v, g2, h⟩ := bnd h
  have l2 := z23q r1 hE hl.1 g2
  refine z1t3 (S := Nat × t.den) (fun s => t.st c.fp s.2) (fun s => L s.1 s.2 K = some r) (fun s => s.1) (FUEL, v) h (l1.trans l2) ?_
  rintro ⟨n, v⟩ hI
  cases n with
  | zero => rw [h0] at hI; cases hI
  | succ n =>
    have hI : L (n + 1) v K = some r := hI
    rw [hs] at hI
    obtain ⟨st2, r2, hrun⟩ := z1r6 (z22b hE t v) hI
    refine z1wd (Q1 := fun e s => ∃ s', Le c.n s s' ∧ Klg c.n (fun s => t.st c.fp s.2) (fun s => L s.1 s.2 K = some r) (fun s => s.1) (n + 1, v) Q e s') ?_ (fun e s h => h)
    refine z22z (F := F) hc hf body 0 st2 _ _ _ (fun i b h hi hh => hin i b h hi (by simpa using hh)) r2 hrun (fun st => rfl) ?_
    intro e st' ac' hR' h'
    cases e with
    | normal =>
      obtain ⟨v', g3, h'⟩ := bnd h'
      exact ⟨ac', .refl _, (n, v'), h', Nat.lt_succ_self _, z23q hR' hE hl.1 g3⟩
    | ret => exact ⟨ac', .refl _, hK .ret _ _ hR' ((hF st').trans h')⟩
    | exit i =>
      obtain ⟨st3, ac3, l3, r3, h3⟩ := z16c hE hR' hl.2 h'
      exact ⟨ac3, l3, hK _ _ _ r3 h3⟩
    | goto i =>
      obtain ⟨st3, ac3, l3, r3, h3⟩ := z16c hE hR' hl.2 h'
      exact ⟨ac3, l3, hK _ _ _ r3 h3⟩
    | panic i =>
      obtain ⟨st3, ac3, l3, r3, h3⟩ := z16c hE hR' hl.2 h'
      exact ⟨ac3, l3, hK _ _ _ r3 h3⟩
    | outgrown =>
      obtain ⟨st3, ac3, l3, r3, h3⟩ := z16c hE hR' hl.2 h'
      exact ⟨ac3, l3, hK _ _ _ r3 h3⟩
end Go.Am
end
section
namespace Go.Am
open Go Go.Proofs
def lpC : Code → List Nat → Code
  | c, [] => c
  | c, i :: p => match (loops c)[i]? with
    | some b => lpC b p
    | none => .skip
def lpF (fn : Func) (p : List Nat) : Code := lpC (fn.body.getD .skip) p
def HOk {ρ : Type} (c : Cx) (F : XSt → Option ρ) (code : Code) : Nat → List (Hdl ρ) → Prop
  | _, [] => True
  | i, h :: hs => LSnd c F h (lpC code [i]) ∧ HOk c F code (i + 1) hs
theorem z23u {ρ : Type} {c : Cx} {F : XSt → Option ρ} {code : Code} : ∀ {H : List (Hdl ρ)} {k : Nat}, HOk c F code k H → ∀ (i : Nat) (b : Code) (h : Hdl ρ), (loops code)[k + i]? = some b → H[i]? = some h → LSnd c F h b
  | [], _, _, i, b, h, _, hh => by simp at hh
  | q :: qs, k, ⟨h1, h2⟩, 0, b, h, hb, hh => by
    simp only [List.getElem?_cons_zero, Option.some.injEq] at hh
    subst hh
    have e : lpC code [k] = b := by
      simp only [lpC]
      rw [show (loops code)[k]? = some b from hb]
    rw [← e]; exact h1
  | q :: qs, k, ⟨h1, h2⟩, i + 1, b, h, hb, hh => z23u h2 i b h (by rw [← hb]; congr 1; omega) (by simpa using hh)
theorem z22r : ∀ (p : List Nat) (c : Code) (i : Nat), lpC (lpC c p) [i] = lpC c (p ++ [i])
  | [], _, _ => rfl
  | j :: p, c, i => by
    show lpC (match (loops c)[j]? with | some b => lpC b p | none => .skip) [i] = match (loops c)[j]? with | some b => lpC b (p ++ [i]) | none => .skip
    cases (loops c)[j]? with
    | some b => exact z22r p b i
    | none => rfl
abbrev CR (k : Con) : Type := HR (k.rs.map (·.1) ++ k.bs.map (·.2.ty))
noncomputable abbrev CX (k : Con) (fn : Func) (av : AV) (x : HP k.ps) : Cx := cxOf cx fn.ntmps (fpOf k.ps x av)
noncomputable abbrev FN (k : Con) (fn : Func) (av : AV) (x : HP k.ps) : XSt → Option (CR k) := fin (CX k fn av x) k fn.results.toList (parTs 1000000 k.ps x).1
def LP (k : Con) (fn : Func) (p : List Nat) (h : AV → HP k.ps → Hdl (CR k)) : Prop :=
  ∀ (av : AV) (x : HP k.ps), (CX k fn av x).Ok → (FPav (fpOf k.ps x av)).ids = [] → LSnd (CX k fn av x) (FN k fn av x) (h av x) (lpF fn p)
def LPs (k : Con) (fn : Func) (p : List Nat) : Nat → List (AV → HP k.ps → Hdl (CR k)) → Prop
  | _, [] => True
  | i, h :: hs => LP k fn (p ++ [i]) h ∧ LPs k fn p (i + 1) hs
def hat {k : Con} (H : List (AV → HP k.ps → Hdl (CR k))) (av : AV) (x : HP k.ps) : List (Hdl (CR k)) := H.map fun h => h av x
theorem z1xt {k : Con} {fn : Func} {p : List Nat} {av : AV} {x : HP k.ps} (h1 : (CX k fn av x).Ok) (h2 : (FPav (fpOf k.ps x av)).ids = []) : ∀ {H : List (AV → HP k.ps → Hdl (CR k))} {i : Nat}, LPs k fn p i H →
    HOk (CX k fn av x) (FN k fn av x) (lpF fn p) i (hat H av x)
  | [], _, _ => trivial
  | h :: hs, i, ⟨g1, g2⟩ => ⟨by unfold lpF; rw [z22r]; exact g1 av x h1 h2, z1xt h1 h2 g2⟩
theorem lp_ok {k : Con} {fn : Func} {p : List Nat} {f : Fs} {W : List (Nat × List Wk)} {H : List (AV → HP k.ps → Hdl (CR k))} {ws : List Wk} {t : Tmpl} {xs : List Tmpl} {L : AV → HP k.ps → Nat → t.den → Ks (CR k) → Option (CR k)} (hf : f.Ok Tryz.prog) (hin : LPs k fn p 0 H)
    (hl : (t :: xs).all (fun t => t.lt fn.ntmps) = true) (h0 : ∀ av x v K, L av x 0 v K = none)
    (hs : ∀ av x n v K, L av x (n + 1) v K = t.at (fpOf k.ps x av) v fun st => run (CX k fn av x) f W (hat H av x) (lpF fn p) 0 st (lk (fpOf k.ps x av) t xs (fun v' => L av x n v' K) (FN k fn av x) K)) :
    LP k fn p fun av x => hnd ws t (L av x) := fun av x hc hE =>
  z244 hc hf hE hl (fun i b h hb hh => z23u (z1xt hc hE hin) i b h (by rw [Nat.zero_add]; exact hb) hh) (h0 av x) (hs av x)
theorem fn_ok {k : Con} {fn : Func} {f : Fs} {W : List (Nat × List Wk)} {H : List (AV → HP k.ps → Hdl (CR k))} (hfn : Tryz.prog.funcs[k.f]? = some fn) (hf : f.Ok Tryz.prog) (hin : LPs k fn [] 0 H) (hname : (fn.name == "runtime.NumGoroutine") = false) (hb : fn.body.isSome = true)
    (hx : ∀ av x, exec cx f k fn W (hat H av x) av x = k.M x) : k.Ok Tryz.prog := by
  cases hc : fn.body with
  | none => rw [hc] at hb; cases hb
  | some code =>
    refine z26t (b := cx) (H := hat H) cx_ok hf hfn hname hc (fun av x h1 h2 i bd h hi hh => ?_) hx
    refine z23u (z1xt h1 h2 hin) i bd h ?_ hh
    have e : lpF fn [] = code := by unfold lpF; rw [hc]; rfl
    rw [e, Nat.zero_add]; exact hi
theorem fs0 {P : Program} : (Fs.mk [] []).Ok P := ⟨(fun _ h => (by cases h)), fun _ h => (by cases h)⟩
theorem fsK {P : Program} {k : Con} {f : Fs} (h : k.Ok P) (t : f.Ok P) : (Fs.mk (k :: f.ks) f.fc).Ok P := ⟨fun q hq => (List.mem_cons.1 hq).elim (fun e => e ▸ h) (t.ks q), t.fc⟩
theorem fsF {P : Program} {k : FCon} {f : Fs} (h : k.Ok P) (t : f.Ok P) : (Fs.mk f.ks (k :: f.fc)).Ok P := ⟨t.ks, fun q hq => (List.mem_cons.1 hq).elim (fun e => e ▸ h) (t.fc q)⟩
end Go.Am
end
