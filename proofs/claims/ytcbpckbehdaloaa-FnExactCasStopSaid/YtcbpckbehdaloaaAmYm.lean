/- Short forms of frequent steps. Own work; generic. -/
import Derived.Test.YtcbpckbehdaloaaAmYl
set_option linter.unusedSimpArgs false
set_option linter.unusedVariables false
namespace Go.Am
open Go

section
variable {P : Program} {n : Nat} {st : St} {Q : Exit → St → Prop} {ops : Array Oper} {md : Bool} {i : Nat} {acc : List Am.Item} {rest : List Oper} {y : Code} {id : Nat} {l : List Oper}
theorem nkt (h : Q Exit.ret st) : RG P ops n (Kseq P n Code.ret Q) false i st acc [] := rg_nil_seq (kseq_normal (acode_ret h))
theorem nk (h : ACode P n y st Q) : RG P ops n (Kseq P n y Q) false i st acc [] := rg_nil_seq (kseq_normal h)
theorem sr (h : RG P l.toArray n (Kseq P n y Q) false 0 st [] l) : ACode P n ((Code.region id l.toArray false).seq y) st Q := acode_seq (acode_region h)
theorem pk (h : ACode P n y st Q) : ACode P n Code.skip st (Kseq P n y Q) := acode_skip (kseq_normal h)
variable {d : Nat} {ty : TypeId} {pos : String} {after : Array Edge} {x : Operand} {av : AV}
theorem mv (hd : d < n) (hs : opIs st x av) (k : RG P ops n Q md (i + 1) (apps [Upd.set d av] st) (bif md then ⟨i, [Req.opd x av], [Upd.set d av]⟩ :: acc else []) rest) :
    RG P ops n Q md i st acc ({ dst := some d, op := Op.move x, type := ty, pos := pos, after := after, guard := none } :: rest) := st1 rfl (op_move hd) (so hs sn) k
theorem as_ (hd : d < n) (hs : opIs st x av) (k : RG P ops n Q md (i + 1) (apps [Upd.set d av] st) (bif md then ⟨i, [Req.opd x av], [Upd.set d av]⟩ :: acc else []) rest) :
    RG P ops n Q md i st acc ({ dst := some d, op := Op.assign x, type := ty, pos := pos, after := after, guard := none } :: rest) := st1 rfl (op_assign hd) (so hs sn) k
theorem ldb {t : TypeId} {j b : Nat} {xs : List AV} (h1 : ∀ w : World, Sem.run P (isAgg t) w = Result.ok false w) (h2 : xs[j]? = some av) (hd : d < n) (hs : opIs st x (AV.bx b j)) (hb : st.obj b = some (Obj.box xs))
    (k : RG P ops n Q md (i + 1) (apps [Upd.set d av] st) (bif md then ⟨i, [Req.opd x (AV.bx b j), Req.obj b (Obj.box xs)], [Upd.set d av]⟩ :: acc else []) rest) :
    RG P ops n Q md i st acc ({ dst := some d, op := Op.load t x, type := ty, pos := pos, after := after, guard := none } :: rest) := st1 rfl (op_load_bx h1 h2 hd) (so hs (sb hb sn)) k
theorem fdb {m b j : Nat} {s : TypeId} {fs : Array Field} {fi ft off j' : Nat} {xs : List AV} (h1 : P.underlying s = some (TypeDesc.struct fs)) (h2 : ∀ w : World, Sem.run P (Go.sizeOf ft) w = Result.ok m w) (h3 : m.beq 0 = false)
    (h4 : Option.map (fun z => (z.type, z.offset)) fs[fi]? = some (ft, off)) (h5 : j + off = j') (hd : d < n) (hs : opIs st x (AV.bx b j)) (hb : st.obj b = some (Obj.box xs))
    (k : RG P ops n Q md (i + 1) (apps [Upd.set d (AV.bx b j')] st) (bif md then ⟨i, [Req.opd x (AV.bx b j), Req.obj b (Obj.box xs)], [Upd.set d (AV.bx b j')]⟩ :: acc else []) rest) :
    RG P ops n Q md i st acc ({ dst := some d, op := Op.fieldAddr s x fi, type := ty, pos := pos, after := after, guard := none } :: rest) := st1 rfl (op_field_bx h1 h2 h3 h4 h5 hd) (so hs (sb hb sn)) k
end
theorem dq : (∀ (p : Prop) [Decidable p], (decide p = true) = p) ∧ (∀ (p : Prop) [Decidable p], (decide p = false) = ¬p) ∧ (∀ b : Bool, ((!b) = true) = (b = false)) ∧ (∀ b : Bool, ((!b) = false) = (b = true)) ∧ (∀ b : Bool, (!!b) = b) ∧ ((!true) = false) ∧ ((!false) = true) :=
  ⟨fun p _ => by simp, fun p _ => by simp, fun b => by simp, fun b => by simp, fun b => by simp, rfl, rfl⟩
end Go.Am
