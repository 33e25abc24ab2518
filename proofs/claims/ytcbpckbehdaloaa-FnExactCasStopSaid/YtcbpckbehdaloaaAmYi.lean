/- Function values given over; sets of ints as maps. Own work; generic. -/
import Derived.Test.YtcbpckbehdaloaaAmYh
import Derived.Laws.Entries
set_option linter.unusedSimpArgs false
set_option linter.unusedVariables false
namespace Go.Am
open Go

/-- There is such a function, with a body. -/
def FnOk (P : Program) (f : FuncId) : Prop := ∃ fn c, P.funcs[f]? = some fn ∧ (fn.name == "runtime.NumGoroutine") = false ∧ fn.body = some c
theorem idsL_argAVs (l : List Arg) : idsL (argAVs l) = [] := by
  have := argAV_ids (.fn 0 l)
  simpa [Arg.av, AV.ids] using this
mutual
theorem giv_av : ∀ (x : Arg), x.plain = true → Giv x.av x [] []
  | .c x, h => .c h
  | .row xs, h => .row h
  | .fn f caps, h => giv_argAVs f caps h
  | .pts xs, h => .pts h
theorem giv_argAVs (f : FuncId) : ∀ (l : List Arg), plainArgs l = true → Giv (.fn f (argAVs l)) (.fn f l) [] []
  | [], _ => .fnNil
  | x :: l, h => by
    simp only [plainArgs, Bool.and_eq_true] at h
    exact .fnCons (giv_av x h.1) (giv_argAVs f l h.2)
end
theorem givL_caps : ∀ (l : List Arg), plainArgs l = true → GivL (argAVs l) l [] []
  | [], _ => .nil
  | x :: l, h => by
    simp only [plainArgs, Bool.and_eq_true] at h
    exact .cons (giv_av x h.1) (givL_caps l h.2) rfl

theorem renL_argAVs (τ : Nat → Nat) : ∀ (l : List Arg), renL τ (argAVs l) = argAVs l ∧ ∀ x ∈ l, x.av.ren τ = x.av
  | [] => ⟨rfl, fun x h => by simp at h⟩
  | x :: l => by
    obtain ⟨h1, h2⟩ := renL_argAVs τ l
    have hx : x.av.ren τ = x.av := ren_arg τ x
    exact ⟨by simp only [argAVs, renL, hx, h1], fun y hy => by rcases List.mem_cons.1 hy with rfl | hy; exact hx; exact h2 y hy⟩
where
  ren_arg (τ : Nat → Nat) : ∀ (x : Arg), x.av.ren τ = x.av
    | .c x => rfl
    | .row xs => rfl
    | .pts xs => rfl
    | .fn f caps => by simp only [Arg.av, AV.ren]; rw [go τ caps]
  go (τ : Nat → Nat) : ∀ (l : List Arg), renL τ (argAVs l) = argAVs l
    | [] => rfl
    | x :: l => by simp only [argAVs, renL, ren_arg τ x, go τ l]
theorem ren_fnp {f : FuncId} {l : List Arg} (τ : Nat → Nat) : (AV.fn f (argAVs l)) = (AV.fn f (argAVs l)).ren τ := by
  simp only [AV.ren]; rw [(renL_argAVs τ l).1]

section
variable {P : Program} {n : Nat} {d : Nat} {ty : TypeId} {pos : String} {after : Array Edge} {g : Option (Nat × Bool)} {tys : Array TypeId}
/-- A call of a function value that came as a parameter: it takes one value and gives a bool. -/
theorem op_callP {t x : Operand} {f : FuncId} {av : AV} {arg : Arg} {caps : List Arg} {b : Bool} {ls : Obs} (hf : FnOk P f) (hc : plainArgs caps = true) (hF : FnB P f (arg :: caps) [.c (.lit (.bool b))] []) (hg : Giv av arg ls []) (hn : d < n) :
    OpL0 P n ⟨some d, .call ⟨.value t, #[x], tys⟩, ty, pos, after, g⟩ (.opd t (.fn f (argAVs caps)) :: (opds [x] [av] ++ (freshL [] ++ needsO (ls ++ [])))) [.set d (aBool b)] := by
  obtain ⟨fn, c, h1, h2, h3⟩ := hf
  have hgl : GivL ([av] ++ argAVs caps) (arg :: caps) (ls ++ []) ([] ++ []) := .cons hg (givL_caps caps hc) rfl
  have := op_callv (P := P) (n := n) (d := d) (ty := ty) (pos := pos) (after := after) (g := g) (tys := tys) (t := t) (xs := [x]) (avs := [av]) (ks := []) h1 h2 h3 hF hgl rfl (by simp [noCommon]) (.inr ⟨fun x hx => by simp at hx; subst hx; rfl, fun p hp => (by cases hp)⟩) .nil rfl rfl hn
  simpa [callU, openRes, openArg, openCell, asObs, dels, killsU, putsO] using this
end
end Go.Am
