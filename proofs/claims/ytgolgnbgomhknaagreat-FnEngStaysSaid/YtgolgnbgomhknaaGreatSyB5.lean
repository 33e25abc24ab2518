/- The base: lemmas about the machine, the executor. Own work. -/
import Derived.Test.YtgolgnbgomhknaaGreatSyB4
import Derived.Deep.Slices
import Derived.ProofKit
import Derived.WalkKit
set_option maxRecDepth 100000
set_option linter.unusedVariables false
set_option linter.unusedSimpArgs false
section
namespace Go.Am
noncomputable section
open Go Go.Proofs
theorem fcA {P : Program} {a : Nat × Ty} {l : List (Nat × Ty)} (h : TyOk P a.1 a.2) (t : ∀ p ∈ l, TyOk P p.1 p.2) : ∀ p ∈ a :: l, TyOk P p.1 p.2 := fun p hp => (List.mem_cons.1 hp).elim (fun e => e ▸ h) (t p)
theorem fcN {P : Program} : ∀ p ∈ ([] : List (Nat × Ty)), TyOk P p.1 p.2 := fun p hp => (by cases hp)
theorem tyOk3 : TyOk Tryz.prog 3 (.I) := ⟨Tryz.sizeOf3, Tryz.isAgg3, ⟨_, Tryz.zeroValue3, rfl⟩, Tryz.underlying3, (fun h => (by cases h))⟩
theorem tyOk4 : TyOk Tryz.prog 4 (.B) := ⟨Tryz.sizeOf4, Tryz.isAgg4, ⟨_, Tryz.zeroValue4, rfl⟩, Tryz.underlying4, (fun h => (by cases h))⟩
theorem tyOk5 : TyOk Tryz.prog 5 (.Y) := ⟨Tryz.sizeOf5, Tryz.isAgg5, ⟨_, Tryz.zeroValue5, rfl⟩, Tryz.underlying5, (fun h => (by cases h))⟩
theorem built157 : ∀ ps, Tryz.prog.built 157 ps = Instr.fill (fun i => [(0, 1), (1, 1)].toArray[i]?) #[.slice none 0 0, .int .i64 0] ps := z2s (it := Tryz.t157) (z := .agg #[.slice none 0 0, .int .i64 0]) (by kernel_rfl) Tryz.underlying157 (by kernel_rfl) (by kernel_rfl) rfl
theorem tyOk157 : TyOk Tryz.prog 157 (.s .rd) := ⟨Tryz.sizeOf157, Tryz.isAgg157, ⟨_, Tryz.zeroValue157, rfl⟩, ⟨_, Tryz.underlying157, (fun fi p h => match fi, h with | 0, h => by cases h; exact ⟨22, Tryz.sizeOf22, rfl, rfl⟩ | 1, h => by cases h; exact ⟨3, Tryz.sizeOf3, rfl, rfl⟩ | fi + 2, h => (by have h2 : none = some p := h; cases h2)), built157⟩, (fun h => (by cases h))⟩
theorem tyOk72 : TyOk Tryz.prog 72 (.s .ask) := ⟨Tryz.sizeOf72, Tryz.isAgg72, ⟨_, Tryz.zeroValue72, rfl⟩, ⟨_, Tryz.underlying72, (fun fi p h => match fi, h with | 0, h => by cases h; exact ⟨3, Tryz.sizeOf3, rfl, rfl⟩ | 1, h => by cases h; exact ⟨3, Tryz.sizeOf3, rfl, rfl⟩ | 2, h => by cases h; exact ⟨3, Tryz.sizeOf3, rfl, rfl⟩ | fi + 3, h => (by have h2 : none = some p := h; cases h2)), built72⟩, (fun _ => ⟨eqfacts72.2.2.1, y1i eqfacts72.1 eqfacts72.2.1 Tryz.underlying3 Tryz.isAgg3 eqfacts72.2.2.2 (by kernel_rfl)⟩)⟩
theorem tyOk178 : TyOk Tryz.prog 178 (.s .flow) := ⟨Tryz.sizeOf178, Tryz.isAgg178, ⟨_, Tryz.zeroValue178, rfl⟩, ⟨_, Tryz.underlying178, (fun fi p h => match fi, h with | 0, h => by cases h; exact ⟨3, Tryz.sizeOf3, rfl, rfl⟩ | 1, h => by cases h; exact ⟨72, Tryz.sizeOf72, rfl, rfl⟩ | fi + 2, h => (by have h2 : none = some p := h; cases h2)), built178⟩, (fun _ => ⟨by kernel_rfl, wr9 (ti := 3) (ta := 72) (by kernel_rfl) (by kernel_rfl) Tryz.underlying3 Tryz.isAgg3 (by kernel_rfl) eqfacts72.1 eqfacts72.2.1 Tryz.isAgg72 Tryz.sizeOf72 eqfacts72.2.2.2 (by kernel_rfl)⟩)⟩
theorem tyOk99 : TyOk Tryz.prog 99 (.s .task) := ⟨Tryz.sizeOf99, Tryz.isAgg99, ⟨_, Tryz.zeroValue99, rfl⟩, ⟨_, Tryz.underlying99, (fun fi p h => match fi, h with | 0, h => by cases h; exact ⟨3, Tryz.sizeOf3, rfl, rfl⟩ | 1, h => by cases h; exact ⟨3, Tryz.sizeOf3, rfl, rfl⟩ | 2, h => by cases h; exact ⟨26, Tryz.sizeOf26, rfl, rfl⟩ | 3, h => by cases h; exact ⟨97, Tryz.sizeOf97, rfl, rfl⟩ | 4, h => by cases h; exact ⟨26, Tryz.sizeOf26, rfl, rfl⟩ | 5, h => by cases h; exact ⟨3, Tryz.sizeOf3, rfl, rfl⟩ | 6, h => by cases h; exact ⟨3, Tryz.sizeOf3, rfl, rfl⟩ | 7, h => by cases h; exact ⟨3, Tryz.sizeOf3, rfl, rfl⟩ | 8, h => by cases h; exact ⟨3, Tryz.sizeOf3, rfl, rfl⟩ | fi + 9, h => (by have h2 : none = some p := h; cases h2)), built99⟩, (fun h => (by cases h))⟩
theorem tyOk25 : TyOk Tryz.prog 25 (.s .net) := ⟨Tryz.sizeOf25, Tryz.isAgg25, ⟨_, Tryz.zeroValue25, rfl⟩, ⟨_, Tryz.underlying25, (fun fi p h => match fi, h with | 0, h => by cases h; exact ⟨3, Tryz.sizeOf3, rfl, rfl⟩ | 1, h => by cases h; exact ⟨23, Tryz.sizeOf23, rfl, rfl⟩ | fi + 2, h => (by have h2 : none = some p := h; cases h2)), built25⟩, (fun h => (by cases h))⟩
theorem tyOk50 : TyOk Tryz.prog 50 (.s .item) := ⟨Tryz.sizeOf50, Tryz.isAgg50, ⟨_, Tryz.zeroValue50, rfl⟩, ⟨_, Tryz.underlying50, (fun fi p h => match fi, h with | 0, h => by cases h; exact ⟨3, Tryz.sizeOf3, rfl, rfl⟩ | 1, h => by cases h; exact ⟨3, Tryz.sizeOf3, rfl, rfl⟩ | 2, h => by cases h; exact ⟨3, Tryz.sizeOf3, rfl, rfl⟩ | fi + 3, h => (by have h2 : none = some p := h; cases h2)), built50⟩, (fun _ => ⟨eqfacts50.2.2.1, y1i eqfacts50.1 eqfacts50.2.1 Tryz.underlying3 Tryz.isAgg3 eqfacts50.2.2.2 (by kernel_rfl)⟩)⟩
theorem tyOk101 : TyOk Tryz.prog 101 (.s .did) := ⟨Tryz.sizeOf101, Tryz.isAgg101, ⟨_, Tryz.zeroValue101, rfl⟩, ⟨_, Tryz.underlying101, (fun fi p h => match fi, h with | 0, h => by cases h; exact ⟨3, Tryz.sizeOf3, rfl, rfl⟩ | 1, h => by cases h; exact ⟨3, Tryz.sizeOf3, rfl, rfl⟩ | fi + 2, h => (by have h2 : none = some p := h; cases h2)), built101⟩, (fun _ => ⟨eqfacts101.2.2.1, y1i eqfacts101.1 eqfacts101.2.1 Tryz.underlying3 Tryz.isAgg3 eqfacts101.2.2.2 (by kernel_rfl)⟩)⟩
theorem tyOk30 : TyOk Tryz.prog 30 (.s .kase) := ⟨Tryz.sizeOf30, Tryz.isAgg30, ⟨_, Tryz.zeroValue30, rfl⟩, ⟨_, Tryz.underlying30, (fun fi p h => match fi, h with | 0, h => by cases h; exact ⟨3, Tryz.sizeOf3, rfl, rfl⟩ | 1, h => by cases h; exact ⟨26, Tryz.sizeOf26, rfl, rfl⟩ | 2, h => by cases h; exact ⟨27, Tryz.sizeOf27, rfl, rfl⟩ | 3, h => by cases h; exact ⟨26, Tryz.sizeOf26, rfl, rfl⟩ | 4, h => by cases h; exact ⟨28, Tryz.sizeOf28, rfl, rfl⟩ | fi + 5, h => (by have h2 : none = some p := h; cases h2)), built30⟩, (fun h => (by cases h))⟩
theorem tyOk130 : TyOk Tryz.prog 130 (.s .node) := ⟨Tryz.sizeOf130, Tryz.isAgg130, ⟨_, Tryz.zeroValue130, rfl⟩, ⟨_, Tryz.underlying130, (fun fi p h => match fi, h with | 0, h => by cases h; exact ⟨72, Tryz.sizeOf72, rfl, rfl⟩ | 1, h => by cases h; exact ⟨3, Tryz.sizeOf3, rfl, rfl⟩ | 2, h => by cases h; exact ⟨3, Tryz.sizeOf3, rfl, rfl⟩ | 3, h => by cases h; exact ⟨3, Tryz.sizeOf3, rfl, rfl⟩ | 4, h => by cases h; exact ⟨26, Tryz.sizeOf26, rfl, rfl⟩ | fi + 5, h => (by have h2 : none = some p := h; cases h2)), built130⟩, (fun h => (by cases h))⟩
theorem tyOk68 : TyOk Tryz.prog 68 (.s .run) := ⟨Tryz.sizeOf68, Tryz.isAgg68, ⟨_, Tryz.zeroValue68, rfl⟩, ⟨_, Tryz.underlying68, (fun fi p h => match fi, h with | 0, h => by cases h; exact ⟨3, Tryz.sizeOf3, rfl, rfl⟩ | 1, h => by cases h; exact ⟨30, Tryz.sizeOf30, rfl, rfl⟩ | fi + 2, h => (by have h2 : none = some p := h; cases h2)), built68⟩, (fun h => (by cases h))⟩
theorem tyOk63 : TyOk Tryz.prog 63 (.s .house) := ⟨Tryz.sizeOf63, Tryz.isAgg63, ⟨_, Tryz.zeroValue63, rfl⟩, ⟨_, Tryz.underlying63, (fun fi p h => match fi, h with | 0, h => by cases h; exact ⟨59, Tryz.sizeOf59, rfl, rfl⟩ | 1, h => by cases h; exact ⟨26, Tryz.sizeOf26, rfl, rfl⟩ | 2, h => by cases h; exact ⟨60, Tryz.sizeOf60, rfl, rfl⟩ | 3, h => by cases h; exact ⟨61, Tryz.sizeOf61, rfl, rfl⟩ | fi + 4, h => (by have h2 : none = some p := h; cases h2)), built63⟩, (fun h => (by cases h))⟩
theorem tyOk74 : TyOk Tryz.prog 74 (.s .req) := ⟨Tryz.sizeOf74, Tryz.isAgg74, ⟨_, Tryz.zeroValue74, rfl⟩, ⟨_, Tryz.underlying74, (fun fi p h => match fi, h with | 0, h => by cases h; exact ⟨3, Tryz.sizeOf3, rfl, rfl⟩ | 1, h => by cases h; exact ⟨3, Tryz.sizeOf3, rfl, rfl⟩ | 2, h => by cases h; exact ⟨3, Tryz.sizeOf3, rfl, rfl⟩ | 3, h => by cases h; exact ⟨3, Tryz.sizeOf3, rfl, rfl⟩ | 4, h => by cases h; exact ⟨3, Tryz.sizeOf3, rfl, rfl⟩ | 5, h => by cases h; exact ⟨3, Tryz.sizeOf3, rfl, rfl⟩ | 6, h => by cases h; exact ⟨26, Tryz.sizeOf26, rfl, rfl⟩ | 7, h => by cases h; exact ⟨72, Tryz.sizeOf72, rfl, rfl⟩ | 8, h => by cases h; exact ⟨3, Tryz.sizeOf3, rfl, rfl⟩ | fi + 9, h => (by have h2 : none = some p := h; cases h2)), built74⟩, (fun h => (by cases h))⟩
theorem tyOk26 : TyOk Tryz.prog 26 (.sl .I) := ⟨Tryz.sizeOf26, Tryz.isAgg26, ⟨_, Tryz.zeroValue26, rfl⟩, ⟨_, _, Tryz.underlying26, Tryz.sizeOf3, elem26, rfl, zero26⟩, (fun h => (by cases h))⟩
theorem tyOk186 : TyOk Tryz.prog 186 (.sl .B) := ⟨Tryz.sizeOf186, Tryz.isAgg186, ⟨_, Tryz.zeroValue186, rfl⟩, ⟨_, _, Tryz.underlying186, Tryz.sizeOf4, elem186, rfl, zero186⟩, (fun h => (by cases h))⟩
theorem tyOk22 : TyOk Tryz.prog 22 (.sl .Y) := ⟨Tryz.sizeOf22, Tryz.isAgg22, ⟨_, Tryz.zeroValue22, rfl⟩, ⟨_, _, Tryz.underlying22, Tryz.sizeOf5, elem22, rfl, zero22⟩, (fun h => (by cases h))⟩
theorem tyOk181 : TyOk Tryz.prog 181 (.sl (.sl .I)) := ⟨Tryz.sizeOf181, Tryz.isAgg181, ⟨_, Tryz.zeroValue181, rfl⟩, ⟨_, _, Tryz.underlying181, Tryz.sizeOf26, elem181, rfl, zero181⟩, (fun h => (by cases h))⟩
theorem tyOk97 : TyOk Tryz.prog 97 (.sl (.s .flow)) := ⟨Tryz.sizeOf97, Tryz.isAgg97, ⟨_, Tryz.zeroValue97, rfl⟩, ⟨_, _, Tryz.underlying97, Tryz.sizeOf178, elem97, rfl, zero97⟩, (fun h => (by cases h))⟩
theorem tyOk23 : TyOk Tryz.prog 23 (.sl (.s .task)) := ⟨Tryz.sizeOf23, Tryz.isAgg23, ⟨_, Tryz.zeroValue23, rfl⟩, ⟨_, _, Tryz.underlying23, Tryz.sizeOf99, elem23, rfl, zero23⟩, (fun h => (by cases h))⟩
theorem tyOk59 : TyOk Tryz.prog 59 (.sl (.s .net)) := ⟨Tryz.sizeOf59, Tryz.isAgg59, ⟨_, Tryz.zeroValue59, rfl⟩, ⟨_, _, Tryz.underlying59, Tryz.sizeOf25, elem59, rfl, zero59⟩, (fun h => (by cases h))⟩
theorem tyOk27 : TyOk Tryz.prog 27 (.sl (.s .item)) := ⟨Tryz.sizeOf27, Tryz.isAgg27, ⟨_, Tryz.zeroValue27, rfl⟩, ⟨_, _, Tryz.underlying27, Tryz.sizeOf50, elem27, rfl, zero27⟩, (fun h => (by cases h))⟩
theorem tyOk28 : TyOk Tryz.prog 28 (.sl (.s .did)) := ⟨Tryz.sizeOf28, Tryz.isAgg28, ⟨_, Tryz.zeroValue28, rfl⟩, ⟨_, _, Tryz.underlying28, Tryz.sizeOf101, elem28, rfl, zero28⟩, (fun h => (by cases h))⟩
theorem tyOk60 : TyOk Tryz.prog 60 (.sl (.s .node)) := ⟨Tryz.sizeOf60, Tryz.isAgg60, ⟨_, Tryz.zeroValue60, rfl⟩, ⟨_, _, Tryz.underlying60, Tryz.sizeOf130, elem60, rfl, zero60⟩, (fun h => (by cases h))⟩
theorem tyOk61 : TyOk Tryz.prog 61 (.sl (.s .run)) := ⟨Tryz.sizeOf61, Tryz.isAgg61, ⟨_, Tryz.zeroValue61, rfl⟩, ⟨_, _, Tryz.underlying61, Tryz.sizeOf68, elem61, rfl, zero61⟩, (fun h => (by cases h))⟩
theorem tyOk86 : TyOk Tryz.prog 86 (.sl (.s .req)) := ⟨Tryz.sizeOf86, Tryz.isAgg86, ⟨_, Tryz.zeroValue86, rfl⟩, ⟨_, _, Tryz.underlying86, Tryz.sizeOf74, elem86, rfl, zero86⟩, (fun h => (by cases h))⟩
def tyT : List (Nat × Ty) := [
  (4, .B),
  (5, .Y),
  (157, .s .rd),
  (72, .s .ask),
  (178, .s .flow),
  (99, .s .task),
  (25, .s .net),
  (50, .s .item),
  (101, .s .did),
  (30, .s .kase),
  (130, .s .node),
  (68, .s .run),
  (63, .s .house),
  (74, .s .req),
  (26, .sl .I),
  (186, .sl .B),
  (22, .sl .Y),
  (181, .sl (.sl .I)),
  (97, .sl (.s .flow)),
  (23, .sl (.s .task)),
  (59, .sl (.s .net)),
  (27, .sl (.s .item)),
  (28, .sl (.s .did)),
  (60, .sl (.s .node)),
  (61, .sl (.s .run)),
  (86, .sl (.s .req)),
  (3, .I)]
theorem vo6 : ∀ p ∈ tyT, TyOk Tryz.prog p.1 p.2 :=
  fcA tyOk4 <|
  fcA tyOk5 <|
  fcA tyOk157 <|
  fcA tyOk72 <|
  fcA tyOk178 <|
  fcA tyOk99 <|
  fcA tyOk25 <|
  fcA tyOk50 <|
  fcA tyOk101 <|
  fcA tyOk30 <|
  fcA tyOk130 <|
  fcA tyOk68 <|
  fcA tyOk63 <|
  fcA tyOk74 <|
  fcA tyOk26 <|
  fcA tyOk186 <|
  fcA tyOk22 <|
  fcA tyOk181 <|
  fcA tyOk97 <|
  fcA tyOk23 <|
  fcA tyOk59 <|
  fcA tyOk27 <|
  fcA tyOk28 <|
  fcA tyOk60 <|
  fcA tyOk61 <|
  fcA tyOk86 <|
  fcA tyOk3 fcN
def mpT : List Nat := [
  190
  ]
theorem vm2 : ∀ t ∈ mpT, ∃ kt et, Tryz.prog.underlying t = some (.map kt et) ∧ Tryz.prog.underlying kt = some (.int .i64) ∧ ∀ w, (zeroValue et).run Tryz.prog w = .ok (.bool false) w := by
  intro t ht
  (simp only [mpT, List.mem_cons, List.not_mem_nil, or_false] at ht; subst ht; exact ⟨3, 4, Tryz.underlying190, Tryz.underlying3, Tryz.zeroValue4⟩)
noncomputable def cx : Cx := ⟨Tryz.prog, 0, tyT, mpT, none⟩
theorem cx_ok : cx.Ok := ⟨fun t y h => vo6 _ (yq7 h), vm2, (fun q hq => (by cases hq)), mixed⟩
end
end Go.Am
end
section
namespace Go.Am
noncomputable section
open Go
variable {E : Option FP}
inductive CK where
  | i | y | b | nl | und | fp
  | k (c : Bool)
  | s (t : Ty)
  | row (t : Ty)
  | pts (t : Ty)
  | ref (q : Nat)
  | bx (q j : Nat)
abbrev CK.den : CK → Type
  | .i => Int
  | .y => Int
  | .b => Bool
  | .s t => List t.den
  | .row t => t.den
  | .pts t => t.den
  | _ => Unit
abbrev HC : List CK → Type
  | [] => Unit
  | k :: r => k.den × HC r
inductive TK where
  | c (k : CK)
  | agg (xs : List CK)
  | tup (xs : List CK)
  | rowl (xs : List CK)
  | fn (f : FuncId) (xs : List CK)
abbrev TK.den : TK → Type
  | .c k => k.den
  | .agg xs => HC xs
  | .tup xs => HC xs
  | .rowl xs => HC xs
  | .fn _ xs => HC xs
inductive OK where
  | arr (t : Ty) (o : Bool)
  | emp (t : Ty)
  | box (xs : List CK)
  | boxT (t : Ty)
  | mp
abbrev OK.den : OK → Type
  | .arr t _ => List t.den
  | .box xs => HC xs
  | .boxT t => t.den
  | .mp => List Int
  | .emp _ => Unit
abbrev HE : List (Nat × TK) → Type
  | [] => Unit
  | p :: r => p.2.den × HE r
abbrev HO : List (Nat × OK) → Type
  | [] => Unit
  | p :: r => p.2.den × HO r
structure Tmpl where
  env : List (Nat × TK)
  obj : List (Nat × OK)
abbrev Tmpl.den (t : Tmpl) : Type := HE t.env × HO t.obj
def fillC : (k : CK) → k.den → TV
  | .i, n => .l (.i n)
  | .y, n => .l (.y n)
  | .b, b => .l (.b b)
  | .nl, _ => .l .nl
  | .und, _ => .und
  | .fp, _ => .fp
  | .k c, _ => .kb c
  | .s t, l => .l (.s false t l)
  | .row t, x => .row (t.out false x)
  | .pts t, x => .pts (t.out false x)
  | .ref q, _ => .ref q
  | .bx q j, _ => .bx q j
def fillCs : (ks : List CK) → HC ks → List TV
  | [], _ => []
  | k :: ks, v => fillC k v.1 :: fillCs ks v.2
def lfOf : TV → Lf
  | .l x => x
  | _ => .nl
def fillT' : (k : TK) → k.den → TV
  | .c k, v => fillC k v
  | .agg xs, v => .agg (fillCs xs v)
  | .tup xs, v => .tup (fillCs xs v)
  | .rowl xs, v => .row ((fillCs xs v).map lfOf)
  | .fn f xs, v => .fn f (fillCs xs v)
def fillO : (k : OK) → k.den → TO
  | .arr t o, l => .arr t l o
  | .emp t, _ => .emp t
  | .box xs, v => .box (fillCs xs v)
  | .boxT t, x => .box ((t.out false x).map .l)
  | .mp, l => .mp l
def fillE : (es : List (Nat × TK)) → HE es → List (Nat × TV)
  | [], _ => []
  | p :: r, v => (p.1, fillT' p.2 v.1) :: fillE r v.2
def fillOs : (es : List (Nat × OK)) → HO es → List (Nat × TO)
  | [], _ => []
  | p :: r, v => (p.1, fillO p.2 v.1) :: fillOs r v.2
def envA (m : Nm) (l : List (Nat × TV)) : List (Nat × AV) := l.map fun p => (p.1, p.2.av m)
def Tmpl.fill (t : Tmpl) (fp : Option FP) (v : t.den) : XSt :=
  ⟨fillE t.env v.1, fillOs t.obj v.2, ⟨[], [], fp⟩, (fillE t.env v.1).flatMap (fun p => p.2.ids ⟨[], [], none⟩) ++ (fillOs t.obj v.2).flatMap fun p => p.1 :: p.2.ids ⟨[], [], none⟩⟩
def Tmpl.st (t : Tmpl) (fp : Option FP) (v : t.den) : St := stU (envA ⟨[], [], fp⟩ (fillE t.env v.1)) (TOs ⟨[], [], fp⟩ (fillOs t.obj v.2))
def renC : CK → TV → List (Nat × Nat)
  | .ref q, .ref id => [(q, id)]
  | .bx q _, .bx id _ => [(q, id)]
  | _, _ => []
def renCs : List CK → List TV → List (Nat × Nat)
  | k :: ks, x :: xs => renC k x ++ renCs ks xs
  | _, _ => []
def renT : TK → TV → List (Nat × Nat)
  | .c k, x => renC k x
  | .agg ks, .agg xs => renCs ks xs
  | .tup ks, .tup xs => renCs ks xs
  | .fn _ ks, .fn _ xs => renCs ks xs
  | _, _ => []
def renE (st : XSt) : List (Nat × TK) → List (Nat × Nat)
  | [] => []
  | p :: r => (match look st.env p.1 with
    | some tv => renT p.2 tv
    | none => []) ++ renE st r
def renO (st : XSt) : List (Nat × OK) → List (Nat × Nat) → List (Nat × Nat)
  | [], ren => ren
  | p :: r, ren => renO st r (ren ++ match p.2, look ren p.1 with
    | .box ks, some id => renCs ks ((boxOf st id).getD [])
    | _, _ => [])
def tauOf (ren : List (Nat × Nat)) (i : Nat) : Nat := (look ren i).getD i
def getC (st : XSt) (τ : Nat → Nat) : (k : CK) → TV → Option k.den
  | .i, tv => intv tv
  | .y, tv => yv tv
  | .b, tv => boolv st.nm tv
  | .nl, tv => match tv with | .l .nl => some () | _ => none
  | .und, tv => match tv with | .und => some () | _ => none
  | .fp, tv => match tv with | .fp => some () | _ => none
  | .k c, tv => (knownv st.nm tv).bind fun v => bif v == c then some () else none
  | .s t, tv => match tv with | .l (.s false t' l) => t'.cast t l | _ => none
  | .row t, tv => match tv with | .row xs => bif xs.any Lf.isNl then none else t.inn false xs | _ => none
  | .pts t, tv => match tv with | .pts xs => bif xs.any Lf.isNl then none else t.inn false xs | _ => none
  | .ref q, tv => match tv with | .ref id => bif Nat.beq (τ q) id then some () else none | _ => none
  | .bx q j, tv => match tv with | .bx id i => bif Nat.beq (τ q) id && Nat.beq i j then some () else none | _ => none
def getCs (st : XSt) (τ : Nat → Nat) : (ks : List CK) → List TV → Option (HC ks)
  | [], [] => some ()
  | k :: ks, x :: xs => (getC st τ k x).bind fun a => (getCs st τ ks xs).bind fun b => some (a, b)
  | _, _ => none
def getT (st : XSt) (τ : Nat → Nat) : (k : TK) → TV → Option k.den
  | .c k, tv => getC st τ k tv
  | .agg ks, tv => match tv with | .agg xs => getCs st τ ks xs | _ => none
  | .tup ks, tv => match tv with | .tup xs => getCs st τ ks xs | _ => none
  | .rowl ks, tv => match tv with | .row xs => getCs st τ ks (xs.map .l) | _ => none
  | .fn f ks, tv => match tv with | .fn g xs => bif Nat.beq f g then getCs st τ ks xs else none | _ => none
def lfT1 (st : XSt) : TV → Option Lf
  | .l x => some x
  | .kb v => some (.b v)
  | .b k n => (boolv st.nm (.b k n)).bind fun v => some (.b v)
  | _ => none
def lfTs (st : XSt) : List TV → Option (List Lf)
  | [] => some []
  | x :: xs => (lfT1 st x).bind fun a => (lfTs st xs).bind fun b => some (a :: b)
def getO (st : XSt) (τ : Nat → Nat) (id : Nat) : (k : OK) → Option k.den
  | .arr t o => match look st.obj id with
    | some (.arr t' l o') => bif o' == o || !t.hasS then t'.cast t l else none
    | some (.emp t') => bif Nat.beq t'.w t.w then some [] else none
    | _ => none
  | .emp t => match look st.obj id with
    | some (.emp t') => bif Nat.beq t'.w t.w then some () else none
    | _ => none
  | .box ks => (boxOf st id).bind fun xs => getCs st τ ks xs
  | .boxT t => (boxOf st id).bind fun xs => (lfTs st xs).bind fun a => bif a.any Lf.isNl then none else t.inn false a
  | .mp => mpOf st id
def getE (st : XSt) (τ : Nat → Nat) : (es : List (Nat × TK)) → Option (HE es)
  | [] => some ()
  | p :: r => (look st.env p.1).bind fun tv => (getT st τ p.2 tv).bind fun a => (getE st τ r).bind fun b => some (a, b)
def getOs (st : XSt) (τ : Nat → Nat) : (es : List (Nat × OK)) → Option (HO es)
  | [] => some ()
  | p :: r => bif Nat.blt p.1 1000000 || Nat.beq (τ p.1) p.1 then (getO st τ (τ p.1) p.2).bind fun a => (getOs st τ r).bind fun b => some (a, b) else none
def Tmpl.get (t : Tmpl) (st : XSt) : Option t.den :=
  let τ := tauOf (renO st t.obj (renE st t.env))
  bif nodupB (t.obj.map fun p => τ p.1) then (getE st τ t.env).bind fun a => (getOs st τ t.obj).bind fun b => some (a, b) else none
mutual
theorem v3r {τ : Nat → Nat} : ∀ (x : AV), x.ids = [] → x.ren τ = x
  | .ref id p, h => by simp [AV.ids] at h
  | .ptr id p k i j, h => by simp [AV.ids] at h
  | .bx id j, h => by simp [AV.ids] at h
  | .agg xs, h => by simp only [AV.ids] at h; simp only [AV.ren, yt3 xs h]
  | .tup xs, h => by simp only [AV.ids] at h; simp only [AV.ren, yt3 xs h]
  | .fn f xs, h => by simp only [AV.ids] at h; simp only [AV.ren, yt3 xs h]
  | .dead, _ => rfl
  | .c x, _ => rfl
  | .row xs, _ => rfl
  | .pts xs, _ => rfl
theorem yt3 {τ : Nat → Nat} : ∀ (l : List AV), idsL l = [] → renL τ l = l
  | [], _ => rfl
  | x :: l, h => by
    simp only [idsL, List.append_eq_nil_iff] at h
    simp only [renL, v3r x h.1, yt3 l h.2]
end
section
variable {st : XSt} {ac : St} {τ : Nat → Nat}
theorem wu7 (m : Nm) : ∀ (k : CK) (v : k.den), (fillC k v).dfn m = true := by intro k v; cases k <;> rfl
theorem y1j (m : Nm) : ∀ (ks : List CK) (v : HC ks), dfnL m (fillCs ks v) = true
  | [], _ => rfl
  | k :: ks, v => by simp only [fillCs, dfnL, wu7, y1j m ks, Bool.and_self]
theorem v62 (m : Nm) (k : TK) (v : k.den) : (fillT' k v).dfn m = true := by
  cases k with
  | c k => exact wu7 m k v
  | rowl xs => rfl
  | agg xs => exact y1j m xs v
  | tup xs => exact y1j m xs v
  | fn f xs => exact y1j m xs v
theorem v61 (m : Nm) (k : OK) (v : k.den) : (fillO k v).dfn m = true := by
  cases k with
  | box xs => exact y1j m xs v
  | boxT t => exact (z4g m).2 fun x hx => by obtain ⟨y, _, rfl⟩ := List.mem_map.1 hx; rfl
  | _ => rfl
theorem v6c (hR : Rf E st ac) (hE : (FPav E).ids = []) {k : CK} {tv : TV} {v : k.den} (h : getC st τ k tv = some v) : tv.av st.nm = ((fillC k v).av ⟨[], [], E⟩).ren τ := by
  cases k with
  | i => rw [z9d h]; rfl
  | y =>
    simp only [getC, yv] at h
    split at h
    · cases h; rfl
    · cases h
  | b => rw [zr8 h]; rfl
  | nl => simp only [getC] at h; split at h; · rfl
          · cases h
  | und => simp only [getC] at h; split at h; · rfl
           · cases h
  | fp =>
    simp only [getC] at h
    split at h
    · simp only [TV.av, fillC, hR.fp]; exact (v3r _ hE).symm
    · cases h
  | k c =>
    obtain ⟨b, h1, h⟩ := bnd h
    obtain ⟨h2, h⟩ := bif_t h
    have e : b = c := by simpa using h2
    subst e
    rw [y82 hR h1]; rfl
  | s t =>
    simp only [getC] at h
    split at h
    · obtain ⟨e, rfl⟩ := Ty.cast_some h
      subst e; rfl
    · cases h
  | row t =>
    simp only [getC] at h
    split at h
    · rename_i xs
      cases hn : xs.any Lf.isNl with
      | true => rw [hn] at h; cases h
      | false =>
        rw [hn] at h
        simp only [TV.av, fillC, z8e h hn]; rfl
    · cases h
  | pts t =>
    simp only [getC] at h
    split at h
    · rename_i xs
      cases hn : xs.any Lf.isNl with
      | true => rw [hn] at h; cases h
      | false =>
        rw [hn] at h
        simp only [TV.av, fillC, z8e h hn]; rfl
    · cases h
  | ref q =>
    simp only [getC] at h
    split at h
    · obtain ⟨h1, _⟩ := bif_t h
      simp only [TV.av, fillC, AV.ren, Nat.eq_of_beq_eq_true h1]
    · cases h
  | bx q j =>
    simp only [getC] at h
    split at h
    · obtain ⟨h1, _⟩ := bif_t h
      simp only [Bool.and_eq_true] at h1
      simp only [TV.av, fillC, AV.ren, Nat.eq_of_beq_eq_true h1.1, Nat.eq_of_beq_eq_true h1.2]
    · cases h
theorem yq0 (hR : Rf E st ac) (hE : (FPav E).ids = []) : ∀ {ks : List CK} {xs : List TV} {v : HC ks}, getCs st τ ks xs = some v → avL st.nm xs = renL τ (avL ⟨[], [], E⟩ (fillCs ks v))
  | [], [], _, _ => rfl
  | [], _ :: _, _, h => by cases h
  | _ :: _, [], _, h => by cases h
  | k :: ks, x :: xs, _, h => by
    obtain ⟨a, h1, h⟩ := bnd h
    obtain ⟨b, h2, h⟩ := bnd h
    cases h
    simp only [avL, fillCs, renL, v6c hR hE h1, yq0 hR hE h2]
theorem vl9 {k : CK} {x : Lf} {v : k.den} (h : getC st τ k (.l x) = some v) : (lfOf (fillC k v)).cell = x.cell := by
  cases k with
  | i => simp only [getC, intv] at h; split at h; · rename_i e; cases e; cases h; rfl
         · cases h
  | y => simp only [getC, yv] at h; split at h; · rename_i e; cases e; cases h; rfl
         · cases h
  | b => simp only [getC, boolv] at h; split at h <;> first | (rename_i e; cases e; done) | (rename_i e; cases e; cases h; rfl) | cases h
  | nl => simp only [getC] at h; split at h; · rename_i e; cases e; rfl
          · cases h
  | s t =>
    simp only [getC] at h
    split at h
    · rename_i e
      cases e
      obtain ⟨e, rfl⟩ := Ty.cast_some h
      subst e; rfl
    · cases h
  | _ => cases h
theorem v6d : ∀ {ks : List CK} {xs : List Lf} {v : HC ks}, getCs st τ ks (xs.map .l) = some v → ((fillCs ks v).map lfOf).map Lf.cell = xs.map Lf.cell
  | [], [], _, _ => rfl
  | [], _ :: _, _, h => by cases h
  | _ :: _, [], _, h => by cases h
  | k :: ks, x :: xs, _, h => by
    obtain ⟨a, h1, h⟩ := bnd h
    obtain ⟨b, h2, h⟩ := bnd h
    cases h
    simp only [fillCs, List.map_cons, vl9 h1, v6d h2]
theorem vh7 (hR : Rf E st ac) (hE : (FPav E).ids = []) {k : TK} {tv : TV} {v : k.den} (h : getT st τ k tv = some v) : tv.av st.nm = ((fillT' k v).av ⟨[], [], E⟩).ren τ := by
  cases k with
  | c k => exact v6c hR hE h
  | agg ks =>
    simp only [getT] at h
    split at h
    · simp only [TV.av, fillT', AV.ren, yq0 hR hE h]
    · cases h
  | tup ks =>
    simp only [getT] at h
    split at h
    · simp only [TV.av, fillT', AV.ren, yq0 hR hE h]
    · cases h
  | rowl ks =>
    simp only [getT] at h
    split at h
    · simp only [TV.av, fillT', AV.ren, v6d h]
    · cases h
  | fn f ks =>
    simp only [getT] at h
    split at h
    · obtain ⟨h1, h⟩ := bif_t h
      simp only [TV.av, fillT', AV.ren, yq0 hR hE h, Nat.eq_of_beq_eq_true h1]
    · cases h
theorem vj1 {x : TV} {a : Lf} (h : lfT1 st x = some a) : x.av st.nm = .c a.cell := by
  cases x with
  | l x => cases h; rfl
  | kb v => cases h; rfl
  | b k n => obtain ⟨v, h1, h⟩ := bnd h; cases h; rw [zr8 h1]; rfl
  | _ => cases h
theorem v6z : ∀ {xs : List TV} {a : List Lf}, lfTs st xs = some a → avL st.nm xs = a.map fun z => .c z.cell
  | [], _, h => by cases h; rfl
  | x :: xs, _, h => by
    obtain ⟨a, h1, h⟩ := bnd h
    obtain ⟨b, h2, h⟩ := bnd h
    cases h
    simp only [avL, List.map_cons, vj1 h1, v6z h2]
theorem l_av (m : Nm) (l : List Lf) : avL m (l.map .l) = l.map fun z => .c z.cell := by
  rw [z8a, List.map_map]; rfl
theorem vo4 {α : Type} {τ : Nat → Nat} (g : α → Cell) (l : List α) : renL τ (l.map fun z => AV.c (g z)) = l.map fun z => AV.c (g z) := by
  rw [y1d, List.map_map]; rfl
theorem vh6 (hR : Rf E st ac) (hE : (FPav E).ids = []) {k : OK} {id : Nat} {v : k.den} (h : getO st τ id k = some v) : ac.obj id = some (((fillO k v).ob ⟨[], [], E⟩).ren τ) := by
  cases k with
  | arr t o =>
    simp only [getO] at h
    split at h
    · rename_i t' l' o' ho
      obtain ⟨h1, h⟩ := bif_t h
      obtain ⟨e, rfl⟩ := Ty.cast_some h
      subst e
      rw [(hR.obj _ _ ho).2]
      simp only [TO.ob, fillO, Obj.ren]
      simp only [Bool.or_eq_true, Bool.not_eq_true', beq_iff_eq] at h1
      rcases h1 with h1 | h1
      · subst h1; rfl
      · rw [yb1 h1 o' o]
    · rename_i t' ho
      obtain ⟨h1, h⟩ := bif_t h
      cases h
      rw [(hR.obj _ _ ho).2]
      simp only [TO.ob, fillO, Obj.ren, Nat.eq_of_beq_eq_true h1]; rfl
    · cases h
  | emp t =>
    simp only [getO] at h
    split at h
    · rename_i t' ho
      obtain ⟨h1, h⟩ := bif_t h
      rw [(hR.obj _ _ ho).2]
      simp only [TO.ob, fillO, Obj.ren, Nat.eq_of_beq_eq_true h1]
    · cases h
  | box ks =>
    obtain ⟨xs, h1, h⟩ := bnd h
    rw [(zr9 hR h1).1]
    simp only [TO.ob, fillO, Obj.ren, yq0 hR hE h]
  | boxT t =>
    obtain ⟨xs, h1, h⟩ := bnd h
    obtain ⟨a, h2, h⟩ := bnd h
    cases hn : a.any Lf.isNl with
    | true => rw [hn] at h; cases h
    | false =>
      rw [hn] at h
      rw [(zr9 hR h1).1]
      simp only [TO.ob, fillO, Obj.ren]
      rw [z8e h hn, v6z h2, l_av, vo4]
  | mp => rw [v1w hR h]; rfl
theorem v6e {n : Nat} (hR : Rf E st ac) (hE : (FPav E).ids = []) : ∀ {es : List (Nat × TK)} {v : HE es}, getE st τ es = some v → (∀ p ∈ es, p.1 < n) → Ents n ac τ (envA ⟨[], [], E⟩ (fillE es v))
  | [], _, _, _ => .nil
  | p :: r, _, h, hn => by
    obtain ⟨tv, h1, h⟩ := bnd h
    obtain ⟨a, h2, h⟩ := bnd h
    obtain ⟨b, h3, h⟩ := bnd h
    cases h
    have ih := v6e (n := n) hR hE h3 fun q hq => hn q (List.mem_cons_of_mem _ hq)
    have e := vh7 hR hE h2
    rcases (hR.env _ _ h1).2 with hd | hd
    · subst hd
      have e' : (fillT' p.2 a).av ⟨[], [], E⟩ = .dead := by
        cases h4 : (fillT' p.2 a).av ⟨[], [], E⟩ <;> rw [h4] at e <;> first | rfl | cases e
      show Ents n ac τ ((p.1, (fillT' p.2 a).av ⟨[], [], E⟩) :: envA ⟨[], [], E⟩ (fillE r b))
      rw [e']
      exact .dead (hn p (List.mem_cons_self ..)) ih
    · exact .cons hd e ih
theorem v38 (hR : Rf E st ac) (hE : (FPav E).ids = []) : ∀ {es : List (Nat × OK)} {v : HO es}, getOs st τ es = some v → Obls ac τ (TOs ⟨[], [], E⟩ (fillOs es v))
  | [], _, _ => .nil
  | p :: r, _, h => by
    obtain ⟨h0, h⟩ := bif_t h
    obtain ⟨a, h2, h⟩ := bnd h
    obtain ⟨b, h3, h⟩ := bnd h
    cases h
    simp only [Bool.or_eq_true] at h0
    exact .cons (vh6 hR hE h2) rfl (h0.imp id Nat.eq_of_beq_eq_true) (v38 hR hE h3)
end
def Tmpl.lt (t : Tmpl) (n : Nat) : Bool := t.env.all fun p => Nat.blt p.1 n
theorem w4g : ∀ (es : List (Nat × OK)) (v : HO es), (fillOs es v).map (·.1) = es.map (·.1)
  | [], _ => rfl
  | p :: r, v => by simp only [fillOs, List.map_cons, w4g r]
theorem v6h {n : Nat} {st : XSt} {ac : St} (hR : Rf E st ac) (hE : (FPav E).ids = []) {t : Tmpl} {v : t.den} (hn : t.lt n = true) (h : t.get st = some v) : Le n ac (t.st E v) := by
  obtain ⟨h1, h⟩ := bif_t h
  obtain ⟨a, h2, h⟩ := bnd h
  obtain ⟨b, h3, h⟩ := bnd h
  cases h
  refine vm1 (tauOf (renO st t.obj (renE st t.env))) (v6e hR hE h2 fun p hp => lb (List.all_eq_true.1 hn p hp)) (v38 hR hE h3) ?_
  have e : (TOs ⟨[], [], E⟩ (fillOs t.obj b)).map (fun p => tauOf (renO st t.obj (renE st t.env)) p.1) = t.obj.map fun p => tauOf (renO st t.obj (renE st t.env)) p.1 := by
    have e1 : ∀ (g : Nat → Nat) (l : List (Nat × TO)), (TOs ⟨[], [], E⟩ l).map (fun p => g p.1) = (l.map (·.1)).map g := fun g l => by simp [TOs, Function.comp_def]
    rw [e1, w4g, List.map_map]; rfl
  rw [e]; exact h1
theorem w9w (m : Nm) : ∀ {l : List (Nat × TV)} {x : Nat} {tv : TV}, look l x = some tv → envOf (envA m l) x = some (tv.av m)
  | [], _, _, h => by simp [look] at h
  | (y, u) :: r, x, tv, h => by
    simp only [look] at h
    simp only [envA, List.map_cons, envOf]
    cases hb : Nat.beq y x with
    | true => rw [hb] at h; cases h; rfl
    | false => rw [hb] at h; exact w9w m h
theorem w4f (m : Nm) : ∀ (es : List (Nat × TK)) (v : HE es), ∀ p ∈ fillE es v, p.2.dfn m = true
  | [], _, _, h => by simp [fillE] at h
  | p :: r, v, q, h => by
    rcases List.mem_cons.1 h with rfl | h
    · exact v62 m _ _
    · exact w4f m r v.2 q h
theorem yw6 (m : Nm) : ∀ (es : List (Nat × OK)) (v : HO es), ∀ p ∈ fillOs es v, p.2.dfn m = true
  | [], _, _, h => by simp [fillOs] at h
  | p :: r, v, q, h => by
    rcases List.mem_cons.1 h with rfl | h
    · exact v61 m _ _
    · exact yw6 m r v.2 q h
theorem ww7 {fp : Option FP} (hE : (FPav fp).ids = []) : ∀ (l : List (Nat × TV)), (∀ p ∈ l, p.2.dfn ⟨[], [], fp⟩ = true) → idsE (envA ⟨[], [], fp⟩ l) = l.flatMap fun p => p.2.ids ⟨[], [], none⟩
  | [], _ => rfl
  | p :: l, h => by
    have e := TV.ids_av ⟨[], [], fp⟩ hE p.2 (h p (List.mem_cons_self ..))
    rw [ve9] at e
    show (p.2.av ⟨[], [], fp⟩).ids ++ idsE (envA ⟨[], [], fp⟩ l) = _
    rw [e, ww7 hE l fun q hq => h q (List.mem_cons_of_mem _ hq)]; rfl
theorem ww8 {fp : Option FP} (hE : (FPav fp).ids = []) : ∀ (l : List (Nat × TO)), (∀ p ∈ l, p.2.dfn ⟨[], [], fp⟩ = true) → idsO (TOs ⟨[], [], fp⟩ l) = l.flatMap fun p => p.1 :: p.2.ids ⟨[], [], none⟩
  | [], _ => rfl
  | p :: l, h => by
    have e := TO.ids_ob ⟨[], [], fp⟩ hE p.2 (h p (List.mem_cons_self ..))
    have e2 : p.2.ids ⟨[], [], fp⟩ = p.2.ids ⟨[], [], none⟩ := by
      cases p.2 with
      | box xs => exact yk6 xs
      | _ => rfl
    rw [e2] at e
    show p.1 :: ((p.2.ob ⟨[], [], fp⟩).ids ++ idsO (TOs ⟨[], [], fp⟩ l)) = _
    rw [e, ww8 hE l fun q hq => h q (List.mem_cons_of_mem _ hq)]; rfl
theorem v63 (hE : (FPav E).ids = []) (t : Tmpl) (v : t.den) : Rf E (t.fill E v) (t.st E v) := by
  refine ⟨fun x tv hx => ⟨w4f _ _ _ _ (yq7 hx), .inr (w9w _ hx)⟩, fun id o ho => ⟨yw6 _ _ _ _ (yq7 ho), yz5 _ ho⟩, fun id hid => ?_, fun k t hk => by simp [Tmpl.fill, look] at hk, fun k c b hk => by simp [Tmpl.fill, look] at hk, rfl, hE⟩
  have e := ww7 hE (fillE t.env v.1) (w4f _ _ _)
  have e2 := ww8 hE (fillOs t.obj v.2) (yw6 _ _ _)
  have hid : (Nat.ble 1000000 id || (idsE (envA ⟨[], [], E⟩ (fillE t.env v.1)) ++ idsO (TOs ⟨[], [], E⟩ (fillOs t.obj v.2))).any (Nat.beq · id)) = true := hid
  rw [e, e2] at hid
  exact hid
def Tmpl.bl (t : Tmpl) : List Nat := t.env.filterMap fun p => match p.2 with | .c .b => some p.1 | _ => none
def tagS {ρ : Type} : List Nat → XSt → (XSt → Option ρ) → Option ρ
  | [], st, K => K st
  | x :: xs, st, K => tagK x st fun st => tagS xs st K
theorem wp8 {ρ : Type} : ∀ {xs : List Nat} {st : XSt} {K : XSt → Option ρ} {r : ρ} {ac : St}, Rf E st ac → tagS xs st K = some r → ∃ st1, Rf E st1 ac ∧ K st1 = some r
  | [], st, _, _, _, hR, h => ⟨st, hR, h⟩
  | x :: xs, st, _, _, _, hR, h => by
    obtain ⟨st1, r1, h⟩ := v3y hR h
    exact wp8 r1 h
def Tmpl.at {ρ : Type} (t : Tmpl) (fp : Option FP) (v : t.den) (K : XSt → Option ρ) : Option ρ := tagS t.bl (t.fill fp v) K
def outX {ρ : Type} (fp : Option FP) : List Tmpl → XSt → (XSt → Option ρ) → Option ρ
  | [], _, _ => none
  | t :: ts, st, K => match t.get st with
    | some v => t.at fp v K
    | none => outX fp ts st K
def lk {ρ : Type} (fp : Option FP) (t : Tmpl) (xs : List Tmpl) (L : t.den → Option ρ) (F : XSt → Option ρ) (K : Ks ρ) : Ks ρ := fun e st =>
  match e with
  | .normal => (t.get st).bind L
  | .ret => F st
  | e => outX fp xs st (K e)
noncomputable def hnd {ρ : Type} (ws : List Wk) (t : Tmpl) (L : Nat → t.den → Ks ρ → Option ρ) : Hdl ρ := fun st K => (wks ws st).bind fun st => (t.get st).bind fun v => L FUEL v K
theorem v46 {P : Program} {n : Nat} {c : Code} {st : St} {Q1 Q2 : Exit → St → Prop} (h : ACode P n c st Q1) (hq : ∀ e s, Q1 e s → ∃ s', Le n s s' ∧ Q2 e s') : ACode P n c st Q2 := by
  intro pn w0 A0 F0 a w hB hS
  refine wp_mono (h pn w0 A0 F0 a w hB hS) ?_
  rintro e a' w' ⟨s, h1, h2⟩
  obtain ⟨s', l, q⟩ := hq e s h1
  exact ⟨s', q, l _ _ _ _ _ _ h2⟩
theorem Le.refl {n : Nat} (s : St) : Le n s s := fun _ _ _ _ _ _ h => h
theorem ys8 {ρ : Type} {n : Nat} (hE : (FPav E).ids = []) : ∀ {xs : List Tmpl} {st : XSt} {ac : St} {K : XSt → Option ρ} {r : ρ}, Rf E st ac → (xs.all fun t => t.lt n) = true → outX E xs st K = some r → ∃ st1 ac1, Le n ac ac1 ∧ Rf E st1 ac1 ∧ K st1 = some r
  | [], _, _, _, _, _, _, h => by cases h
  | t :: ts, st, ac, K, r, hR, hn, h => by
    simp only [List.all_cons, Bool.and_eq_true] at hn
    simp only [outX] at h
    split at h
    · rename_i v hv
      obtain ⟨st1, r1, h⟩ := wp8 (v63 hE t v) h
      exact ⟨st1, _, v6h hR hE hn.1 hv, r1, h⟩
    · exact ys8 hE hR hn.2 h
theorem v9y {ρ : Type} {c : Cx} {f : Fs} {W : List (Nat × List Wk)} {H : List (Hdl ρ)} {F : XSt → Option ρ} {body : Code} {ws : List Wk} {t : Tmpl} {xs : List Tmpl} {L : Nat → t.den → Ks ρ → Option ρ} (hc : c.Ok) (hf : f.Ok c.P)
    (hE : (FPav c.fp).ids = []) (hl : (t :: xs).all (fun t => t.lt c.n) = true) (hin : ∀ (i : Nat) (b : Code) (h : Hdl ρ), (loops body)[i]? = some b → H[i]? = some h → LSnd c F h b) (h0 : ∀ v K, L 0 v K = none)
    (hs : ∀ n v K, L (n + 1) v K = t.at c.fp v fun st => run c f W H body 0 st (lk c.fp t xs (fun v' => L n v' K) F K)) : LSnd c F (hnd ws t L) body := by
  intro st ac K r Q hR h hF hK
  simp only [List.all_cons, Bool.and_eq_true] at hl
  obtain ⟨st1, g1, h⟩ := bnd h
  obtain ⟨ac1, l1, r1⟩ := w6m (n := c.n) hR g1
  obtain ⟨v, g2, h⟩ := bnd h
  have l2 := v6h r1 hE hl.1 g2
  refine v15 (S := Nat × t.den) (fun s => t.st c.fp s.2) (fun s => L s.1 s.2 K = some r) (fun s => s.1) (FUEL, v) h (l1.trans l2) ?_
  rintro ⟨n, v⟩ hI
  cases n with
  | zero => rw [h0] at hI; cases hI
  | succ n =>
    have hI : L (n + 1) v K = some r := hI
    rw [hs] at hI
    obtain ⟨st2, r2, hrun⟩ := wp8 (v63 hE t v) hI
    refine v46 (Q1 := fun e s => ∃ s', Le c.n s s' ∧ Klg c.n (fun s => t.st c.fp s.2) (fun s => L s.1 s.2 K = some r) (fun s => s.1) (n + 1, v) Q e s') ?_ (fun e s h => h)
    refine v2b (F := F) hc hf body 0 st2 _ _ _ (fun i b h hi hh => hin i b h hi (by simpa using hh)) r2 hrun (fun st => rfl) ?_
    intro e st' ac' hR' h'
    cases e with
    | normal =>
      obtain ⟨v', g3, h'⟩ := bnd h'
      exact ⟨ac', .refl _, (n, v'), h', Nat.lt_succ_self _, v6h hR' hE hl.1 g3⟩
    | ret => exact ⟨ac', .refl _, hK .ret _ _ hR' ((hF st').trans h')⟩
    | exit i =>
      obtain ⟨st3, ac3, l3, r3, h3⟩ := ys8 hE hR' hl.2 h'
      exact ⟨ac3, l3, hK _ _ _ r3 h3⟩
    | goto i =>
      obtain ⟨st3, ac3, l3, r3, h3⟩ := ys8 hE hR' hl.2 h'
      exact ⟨ac3, l3, hK _ _ _ r3 h3⟩
    | panic i =>
      obtain ⟨st3, ac3, l3, r3, h3⟩ := ys8 hE hR' hl.2 h'
      exact ⟨ac3, l3, hK _ _ _ r3 h3⟩
    | outgrown =>
      obtain ⟨st3, ac3, l3, r3, h3⟩ := ys8 hE hR' hl.2 h'
      exact ⟨ac3, l3, hK _ _ _ r3 h3⟩
end
end Go.Am
end
section
namespace Go.Am
noncomputable section
open Go Go.Proofs
def lpC : Code → List Nat → Code
  | c, [] => c
  | c, i :: p => match (loops c)[i]? with
    | some b => lpC b p
    | none => .skip
def lpF (fn : Func) (p : List Nat) : Code := lpC (fn.body.getD .skip) p
def HOk {ρ : Type} (c : Cx) (F : XSt → Option ρ) (code : Code) : Nat → List (Hdl ρ) → Prop
  | _, [] => True
  | i, h :: hs => LSnd c F h (lpC code [i]) ∧ HOk c F code (i + 1) hs
theorem v6r {ρ : Type} {c : Cx} {F : XSt → Option ρ} {code : Code} : ∀ {H : List (Hdl ρ)} {k : Nat}, HOk c F code k H → ∀ (i : Nat) (b : Code) (h : Hdl ρ), (loops code)[k + i]? = some b → H[i]? = some h → LSnd c F h b
  | [], _, _, i, b, h, _, hh => by simp at hh
  | q :: qs, k, ⟨h1, h2⟩, 0, b, h, hb, hh => by
    simp only [List.getElem?_cons_zero, Option.some.injEq] at hh
    subst hh
    have e : lpC code [k] = b := by
      simp only [lpC]
      rw [show (loops code)[k]? = some b from hb]
    rw [← e]; exact h1
  | q :: qs, k, ⟨h1, h2⟩, i + 1, b, h, hb, hh => v6r h2 i b h (by rw [← hb]; congr 1; omega) (by simpa using hh)
theorem v70 : ∀ (p : List Nat) (c : Code) (i : Nat), lpC (lpC c p) [i] = lpC c (p ++ [i])
  | [], _, _ => rfl
  | j :: p, c, i => by
    show lpC (match (loops c)[j]? with | some b => lpC b p | none => .skip) [i] = match (loops c)[j]? with | some b => lpC b (p ++ [i]) | none => .skip
    cases (loops c)[j]? with
    | some b => exact v70 p b i
    | none => rfl
abbrev CR (k : Con) : Type := HR (k.rs.map (·.1) ++ k.bs.map (·.2.ty))
noncomputable abbrev CX (k : Con) (fn : Func) (av : AV) (x : HP k.ps) : Cx := cxOf cx fn.ntmps (fpOf k.ps x av)
noncomputable abbrev FN (k : Con) (fn : Func) (av : AV) (x : HP k.ps) : XSt → Option (CR k) := fin (CX k fn av x) k fn.results.toList (parTs 1000000 k.ps x).1
def LP (k : Con) (fn : Func) (p : List Nat) (h : AV → HP k.ps → Hdl (CR k)) : Prop :=
  ∀ (av : AV) (x : HP k.ps), (CX k fn av x).Ok → (FPav (fpOf k.ps x av)).ids = [] → LSnd (CX k fn av x) (FN k fn av x) (h av x) (lpF fn p)
def LPs (k : Con) (fn : Func) (p : List Nat) : Nat → List (AV → HP k.ps → Hdl (CR k)) → Prop
  | _, [] => True
  | i, h :: hs => LP k fn (p ++ [i]) h ∧ LPs k fn p (i + 1) hs
def hat {k : Con} (H : List (AV → HP k.ps → Hdl (CR k))) (av : AV) (x : HP k.ps) : List (Hdl (CR k)) := H.map fun h => h av x
theorem v1v {k : Con} {fn : Func} {p : List Nat} {av : AV} {x : HP k.ps} (h1 : (CX k fn av x).Ok) (h2 : (FPav (fpOf k.ps x av)).ids = []) : ∀ {H : List (AV → HP k.ps → Hdl (CR k))} {i : Nat}, LPs k fn p i H →
    HOk (CX k fn av x) (FN k fn av x) (lpF fn p) i (hat H av x)
  | [], _, _ => trivial
  | h :: hs, i, ⟨g1, g2⟩ => ⟨by unfold lpF; rw [v70]; exact g1 av x h1 h2, v1v h1 h2 g2⟩
theorem lp_ok {k : Con} {fn : Func} {p : List Nat} {f : Fs} {W : List (Nat × List Wk)} {H : List (AV → HP k.ps → Hdl (CR k))} {ws : List Wk} {t : Tmpl} {xs : List Tmpl} {L : AV → HP k.ps → Nat → t.den → Ks (CR k) → Option (CR k)} (hf : f.Ok Tryz.prog) (hin : LPs k fn p 0 H)
    (hl : (t :: xs).all (fun t => t.lt fn.ntmps) = true) (h0 : ∀ av x v K, L av x 0 v K = none)
    (hs : ∀ av x n v K, L av x (n + 1) v K = t.at (fpOf k.ps x av) v fun st => run (CX k fn av x) f W (hat H av x) (lpF fn p) 0 st (lk (fpOf k.ps x av) t xs (fun v' => L av x n v' K) (FN k fn av x) K)) :
    LP k fn p fun av x => hnd ws t (L av x) := fun av x hc hE =>
  v9y hc hf hE hl (fun i b h hb hh => v6r (v1v hc hE hin) i b h (by rw [Nat.zero_add]; exact hb) hh) (h0 av x) (hs av x)
theorem fn_ok {k : Con} {fn : Func} {f : Fs} {W : List (Nat × List Wk)} {H : List (AV → HP k.ps → Hdl (CR k))} (hfn : Tryz.prog.funcs[k.f]? = some fn) (hf : f.Ok Tryz.prog) (hin : LPs k fn [] 0 H) (hname : (fn.name == "runtime.NumGoroutine") = false) (hb : fn.body.isSome = true)
    (hx : ∀ av x, exec cx f k fn W (hat H av x) av x = k.M x) : k.Ok Tryz.prog := by
  cases hc : fn.body with
  | none => rw [hc] at hb; cases hb
  | some code =>
    refine vl6 (b := cx) (H := hat H) cx_ok hf hfn hname hc (fun av x h1 h2 i bd h hi hh => ?_) hx
    refine v6r (v1v h1 h2 hin) i bd h ?_ hh
    have e : lpF fn [] = code := by unfold lpF; rw [hc]; rfl
    rw [e, Nat.zero_add]; exact hi
theorem fs0 {P : Program} : (Fs.mk [] [] []).Ok P := ⟨(fun _ h => (by cases h)), (fun _ h => (by cases h)), fun _ h => (by cases h)⟩
theorem fsK {P : Program} {k : Con} {f : Fs} (h : k.Ok P) (t : f.Ok P) : (Fs.mk (k :: f.ks) f.fc f.bs).Ok P := ⟨fun q hq => (List.mem_cons.1 hq).elim (fun e => e ▸ h) (t.ks q), t.fc, t.bs⟩
theorem fsF {P : Program} {k : FCon} {f : Fs} (h : k.Ok P) (t : f.Ok P) : (Fs.mk f.ks (k :: f.fc) f.bs).Ok P := ⟨t.ks, fun q hq => (List.mem_cons.1 hq).elim (fun e => e ▸ h) (t.fc q), t.bs⟩
theorem fsB {P : Program} {k : BCon} {f : Fs} (h : k.Ok P) (t : f.Ok P) : (Fs.mk f.ks f.fc (k :: f.bs)).Ok P := ⟨t.ks, t.fc, fun q hq => (List.mem_cons.1 hq).elim (fun e => e ▸ h) (t.bs q)⟩
def finX (st : XSt) (t : Nat) : Option GRd :=
  match look st.env t with
  | some (.bx id 0) => (boxOf st id).bind fun xs => match xs with
    | [.l (.s false .Y b), .l (.i p)] => some ⟨b, p⟩
    | _ => none
  | _ => none
def execB (b : Cx) (f : Fs) (code : Code) (n t : Nat) (l : List Int) : Option GRd :=
  run (cxOf b n none) f [] [] code 0 ⟨[(0, .l (.s false .Y l))], [], ⟨[], [], none⟩, []⟩ fun e st => match e with
    | .normal => finX st t
    | .ret => finX st t
    | _ => none
theorem v66 {E : Option FP} {st : XSt} {ac : St} {t : Nat} {z : GRd} (hR : Rf E st ac) (h : finX st t = some z) : ∃ id, ac.env t = some (.bx id 0) ∧ ac.obj id = some (.box (((Ty.s .rd).cells false z).map .c)) := by
  unfold finX at h
  split at h
  · rename_i id hk
    obtain ⟨xs, h1, h⟩ := bnd h
    split at h
    · rename_i b p
      cases h
      refine ⟨id, ?_, (zr9 hR h1).1⟩
      rcases (hR.env _ _ hk).2 with e | e
      · cases e
      · exact e
    · cases h
  · cases h
theorem vg4 {k : BCon} {fn : Func} {f : Fs} {code : Code} {t : Nat} (hfn : Tryz.prog.funcs[k.f]? = some fn) (hf : f.Ok Tryz.prog) (hname : (fn.name == "runtime.NumGoroutine") = false) (hb : fn.body = some code) (hr : fn.results = #[.tmp t]) (hl : loops code = []) (hn : Nat.ble 1 fn.ntmps = true)
    (hx : ∀ l, execB cx f code fn.ntmps t l = k.M l) : k.Ok Tryz.prog := by
  refine ⟨⟨fn, code, hfn, hname, hb⟩, fun l z hz => ?_⟩
  rw [← hx l] at hz
  have hc : (cxOf cx fn.ntmps none).Ok := ⟨cx_ok.ty, cx_ok.mt, (fun q hq => (by cases hq)), cx_ok.mixed⟩
  refine v68 (n := fn.ntmps) (t := t) hfn hb hr rfl (Nat.le_of_ble_eq_true hn) rfl ?_
  refine v2b (F := fun st => finX st t) hc hf code 0 _ _ _ _ (fun i bd h hi => by rw [hl] at hi; simp at hi) ?_ hz (fun st => rfl) ?_
  · refine ⟨fun x tv hx => ?_, fun id o ho => by simp [look] at ho, fun id hid => ?_, fun q u hq _ => by simp [look] at hq, fun q c b hq => by simp [look] at hq, rfl, rfl⟩
    · rcases z8i hx with ⟨rfl, rfl⟩ | ⟨_, hx⟩
      · exact ⟨rfl, .inr rfl⟩
      · simp [look] at hx
    · have : Nat.ble 1000000 id = true := hid
      simp only [XSt.usd, this, Bool.true_or]
  · intro e st' ac' hR' h'
    cases e with
    | normal => exact ⟨.inl rfl, v66 hR' h'⟩
    | ret => exact ⟨.inr rfl, v66 hR' h'⟩
    | _ => cases h'
end
end Go.Am
end
section
namespace Go.Am
open Go
def sumW {α : Type} (f : α → Nat) (l : List α) : Nat := (l.map f).sum
def GAsk.zero : GAsk := ⟨0, 0, 0⟩
def GFlow.zero : GFlow := ⟨0, ⟨0, 0, 0⟩⟩
def GTask.zero : GTask := ⟨0, 0, [], [], [], 0, 0, 0, 0⟩
def GTask.W (x : GTask) : Nat := x.in_.length + x.out.length + x.clear.length
def GTask.lens (p : Nat → Prop) (x : GTask) : Prop := p x.in_.length ∧ p x.out.length ∧ p x.clear.length
def GNet.zero : GNet := ⟨0, []⟩
def GNet.W (x : GNet) : Nat := (x.tasks.length + sumW GTask.W x.tasks)
def GNet.lens (p : Nat → Prop) (x : GNet) : Prop := (p x.tasks.length ∧ ∀ y ∈ x.tasks, GTask.lens p y)
def GItem.zero : GItem := ⟨0, 0, 0⟩
def GDid.zero : GDid := ⟨0, 0⟩
def GCase.zero : GCase := ⟨0, [], [], [], []⟩
def GCase.W (x : GCase) : Nat := x.marks.length + x.busy.length + x.data.length + x.did.length
def GCase.lens (p : Nat → Prop) (x : GCase) : Prop := p x.marks.length ∧ p x.busy.length ∧ p x.data.length ∧ p x.did.length
def GNode.zero : GNode := ⟨⟨0, 0, 0⟩, 0, 0, 0, []⟩
def GNode.W (x : GNode) : Nat := x.stone.length
def GNode.lens (p : Nat → Prop) (x : GNode) : Prop := p x.stone.length
def GRun.zero : GRun := ⟨0, ⟨0, [], [], [], []⟩⟩
def GRun.W (x : GRun) : Nat := GCase.W x.case
def GRun.lens (p : Nat → Prop) (x : GRun) : Prop := GCase.lens p x.case
def GHouse.zero : GHouse := ⟨[], [], [], []⟩
def GHouse.W (x : GHouse) : Nat := (x.nets.length + sumW GNet.W x.nets) + x.people.length + (x.tree.length + sumW GNode.W x.tree) + (x.runs.length + sumW GRun.W x.runs)
def GHouse.lens (p : Nat → Prop) (x : GHouse) : Prop := (p x.nets.length ∧ ∀ y ∈ x.nets, GNet.lens p y) ∧ p x.people.length ∧ (p x.tree.length ∧ ∀ y ∈ x.tree, GNode.lens p y) ∧ (p x.runs.length ∧ ∀ y ∈ x.runs, GRun.lens p y)
def GReq.zero : GReq := ⟨0, 0, 0, 0, 0, 0, [], ⟨0, 0, 0⟩, 0⟩
def GReq.W (x : GReq) : Nat := x.data.length
def GReq.lens (p : Nat → Prop) (x : GReq) : Prop := p x.data.length
end Go.Am
end
section
namespace Go.Am
noncomputable section
open Go
theorem z9c {p q : Prop} [Decidable p] [Decidable q] {F : Option Bool} (h : F = some (decide q)) : (if decide p = true then F else some false) = some (decide (p ∧ q)) := by
  by_cases hp : p
  · rw [if_pos (decide_eq_true hp), h]; exact congrArg some (decide_eq_decide.2 ⟨fun hq => ⟨hp, hq⟩, fun hq => hq.2⟩)
  · rw [if_neg (by simpa using hp)]; exact congrArg some (decide_eq_false fun hq => hp hq.1).symm
end
end Go.Am
end
section
namespace Go.Am
open Go Go.Deep
def Here (w : World) : Blks := fun b => b < w.heap.size
def OpensAs (P : Program) (w : World) (t : TypeId) (k : Nat) {α : Type} (f : α → List Cell) (ok : α → Prop) : Prop :=
  ∀ (H : Type) (enc : TypeId × Value → H) (fuel : Nat) (cs : List Value) (x : DataW H × List MemPlace), DataW.trod enc P w 0 (fun _ => true) true fuel t cs = some x →
    cs.length = k ∧ ∃ a : α, ok a ∧ (f a).length = k ∧ ∀ (i : Nat) c v, (f a)[i]? = some c → cs[i]? = some v → Own w (Here w) noBlk c v
section
variable {P : Program} {w : World} {t e : TypeId}
def i64 (n : Int) : Prop := -9223372036854775808 ≤ n ∧ n ≤ 9223372036854775807
theorem v7l (ht : P.underlying t = some (.int .i64)) : OpensAs P w t 1 (fun n : Int => [cI n]) i64 := by
  intro H enc fuel cs x h
  obtain ⟨n, rfl, _, hw⟩ := DataW.trod_int ht h
  refine ⟨rfl, n, ?_, rfl, fun i c v h1 h2 => ?_⟩
  · simpa [Lit.wf, IntKind.min, IntKind.max, IntKind.signed, IntKind.bits, i64] using hw
  · cases i with
    | zero => simp at h1 h2; subst h1 h2; exact .lit _
    | succ i => simp at h1
theorem z3t {α : Type} [Inhabited α] {k : Nat} {f : α → List Cell} {ok : α → Prop} (ht : P.underlying t = some (.slice e)) (hc : P.cellsOf e = k) (hk : 0 < k) (E : OpensAs P w e k f ok) :
    OpensAs P w t 1 (fun l : List α => [.sl false k (l.map f)]) (fun l => l.length ≤ 9223372036854775807 ∧ ∀ y ∈ l, ok y) := by
  intro H enc fuel cs x h
  have one : ∀ {l : List α} {u : Value}, Own w (Here w) noBlk (.sl false k (l.map f)) u → ∀ (i : Nat) c v, ([Cell.sl false k (l.map f)])[i]? = some c → [u][i]? = some v → Own w (Here w) noBlk c v := by
    intro l u ho i c v h1 h2
    cases i with
    | zero => simp at h1 h2; subst h1 h2; exact ho
    | succ i => simp at h1
  rcases open_slice ht h with ⟨rfl, rfl⟩ | ⟨a, len, cap, m, n, D, Pl, rfl, _, hl, hmax, hm, _, hx⟩
  · exact ⟨rfl, [], ⟨by simp, by simp⟩, rfl, one (.nil _ _)⟩
  · have hm' : m = cap := by simpa using hm
    subst hm'
    have hmax' : m ≤ 9223372036854775807 := hmax
    refine ⟨rfl, ?_⟩
    by_cases h0 : m = 0
    · have hlen : len = 0 := by omega
      subst h0 hlen
      exact ⟨[], ⟨by simp, by simp⟩, rfl, one (.emp _ _)⟩
    · rw [hc] at hx
      have cell : ∀ i, i < m → ∀ cs', w.cells? 0 (a.add (i * k)) k = some cs' → ∀ j, j < k → w.cell? ((a.add (i * k)).add j) = cs'[j]? := fun i _ cs' h j hj => (World.cells?_some h).2.2 j hj
      have blk : ∃ c0 e0 fr, a.spot = none ∧ w.heap[a.block]? = some (.cells c0 e0 fr) := by
        obtain ⟨cs0, h1, _⟩ := hx 0 (by omega)
        have h2 := cell 0 (by omega) cs0 h1 0 hk
        have h3 : cs0.length = k := (World.cells?_some h1).2.1
        have h4 : cs0[0]? = some (cs0[0]'(by omega)) := by simp [show 0 < cs0.length by omega]
        rw [h4] at h2
        simp only [Nat.zero_mul, Addr.add, if_true, World.cell?] at h2
        cases hb : w.heap[a.block]? with
        | none => rw [hb] at h2; cases h2
        | some o =>
          rw [hb] at h2
          cases o with
          | cells c0 e0 fr =>
            simp only at h2
            cases hs : a.spot with
            | none => exact ⟨c0, e0, fr, rfl, rfl⟩
            | some s => rw [hs] at h2; simp at h2
          | _ => simp at h2
      obtain ⟨c0, e0, fr, hspot, hb⟩ := blk
      have hblt : a.block < w.heap.size := (Array.getElem?_eq_some_iff.1 hb).1
      have at_ : ∀ i j, w.cell? ((a.add (i * k)).add j) = c0[a.off + (i * k + j)]? := by
        intro i j
        rw [Go.Deep.add_add]
        have : a.add (i * k + j) = ⟨a.block, a.off + (i * k + j), none⟩ := by
          unfold Addr.add
          split
          · rename_i h; rw [h, ← hspot]; cases a; rfl
          · rfl
        rw [this]
        simp [World.cell?, hb]
      obtain ⟨A, hA⟩ := choose_lt (α := α) (n := m) (p := fun i y => ok y ∧ (f y).length = k ∧ a.off + (i * k + k) ≤ c0.size ∧ ∀ (j : Nat) c v, (f y)[j]? = some c → c0[a.off + (i * k + j)]? = some v → Own w (Here w) noBlk c v) (fun i hi => by
        obtain ⟨cs', h1, h2⟩ := hx i hi
        obtain ⟨e1, y, e2, e3, e4⟩ := E H enc n cs' _ h2
        have key : ∀ j, j < k → c0[a.off + (i * k + j)]? = cs'[j]? := fun j hj => by rw [← at_]; exact cell i hi cs' h1 j hj
        refine ⟨y, e2, e3, ?_, fun j c v h3 h4 => ?_⟩
        · have h5 := key (k - 1) (by omega)
          have h6 : cs'[k - 1]? = some (cs'[k - 1]'(by omega)) := by simp [show k - 1 < cs'.length by omega]
          rw [h6] at h5
          have := (Array.getElem?_eq_some_iff.1 h5).1
          omega
        · have hj : j < k := by have := (List.getElem?_eq_some_iff.1 h3).1; omega
          rw [key j hj] at h4
          exact e4 j c v h3 h4)
      let l := (List.range len).map A
      have hll : l.length = len := by simp [l]
      have hmem : ∀ y ∈ l, ∃ i, i < m ∧ A i = y := by
        intro y hy
        obtain ⟨i, hi, rfl⟩ := List.mem_map.1 hy
        exact ⟨i, by have := List.mem_range.1 hi; omega, rfl⟩
      refine ⟨l, ⟨by rw [hll]; omega, fun y hy => by obtain ⟨i, hi, rfl⟩ := hmem y hy; exact (hA i hi).1⟩, rfl, one ?_⟩
      have hrk : ∀ r ∈ l.map f, r.length = k := by
        intro r hr
        obtain ⟨y, hy, rfl⟩ := List.mem_map.1 hr
        obtain ⟨i, hi, rfl⟩ := hmem y hy
        exact (hA i hi).2.1
      have hsz : a.off + m * k ≤ c0.size := by
        have := (hA (m - 1) (by omega)).2.2.1
        have e : (m - 1) * k + k = m * k := by rw [← Nat.succ_mul]; congr 1; omega
        omega
      have hmul : len * k ≤ m * k := Nat.mul_le_mul_right _ hl
      have := Own.shr (w := w) (A := Here w) (F := noBlk) (k := k) (rows := l.map f) (b := a.block) (off := a.off) (cap := m) (c := c0) (e := e0) (fr := fr) hb hblt hrk (by simp [hll]; omega) (by simp [hll]; omega) (by
        intro i c v h1 h2
        have hi : i < len * k := by
          have := (List.getElem?_eq_some_iff.1 h1).1
          rw [z21 hrk] at this
          simpa [hll] using this
        have hdm : i = i / k * k + i % k := by rw [Nat.mul_comm]; exact (Nat.div_add_mod i k).symm
        have hmod : i % k < k := Nat.mod_lt _ hk
        have hdiv : i / k < len := Nat.div_lt_of_lt_mul (by rw [Nat.mul_comm]; exact hi)
        rw [hdm, List.flatten_getElem?_of_const hrk _ _ hmod] at h1
        have hrow : (l.map f)[i / k]? = some (f (A (i / k))) := by simp [l, hdiv]
        rw [hrow, Option.bind_some] at h1
        rw [hdm] at h2
        exact (hA (i / k) (by omega)).2.2.2 _ c v h1 h2)
      have ev : a = ⟨a.block, a.off, none⟩ := by rw [← hspot]
      rw [ev]
      simpa [hll] using this
end
end Go.Am
end
section
namespace Go.Am
open Go Go.ChangeShapes Go.WideShapes Go.RowKit
section
variable {H : Type} {enc : TypeId × Value → H} {P : Program} {W W' : World}
theorem Frame.sameAt (h : Frame noBlk W W') : ∀ p : MemPlace, p.block < W.heap.size → W.sameAt W' p
  | .cell b off, hb => by
    have := h.heap b hb (fun f => f)
    show W'.cell? _ = W.cell? _
    simp only [World.cell?, this]
  | .map b, hb => h.heap b hb (fun f => f)
theorem Frame.keptBut (h : Frame noBlk W W') (may : MemPlace → Prop) : W.keptBut W' may := by
  refine ⟨h.os, h.output, fun i hi => ?_⟩
  have := (World.keptBut_refl W may).2.2 i hi
  rw [h.heap i hi (fun f => f)]
  exact this
theorem yu2 (hl : laidOutB P = true) (hF : Frame noBlk W W') : ∀ {ts : List TypeId} {vs : List Value} {ds : List (DataW H)} {ps : List MemPlace},
    DataW.TrodAll enc P W 0 (fun _ => true) true ts vs ds ps → (∀ t ∈ ts, P.readableRec t = true ∧ t < P.types.size) → (∀ p ∈ ps, p.block < W.heap.size) →
    DataW.TrodAll enc P W' 0 (fun b => decide (b < W.heap.size)) true ts vs ds ps
  | [], vs, ds, ps, h, _, _ => by
    cases vs <;> cases ds <;> simp [DataW.TrodAll] at h ⊢
    exact h
  | t :: ts, vs, ds, ps, h, hr, hp => by
    obtain ⟨v, vs', d, ds', p, q, rfl, rfl, rfl, h1, h2⟩ := trodAll_cons h
    refine ⟨p, q, ?_, yu2 hl hF h2 (fun t ht => hr t (by simp [ht])) (fun x hx => hp x (by simp [hx])), rfl⟩
    exact WideElems.Trod_stays hl (hr t (by simp)).1 (hr t (by simp)).2 h1 (fun x hx => hF.sameAt x (hp x (by simp [hx]))) (fun x hx => by simpa using hp x (by simp [hx]))
theorem v9w {f : Func} {s : ChangeSpec} {args : Array Value} {ds gs : List (DataW H)} {before : List MemPlace} {tb : TypeId} (hW : DataW.Whole enc P f.params.toList s.vars false W args.toList ds gs before) (hv : s.vars = [])
    (hF : Frame noBlk W W') (hr : f.resultTypes = #[tb]) (hb : P.underlying tb = some .bool) (hl : laidOutB P = true) (hrd : ∀ t ∈ f.params.toList, P.readableRec t = true ∧ t < P.types.size)
    (hs : s.fn H ds = { results := [.lit (.bool true)], args := ds }) : s.post enc P f false true false false W args (.bool true) W' := by
  have hlt := hW.lt
  have hW2 := hW
  obtain ⟨p, q, hA, hV, hp, _, _⟩ := hW
  rw [hv] at hV
  have hgq : gs = [] ∧ q = [] := by cases gs <;> simp [DataW.TrodVars] at hV ⊢; exact hV
  obtain ⟨rfl, rfl⟩ := hgq
  have hpb : before = p := by simpa using hp
  subst hpb
  refine ⟨ds, [], before, [], before, [], hW2, ?_, ?_, ?_, hF.keptBut _, fun h => by cases h⟩
  · rw [hr, List.append_nil, hs]
    exact trodAll_mk1 (shut_bool hb _)
  · rw [List.append_nil, hs]
    exact yu2 hl hF hA hrd hlt
  · rw [List.append_nil, hs, hv]
    rfl
theorem v6y {fid : FuncId} {xs : List Arg} {vs : List Value} (hF : FnP P fid xs [.c (cB true)]) (ha : ArgsSim W (Here W) noBlk xs vs) : Calls P fid vs.toArray W fun e W' => e = .returned (.bool true) ∧ Frame noBlk W W' := by
  have := hF W (Here W) noBlk vs ⟨fun _ h => h, fun _ f => f.elim, fun _ _ f => f⟩ ha
  refine this.mono ?_
  rintro e W' ⟨res, rvs, back, F', rfl, ⟨rfl, rfl⟩, hfr, _, _, hlen, G, g1, g2, g3, g4⟩
  refine ⟨?_, hfr⟩
  match rvs, hlen with
  | [v], _ =>
    have := g4 0 (.c (cB true)) v rfl rfl
    cases this with
    | c ho => cases ho; rfl
theorem v2z {xs : List Arg} {vs : List Value} (hl : vs.length = xs.length) (h : ∀ (i : Nat) x v, xs[i]? = some x → vs[i]? = some v → ArgSim W (Here W) noBlk x v) : ArgsSim W (Here W) noBlk xs vs :=
  ⟨fun _ => noBlk, hl, fun _ _ f => f, fun _ _ _ _ f => f.elim, h⟩
theorem v98 : ArgsSim W (Here W) noBlk [] [] := v2z rfl fun i x v h => by simp at h
theorem v5f {x : Arg} {xs : List Arg} {v : Value} {vs : List Value} (h : ArgSim W (Here W) noBlk x v) (t : ArgsSim W (Here W) noBlk xs vs) : ArgsSim W (Here W) noBlk (x :: xs) (v :: vs) := by
  obtain ⟨G, h1, h2, h3, h4⟩ := t
  refine v2z (by simp [h1]) fun i y u g1 g2 => ?_
  cases i with
  | zero => simp at g1 g2; subst g1 g2; exact h
  | succ i => exact (h4 i y u (by simpa using g1) (by simpa using g2)).mono (fun _ h => h) (h2 i)
theorem va6 {base : Nat} {t e : TypeId} {v : Value} (ht : P.underlying t = some (.slice e)) (h : Value.okWide P W .any base t v) : v.cells = #[v] := by
  unfold Value.okWide at h
  simp only [ht] at h
  unfold Cell.okWide at h
  cases v <;> simp only [ht, Go.Cell.ok] at h <;> first | rfl | exact h.elim
theorem OpensAs.row {α : Type} {k : Nat} {t : TypeId} {f : α → List Cell} {ok : α → Prop} (h : OpensAs P W t k f ok) {cs : Array Value} {d : DataW H} {ps : List MemPlace}
    (hd : DataW.Trod enc P W 0 (fun _ => true) true t (.agg cs) d ps) : ∃ a, ok a ∧ ArgSim W (Here W) noBlk (.row (f a)) (.agg cs) := by
  obtain ⟨fuel, hx⟩ := hd
  obtain ⟨h0, a, h1, h2, h3⟩ := h H enc fuel _ _ hx
  exact ⟨a, h1, .row (G := fun _ => noBlk) (by rw [h2, ← h0]; simp [Value.cells]) (fun _ _ f => f) (fun _ _ _ _ f => f.elim) fun i c v g1 g2 => h3 i c v g1 (by simpa [Value.cells] using g2)⟩
theorem OpensAs.cell {α : Type} {t : TypeId} {f : α → Cell} {ok : α → Prop} (h : OpensAs P W t 1 (fun a => [f a]) ok) {v : Value} {d : DataW H} {ps : List MemPlace} (hv : v.cells = #[v])
    (hd : DataW.Trod enc P W 0 (fun _ => true) true t v d ps) : ∃ a, ok a ∧ ArgSim W (Here W) noBlk (.c (f a)) v := by
  obtain ⟨fuel, hx⟩ := hd
  rw [hv] at hx
  obtain ⟨_, a, h1, _, h2⟩ := h H enc fuel _ _ hx
  exact ⟨a, h1, .c (h2 0 _ _ rfl rfl)⟩
end
end Go.Am
end
section
namespace Go.Am
open Go Go.Proofs
section
variable {w : World}
def CellsAt (w : World) (cs : List Value) (off : Nat) (xs : List Cell) : Prop := ∀ (j : Nat) c v, xs[j]? = some c → cs[off + j]? = some v → Own w (Here w) noBlk c v
theorem CellsAt.nil {cs : List Value} {off : Nat} : CellsAt w cs off [] := fun j c v h => by simp at h
theorem CellsAt.append {cs : List Value} {off off' : Nat} {xs ys : List Cell} (h1 : CellsAt w cs off xs) (he : off + xs.length = off') (h2 : CellsAt w cs off' ys) : CellsAt w cs off (xs ++ ys) := by
  intro j c v h3 h4
  by_cases hj : j < xs.length
  · rw [List.getElem?_append_left hj] at h3; exact h1 j c v h3 h4
  · rw [List.getElem?_append_right (by omega)] at h3
    refine h2 (j - xs.length) c v h3 ?_
    rw [← he, ← h4]; congr 1; omega
theorem CellsAt.fin {cs : List Value} {xs : List Cell} (h : CellsAt w cs 0 xs) : ∀ (i : Nat) c v, xs[i]? = some c → cs[i]? = some v → Own w (Here w) noBlk c v := fun i c v h1 h2 => h i c v h1 (by simpa using h2)
theorem z04 {P : Program} {H : Type} {enc : TypeId × Value → H} {α : Type} {f : α → List Cell} {ok : α → Prop} {fs : Array Field} {xs : List (DataW H × List MemPlace)} {n : Nat} {cs : List Value} {i ft off m : Nat}
    (hxs : xs.length = fs.size) (hf : ∀ (i : Nat) (f : Field), fs[i]? = some f → DataW.trod enc P w 0 (fun _ => true) true n f.type ((cs.drop f.offset).take (P.cellsOf f.type)) = xs[i]?)
    (h : (fs[i]?).map (fun z => (z.type, z.offset)) = some (ft, off)) (hm : P.cellsOf ft = m) (E : OpensAs P w ft m f ok) : ∃ a, ok a ∧ (f a).length = m ∧ CellsAt w cs off (f a) := by
  obtain ⟨fld, h1, rfl, rfl⟩ := w2x h
  have h2 := hf i fld h1
  have hlt : i < xs.length := by rw [hxs]; exact (Array.getElem?_eq_some_iff.1 h1).1
  rw [List.getElem?_eq_getElem hlt, hm] at h2
  obtain ⟨e1, a, e2, e3, e4⟩ := E H enc n _ _ h2
  refine ⟨a, e2, e3, fun j c v g1 g2 => e4 j c v g1 ?_⟩
  have hj : j < m := by have := (List.getElem?_eq_some_iff.1 g1).1; omega
  rw [List.getElem?_take, if_pos hj, List.getElem?_drop]; exact g2
end
theorem o_int (w : World) : OpensAs Tryz.prog w 3 1 (fun n : Int => [cI n]) i64 := v7l Tryz.underlying3
theorem w5o (w : World) : OpensAs Tryz.prog w 26 1 (fun l : List Int => [cIs false l]) (fun l => l.length ≤ 9223372036854775807 ∧ ∀ y ∈ l, i64 y) := z3t (f := fun n : Int => [cI n]) Tryz.underlying26 (by kernel_rfl) (by decide) (o_int w)
def GAsk.ok (x : GAsk) : Prop := i64 x.op ∧ i64 x.var ∧ i64 x.k
instance : Inhabited GAsk := ⟨GAsk.zero⟩
def GFlow.ok (x : GFlow) : Prop := i64 x.to ∧ GAsk.ok x.if_
instance : Inhabited GFlow := ⟨GFlow.zero⟩
def GTask.ok (x : GTask) : Prop := i64 x.join ∧ i64 x.split ∧ (x.in_.length ≤ 9223372036854775807 ∧ ∀ y ∈ x.in_, i64 y) ∧ (x.out.length ≤ 9223372036854775807 ∧ ∀ y ∈ x.out, GFlow.ok y) ∧ (x.clear.length ≤ 9223372036854775807 ∧ ∀ y ∈ x.clear, i64 y) ∧ i64 x.role ∧ i64 x.apart ∧ i64 x.all ∧ i64 x.need
instance : Inhabited GTask := ⟨GTask.zero⟩
def GNet.ok (x : GNet) : Prop := i64 x.places ∧ (x.tasks.length ≤ 9223372036854775807 ∧ ∀ y ∈ x.tasks, GTask.ok y)
instance : Inhabited GNet := ⟨GNet.zero⟩
def GItem.ok (x : GItem) : Prop := i64 x.task ∧ i64 x.who ∧ i64 x.did
instance : Inhabited GItem := ⟨GItem.zero⟩
def GDid.ok (x : GDid) : Prop := i64 x.task ∧ i64 x.who
instance : Inhabited GDid := ⟨GDid.zero⟩
def GCase.ok (x : GCase) : Prop := i64 x.state ∧ (x.marks.length ≤ 9223372036854775807 ∧ ∀ y ∈ x.marks, i64 y) ∧ (x.busy.length ≤ 9223372036854775807 ∧ ∀ y ∈ x.busy, GItem.ok y) ∧ (x.data.length ≤ 9223372036854775807 ∧ ∀ y ∈ x.data, i64 y) ∧ (x.did.length ≤ 9223372036854775807 ∧ ∀ y ∈ x.did, GDid.ok y)
instance : Inhabited GCase := ⟨GCase.zero⟩
def GNode.ok (x : GNode) : Prop := GAsk.ok x.if_ ∧ i64 x.yes ∧ i64 x.no ∧ i64 x.ans ∧ (x.stone.length ≤ 9223372036854775807 ∧ ∀ y ∈ x.stone, i64 y)
instance : Inhabited GNode := ⟨GNode.zero⟩
def GRun.ok (x : GRun) : Prop := i64 x.net ∧ GCase.ok x.case
instance : Inhabited GRun := ⟨GRun.zero⟩
def GHouse.ok (x : GHouse) : Prop := (x.nets.length ≤ 9223372036854775807 ∧ ∀ y ∈ x.nets, GNet.ok y) ∧ (x.people.length ≤ 9223372036854775807 ∧ ∀ y ∈ x.people, i64 y) ∧ (x.tree.length ≤ 9223372036854775807 ∧ ∀ y ∈ x.tree, GNode.ok y) ∧ (x.runs.length ≤ 9223372036854775807 ∧ ∀ y ∈ x.runs, GRun.ok y)
instance : Inhabited GHouse := ⟨GHouse.zero⟩
def GReq.ok (x : GReq) : Prop := i64 x.kind ∧ i64 x.who ∧ i64 x.case ∧ i64 x.task ∧ i64 x.var ∧ i64 x.num ∧ (x.data.length ≤ 9223372036854775807 ∧ ∀ y ∈ x.data, i64 y) ∧ GAsk.ok x.if_ ∧ i64 x.ans
instance : Inhabited GReq := ⟨GReq.zero⟩
end Go.Am
end
section
namespace Go.Am
open Go Go.Proofs
def u8 (n : Int) : Prop := 0 ≤ n ∧ n ≤ 255
theorem v4t {P : Program} {w : World} {t : TypeId} (ht : P.underlying t = some (.int .u8)) : OpensAs P w t 1 (fun n : Int => [cY n]) u8 := by
  intro H enc fuel cs x h
  obtain ⟨n, rfl, _, hw⟩ := DataW.trod_int ht h
  refine ⟨rfl, n, ?_, rfl, fun i c v h1 h2 => ?_⟩
  · simpa [Lit.wf, IntKind.min, IntKind.max, IntKind.signed, IntKind.bits, u8] using hw
  · cases i with
    | zero => simp at h1 h2; subst h1 h2; exact .lit _
    | succ i => simp at h1
theorem o_byte (w : World) : OpensAs Tryz.prog w 5 1 (fun n : Int => [cY n]) u8 := v4t Tryz.underlying5
theorem o_bytes (w : World) : OpensAs Tryz.prog w 22 1 (fun l : List Int => [.sl false 1 (l.map fun n => [cY n])]) (fun l => l.length ≤ 9223372036854775807 ∧ ∀ y ∈ l, u8 y) := z3t (f := fun n : Int => [cY n]) Tryz.underlying22 (by kernel_rfl) (by decide) (o_byte w)
end Go.Am
end
