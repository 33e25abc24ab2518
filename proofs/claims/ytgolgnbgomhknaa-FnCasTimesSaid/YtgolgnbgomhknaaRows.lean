/-
  No cell of these rows narrows 'for every input' (looked for: loops, veiled, ifaces, maps, wideKeys, modest, calm, conditions, laid).
  DERIVED. THE GIVEN ROWS OF THIS SEAT. 9 by the template 'for every input the law returns true; each argument reads behind the call as it read before'; 0 by the template 'total and deterministic' (their statements: YtgolgnbgomhknaaTotals.lean).
  GIVEN WITH THE SEED: the statements are not yours to turn. If you find one false, say at which input.
  Laid BY PROGRAM, IN A SANDBOX (cutbox-rows.mjs): the forced cells as the released guide's own fill.sh prints them over the translation 8ba836ef69808b77… (all of the seat's roots in one cut). By AI agents, Wed Nov 11 2026. No macro, syntax, notation, axiom, sorry.
-/
import Derived.Test.YtgolgnbgomhknaaChecked
import GoSem.Claim
import GoSem.ClaimJoined
import GoSem.ClaimMapViews
import Derived.JoinedTies
import Derived.KernelRfl
namespace Go.Proofs.Ytgolgnbgomhknaa
/- THE CELL 'sum', in the pinned program and in every row, IS THE sha256 OF THE DUMP (.gsa) THAT YtgolgnbgomhknaaProg.lean LOADS. Nothing in Lean hashes anything: it is a label: what it is worth is what the hold of that sum in a sandbox is worth. -/
noncomputable def Try.pinned : Pinned := { name := "ytgolgnbgomhknaa", sum := "8ba836ef69808b7795485f2d62379ad9ebff62579668d84dd15c676f92d1eb0d", checked := Try.checked }
namespace Rows
def none {H : Type} : Left H := { results := [], args := [] }

/-- 'laws.FnCasOk': WHATEVER THE INPUT: true; the input reads as it did. -/
def fnCasOkSpec : ChangeSpec := { name := "fnCasOk", fn := fun _ => fun
  | [d] => { results := [.lit (.bool true)], args := [d] }
  | _ => none }
def fnCasOkRow : OpenClaim := { program := "ytgolgnbgomhknaa", sum := "8ba836ef69808b7795485f2d62379ad9ebff62579668d84dd15c676f92d1eb0d", func := "loop.example/guildway/laws.FnCasOk", spec := "fnCasOk", unfollowed := true, recurses := true, apart := false }
def FnCasOkSaid : Prop := fnCasOkRow.holds Try.pinned (OpenSpec.ofChange fnCasOkSpec)

/-- ITS FALSE NEIGHBOUR: 'it returns false'. Refute it at one input. -/
def fnCasOkWrong : ChangeSpec := { name := "fnCasOk", fn := fun _ => fun
  | [d] => { results := [.lit (.bool false)], args := [d] }
  | _ => none }
def FnCasOkWrongFalsely : Prop := fnCasOkRow.holds Try.pinned (OpenSpec.ofChange fnCasOkWrong)

/-- 'laws.FnCasTimes': WHATEVER THE INPUT: true; the input reads as it did. -/
def fnCasTimesSpec : ChangeSpec := { name := "fnCasTimes", fn := fun _ => fun
  | [d1, d2] => { results := [.lit (.bool true)], args := [d1, d2] }
  | _ => none }
def fnCasTimesRow : OpenClaim := { program := "ytgolgnbgomhknaa", sum := "8ba836ef69808b7795485f2d62379ad9ebff62579668d84dd15c676f92d1eb0d", func := "loop.example/guildway/laws.FnCasTimes", spec := "fnCasTimes", unfollowed := true, recurses := true, apart := false }
def FnCasTimesSaid : Prop := fnCasTimesRow.holds Try.pinned (OpenSpec.ofChange fnCasTimesSpec)

/-- ITS FALSE NEIGHBOUR: 'it returns false'. Refute it at one input. -/
def fnCasTimesWrong : ChangeSpec := { name := "fnCasTimes", fn := fun _ => fun
  | [d1, d2] => { results := [.lit (.bool false)], args := [d1, d2] }
  | _ => none }
def FnCasTimesWrongFalsely : Prop := fnCasTimesRow.holds Try.pinned (OpenSpec.ofChange fnCasTimesWrong)

/-- 'laws.FnCasWork': WHATEVER THE INPUT: true; the input reads as it did. -/
def fnCasWorkSpec : ChangeSpec := { name := "fnCasWork", fn := fun _ => fun
  | [d] => { results := [.lit (.bool true)], args := [d] }
  | _ => none }
def fnCasWorkRow : OpenClaim := { program := "ytgolgnbgomhknaa", sum := "8ba836ef69808b7795485f2d62379ad9ebff62579668d84dd15c676f92d1eb0d", func := "loop.example/guildway/laws.FnCasWork", spec := "fnCasWork", unfollowed := true, recurses := true, apart := false }
def FnCasWorkSaid : Prop := fnCasWorkRow.holds Try.pinned (OpenSpec.ofChange fnCasWorkSpec)

/-- ITS FALSE NEIGHBOUR: 'it returns false'. Refute it at one input. -/
def fnCasWorkWrong : ChangeSpec := { name := "fnCasWork", fn := fun _ => fun
  | [d] => { results := [.lit (.bool false)], args := [d] }
  | _ => none }
def FnCasWorkWrongFalsely : Prop := fnCasWorkRow.holds Try.pinned (OpenSpec.ofChange fnCasWorkWrong)

/-- 'laws.FnCasClear': WHATEVER THE INPUT: true; the input reads as it did. -/
def fnCasClearSpec : ChangeSpec := { name := "fnCasClear", fn := fun _ => fun
  | [d] => { results := [.lit (.bool true)], args := [d] }
  | _ => none }
def fnCasClearRow : OpenClaim := { program := "ytgolgnbgomhknaa", sum := "8ba836ef69808b7795485f2d62379ad9ebff62579668d84dd15c676f92d1eb0d", func := "loop.example/guildway/laws.FnCasClear", spec := "fnCasClear", unfollowed := true, recurses := true, apart := false }
def FnCasClearSaid : Prop := fnCasClearRow.holds Try.pinned (OpenSpec.ofChange fnCasClearSpec)

/-- ITS FALSE NEIGHBOUR: 'it returns false'. Refute it at one input. -/
def fnCasClearWrong : ChangeSpec := { name := "fnCasClear", fn := fun _ => fun
  | [d] => { results := [.lit (.bool false)], args := [d] }
  | _ => none }
def FnCasClearWrongFalsely : Prop := fnCasClearRow.holds Try.pinned (OpenSpec.ofChange fnCasClearWrong)

/-- 'laws.FnCasData': WHATEVER THE INPUT: true; the input reads as it did. -/
def fnCasDataSpec : ChangeSpec := { name := "fnCasData", fn := fun _ => fun
  | [d] => { results := [.lit (.bool true)], args := [d] }
  | _ => none }
def fnCasDataRow : OpenClaim := { program := "ytgolgnbgomhknaa", sum := "8ba836ef69808b7795485f2d62379ad9ebff62579668d84dd15c676f92d1eb0d", func := "loop.example/guildway/laws.FnCasData", spec := "fnCasData", unfollowed := true, recurses := true, apart := false }
def FnCasDataSaid : Prop := fnCasDataRow.holds Try.pinned (OpenSpec.ofChange fnCasDataSpec)

/-- ITS FALSE NEIGHBOUR: 'it returns false'. Refute it at one input. -/
def fnCasDataWrong : ChangeSpec := { name := "fnCasData", fn := fun _ => fun
  | [d] => { results := [.lit (.bool false)], args := [d] }
  | _ => none }
def FnCasDataWrongFalsely : Prop := fnCasDataRow.holds Try.pinned (OpenSpec.ofChange fnCasDataWrong)

/-- 'laws.FnCasCan': WHATEVER THE INPUT: true; the input reads as it did. -/
def fnCasCanSpec : ChangeSpec := { name := "fnCasCan", fn := fun _ => fun
  | [d] => { results := [.lit (.bool true)], args := [d] }
  | _ => none }
def fnCasCanRow : OpenClaim := { program := "ytgolgnbgomhknaa", sum := "8ba836ef69808b7795485f2d62379ad9ebff62579668d84dd15c676f92d1eb0d", func := "loop.example/guildway/laws.FnCasCan", spec := "fnCasCan", unfollowed := true, recurses := true, apart := false }
def FnCasCanSaid : Prop := fnCasCanRow.holds Try.pinned (OpenSpec.ofChange fnCasCanSpec)

/-- ITS FALSE NEIGHBOUR: 'it returns false'. Refute it at one input. -/
def fnCasCanWrong : ChangeSpec := { name := "fnCasCan", fn := fun _ => fun
  | [d] => { results := [.lit (.bool false)], args := [d] }
  | _ => none }
def FnCasCanWrongFalsely : Prop := fnCasCanRow.holds Try.pinned (OpenSpec.ofChange fnCasCanWrong)

/-- 'laws.FnLogOk': WHATEVER THE INPUT: true; the input reads as it did. -/
def fnLogOkSpec : ChangeSpec := { name := "fnLogOk", fn := fun _ => fun
  | [d] => { results := [.lit (.bool true)], args := [d] }
  | _ => none }
def fnLogOkRow : OpenClaim := { program := "ytgolgnbgomhknaa", sum := "8ba836ef69808b7795485f2d62379ad9ebff62579668d84dd15c676f92d1eb0d", func := "loop.example/guildway/laws.FnLogOk", spec := "fnLogOk", unfollowed := true, recurses := true, apart := false }
def FnLogOkSaid : Prop := fnLogOkRow.holds Try.pinned (OpenSpec.ofChange fnLogOkSpec)

/-- ITS FALSE NEIGHBOUR: 'it returns false'. Refute it at one input. -/
def fnLogOkWrong : ChangeSpec := { name := "fnLogOk", fn := fun _ => fun
  | [d] => { results := [.lit (.bool false)], args := [d] }
  | _ => none }
def FnLogOkWrongFalsely : Prop := fnLogOkRow.holds Try.pinned (OpenSpec.ofChange fnLogOkWrong)

/-- 'laws.FnEngWork': WHATEVER THE INPUT: true; the input reads as it did. -/
def fnEngWorkSpec : ChangeSpec := { name := "fnEngWork", fn := fun _ => fun
  | [d] => { results := [.lit (.bool true)], args := [d] }
  | _ => none }
def fnEngWorkRow : OpenClaim := { program := "ytgolgnbgomhknaa", sum := "8ba836ef69808b7795485f2d62379ad9ebff62579668d84dd15c676f92d1eb0d", func := "loop.example/guildway/laws.FnEngWork", spec := "fnEngWork", unfollowed := true, recurses := true, apart := false }
def FnEngWorkSaid : Prop := fnEngWorkRow.holds Try.pinned (OpenSpec.ofChange fnEngWorkSpec)

/-- ITS FALSE NEIGHBOUR: 'it returns false'. Refute it at one input. -/
def fnEngWorkWrong : ChangeSpec := { name := "fnEngWork", fn := fun _ => fun
  | [d] => { results := [.lit (.bool false)], args := [d] }
  | _ => none }
def FnEngWorkWrongFalsely : Prop := fnEngWorkRow.holds Try.pinned (OpenSpec.ofChange fnEngWorkWrong)

/-- 'laws.FnLogCase': WHATEVER THE INPUT: true; the input reads as it did. -/
def fnLogCaseSpec : ChangeSpec := { name := "fnLogCase", fn := fun _ => fun
  | [d] => { results := [.lit (.bool true)], args := [d] }
  | _ => none }
def fnLogCaseRow : OpenClaim := { program := "ytgolgnbgomhknaa", sum := "8ba836ef69808b7795485f2d62379ad9ebff62579668d84dd15c676f92d1eb0d", func := "loop.example/guildway/laws.FnLogCase", spec := "fnLogCase", unfollowed := true, recurses := true, apart := false }
def FnLogCaseSaid : Prop := fnLogCaseRow.holds Try.pinned (OpenSpec.ofChange fnLogCaseSpec)

/-- ITS FALSE NEIGHBOUR: 'it returns false'. Refute it at one input. -/
def fnLogCaseWrong : ChangeSpec := { name := "fnLogCase", fn := fun _ => fun
  | [d] => { results := [.lit (.bool false)], args := [d] }
  | _ => none }
def FnLogCaseWrongFalsely : Prop := fnLogCaseRow.holds Try.pinned (OpenSpec.ofChange fnLogCaseWrong)

/- THE SECOND FORM. 'bulk': how many values and letters a reading holds, each counted each time it is reached (what is shared counts as often as it is met; a slice's spare places count too). A statement '..UptoSaid' is the law's where the arguments, and the package variables that the reading takes, are together of bulk at most 1048576: NARROWER than '..Said'. Prove '..Said' where nothing that the law and all that it calls make is longer than what came in: it says more and counts as full. Else prove '..UptoSaid'. A law counts once. -/
mutual
def uptoBulk {H : Type} : DataW H → Nat
  | .lit (.string bytes) => bytes.length + 1
  | .lit _ => 1
  | .nil => 1
  | .ptr d => uptoBulk d + 1
  | .slice elems spare => uptoBulkAll elems + uptoBulkAll spare + 1
  | .agg parts => uptoBulkAll parts + 1
  | .iface _ d => uptoBulk d + 1
  | .map entries => uptoBulkEntries entries + 1
  | .held _ => 1
def uptoBulkAll {H : Type} : List (DataW H) → Nat
  | [] => 0
  | d :: r => uptoBulk d + uptoBulkAll r
def uptoBulkEntries {H : Type} : List (Lit × DataW H) → Nat
  | [] => 0
  | x :: r => uptoBulkEntry x + uptoBulkEntries r
def uptoBulkEntry {H : Type} : Lit × DataW H → Nat
  | (.string bytes, d) => bytes.length + uptoBulk d + 1
  | (_, d) => uptoBulk d + 1
 end
def uptoSmall : (H : Type) → List (DataW H) → Bool := fun _ ds => decide (uptoBulkAll ds ≤ 1048576)
def OpenSpec.upto (s : _root_.Go.ChangeSpec) : _root_.Go.OpenSpec := { _root_.Go.OpenSpec.ofChange s with cond := some uptoSmall }

/-- 'laws.FnCasOk', WHERE WHAT IT READS IS OF BULK AT MOST 1048576: true; the input reads as it did. -/
def fnCasOkUptoRow : OpenClaim := { program := "ytgolgnbgomhknaa", sum := "8ba836ef69808b7795485f2d62379ad9ebff62579668d84dd15c676f92d1eb0d", func := "loop.example/guildway/laws.FnCasOk", spec := "fnCasOk", unfollowed := true, recurses := true, apart := false, narrowed := true }
def FnCasOkUptoSaid : Prop := fnCasOkUptoRow.holds Try.pinned (OpenSpec.upto fnCasOkSpec)

/-- 'laws.FnCasTimes', WHERE WHAT IT READS IS OF BULK AT MOST 1048576: true; the input reads as it did. -/
def fnCasTimesUptoRow : OpenClaim := { program := "ytgolgnbgomhknaa", sum := "8ba836ef69808b7795485f2d62379ad9ebff62579668d84dd15c676f92d1eb0d", func := "loop.example/guildway/laws.FnCasTimes", spec := "fnCasTimes", unfollowed := true, recurses := true, apart := false, narrowed := true }
def FnCasTimesUptoSaid : Prop := fnCasTimesUptoRow.holds Try.pinned (OpenSpec.upto fnCasTimesSpec)

/-- 'laws.FnCasWork', WHERE WHAT IT READS IS OF BULK AT MOST 1048576: true; the input reads as it did. -/
def fnCasWorkUptoRow : OpenClaim := { program := "ytgolgnbgomhknaa", sum := "8ba836ef69808b7795485f2d62379ad9ebff62579668d84dd15c676f92d1eb0d", func := "loop.example/guildway/laws.FnCasWork", spec := "fnCasWork", unfollowed := true, recurses := true, apart := false, narrowed := true }
def FnCasWorkUptoSaid : Prop := fnCasWorkUptoRow.holds Try.pinned (OpenSpec.upto fnCasWorkSpec)

/-- 'laws.FnCasClear', WHERE WHAT IT READS IS OF BULK AT MOST 1048576: true; the input reads as it did. -/
def fnCasClearUptoRow : OpenClaim := { program := "ytgolgnbgomhknaa", sum := "8ba836ef69808b7795485f2d62379ad9ebff62579668d84dd15c676f92d1eb0d", func := "loop.example/guildway/laws.FnCasClear", spec := "fnCasClear", unfollowed := true, recurses := true, apart := false, narrowed := true }
def FnCasClearUptoSaid : Prop := fnCasClearUptoRow.holds Try.pinned (OpenSpec.upto fnCasClearSpec)

/-- 'laws.FnCasData', WHERE WHAT IT READS IS OF BULK AT MOST 1048576: true; the input reads as it did. -/
def fnCasDataUptoRow : OpenClaim := { program := "ytgolgnbgomhknaa", sum := "8ba836ef69808b7795485f2d62379ad9ebff62579668d84dd15c676f92d1eb0d", func := "loop.example/guildway/laws.FnCasData", spec := "fnCasData", unfollowed := true, recurses := true, apart := false, narrowed := true }
def FnCasDataUptoSaid : Prop := fnCasDataUptoRow.holds Try.pinned (OpenSpec.upto fnCasDataSpec)

/-- 'laws.FnCasCan', WHERE WHAT IT READS IS OF BULK AT MOST 1048576: true; the input reads as it did. -/
def fnCasCanUptoRow : OpenClaim := { program := "ytgolgnbgomhknaa", sum := "8ba836ef69808b7795485f2d62379ad9ebff62579668d84dd15c676f92d1eb0d", func := "loop.example/guildway/laws.FnCasCan", spec := "fnCasCan", unfollowed := true, recurses := true, apart := false, narrowed := true }
def FnCasCanUptoSaid : Prop := fnCasCanUptoRow.holds Try.pinned (OpenSpec.upto fnCasCanSpec)

/-- 'laws.FnLogOk', WHERE WHAT IT READS IS OF BULK AT MOST 1048576: true; the input reads as it did. -/
def fnLogOkUptoRow : OpenClaim := { program := "ytgolgnbgomhknaa", sum := "8ba836ef69808b7795485f2d62379ad9ebff62579668d84dd15c676f92d1eb0d", func := "loop.example/guildway/laws.FnLogOk", spec := "fnLogOk", unfollowed := true, recurses := true, apart := false, narrowed := true }
def FnLogOkUptoSaid : Prop := fnLogOkUptoRow.holds Try.pinned (OpenSpec.upto fnLogOkSpec)

/-- 'laws.FnEngWork', WHERE WHAT IT READS IS OF BULK AT MOST 1048576: true; the input reads as it did. -/
def fnEngWorkUptoRow : OpenClaim := { program := "ytgolgnbgomhknaa", sum := "8ba836ef69808b7795485f2d62379ad9ebff62579668d84dd15c676f92d1eb0d", func := "loop.example/guildway/laws.FnEngWork", spec := "fnEngWork", unfollowed := true, recurses := true, apart := false, narrowed := true }
def FnEngWorkUptoSaid : Prop := fnEngWorkUptoRow.holds Try.pinned (OpenSpec.upto fnEngWorkSpec)

/-- 'laws.FnLogCase', WHERE WHAT IT READS IS OF BULK AT MOST 1048576: true; the input reads as it did. -/
def fnLogCaseUptoRow : OpenClaim := { program := "ytgolgnbgomhknaa", sum := "8ba836ef69808b7795485f2d62379ad9ebff62579668d84dd15c676f92d1eb0d", func := "loop.example/guildway/laws.FnLogCase", spec := "fnLogCase", unfollowed := true, recurses := true, apart := false, narrowed := true }
def FnLogCaseUptoSaid : Prop := fnLogCaseUptoRow.holds Try.pinned (OpenSpec.upto fnLogCaseSpec)

end Rows
end Go.Proofs.Ytgolgnbgomhknaa
