/-
  No cell of these rows narrows 'for every input' (looked for: loops, veiled, ifaces, maps, wideKeys, modest, calm, conditions, laid).
  DERIVED. THE GIVEN ROWS OF THIS SEAT. 8 by the template 'for every input the law returns true; each argument reads behind the call as it read before'; 0 by the template 'total and deterministic' (their statements: YtcbpckbehdaloaaTotals.lean).
  GIVEN WITH THE SEED: the statements are not yours to turn. If you find one false, say at which input.
  Laid BY PROGRAM, IN A SANDBOX (cutbox-rows.mjs): the forced cells as the released guide's own fill.sh prints them over the translation 78bc9c8486f5a204… (all of the seat's roots in one cut). By AI agents, Wed Nov 11 2026. No macro, syntax, notation, axiom, sorry.
-/
import Derived.Test.YtcbpckbehdaloaaChecked
import GoSem.Claim
import GoSem.ClaimJoined
import GoSem.ClaimMapViews
import Derived.JoinedTies
import Derived.KernelRfl
namespace Go.Proofs.Ytcbpckbehdaloaa
/- THE CELL 'sum', in the pinned program and in every row, IS THE sha256 OF THE DUMP (.gsa) THAT YtcbpckbehdaloaaProg.lean LOADS. Nothing in Lean hashes anything: it is a label: what it is worth is what the hold of that sum in a sandbox is worth. -/
noncomputable def Try.pinned : Pinned := { name := "ytcbpckbehdaloaa", sum := "78bc9c8486f5a2048837c8892418ece19a8acf2dd85e47306ba131cc497c05ea", checked := Try.checked }
namespace Rows
def none {H : Type} : Left H := { results := [], args := [] }

/-- 'laws.FnExactLogBegun': WHATEVER THE INPUT: true; the input reads as it did. -/
def fnExactLogBegunSpec : ChangeSpec := { name := "fnExactLogBegun", fn := fun _ => fun
  | [d] => { results := [.lit (.bool true)], args := [d] }
  | _ => none }
def fnExactLogBegunRow : OpenClaim := { program := "ytcbpckbehdaloaa", sum := "78bc9c8486f5a2048837c8892418ece19a8acf2dd85e47306ba131cc497c05ea", func := "loop.example/guildway/laws.FnExactLogBegun", spec := "fnExactLogBegun", apart := false }
def FnExactLogBegunSaid : Prop := fnExactLogBegunRow.holds Try.pinned (OpenSpec.ofChange fnExactLogBegunSpec)

/-- ITS FALSE NEIGHBOUR: 'it returns false'. Refute it at one input. -/
def fnExactLogBegunWrong : ChangeSpec := { name := "fnExactLogBegun", fn := fun _ => fun
  | [d] => { results := [.lit (.bool false)], args := [d] }
  | _ => none }
def FnExactLogBegunWrongFalsely : Prop := fnExactLogBegunRow.holds Try.pinned (OpenSpec.ofChange fnExactLogBegunWrong)

/-- 'laws.FnExactLogCase': WHATEVER THE INPUT: true; the input reads as it did. -/
def fnExactLogCaseSpec : ChangeSpec := { name := "fnExactLogCase", fn := fun _ => fun
  | [d1, d2] => { results := [.lit (.bool true)], args := [d1, d2] }
  | _ => none }
def fnExactLogCaseRow : OpenClaim := { program := "ytcbpckbehdaloaa", sum := "78bc9c8486f5a2048837c8892418ece19a8acf2dd85e47306ba131cc497c05ea", func := "loop.example/guildway/laws.FnExactLogCase", spec := "fnExactLogCase", apart := false }
def FnExactLogCaseSaid : Prop := fnExactLogCaseRow.holds Try.pinned (OpenSpec.ofChange fnExactLogCaseSpec)

/-- ITS FALSE NEIGHBOUR: 'it returns false'. Refute it at one input. -/
def fnExactLogCaseWrong : ChangeSpec := { name := "fnExactLogCase", fn := fun _ => fun
  | [d1, d2] => { results := [.lit (.bool false)], args := [d1, d2] }
  | _ => none }
def FnExactLogCaseWrongFalsely : Prop := fnExactLogCaseRow.holds Try.pinned (OpenSpec.ofChange fnExactLogCaseWrong)

/-- 'laws.FnExactLogOk': WHATEVER THE INPUT: true; the input reads as it did. -/
def fnExactLogOkSpec : ChangeSpec := { name := "fnExactLogOk", fn := fun _ => fun
  | [d] => { results := [.lit (.bool true)], args := [d] }
  | _ => none }
def fnExactLogOkRow : OpenClaim := { program := "ytcbpckbehdaloaa", sum := "78bc9c8486f5a2048837c8892418ece19a8acf2dd85e47306ba131cc497c05ea", func := "loop.example/guildway/laws.FnExactLogOk", spec := "fnExactLogOk", unfollowed := true, recurses := true, apart := false }
def FnExactLogOkSaid : Prop := fnExactLogOkRow.holds Try.pinned (OpenSpec.ofChange fnExactLogOkSpec)

/-- ITS FALSE NEIGHBOUR: 'it returns false'. Refute it at one input. -/
def fnExactLogOkWrong : ChangeSpec := { name := "fnExactLogOk", fn := fun _ => fun
  | [d] => { results := [.lit (.bool false)], args := [d] }
  | _ => none }
def FnExactLogOkWrongFalsely : Prop := fnExactLogOkRow.holds Try.pinned (OpenSpec.ofChange fnExactLogOkWrong)

/-- 'laws.FnExactEngStates': WHATEVER THE INPUT: true; the input reads as it did. -/
def fnExactEngStatesSpec : ChangeSpec := { name := "fnExactEngStates", fn := fun _ => fun
  | [d] => { results := [.lit (.bool true)], args := [d] }
  | _ => none }
def fnExactEngStatesRow : OpenClaim := { program := "ytcbpckbehdaloaa", sum := "78bc9c8486f5a2048837c8892418ece19a8acf2dd85e47306ba131cc497c05ea", func := "loop.example/guildway/laws.FnExactEngStates", spec := "fnExactEngStates", apart := false }
def FnExactEngStatesSaid : Prop := fnExactEngStatesRow.holds Try.pinned (OpenSpec.ofChange fnExactEngStatesSpec)

/-- ITS FALSE NEIGHBOUR: 'it returns false'. Refute it at one input. -/
def fnExactEngStatesWrong : ChangeSpec := { name := "fnExactEngStates", fn := fun _ => fun
  | [d] => { results := [.lit (.bool false)], args := [d] }
  | _ => none }
def FnExactEngStatesWrongFalsely : Prop := fnExactEngStatesRow.holds Try.pinned (OpenSpec.ofChange fnExactEngStatesWrong)

/-- 'laws.FnExactDrvBack': WHATEVER THE INPUT: true; the input reads as it did. -/
def fnExactDrvBackSpec : ChangeSpec := { name := "fnExactDrvBack", fn := fun _ => fun
  | [d1, d2] => { results := [.lit (.bool true)], args := [d1, d2] }
  | _ => none }
def fnExactDrvBackRow : OpenClaim := { program := "ytcbpckbehdaloaa", sum := "78bc9c8486f5a2048837c8892418ece19a8acf2dd85e47306ba131cc497c05ea", func := "loop.example/guildway/laws.FnExactDrvBack", spec := "fnExactDrvBack", unfollowed := true, recurses := true, apart := false }
def FnExactDrvBackSaid : Prop := fnExactDrvBackRow.holds Try.pinned (OpenSpec.ofChange fnExactDrvBackSpec)

/-- ITS FALSE NEIGHBOUR: 'it returns false'. Refute it at one input. -/
def fnExactDrvBackWrong : ChangeSpec := { name := "fnExactDrvBack", fn := fun _ => fun
  | [d1, d2] => { results := [.lit (.bool false)], args := [d1, d2] }
  | _ => none }
def FnExactDrvBackWrongFalsely : Prop := fnExactDrvBackRow.holds Try.pinned (OpenSpec.ofChange fnExactDrvBackWrong)

/-- 'laws.FnExactEngWork': WHATEVER THE INPUT: true; the input reads as it did. -/
def fnExactEngWorkSpec : ChangeSpec := { name := "fnExactEngWork", fn := fun _ => fun
  | [d1, d2] => { results := [.lit (.bool true)], args := [d1, d2] }
  | _ => none }
def fnExactEngWorkRow : OpenClaim := { program := "ytcbpckbehdaloaa", sum := "78bc9c8486f5a2048837c8892418ece19a8acf2dd85e47306ba131cc497c05ea", func := "loop.example/guildway/laws.FnExactEngWork", spec := "fnExactEngWork", apart := false }
def FnExactEngWorkSaid : Prop := fnExactEngWorkRow.holds Try.pinned (OpenSpec.ofChange fnExactEngWorkSpec)

/-- ITS FALSE NEIGHBOUR: 'it returns false'. Refute it at one input. -/
def fnExactEngWorkWrong : ChangeSpec := { name := "fnExactEngWork", fn := fun _ => fun
  | [d1, d2] => { results := [.lit (.bool false)], args := [d1, d2] }
  | _ => none }
def FnExactEngWorkWrongFalsely : Prop := fnExactEngWorkRow.holds Try.pinned (OpenSpec.ofChange fnExactEngWorkWrong)

/-- 'laws.FnExactCasStop': WHATEVER THE INPUT: true; the input reads as it did. -/
def fnExactCasStopSpec : ChangeSpec := { name := "fnExactCasStop", fn := fun _ => fun
  | [d1, d2] => { results := [.lit (.bool true)], args := [d1, d2] }
  | _ => none }
def fnExactCasStopRow : OpenClaim := { program := "ytcbpckbehdaloaa", sum := "78bc9c8486f5a2048837c8892418ece19a8acf2dd85e47306ba131cc497c05ea", func := "loop.example/guildway/laws.FnExactCasStop", spec := "fnExactCasStop", unfollowed := true, recurses := true, apart := false }
def FnExactCasStopSaid : Prop := fnExactCasStopRow.holds Try.pinned (OpenSpec.ofChange fnExactCasStopSpec)

/-- ITS FALSE NEIGHBOUR: 'it returns false'. Refute it at one input. -/
def fnExactCasStopWrong : ChangeSpec := { name := "fnExactCasStop", fn := fun _ => fun
  | [d1, d2] => { results := [.lit (.bool false)], args := [d1, d2] }
  | _ => none }
def FnExactCasStopWrongFalsely : Prop := fnExactCasStopRow.holds Try.pinned (OpenSpec.ofChange fnExactCasStopWrong)

/-- 'laws.FnExactCasWork': WHATEVER THE INPUT: true; the input reads as it did. -/
def fnExactCasWorkSpec : ChangeSpec := { name := "fnExactCasWork", fn := fun _ => fun
  | [d1, d2, d3, d4, d5] => { results := [.lit (.bool true)], args := [d1, d2, d3, d4, d5] }
  | _ => none }
def fnExactCasWorkRow : OpenClaim := { program := "ytcbpckbehdaloaa", sum := "78bc9c8486f5a2048837c8892418ece19a8acf2dd85e47306ba131cc497c05ea", func := "loop.example/guildway/laws.FnExactCasWork", spec := "fnExactCasWork", unfollowed := true, recurses := true, apart := false }
def FnExactCasWorkSaid : Prop := fnExactCasWorkRow.holds Try.pinned (OpenSpec.ofChange fnExactCasWorkSpec)

/-- ITS FALSE NEIGHBOUR: 'it returns false'. Refute it at one input. -/
def fnExactCasWorkWrong : ChangeSpec := { name := "fnExactCasWork", fn := fun _ => fun
  | [d1, d2, d3, d4, d5] => { results := [.lit (.bool false)], args := [d1, d2, d3, d4, d5] }
  | _ => none }
def FnExactCasWorkWrongFalsely : Prop := fnExactCasWorkRow.holds Try.pinned (OpenSpec.ofChange fnExactCasWorkWrong)

/- THE SECOND FORM. 'bulk': how many values and letters a reading holds, each counted each time it is reached (what is shared counts as often as it is met; a slice's spare places count too). A statement '..UptoSaid' is the law's where the arguments, and the package variables that the reading takes, are together of bulk at most 1048576: NARROWER than '..Said'. Prove '..Said' where nothing that the law and all that it calls make is longer than what came in: it says more and counts as full. Else prove '..UptoSaid'. A law counts once. -/
mutual
def uptoBulk {H : Type} : DataW H → Nat
  | .lit (.string bytes) => bytes.length + 1
  | .lit _ => 1
  | .nil => 1
  | .ptr d => uptoBulk d + 1
  | .slice elems spare => uptoBulkAll elems + uptoBulkAll spare + 1
  | .agg parts => uptoBulkAll parts + 1
  | .iface _ d => uptoBulk d + 1
  | .map entries => uptoBulkEntries entries + 1
  | .held _ => 1
def uptoBulkAll {H : Type} : List (DataW H) → Nat
  | [] => 0
  | d :: r => uptoBulk d + uptoBulkAll r
def uptoBulkEntries {H : Type} : List (Lit × DataW H) → Nat
  | [] => 0
  | x :: r => uptoBulkEntry x + uptoBulkEntries r
def uptoBulkEntry {H : Type} : Lit × DataW H → Nat
  | (.string bytes, d) => bytes.length + uptoBulk d + 1
  | (_, d) => uptoBulk d + 1
 end
def uptoSmall : (H : Type) → List (DataW H) → Bool := fun _ ds => decide (uptoBulkAll ds ≤ 1048576)
def OpenSpec.upto (s : _root_.Go.ChangeSpec) : _root_.Go.OpenSpec := { _root_.Go.OpenSpec.ofChange s with cond := some uptoSmall }

/-- 'laws.FnExactLogBegun', WHERE WHAT IT READS IS OF BULK AT MOST 1048576: true; the input reads as it did. -/
def fnExactLogBegunUptoRow : OpenClaim := { program := "ytcbpckbehdaloaa", sum := "78bc9c8486f5a2048837c8892418ece19a8acf2dd85e47306ba131cc497c05ea", func := "loop.example/guildway/laws.FnExactLogBegun", spec := "fnExactLogBegun", apart := false, narrowed := true }
def FnExactLogBegunUptoSaid : Prop := fnExactLogBegunUptoRow.holds Try.pinned (OpenSpec.upto fnExactLogBegunSpec)

/-- 'laws.FnExactLogCase', WHERE WHAT IT READS IS OF BULK AT MOST 1048576: true; the input reads as it did. -/
def fnExactLogCaseUptoRow : OpenClaim := { program := "ytcbpckbehdaloaa", sum := "78bc9c8486f5a2048837c8892418ece19a8acf2dd85e47306ba131cc497c05ea", func := "loop.example/guildway/laws.FnExactLogCase", spec := "fnExactLogCase", apart := false, narrowed := true }
def FnExactLogCaseUptoSaid : Prop := fnExactLogCaseUptoRow.holds Try.pinned (OpenSpec.upto fnExactLogCaseSpec)

/-- 'laws.FnExactLogOk', WHERE WHAT IT READS IS OF BULK AT MOST 1048576: true; the input reads as it did. -/
def fnExactLogOkUptoRow : OpenClaim := { program := "ytcbpckbehdaloaa", sum := "78bc9c8486f5a2048837c8892418ece19a8acf2dd85e47306ba131cc497c05ea", func := "loop.example/guildway/laws.FnExactLogOk", spec := "fnExactLogOk", unfollowed := true, recurses := true, apart := false, narrowed := true }
def FnExactLogOkUptoSaid : Prop := fnExactLogOkUptoRow.holds Try.pinned (OpenSpec.upto fnExactLogOkSpec)

/-- 'laws.FnExactEngStates', WHERE WHAT IT READS IS OF BULK AT MOST 1048576: true; the input reads as it did. -/
def fnExactEngStatesUptoRow : OpenClaim := { program := "ytcbpckbehdaloaa", sum := "78bc9c8486f5a2048837c8892418ece19a8acf2dd85e47306ba131cc497c05ea", func := "loop.example/guildway/laws.FnExactEngStates", spec := "fnExactEngStates", apart := false, narrowed := true }
def FnExactEngStatesUptoSaid : Prop := fnExactEngStatesUptoRow.holds Try.pinned (OpenSpec.upto fnExactEngStatesSpec)

/-- 'laws.FnExactDrvBack', WHERE WHAT IT READS IS OF BULK AT MOST 1048576: true; the input reads as it did. -/
def fnExactDrvBackUptoRow : OpenClaim := { program := "ytcbpckbehdaloaa", sum := "78bc9c8486f5a2048837c8892418ece19a8acf2dd85e47306ba131cc497c05ea", func := "loop.example/guildway/laws.FnExactDrvBack", spec := "fnExactDrvBack", unfollowed := true, recurses := true, apart := false, narrowed := true }
def FnExactDrvBackUptoSaid : Prop := fnExactDrvBackUptoRow.holds Try.pinned (OpenSpec.upto fnExactDrvBackSpec)

/-- 'laws.FnExactEngWork', WHERE WHAT IT READS IS OF BULK AT MOST 1048576: true; the input reads as it did. -/
def fnExactEngWorkUptoRow : OpenClaim := { program := "ytcbpckbehdaloaa", sum := "78bc9c8486f5a2048837c8892418ece19a8acf2dd85e47306ba131cc497c05ea", func := "loop.example/guildway/laws.FnExactEngWork", spec := "fnExactEngWork", apart := false, narrowed := true }
def FnExactEngWorkUptoSaid : Prop := fnExactEngWorkUptoRow.holds Try.pinned (OpenSpec.upto fnExactEngWorkSpec)

/-- 'laws.FnExactCasStop', WHERE WHAT IT READS IS OF BULK AT MOST 1048576: true; the input reads as it did. -/
def fnExactCasStopUptoRow : OpenClaim := { program := "ytcbpckbehdaloaa", sum := "78bc9c8486f5a2048837c8892418ece19a8acf2dd85e47306ba131cc497c05ea", func := "loop.example/guildway/laws.FnExactCasStop", spec := "fnExactCasStop", unfollowed := true, recurses := true, apart := false, narrowed := true }
def FnExactCasStopUptoSaid : Prop := fnExactCasStopUptoRow.holds Try.pinned (OpenSpec.upto fnExactCasStopSpec)

/-- 'laws.FnExactCasWork', WHERE WHAT IT READS IS OF BULK AT MOST 1048576: true; the input reads as it did. -/
def fnExactCasWorkUptoRow : OpenClaim := { program := "ytcbpckbehdaloaa", sum := "78bc9c8486f5a2048837c8892418ece19a8acf2dd85e47306ba131cc497c05ea", func := "loop.example/guildway/laws.FnExactCasWork", spec := "fnExactCasWork", unfollowed := true, recurses := true, apart := false, narrowed := true }
def FnExactCasWorkUptoSaid : Prop := fnExactCasWorkUptoRow.holds Try.pinned (OpenSpec.upto fnExactCasWorkSpec)

end Rows
end Go.Proofs.Ytcbpckbehdaloaa
