/-
  No cell of these rows narrows 'for every input' (looked for: loops, veiled, ifaces, maps, wideKeys, modest, calm, conditions, laid).
  DERIVED. THE GIVEN ROWS OF THIS SEAT. 8 by the template 'for every input the law returns true; each argument reads behind the call as it read before'; 0 by the template 'total and deterministic' (their statements: YtcbpckbehdaloaaGreatTotals.lean).
  GIVEN WITH THE SEED: the statements are not yours to turn. If you find one false, say at which input.
  Laid BY PROGRAM, IN A SANDBOX (cutbox-rows.mjs): the forced cells as the released guide's own fill.sh prints them over the translation 9c290ec27abda395… (all of the seat's roots in one cut). By AI agents, Wed Nov 11 2026. No macro, syntax, notation, axiom, sorry.
-/
import Derived.Test.YtcbpckbehdaloaaGreatChecked
import GoSem.Claim
import GoSem.ClaimJoined
import GoSem.ClaimMapViews
import Derived.JoinedTies
import Derived.KernelRfl
namespace Go.Proofs.YtcbpckbehdaloaaGreat
/- THE CELL 'sum', in the pinned program and in every row, IS THE sha256 OF THE DUMP (.gsa) THAT YtcbpckbehdaloaaGreatProg.lean LOADS. Nothing in Lean hashes anything: it is a label: what it is worth is what the hold of that sum in a sandbox is worth. -/
noncomputable def Tryz.pinned : Pinned := { name := "ytcbpckbehdaloaagreat", sum := "9c290ec27abda395dcf49b3b24565aeffc3c0e6842253773617ddfdf2c7d11b9", checked := Tryz.checked }
namespace Rows
def none {H : Type} : Left H := { results := [], args := [] }

/-- 'laws.FnExactEngDo': WHATEVER THE INPUT: true; the input reads as it did. -/
def fnExactEngDoSpec : ChangeSpec := { name := "fnExactEngDo", fn := fun _ => fun
  | [d1, d2] => { results := [.lit (.bool true)], args := [d1, d2] }
  | _ => none }
def fnExactEngDoRow : OpenClaim := { program := "ytcbpckbehdaloaagreat", sum := "9c290ec27abda395dcf49b3b24565aeffc3c0e6842253773617ddfdf2c7d11b9", func := "loop.example/guildway/laws.FnExactEngDo", spec := "fnExactEngDo", unfollowed := true, recurses := true, apart := false }
def FnExactEngDoSaid : Prop := fnExactEngDoRow.holds Tryz.pinned (OpenSpec.ofChange fnExactEngDoSpec)

/-- ITS FALSE NEIGHBOUR: 'it returns false'. Refute it at one input. -/
def fnExactEngDoWrong : ChangeSpec := { name := "fnExactEngDo", fn := fun _ => fun
  | [d1, d2] => { results := [.lit (.bool false)], args := [d1, d2] }
  | _ => none }
def FnExactEngDoWrongFalsely : Prop := fnExactEngDoRow.holds Tryz.pinned (OpenSpec.ofChange fnExactEngDoWrong)

/-- 'laws.FnExactLogFold': WHATEVER THE INPUT: true; the input reads as it did. -/
def fnExactLogFoldSpec : ChangeSpec := { name := "fnExactLogFold", fn := fun _ => fun
  | [d1, d2] => { results := [.lit (.bool true)], args := [d1, d2] }
  | _ => none }
def fnExactLogFoldRow : OpenClaim := { program := "ytcbpckbehdaloaagreat", sum := "9c290ec27abda395dcf49b3b24565aeffc3c0e6842253773617ddfdf2c7d11b9", func := "loop.example/guildway/laws.FnExactLogFold", spec := "fnExactLogFold", unfollowed := true, recurses := true, apart := false }
def FnExactLogFoldSaid : Prop := fnExactLogFoldRow.holds Tryz.pinned (OpenSpec.ofChange fnExactLogFoldSpec)

/-- ITS FALSE NEIGHBOUR: 'it returns false'. Refute it at one input. -/
def fnExactLogFoldWrong : ChangeSpec := { name := "fnExactLogFold", fn := fun _ => fun
  | [d1, d2] => { results := [.lit (.bool false)], args := [d1, d2] }
  | _ => none }
def FnExactLogFoldWrongFalsely : Prop := fnExactLogFoldRow.holds Tryz.pinned (OpenSpec.ofChange fnExactLogFoldWrong)

/-- 'laws.FnExactLogRun': WHATEVER THE INPUT: true; the input reads as it did. -/
def fnExactLogRunSpec : ChangeSpec := { name := "fnExactLogRun", fn := fun _ => fun
  | [d1, d2] => { results := [.lit (.bool true)], args := [d1, d2] }
  | _ => none }
def fnExactLogRunRow : OpenClaim := { program := "ytcbpckbehdaloaagreat", sum := "9c290ec27abda395dcf49b3b24565aeffc3c0e6842253773617ddfdf2c7d11b9", func := "loop.example/guildway/laws.FnExactLogRun", spec := "fnExactLogRun", unfollowed := true, recurses := true, apart := false }
def FnExactLogRunSaid : Prop := fnExactLogRunRow.holds Tryz.pinned (OpenSpec.ofChange fnExactLogRunSpec)

/-- ITS FALSE NEIGHBOUR: 'it returns false'. Refute it at one input. -/
def fnExactLogRunWrong : ChangeSpec := { name := "fnExactLogRun", fn := fun _ => fun
  | [d1, d2] => { results := [.lit (.bool false)], args := [d1, d2] }
  | _ => none }
def FnExactLogRunWrongFalsely : Prop := fnExactLogRunRow.holds Tryz.pinned (OpenSpec.ofChange fnExactLogRunWrong)

/-- 'laws.FnExactEngOk': WHATEVER THE INPUT: true; the input reads as it did. -/
def fnExactEngOkSpec : ChangeSpec := { name := "fnExactEngOk", fn := fun _ => fun
  | [d] => { results := [.lit (.bool true)], args := [d] }
  | _ => none }
def fnExactEngOkRow : OpenClaim := { program := "ytcbpckbehdaloaagreat", sum := "9c290ec27abda395dcf49b3b24565aeffc3c0e6842253773617ddfdf2c7d11b9", func := "loop.example/guildway/laws.FnExactEngOk", spec := "fnExactEngOk", unfollowed := true, recurses := true, apart := false }
def FnExactEngOkSaid : Prop := fnExactEngOkRow.holds Tryz.pinned (OpenSpec.ofChange fnExactEngOkSpec)

/-- ITS FALSE NEIGHBOUR: 'it returns false'. Refute it at one input. -/
def fnExactEngOkWrong : ChangeSpec := { name := "fnExactEngOk", fn := fun _ => fun
  | [d] => { results := [.lit (.bool false)], args := [d] }
  | _ => none }
def FnExactEngOkWrongFalsely : Prop := fnExactEngOkRow.holds Tryz.pinned (OpenSpec.ofChange fnExactEngOkWrong)

/-- 'laws.FnExactCasStart': WHATEVER THE INPUT: true; the input reads as it did. -/
def fnExactCasStartSpec : ChangeSpec := { name := "fnExactCasStart", fn := fun _ => fun
  | [d1, d2, d3, d4, d5] => { results := [.lit (.bool true)], args := [d1, d2, d3, d4, d5] }
  | _ => none }
def fnExactCasStartRow : OpenClaim := { program := "ytcbpckbehdaloaagreat", sum := "9c290ec27abda395dcf49b3b24565aeffc3c0e6842253773617ddfdf2c7d11b9", func := "loop.example/guildway/laws.FnExactCasStart", spec := "fnExactCasStart", unfollowed := true, recurses := true, apart := false }
def FnExactCasStartSaid : Prop := fnExactCasStartRow.holds Tryz.pinned (OpenSpec.ofChange fnExactCasStartSpec)

/-- ITS FALSE NEIGHBOUR: 'it returns false'. Refute it at one input. -/
def fnExactCasStartWrong : ChangeSpec := { name := "fnExactCasStart", fn := fun _ => fun
  | [d1, d2, d3, d4, d5] => { results := [.lit (.bool false)], args := [d1, d2, d3, d4, d5] }
  | _ => none }
def FnExactCasStartWrongFalsely : Prop := fnExactCasStartRow.holds Tryz.pinned (OpenSpec.ofChange fnExactCasStartWrong)

/-- 'laws.FnExactEngNew': WHATEVER THE INPUT: true; the input reads as it did. -/
def fnExactEngNewSpec : ChangeSpec := { name := "fnExactEngNew", fn := fun _ => fun
  | [d1, d2] => { results := [.lit (.bool true)], args := [d1, d2] }
  | _ => none }
def fnExactEngNewRow : OpenClaim := { program := "ytcbpckbehdaloaagreat", sum := "9c290ec27abda395dcf49b3b24565aeffc3c0e6842253773617ddfdf2c7d11b9", func := "loop.example/guildway/laws.FnExactEngNew", spec := "fnExactEngNew", unfollowed := true, recurses := true, apart := false }
def FnExactEngNewSaid : Prop := fnExactEngNewRow.holds Tryz.pinned (OpenSpec.ofChange fnExactEngNewSpec)

/-- ITS FALSE NEIGHBOUR: 'it returns false'. Refute it at one input. -/
def fnExactEngNewWrong : ChangeSpec := { name := "fnExactEngNew", fn := fun _ => fun
  | [d1, d2] => { results := [.lit (.bool false)], args := [d1, d2] }
  | _ => none }
def FnExactEngNewWrongFalsely : Prop := fnExactEngNewRow.holds Tryz.pinned (OpenSpec.ofChange fnExactEngNewWrong)

/-- 'laws.FnExactDrvNext': WHATEVER THE INPUT: true; the input reads as it did. -/
def fnExactDrvNextSpec : ChangeSpec := { name := "fnExactDrvNext", fn := fun _ => fun
  | [d1, d2, d3] => { results := [.lit (.bool true)], args := [d1, d2, d3] }
  | _ => none }
def fnExactDrvNextRow : OpenClaim := { program := "ytcbpckbehdaloaagreat", sum := "9c290ec27abda395dcf49b3b24565aeffc3c0e6842253773617ddfdf2c7d11b9", func := "loop.example/guildway/laws.FnExactDrvNext", spec := "fnExactDrvNext", unfollowed := true, recurses := true, apart := false }
def FnExactDrvNextSaid : Prop := fnExactDrvNextRow.holds Tryz.pinned (OpenSpec.ofChange fnExactDrvNextSpec)

/-- ITS FALSE NEIGHBOUR: 'it returns false'. Refute it at one input. -/
def fnExactDrvNextWrong : ChangeSpec := { name := "fnExactDrvNext", fn := fun _ => fun
  | [d1, d2, d3] => { results := [.lit (.bool false)], args := [d1, d2, d3] }
  | _ => none }
def FnExactDrvNextWrongFalsely : Prop := fnExactDrvNextRow.holds Tryz.pinned (OpenSpec.ofChange fnExactDrvNextWrong)

/-- 'laws.FnExactDrvRun': WHATEVER THE INPUT: true; the input reads as it did. -/
def fnExactDrvRunSpec : ChangeSpec := { name := "fnExactDrvRun", fn := fun _ => fun
  | [d1, d2, d3, d4] => { results := [.lit (.bool true)], args := [d1, d2, d3, d4] }
  | _ => none }
def fnExactDrvRunRow : OpenClaim := { program := "ytcbpckbehdaloaagreat", sum := "9c290ec27abda395dcf49b3b24565aeffc3c0e6842253773617ddfdf2c7d11b9", func := "loop.example/guildway/laws.FnExactDrvRun", spec := "fnExactDrvRun", unfollowed := true, recurses := true, apart := false }
def FnExactDrvRunSaid : Prop := fnExactDrvRunRow.holds Tryz.pinned (OpenSpec.ofChange fnExactDrvRunSpec)

/-- ITS FALSE NEIGHBOUR: 'it returns false'. Refute it at one input. -/
def fnExactDrvRunWrong : ChangeSpec := { name := "fnExactDrvRun", fn := fun _ => fun
  | [d1, d2, d3, d4] => { results := [.lit (.bool false)], args := [d1, d2, d3, d4] }
  | _ => none }
def FnExactDrvRunWrongFalsely : Prop := fnExactDrvRunRow.holds Tryz.pinned (OpenSpec.ofChange fnExactDrvRunWrong)

/- THE SECOND FORM. 'bulk': how many values and letters a reading holds, each counted each time it is reached (what is shared counts as often as it is met; a slice's spare places count too). A statement '..UptoSaid' is the law's where the arguments, and the package variables that the reading takes, are together of bulk at most 1048576: NARROWER than '..Said'. Prove '..Said' where nothing that the law and all that it calls make is longer than what came in: it says more and counts as full. Else prove '..UptoSaid'. A law counts once. -/
mutual
def uptoBulk {H : Type} : DataW H → Nat
  | .lit (.string bytes) => bytes.length + 1
  | .lit _ => 1
  | .nil => 1
  | .ptr d => uptoBulk d + 1
  | .slice elems spare => uptoBulkAll elems + uptoBulkAll spare + 1
  | .agg parts => uptoBulkAll parts + 1
  | .iface _ d => uptoBulk d + 1
  | .map entries => uptoBulkEntries entries + 1
  | .held _ => 1
def uptoBulkAll {H : Type} : List (DataW H) → Nat
  | [] => 0
  | d :: r => uptoBulk d + uptoBulkAll r
def uptoBulkEntries {H : Type} : List (Lit × DataW H) → Nat
  | [] => 0
  | x :: r => uptoBulkEntry x + uptoBulkEntries r
def uptoBulkEntry {H : Type} : Lit × DataW H → Nat
  | (.string bytes, d) => bytes.length + uptoBulk d + 1
  | (_, d) => uptoBulk d + 1
 end
def uptoSmall : (H : Type) → List (DataW H) → Bool := fun _ ds => decide (uptoBulkAll ds ≤ 1048576)
def OpenSpec.upto (s : _root_.Go.ChangeSpec) : _root_.Go.OpenSpec := { _root_.Go.OpenSpec.ofChange s with cond := some uptoSmall }

/-- 'laws.FnExactEngDo', WHERE WHAT IT READS IS OF BULK AT MOST 1048576: true; the input reads as it did. -/
def fnExactEngDoUptoRow : OpenClaim := { program := "ytcbpckbehdaloaagreat", sum := "9c290ec27abda395dcf49b3b24565aeffc3c0e6842253773617ddfdf2c7d11b9", func := "loop.example/guildway/laws.FnExactEngDo", spec := "fnExactEngDo", unfollowed := true, recurses := true, apart := false, narrowed := true }
def FnExactEngDoUptoSaid : Prop := fnExactEngDoUptoRow.holds Tryz.pinned (OpenSpec.upto fnExactEngDoSpec)

/-- 'laws.FnExactLogFold', WHERE WHAT IT READS IS OF BULK AT MOST 1048576: true; the input reads as it did. -/
def fnExactLogFoldUptoRow : OpenClaim := { program := "ytcbpckbehdaloaagreat", sum := "9c290ec27abda395dcf49b3b24565aeffc3c0e6842253773617ddfdf2c7d11b9", func := "loop.example/guildway/laws.FnExactLogFold", spec := "fnExactLogFold", unfollowed := true, recurses := true, apart := false, narrowed := true }
def FnExactLogFoldUptoSaid : Prop := fnExactLogFoldUptoRow.holds Tryz.pinned (OpenSpec.upto fnExactLogFoldSpec)

/-- 'laws.FnExactLogRun', WHERE WHAT IT READS IS OF BULK AT MOST 1048576: true; the input reads as it did. -/
def fnExactLogRunUptoRow : OpenClaim := { program := "ytcbpckbehdaloaagreat", sum := "9c290ec27abda395dcf49b3b24565aeffc3c0e6842253773617ddfdf2c7d11b9", func := "loop.example/guildway/laws.FnExactLogRun", spec := "fnExactLogRun", unfollowed := true, recurses := true, apart := false, narrowed := true }
def FnExactLogRunUptoSaid : Prop := fnExactLogRunUptoRow.holds Tryz.pinned (OpenSpec.upto fnExactLogRunSpec)

/-- 'laws.FnExactEngOk', WHERE WHAT IT READS IS OF BULK AT MOST 1048576: true; the input reads as it did. -/
def fnExactEngOkUptoRow : OpenClaim := { program := "ytcbpckbehdaloaagreat", sum := "9c290ec27abda395dcf49b3b24565aeffc3c0e6842253773617ddfdf2c7d11b9", func := "loop.example/guildway/laws.FnExactEngOk", spec := "fnExactEngOk", unfollowed := true, recurses := true, apart := false, narrowed := true }
def FnExactEngOkUptoSaid : Prop := fnExactEngOkUptoRow.holds Tryz.pinned (OpenSpec.upto fnExactEngOkSpec)

/-- 'laws.FnExactCasStart', WHERE WHAT IT READS IS OF BULK AT MOST 1048576: true; the input reads as it did. -/
def fnExactCasStartUptoRow : OpenClaim := { program := "ytcbpckbehdaloaagreat", sum := "9c290ec27abda395dcf49b3b24565aeffc3c0e6842253773617ddfdf2c7d11b9", func := "loop.example/guildway/laws.FnExactCasStart", spec := "fnExactCasStart", unfollowed := true, recurses := true, apart := false, narrowed := true }
def FnExactCasStartUptoSaid : Prop := fnExactCasStartUptoRow.holds Tryz.pinned (OpenSpec.upto fnExactCasStartSpec)

/-- 'laws.FnExactEngNew', WHERE WHAT IT READS IS OF BULK AT MOST 1048576: true; the input reads as it did. -/
def fnExactEngNewUptoRow : OpenClaim := { program := "ytcbpckbehdaloaagreat", sum := "9c290ec27abda395dcf49b3b24565aeffc3c0e6842253773617ddfdf2c7d11b9", func := "loop.example/guildway/laws.FnExactEngNew", spec := "fnExactEngNew", unfollowed := true, recurses := true, apart := false, narrowed := true }
def FnExactEngNewUptoSaid : Prop := fnExactEngNewUptoRow.holds Tryz.pinned (OpenSpec.upto fnExactEngNewSpec)

/-- 'laws.FnExactDrvNext', WHERE WHAT IT READS IS OF BULK AT MOST 1048576: true; the input reads as it did. -/
def fnExactDrvNextUptoRow : OpenClaim := { program := "ytcbpckbehdaloaagreat", sum := "9c290ec27abda395dcf49b3b24565aeffc3c0e6842253773617ddfdf2c7d11b9", func := "loop.example/guildway/laws.FnExactDrvNext", spec := "fnExactDrvNext", unfollowed := true, recurses := true, apart := false, narrowed := true }
def FnExactDrvNextUptoSaid : Prop := fnExactDrvNextUptoRow.holds Tryz.pinned (OpenSpec.upto fnExactDrvNextSpec)

/-- 'laws.FnExactDrvRun', WHERE WHAT IT READS IS OF BULK AT MOST 1048576: true; the input reads as it did. -/
def fnExactDrvRunUptoRow : OpenClaim := { program := "ytcbpckbehdaloaagreat", sum := "9c290ec27abda395dcf49b3b24565aeffc3c0e6842253773617ddfdf2c7d11b9", func := "loop.example/guildway/laws.FnExactDrvRun", spec := "fnExactDrvRun", unfollowed := true, recurses := true, apart := false, narrowed := true }
def FnExactDrvRunUptoSaid : Prop := fnExactDrvRunUptoRow.holds Tryz.pinned (OpenSpec.upto fnExactDrvRunSpec)

end Rows
end Go.Proofs.YtcbpckbehdaloaaGreat
