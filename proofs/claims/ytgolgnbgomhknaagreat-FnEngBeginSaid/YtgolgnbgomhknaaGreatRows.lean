/-
  No cell of these rows narrows 'for every input' (looked for: loops, veiled, ifaces, maps, wideKeys, modest, calm, conditions, laid).
  DERIVED. THE GIVEN ROWS OF THIS SEAT. 18 by the template 'for every input the law returns true; each argument reads behind the call as it read before'; 0 by the template 'total and deterministic' (their statements: YtgolgnbgomhknaaGreatTotals.lean).
  GIVEN WITH THE SEED: the statements are not yours to turn. If you find one false, say at which input.
  Laid BY PROGRAM, IN A SANDBOX (cutbox-rows.mjs): the forced cells as the released guide's own fill.sh prints them over the translation 0c440bb4aacd207a… (all of the seat's roots in one cut). By AI agents, Wed Nov 11 2026. No macro, syntax, notation, axiom, sorry.
-/
import Derived.Test.YtgolgnbgomhknaaGreatChecked
import GoSem.Claim
import GoSem.ClaimJoined
import GoSem.ClaimMapViews
import Derived.JoinedTies
import Derived.KernelRfl
namespace Go.Proofs.YtgolgnbgomhknaaGreat
/- THE CELL 'sum', in the pinned program and in every row, IS THE sha256 OF THE DUMP (.gsa) THAT YtgolgnbgomhknaaGreatProg.lean LOADS. Nothing in Lean hashes anything: it is a label: what it is worth is what the hold of that sum in a sandbox is worth. -/
noncomputable def Tryz.pinned : Pinned := { name := "ytgolgnbgomhknaagreat", sum := "0c440bb4aacd207a681dcdc6d35c8e46d77baad3b0e1d090a1861060f64d959b", checked := Tryz.checked }
namespace Rows
def none {H : Type} : Left H := { results := [], args := [] }

/-- 'laws.FnCasStop': WHATEVER THE INPUT: true; the input reads as it did. -/
def fnCasStopSpec : ChangeSpec := { name := "fnCasStop", fn := fun _ => fun
  | [d] => { results := [.lit (.bool true)], args := [d] }
  | _ => none }
def fnCasStopRow : OpenClaim := { program := "ytgolgnbgomhknaagreat", sum := "0c440bb4aacd207a681dcdc6d35c8e46d77baad3b0e1d090a1861060f64d959b", func := "loop.example/guildway/laws.FnCasStop", spec := "fnCasStop", unfollowed := true, recurses := true, apart := false }
def FnCasStopSaid : Prop := fnCasStopRow.holds Tryz.pinned (OpenSpec.ofChange fnCasStopSpec)

/-- ITS FALSE NEIGHBOUR: 'it returns false'. Refute it at one input. -/
def fnCasStopWrong : ChangeSpec := { name := "fnCasStop", fn := fun _ => fun
  | [d] => { results := [.lit (.bool false)], args := [d] }
  | _ => none }
def FnCasStopWrongFalsely : Prop := fnCasStopRow.holds Tryz.pinned (OpenSpec.ofChange fnCasStopWrong)

/-- 'laws.FnCasStart': WHATEVER THE INPUT: true; the input reads as it did. -/
def fnCasStartSpec : ChangeSpec := { name := "fnCasStart", fn := fun _ => fun
  | [d] => { results := [.lit (.bool true)], args := [d] }
  | _ => none }
def fnCasStartRow : OpenClaim := { program := "ytgolgnbgomhknaagreat", sum := "0c440bb4aacd207a681dcdc6d35c8e46d77baad3b0e1d090a1861060f64d959b", func := "loop.example/guildway/laws.FnCasStart", spec := "fnCasStart", unfollowed := true, recurses := true, apart := false }
def FnCasStartSaid : Prop := fnCasStartRow.holds Tryz.pinned (OpenSpec.ofChange fnCasStartSpec)

/-- ITS FALSE NEIGHBOUR: 'it returns false'. Refute it at one input. -/
def fnCasStartWrong : ChangeSpec := { name := "fnCasStart", fn := fun _ => fun
  | [d] => { results := [.lit (.bool false)], args := [d] }
  | _ => none }
def FnCasStartWrongFalsely : Prop := fnCasStartRow.holds Tryz.pinned (OpenSpec.ofChange fnCasStartWrong)

/-- 'laws.FnCasStuck': WHATEVER THE INPUT: true; the input reads as it did. -/
def fnCasStuckSpec : ChangeSpec := { name := "fnCasStuck", fn := fun _ => fun
  | [d] => { results := [.lit (.bool true)], args := [d] }
  | _ => none }
def fnCasStuckRow : OpenClaim := { program := "ytgolgnbgomhknaagreat", sum := "0c440bb4aacd207a681dcdc6d35c8e46d77baad3b0e1d090a1861060f64d959b", func := "loop.example/guildway/laws.FnCasStuck", spec := "fnCasStuck", unfollowed := true, recurses := true, apart := false }
def FnCasStuckSaid : Prop := fnCasStuckRow.holds Tryz.pinned (OpenSpec.ofChange fnCasStuckSpec)

/-- ITS FALSE NEIGHBOUR: 'it returns false'. Refute it at one input. -/
def fnCasStuckWrong : ChangeSpec := { name := "fnCasStuck", fn := fun _ => fun
  | [d] => { results := [.lit (.bool false)], args := [d] }
  | _ => none }
def FnCasStuckWrongFalsely : Prop := fnCasStuckRow.holds Tryz.pinned (OpenSpec.ofChange fnCasStuckWrong)

/-- 'laws.FnDrvNext': WHATEVER THE INPUT: true; the input reads as it did. -/
def fnDrvNextSpec : ChangeSpec := { name := "fnDrvNext", fn := fun _ => fun
  | [d] => { results := [.lit (.bool true)], args := [d] }
  | _ => none }
def fnDrvNextRow : OpenClaim := { program := "ytgolgnbgomhknaagreat", sum := "0c440bb4aacd207a681dcdc6d35c8e46d77baad3b0e1d090a1861060f64d959b", func := "loop.example/guildway/laws.FnDrvNext", spec := "fnDrvNext", unfollowed := true, recurses := true, apart := false }
def FnDrvNextSaid : Prop := fnDrvNextRow.holds Tryz.pinned (OpenSpec.ofChange fnDrvNextSpec)

/-- ITS FALSE NEIGHBOUR: 'it returns false'. Refute it at one input. -/
def fnDrvNextWrong : ChangeSpec := { name := "fnDrvNext", fn := fun _ => fun
  | [d] => { results := [.lit (.bool false)], args := [d] }
  | _ => none }
def FnDrvNextWrongFalsely : Prop := fnDrvNextRow.holds Tryz.pinned (OpenSpec.ofChange fnDrvNextWrong)

/-- 'laws.FnDrvRun': WHATEVER THE INPUT: true; the input reads as it did. -/
def fnDrvRunSpec : ChangeSpec := { name := "fnDrvRun", fn := fun _ => fun
  | [d] => { results := [.lit (.bool true)], args := [d] }
  | _ => none }
def fnDrvRunRow : OpenClaim := { program := "ytgolgnbgomhknaagreat", sum := "0c440bb4aacd207a681dcdc6d35c8e46d77baad3b0e1d090a1861060f64d959b", func := "loop.example/guildway/laws.FnDrvRun", spec := "fnDrvRun", unfollowed := true, recurses := true, apart := false }
def FnDrvRunSaid : Prop := fnDrvRunRow.holds Tryz.pinned (OpenSpec.ofChange fnDrvRunSpec)

/-- ITS FALSE NEIGHBOUR: 'it returns false'. Refute it at one input. -/
def fnDrvRunWrong : ChangeSpec := { name := "fnDrvRun", fn := fun _ => fun
  | [d] => { results := [.lit (.bool false)], args := [d] }
  | _ => none }
def FnDrvRunWrongFalsely : Prop := fnDrvRunRow.holds Tryz.pinned (OpenSpec.ofChange fnDrvRunWrong)

/-- 'laws.FnEngOk': WHATEVER THE INPUT: true; the input reads as it did. -/
def fnEngOkSpec : ChangeSpec := { name := "fnEngOk", fn := fun _ => fun
  | [d] => { results := [.lit (.bool true)], args := [d] }
  | _ => none }
def fnEngOkRow : OpenClaim := { program := "ytgolgnbgomhknaagreat", sum := "0c440bb4aacd207a681dcdc6d35c8e46d77baad3b0e1d090a1861060f64d959b", func := "loop.example/guildway/laws.FnEngOk", spec := "fnEngOk", unfollowed := true, recurses := true, apart := false }
def FnEngOkSaid : Prop := fnEngOkRow.holds Tryz.pinned (OpenSpec.ofChange fnEngOkSpec)

/-- ITS FALSE NEIGHBOUR: 'it returns false'. Refute it at one input. -/
def fnEngOkWrong : ChangeSpec := { name := "fnEngOk", fn := fun _ => fun
  | [d] => { results := [.lit (.bool false)], args := [d] }
  | _ => none }
def FnEngOkWrongFalsely : Prop := fnEngOkRow.holds Tryz.pinned (OpenSpec.ofChange fnEngOkWrong)

/-- 'laws.FnEngStates': WHATEVER THE INPUT: true; the input reads as it did. -/
def fnEngStatesSpec : ChangeSpec := { name := "fnEngStates", fn := fun _ => fun
  | [d1, d2] => { results := [.lit (.bool true)], args := [d1, d2] }
  | _ => none }
def fnEngStatesRow : OpenClaim := { program := "ytgolgnbgomhknaagreat", sum := "0c440bb4aacd207a681dcdc6d35c8e46d77baad3b0e1d090a1861060f64d959b", func := "loop.example/guildway/laws.FnEngStates", spec := "fnEngStates", unfollowed := true, recurses := true, apart := false }
def FnEngStatesSaid : Prop := fnEngStatesRow.holds Tryz.pinned (OpenSpec.ofChange fnEngStatesSpec)

/-- ITS FALSE NEIGHBOUR: 'it returns false'. Refute it at one input. -/
def fnEngStatesWrong : ChangeSpec := { name := "fnEngStates", fn := fun _ => fun
  | [d1, d2] => { results := [.lit (.bool false)], args := [d1, d2] }
  | _ => none }
def FnEngStatesWrongFalsely : Prop := fnEngStatesRow.holds Tryz.pinned (OpenSpec.ofChange fnEngStatesWrong)

/-- 'laws.FnEngApart': WHATEVER THE INPUT: true; the input reads as it did. -/
def fnEngApartSpec : ChangeSpec := { name := "fnEngApart", fn := fun _ => fun
  | [d] => { results := [.lit (.bool true)], args := [d] }
  | _ => none }
def fnEngApartRow : OpenClaim := { program := "ytgolgnbgomhknaagreat", sum := "0c440bb4aacd207a681dcdc6d35c8e46d77baad3b0e1d090a1861060f64d959b", func := "loop.example/guildway/laws.FnEngApart", spec := "fnEngApart", unfollowed := true, recurses := true, apart := false }
def FnEngApartSaid : Prop := fnEngApartRow.holds Tryz.pinned (OpenSpec.ofChange fnEngApartSpec)

/-- ITS FALSE NEIGHBOUR: 'it returns false'. Refute it at one input. -/
def fnEngApartWrong : ChangeSpec := { name := "fnEngApart", fn := fun _ => fun
  | [d] => { results := [.lit (.bool false)], args := [d] }
  | _ => none }
def FnEngApartWrongFalsely : Prop := fnEngApartRow.holds Tryz.pinned (OpenSpec.ofChange fnEngApartWrong)

/-- 'laws.FnEngBegin': WHATEVER THE INPUT: true; the input reads as it did. -/
def fnEngBeginSpec : ChangeSpec := { name := "fnEngBegin", fn := fun _ => fun
  | [d] => { results := [.lit (.bool true)], args := [d] }
  | _ => none }
def fnEngBeginRow : OpenClaim := { program := "ytgolgnbgomhknaagreat", sum := "0c440bb4aacd207a681dcdc6d35c8e46d77baad3b0e1d090a1861060f64d959b", func := "loop.example/guildway/laws.FnEngBegin", spec := "fnEngBegin", unfollowed := true, recurses := true, apart := false }
def FnEngBeginSaid : Prop := fnEngBeginRow.holds Tryz.pinned (OpenSpec.ofChange fnEngBeginSpec)

/-- ITS FALSE NEIGHBOUR: 'it returns false'. Refute it at one input. -/
def fnEngBeginWrong : ChangeSpec := { name := "fnEngBegin", fn := fun _ => fun
  | [d] => { results := [.lit (.bool false)], args := [d] }
  | _ => none }
def FnEngBeginWrongFalsely : Prop := fnEngBeginRow.holds Tryz.pinned (OpenSpec.ofChange fnEngBeginWrong)

/-- 'laws.FnEngOrder': WHATEVER THE INPUT: true; the input reads as it did. -/
def fnEngOrderSpec : ChangeSpec := { name := "fnEngOrder", fn := fun _ => fun
  | [d1, d2] => { results := [.lit (.bool true)], args := [d1, d2] }
  | _ => none }
def fnEngOrderRow : OpenClaim := { program := "ytgolgnbgomhknaagreat", sum := "0c440bb4aacd207a681dcdc6d35c8e46d77baad3b0e1d090a1861060f64d959b", func := "loop.example/guildway/laws.FnEngOrder", spec := "fnEngOrder", unfollowed := true, recurses := true, apart := false }
def FnEngOrderSaid : Prop := fnEngOrderRow.holds Tryz.pinned (OpenSpec.ofChange fnEngOrderSpec)

/-- ITS FALSE NEIGHBOUR: 'it returns false'. Refute it at one input. -/
def fnEngOrderWrong : ChangeSpec := { name := "fnEngOrder", fn := fun _ => fun
  | [d1, d2] => { results := [.lit (.bool false)], args := [d1, d2] }
  | _ => none }
def FnEngOrderWrongFalsely : Prop := fnEngOrderRow.holds Tryz.pinned (OpenSpec.ofChange fnEngOrderWrong)

/-- 'laws.FnEngRefused': WHATEVER THE INPUT: true; the input reads as it did. -/
def fnEngRefusedSpec : ChangeSpec := { name := "fnEngRefused", fn := fun _ => fun
  | [d] => { results := [.lit (.bool true)], args := [d] }
  | _ => none }
def fnEngRefusedRow : OpenClaim := { program := "ytgolgnbgomhknaagreat", sum := "0c440bb4aacd207a681dcdc6d35c8e46d77baad3b0e1d090a1861060f64d959b", func := "loop.example/guildway/laws.FnEngRefused", spec := "fnEngRefused", unfollowed := true, recurses := true, apart := false }
def FnEngRefusedSaid : Prop := fnEngRefusedRow.holds Tryz.pinned (OpenSpec.ofChange fnEngRefusedSpec)

/-- ITS FALSE NEIGHBOUR: 'it returns false'. Refute it at one input. -/
def fnEngRefusedWrong : ChangeSpec := { name := "fnEngRefused", fn := fun _ => fun
  | [d] => { results := [.lit (.bool false)], args := [d] }
  | _ => none }
def FnEngRefusedWrongFalsely : Prop := fnEngRefusedRow.holds Tryz.pinned (OpenSpec.ofChange fnEngRefusedWrong)

/-- 'laws.FnEngStays': WHATEVER THE INPUT: true; the input reads as it did. -/
def fnEngStaysSpec : ChangeSpec := { name := "fnEngStays", fn := fun _ => fun
  | [d] => { results := [.lit (.bool true)], args := [d] }
  | _ => none }
def fnEngStaysRow : OpenClaim := { program := "ytgolgnbgomhknaagreat", sum := "0c440bb4aacd207a681dcdc6d35c8e46d77baad3b0e1d090a1861060f64d959b", func := "loop.example/guildway/laws.FnEngStays", spec := "fnEngStays", unfollowed := true, recurses := true, apart := false }
def FnEngStaysSaid : Prop := fnEngStaysRow.holds Tryz.pinned (OpenSpec.ofChange fnEngStaysSpec)

/-- ITS FALSE NEIGHBOUR: 'it returns false'. Refute it at one input. -/
def fnEngStaysWrong : ChangeSpec := { name := "fnEngStays", fn := fun _ => fun
  | [d] => { results := [.lit (.bool false)], args := [d] }
  | _ => none }
def FnEngStaysWrongFalsely : Prop := fnEngStaysRow.holds Tryz.pinned (OpenSpec.ofChange fnEngStaysWrong)

/-- 'laws.FnLogBegun': WHATEVER THE INPUT: true; the input reads as it did. -/
def fnLogBegunSpec : ChangeSpec := { name := "fnLogBegun", fn := fun _ => fun
  | [d1, d2] => { results := [.lit (.bool true)], args := [d1, d2] }
  | _ => none }
def fnLogBegunRow : OpenClaim := { program := "ytgolgnbgomhknaagreat", sum := "0c440bb4aacd207a681dcdc6d35c8e46d77baad3b0e1d090a1861060f64d959b", func := "loop.example/guildway/laws.FnLogBegun", spec := "fnLogBegun", unfollowed := true, recurses := true, apart := false }
def FnLogBegunSaid : Prop := fnLogBegunRow.holds Tryz.pinned (OpenSpec.ofChange fnLogBegunSpec)

/-- ITS FALSE NEIGHBOUR: 'it returns false'. Refute it at one input. -/
def fnLogBegunWrong : ChangeSpec := { name := "fnLogBegun", fn := fun _ => fun
  | [d1, d2] => { results := [.lit (.bool false)], args := [d1, d2] }
  | _ => none }
def FnLogBegunWrongFalsely : Prop := fnLogBegunRow.holds Tryz.pinned (OpenSpec.ofChange fnLogBegunWrong)

/-- 'laws.FnLogRun': WHATEVER THE INPUT: true; the input reads as it did. -/
def fnLogRunSpec : ChangeSpec := { name := "fnLogRun", fn := fun _ => fun
  | [d] => { results := [.lit (.bool true)], args := [d] }
  | _ => none }
def fnLogRunRow : OpenClaim := { program := "ytgolgnbgomhknaagreat", sum := "0c440bb4aacd207a681dcdc6d35c8e46d77baad3b0e1d090a1861060f64d959b", func := "loop.example/guildway/laws.FnLogRun", spec := "fnLogRun", unfollowed := true, recurses := true, apart := false }
def FnLogRunSaid : Prop := fnLogRunRow.holds Tryz.pinned (OpenSpec.ofChange fnLogRunSpec)

/-- ITS FALSE NEIGHBOUR: 'it returns false'. Refute it at one input. -/
def fnLogRunWrong : ChangeSpec := { name := "fnLogRun", fn := fun _ => fun
  | [d] => { results := [.lit (.bool false)], args := [d] }
  | _ => none }
def FnLogRunWrongFalsely : Prop := fnLogRunRow.holds Tryz.pinned (OpenSpec.ofChange fnLogRunWrong)

/-- 'laws.FnLogAgain': WHATEVER THE INPUT: true; the input reads as it did. -/
def fnLogAgainSpec : ChangeSpec := { name := "fnLogAgain", fn := fun _ => fun
  | [d] => { results := [.lit (.bool true)], args := [d] }
  | _ => none }
def fnLogAgainRow : OpenClaim := { program := "ytgolgnbgomhknaagreat", sum := "0c440bb4aacd207a681dcdc6d35c8e46d77baad3b0e1d090a1861060f64d959b", func := "loop.example/guildway/laws.FnLogAgain", spec := "fnLogAgain", unfollowed := true, recurses := true, apart := false }
def FnLogAgainSaid : Prop := fnLogAgainRow.holds Tryz.pinned (OpenSpec.ofChange fnLogAgainSpec)

/-- ITS FALSE NEIGHBOUR: 'it returns false'. Refute it at one input. -/
def fnLogAgainWrong : ChangeSpec := { name := "fnLogAgain", fn := fun _ => fun
  | [d] => { results := [.lit (.bool false)], args := [d] }
  | _ => none }
def FnLogAgainWrongFalsely : Prop := fnLogAgainRow.holds Tryz.pinned (OpenSpec.ofChange fnLogAgainWrong)

/-- 'laws.FnLogHalf': WHATEVER THE INPUT: true; the input reads as it did. -/
def fnLogHalfSpec : ChangeSpec := { name := "fnLogHalf", fn := fun _ => fun
  | [d] => { results := [.lit (.bool true)], args := [d] }
  | _ => none }
def fnLogHalfRow : OpenClaim := { program := "ytgolgnbgomhknaagreat", sum := "0c440bb4aacd207a681dcdc6d35c8e46d77baad3b0e1d090a1861060f64d959b", func := "loop.example/guildway/laws.FnLogHalf", spec := "fnLogHalf", unfollowed := true, recurses := true, apart := false }
def FnLogHalfSaid : Prop := fnLogHalfRow.holds Tryz.pinned (OpenSpec.ofChange fnLogHalfSpec)

/-- ITS FALSE NEIGHBOUR: 'it returns false'. Refute it at one input. -/
def fnLogHalfWrong : ChangeSpec := { name := "fnLogHalf", fn := fun _ => fun
  | [d] => { results := [.lit (.bool false)], args := [d] }
  | _ => none }
def FnLogHalfWrongFalsely : Prop := fnLogHalfRow.holds Tryz.pinned (OpenSpec.ofChange fnLogHalfWrong)

/-- 'laws.FnCasEyes': WHATEVER THE INPUT: true; the input reads as it did. -/
def fnCasEyesSpec : ChangeSpec := { name := "fnCasEyes", fn := fun _ => fun
  | [d] => { results := [.lit (.bool true)], args := [d] }
  | _ => none }
def fnCasEyesRow : OpenClaim := { program := "ytgolgnbgomhknaagreat", sum := "0c440bb4aacd207a681dcdc6d35c8e46d77baad3b0e1d090a1861060f64d959b", func := "loop.example/guildway/laws.FnCasEyes", spec := "fnCasEyes", unfollowed := true, recurses := true, apart := false }
def FnCasEyesSaid : Prop := fnCasEyesRow.holds Tryz.pinned (OpenSpec.ofChange fnCasEyesSpec)

/-- ITS FALSE NEIGHBOUR: 'it returns false'. Refute it at one input. -/
def fnCasEyesWrong : ChangeSpec := { name := "fnCasEyes", fn := fun _ => fun
  | [d] => { results := [.lit (.bool false)], args := [d] }
  | _ => none }
def FnCasEyesWrongFalsely : Prop := fnCasEyesRow.holds Tryz.pinned (OpenSpec.ofChange fnCasEyesWrong)

/-- 'laws.FnLogFold': WHATEVER THE INPUT: true; the input reads as it did. -/
def fnLogFoldSpec : ChangeSpec := { name := "fnLogFold", fn := fun _ => fun
  | [d1, d2] => { results := [.lit (.bool true)], args := [d1, d2] }
  | _ => none }
def fnLogFoldRow : OpenClaim := { program := "ytgolgnbgomhknaagreat", sum := "0c440bb4aacd207a681dcdc6d35c8e46d77baad3b0e1d090a1861060f64d959b", func := "loop.example/guildway/laws.FnLogFold", spec := "fnLogFold", unfollowed := true, recurses := true, apart := false }
def FnLogFoldSaid : Prop := fnLogFoldRow.holds Tryz.pinned (OpenSpec.ofChange fnLogFoldSpec)

/-- ITS FALSE NEIGHBOUR: 'it returns false'. Refute it at one input. -/
def fnLogFoldWrong : ChangeSpec := { name := "fnLogFold", fn := fun _ => fun
  | [d1, d2] => { results := [.lit (.bool false)], args := [d1, d2] }
  | _ => none }
def FnLogFoldWrongFalsely : Prop := fnLogFoldRow.holds Tryz.pinned (OpenSpec.ofChange fnLogFoldWrong)

/- THE SECOND FORM. 'bulk': how many values and letters a reading holds, each counted each time it is reached (what is shared counts as often as it is met; a slice's spare places count too). A statement '..UptoSaid' is the law's where the arguments, and the package variables that the reading takes, are together of bulk at most 1048576: NARROWER than '..Said'. Prove '..Said' where nothing that the law and all that it calls make is longer than what came in: it says more and counts as full. Else prove '..UptoSaid'. A law counts once. -/
mutual
def uptoBulk {H : Type} : DataW H → Nat
  | .lit (.string bytes) => bytes.length + 1
  | .lit _ => 1
  | .nil => 1
  | .ptr d => uptoBulk d + 1
  | .slice elems spare => uptoBulkAll elems + uptoBulkAll spare + 1
  | .agg parts => uptoBulkAll parts + 1
  | .iface _ d => uptoBulk d + 1
  | .map entries => uptoBulkEntries entries + 1
  | .held _ => 1
def uptoBulkAll {H : Type} : List (DataW H) → Nat
  | [] => 0
  | d :: r => uptoBulk d + uptoBulkAll r
def uptoBulkEntries {H : Type} : List (Lit × DataW H) → Nat
  | [] => 0
  | x :: r => uptoBulkEntry x + uptoBulkEntries r
def uptoBulkEntry {H : Type} : Lit × DataW H → Nat
  | (.string bytes, d) => bytes.length + uptoBulk d + 1
  | (_, d) => uptoBulk d + 1
 end
def uptoSmall : (H : Type) → List (DataW H) → Bool := fun _ ds => decide (uptoBulkAll ds ≤ 1048576)
def OpenSpec.upto (s : _root_.Go.ChangeSpec) : _root_.Go.OpenSpec := { _root_.Go.OpenSpec.ofChange s with cond := some uptoSmall }

/-- 'laws.FnCasStop', WHERE WHAT IT READS IS OF BULK AT MOST 1048576: true; the input reads as it did. -/
def fnCasStopUptoRow : OpenClaim := { program := "ytgolgnbgomhknaagreat", sum := "0c440bb4aacd207a681dcdc6d35c8e46d77baad3b0e1d090a1861060f64d959b", func := "loop.example/guildway/laws.FnCasStop", spec := "fnCasStop", unfollowed := true, recurses := true, apart := false, narrowed := true }
def FnCasStopUptoSaid : Prop := fnCasStopUptoRow.holds Tryz.pinned (OpenSpec.upto fnCasStopSpec)

/-- 'laws.FnCasStart', WHERE WHAT IT READS IS OF BULK AT MOST 1048576: true; the input reads as it did. -/
def fnCasStartUptoRow : OpenClaim := { program := "ytgolgnbgomhknaagreat", sum := "0c440bb4aacd207a681dcdc6d35c8e46d77baad3b0e1d090a1861060f64d959b", func := "loop.example/guildway/laws.FnCasStart", spec := "fnCasStart", unfollowed := true, recurses := true, apart := false, narrowed := true }
def FnCasStartUptoSaid : Prop := fnCasStartUptoRow.holds Tryz.pinned (OpenSpec.upto fnCasStartSpec)

/-- 'laws.FnCasStuck', WHERE WHAT IT READS IS OF BULK AT MOST 1048576: true; the input reads as it did. -/
def fnCasStuckUptoRow : OpenClaim := { program := "ytgolgnbgomhknaagreat", sum := "0c440bb4aacd207a681dcdc6d35c8e46d77baad3b0e1d090a1861060f64d959b", func := "loop.example/guildway/laws.FnCasStuck", spec := "fnCasStuck", unfollowed := true, recurses := true, apart := false, narrowed := true }
def FnCasStuckUptoSaid : Prop := fnCasStuckUptoRow.holds Tryz.pinned (OpenSpec.upto fnCasStuckSpec)

/-- 'laws.FnDrvNext', WHERE WHAT IT READS IS OF BULK AT MOST 1048576: true; the input reads as it did. -/
def fnDrvNextUptoRow : OpenClaim := { program := "ytgolgnbgomhknaagreat", sum := "0c440bb4aacd207a681dcdc6d35c8e46d77baad3b0e1d090a1861060f64d959b", func := "loop.example/guildway/laws.FnDrvNext", spec := "fnDrvNext", unfollowed := true, recurses := true, apart := false, narrowed := true }
def FnDrvNextUptoSaid : Prop := fnDrvNextUptoRow.holds Tryz.pinned (OpenSpec.upto fnDrvNextSpec)

/-- 'laws.FnDrvRun', WHERE WHAT IT READS IS OF BULK AT MOST 1048576: true; the input reads as it did. -/
def fnDrvRunUptoRow : OpenClaim := { program := "ytgolgnbgomhknaagreat", sum := "0c440bb4aacd207a681dcdc6d35c8e46d77baad3b0e1d090a1861060f64d959b", func := "loop.example/guildway/laws.FnDrvRun", spec := "fnDrvRun", unfollowed := true, recurses := true, apart := false, narrowed := true }
def FnDrvRunUptoSaid : Prop := fnDrvRunUptoRow.holds Tryz.pinned (OpenSpec.upto fnDrvRunSpec)

/-- 'laws.FnEngOk', WHERE WHAT IT READS IS OF BULK AT MOST 1048576: true; the input reads as it did. -/
def fnEngOkUptoRow : OpenClaim := { program := "ytgolgnbgomhknaagreat", sum := "0c440bb4aacd207a681dcdc6d35c8e46d77baad3b0e1d090a1861060f64d959b", func := "loop.example/guildway/laws.FnEngOk", spec := "fnEngOk", unfollowed := true, recurses := true, apart := false, narrowed := true }
def FnEngOkUptoSaid : Prop := fnEngOkUptoRow.holds Tryz.pinned (OpenSpec.upto fnEngOkSpec)

/-- 'laws.FnEngStates', WHERE WHAT IT READS IS OF BULK AT MOST 1048576: true; the input reads as it did. -/
def fnEngStatesUptoRow : OpenClaim := { program := "ytgolgnbgomhknaagreat", sum := "0c440bb4aacd207a681dcdc6d35c8e46d77baad3b0e1d090a1861060f64d959b", func := "loop.example/guildway/laws.FnEngStates", spec := "fnEngStates", unfollowed := true, recurses := true, apart := false, narrowed := true }
def FnEngStatesUptoSaid : Prop := fnEngStatesUptoRow.holds Tryz.pinned (OpenSpec.upto fnEngStatesSpec)

/-- 'laws.FnEngApart', WHERE WHAT IT READS IS OF BULK AT MOST 1048576: true; the input reads as it did. -/
def fnEngApartUptoRow : OpenClaim := { program := "ytgolgnbgomhknaagreat", sum := "0c440bb4aacd207a681dcdc6d35c8e46d77baad3b0e1d090a1861060f64d959b", func := "loop.example/guildway/laws.FnEngApart", spec := "fnEngApart", unfollowed := true, recurses := true, apart := false, narrowed := true }
def FnEngApartUptoSaid : Prop := fnEngApartUptoRow.holds Tryz.pinned (OpenSpec.upto fnEngApartSpec)

/-- 'laws.FnEngBegin', WHERE WHAT IT READS IS OF BULK AT MOST 1048576: true; the input reads as it did. -/
def fnEngBeginUptoRow : OpenClaim := { program := "ytgolgnbgomhknaagreat", sum := "0c440bb4aacd207a681dcdc6d35c8e46d77baad3b0e1d090a1861060f64d959b", func := "loop.example/guildway/laws.FnEngBegin", spec := "fnEngBegin", unfollowed := true, recurses := true, apart := false, narrowed := true }
def FnEngBeginUptoSaid : Prop := fnEngBeginUptoRow.holds Tryz.pinned (OpenSpec.upto fnEngBeginSpec)

/-- 'laws.FnEngOrder', WHERE WHAT IT READS IS OF BULK AT MOST 1048576: true; the input reads as it did. -/
def fnEngOrderUptoRow : OpenClaim := { program := "ytgolgnbgomhknaagreat", sum := "0c440bb4aacd207a681dcdc6d35c8e46d77baad3b0e1d090a1861060f64d959b", func := "loop.example/guildway/laws.FnEngOrder", spec := "fnEngOrder", unfollowed := true, recurses := true, apart := false, narrowed := true }
def FnEngOrderUptoSaid : Prop := fnEngOrderUptoRow.holds Tryz.pinned (OpenSpec.upto fnEngOrderSpec)

/-- 'laws.FnEngRefused', WHERE WHAT IT READS IS OF BULK AT MOST 1048576: true; the input reads as it did. -/
def fnEngRefusedUptoRow : OpenClaim := { program := "ytgolgnbgomhknaagreat", sum := "0c440bb4aacd207a681dcdc6d35c8e46d77baad3b0e1d090a1861060f64d959b", func := "loop.example/guildway/laws.FnEngRefused", spec := "fnEngRefused", unfollowed := true, recurses := true, apart := false, narrowed := true }
def FnEngRefusedUptoSaid : Prop := fnEngRefusedUptoRow.holds Tryz.pinned (OpenSpec.upto fnEngRefusedSpec)

/-- 'laws.FnEngStays', WHERE WHAT IT READS IS OF BULK AT MOST 1048576: true; the input reads as it did. -/
def fnEngStaysUptoRow : OpenClaim := { program := "ytgolgnbgomhknaagreat", sum := "0c440bb4aacd207a681dcdc6d35c8e46d77baad3b0e1d090a1861060f64d959b", func := "loop.example/guildway/laws.FnEngStays", spec := "fnEngStays", unfollowed := true, recurses := true, apart := false, narrowed := true }
def FnEngStaysUptoSaid : Prop := fnEngStaysUptoRow.holds Tryz.pinned (OpenSpec.upto fnEngStaysSpec)

/-- 'laws.FnLogBegun', WHERE WHAT IT READS IS OF BULK AT MOST 1048576: true; the input reads as it did. -/
def fnLogBegunUptoRow : OpenClaim := { program := "ytgolgnbgomhknaagreat", sum := "0c440bb4aacd207a681dcdc6d35c8e46d77baad3b0e1d090a1861060f64d959b", func := "loop.example/guildway/laws.FnLogBegun", spec := "fnLogBegun", unfollowed := true, recurses := true, apart := false, narrowed := true }
def FnLogBegunUptoSaid : Prop := fnLogBegunUptoRow.holds Tryz.pinned (OpenSpec.upto fnLogBegunSpec)

/-- 'laws.FnLogRun', WHERE WHAT IT READS IS OF BULK AT MOST 1048576: true; the input reads as it did. -/
def fnLogRunUptoRow : OpenClaim := { program := "ytgolgnbgomhknaagreat", sum := "0c440bb4aacd207a681dcdc6d35c8e46d77baad3b0e1d090a1861060f64d959b", func := "loop.example/guildway/laws.FnLogRun", spec := "fnLogRun", unfollowed := true, recurses := true, apart := false, narrowed := true }
def FnLogRunUptoSaid : Prop := fnLogRunUptoRow.holds Tryz.pinned (OpenSpec.upto fnLogRunSpec)

/-- 'laws.FnLogAgain', WHERE WHAT IT READS IS OF BULK AT MOST 1048576: true; the input reads as it did. -/
def fnLogAgainUptoRow : OpenClaim := { program := "ytgolgnbgomhknaagreat", sum := "0c440bb4aacd207a681dcdc6d35c8e46d77baad3b0e1d090a1861060f64d959b", func := "loop.example/guildway/laws.FnLogAgain", spec := "fnLogAgain", unfollowed := true, recurses := true, apart := false, narrowed := true }
def FnLogAgainUptoSaid : Prop := fnLogAgainUptoRow.holds Tryz.pinned (OpenSpec.upto fnLogAgainSpec)

/-- 'laws.FnLogHalf', WHERE WHAT IT READS IS OF BULK AT MOST 1048576: true; the input reads as it did. -/
def fnLogHalfUptoRow : OpenClaim := { program := "ytgolgnbgomhknaagreat", sum := "0c440bb4aacd207a681dcdc6d35c8e46d77baad3b0e1d090a1861060f64d959b", func := "loop.example/guildway/laws.FnLogHalf", spec := "fnLogHalf", unfollowed := true, recurses := true, apart := false, narrowed := true }
def FnLogHalfUptoSaid : Prop := fnLogHalfUptoRow.holds Tryz.pinned (OpenSpec.upto fnLogHalfSpec)

/-- 'laws.FnCasEyes', WHERE WHAT IT READS IS OF BULK AT MOST 1048576: true; the input reads as it did. -/
def fnCasEyesUptoRow : OpenClaim := { program := "ytgolgnbgomhknaagreat", sum := "0c440bb4aacd207a681dcdc6d35c8e46d77baad3b0e1d090a1861060f64d959b", func := "loop.example/guildway/laws.FnCasEyes", spec := "fnCasEyes", unfollowed := true, recurses := true, apart := false, narrowed := true }
def FnCasEyesUptoSaid : Prop := fnCasEyesUptoRow.holds Tryz.pinned (OpenSpec.upto fnCasEyesSpec)

/-- 'laws.FnLogFold', WHERE WHAT IT READS IS OF BULK AT MOST 1048576: true; the input reads as it did. -/
def fnLogFoldUptoRow : OpenClaim := { program := "ytgolgnbgomhknaagreat", sum := "0c440bb4aacd207a681dcdc6d35c8e46d77baad3b0e1d090a1861060f64d959b", func := "loop.example/guildway/laws.FnLogFold", spec := "fnLogFold", unfollowed := true, recurses := true, apart := false, narrowed := true }
def FnLogFoldUptoSaid : Prop := fnLogFoldUptoRow.holds Tryz.pinned (OpenSpec.upto fnLogFoldSpec)

end Rows
end Go.Proofs.YtgolgnbgomhknaaGreat
