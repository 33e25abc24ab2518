/- FnExactCasStop: the walk and the plain law joined. Own work. -/
import Derived.Test.YtcbpckbehdaloaaCsC3
import Derived.Test.YtcbpckbehdaloaaCsPCasStop
set_option linter.unusedSimpArgs false
set_option linter.unusedVariables false
set_option maxRecDepth 100000
namespace Go.Am.Pl
open Go Go.Proofs

theorem k_CasStop (n : GNet) (hn : GNet.lens (· ≤ 9223372036854775807) n) (c : GCase) (hc : GCase.lens (· ≤ 9223372036854775807) c) : FnP Try.prog 9 [.row (GNet.cells false n), .row (GCase.cells false c)] [.c (cB true)] :=
  c_laws_FnExactCasStop n c true (law_CasStop n c hn hc)

end Go.Am.Pl
