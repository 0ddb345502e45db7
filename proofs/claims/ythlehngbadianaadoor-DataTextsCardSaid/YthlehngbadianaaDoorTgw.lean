/- What the functions of the program do, each once: contracts of the logic (part gw). -/
import Derived.Test.YthlehngbadianaaDoorOwWeakNil
import Derived.Test.YthlehngbadianaaDoorProg
import Derived.WalkKit
import Derived.Lib.Strings
import Derived.Lib.Walk
import Derived.Laws.Externs
import Derived.Laws.RangeString
import Derived.Laws.RangeAny
import Derived.LoopTactic
import Derived.Lib.OthersKept
set_option linter.unusedVariables false
set_option linter.unusedSimpArgs false
set_option linter.unnecessarySimpa false
set_option maxRecDepth 100000
set_option maxHeartbeats 1000000
set_option pp.maxSteps 150
namespace Go.Proofs.YthlehngbadianaaDoor.Ow
open Go Go.RowKit Go.Proofs
section
variable {w : World} {b clock : Nat} {ents : Array MapEntry} {l : List ByteArray} {s : ByteArray}
end
end Go.Proofs.YthlehngbadianaaDoor.Ow
