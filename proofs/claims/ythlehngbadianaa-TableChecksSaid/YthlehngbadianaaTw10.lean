/- What the functions of the program do, each once: contracts of the logic (part w10). -/
import Derived.Test.YthlehngbadianaaRows
import Derived.WalkKit
import Derived.ProofKit
set_option linter.unusedVariables false
set_option linter.unusedSimpArgs false
set_option linter.unnecessarySimpa false
set_option maxRecDepth 100000
namespace Go.Proofs.Ythlehngbadianaa
open Go.RowKit
theorem tc1 : (Rows.tableChecksRow.inPlace == Try.prog.inPlace 10) = true := by kernel_rfl
theorem tc2 : (Rows.tableChecksRow.unfollowed == Try.prog.unfollowed 10) = true := by kernel_rfl
theorem tc3 : (Rows.tableChecksRow.recurses == Try.prog.recurses 10) = true := by kernel_rfl
theorem tc4 : (Rows.tableChecksRow.named == Try.prog.varsNamed 10) = true := by kernel_rfl
theorem tcAll : joinedFacts Try.prog 10 Try.f10 Rows.tableChecksSpec Rows.tableChecksRow = true := by
  unfold joinedFacts
  rw [tc1, tc2, tc3, tc4]
  kernel_rfl
end Go.Proofs.Ythlehngbadianaa
