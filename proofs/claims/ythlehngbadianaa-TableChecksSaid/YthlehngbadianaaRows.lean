/-
  No cell of these rows narrows 'for every input' (looked for: loops, veiled, ifaces, maps, wideKeys, modest, calm, conditions, laid).
  DERIVED. THE GIVEN ROWS OF THIS SEAT. 10 by the template 'for every input the law returns true; each argument reads behind the call as it read before'; 0 by the template 'total and deterministic' (their statements: YthlehngbadianaaTotals.lean).
  GIVEN WITH THE SEED: the statements are not yours to turn. If you find one false, say at which input.
  Laid BY PROGRAM, IN A SANDBOX (cutbox-rows.mjs): the forced cells as the released guide's own fill.sh prints them over the translation 0424af40e2335bc0… (all of the seat's roots in one cut). By AI agents, Wed Nov 11 2026. No macro, syntax, notation, axiom, sorry.
-/
import Derived.Test.YthlehngbadianaaChecked
import GoSem.Claim
import GoSem.ClaimJoined
import GoSem.ClaimMapViews
import Derived.JoinedTies
import Derived.KernelRfl
namespace Go.Proofs.Ythlehngbadianaa
/- THE CELL 'sum', in the pinned program and in every row, IS THE sha256 OF THE DUMP (.gsa) THAT YthlehngbadianaaProg.lean LOADS. Nothing in Lean hashes anything: it is a label: what it is worth is what the hold of that sum in a sandbox is worth. -/
noncomputable def Try.pinned : Pinned := { name := "ythlehngbadianaa", sum := "0424af40e2335bc0b3b6fe482f976bce8530170acc9cf64751e194d89d4f21f0", checked := Try.checked }
namespace Rows
def none {H : Type} : Left H := { results := [], args := [] }

/-- 'watershedlaw20.BusDoes': WHATEVER THE INPUT: true; the input reads as it did. -/
def busDoesSpec : ChangeSpec := { name := "busDoes", fn := fun _ => fun
  | [d1, d2] => { results := [.lit (.bool true)], args := [d1, d2] }
  | _ => none }
def busDoesRow : OpenClaim := { program := "ythlehngbadianaa", sum := "0424af40e2335bc0b3b6fe482f976bce8530170acc9cf64751e194d89d4f21f0", func := "watershed/watershedlaw20.BusDoes", spec := "busDoes", plainKeys := false, apart := false }
def BusDoesSaid : Prop := busDoesRow.holds Try.pinned (OpenSpec.ofChange busDoesSpec)

/-- ITS FALSE NEIGHBOUR: 'it returns false'. Refute it at one input. -/
def busDoesWrong : ChangeSpec := { name := "busDoes", fn := fun _ => fun
  | [d1, d2] => { results := [.lit (.bool false)], args := [d1, d2] }
  | _ => none }
def BusDoesWrongFalsely : Prop := busDoesRow.holds Try.pinned (OpenSpec.ofChange busDoesWrong)

/-- 'watershedlaw20.BusOrder': WHATEVER THE INPUT: true; the input reads as it did. -/
def busOrderSpec : ChangeSpec := { name := "busOrder", fn := fun _ => fun
  | [d1, d2] => { results := [.lit (.bool true)], args := [d1, d2] }
  | _ => none }
def busOrderRow : OpenClaim := { program := "ythlehngbadianaa", sum := "0424af40e2335bc0b3b6fe482f976bce8530170acc9cf64751e194d89d4f21f0", func := "watershed/watershedlaw20.BusOrder", spec := "busOrder", plainKeys := false, apart := false }
def BusOrderSaid : Prop := busOrderRow.holds Try.pinned (OpenSpec.ofChange busOrderSpec)

/-- ITS FALSE NEIGHBOUR: 'it returns false'. Refute it at one input. -/
def busOrderWrong : ChangeSpec := { name := "busOrder", fn := fun _ => fun
  | [d1, d2] => { results := [.lit (.bool false)], args := [d1, d2] }
  | _ => none }
def BusOrderWrongFalsely : Prop := busOrderRow.holds Try.pinned (OpenSpec.ofChange busOrderWrong)

/-- 'watershedlaw20.BusAll': WHATEVER THE INPUT: true; the input reads as it did. -/
def busAllSpec : ChangeSpec := { name := "busAll", fn := fun _ => fun
  | [d1, d2, d3, d4] => { results := [.lit (.bool true)], args := [d1, d2, d3, d4] }
  | _ => none }
def busAllRow : OpenClaim := { program := "ythlehngbadianaa", sum := "0424af40e2335bc0b3b6fe482f976bce8530170acc9cf64751e194d89d4f21f0", func := "watershed/watershedlaw20.BusAll", spec := "busAll", plainKeys := false, apart := false }
def BusAllSaid : Prop := busAllRow.holds Try.pinned (OpenSpec.ofChange busAllSpec)

/-- ITS FALSE NEIGHBOUR: 'it returns false'. Refute it at one input. -/
def busAllWrong : ChangeSpec := { name := "busAll", fn := fun _ => fun
  | [d1, d2, d3, d4] => { results := [.lit (.bool false)], args := [d1, d2, d3, d4] }
  | _ => none }
def BusAllWrongFalsely : Prop := busAllRow.holds Try.pinned (OpenSpec.ofChange busAllWrong)

/-- 'watershedlaw11.DataBytes': WHATEVER THE INPUT: true; the input reads as it did. -/
def dataBytesSpec : ChangeSpec := { name := "dataBytes", fn := fun _ => fun
  | [d1, d2] => { results := [.lit (.bool true)], args := [d1, d2] }
  | _ => none }
def dataBytesRow : OpenClaim := { program := "ythlehngbadianaa", sum := "0424af40e2335bc0b3b6fe482f976bce8530170acc9cf64751e194d89d4f21f0", func := "watershed/watershedlaw11.DataBytes", spec := "dataBytes", inPlace := ["internal/abi.NoEscape"], plainKeys := false, apart := false }
def DataBytesSaid : Prop := dataBytesRow.holds Try.pinned (OpenSpec.ofChange dataBytesSpec)

/-- ITS FALSE NEIGHBOUR: 'it returns false'. Refute it at one input. -/
def dataBytesWrong : ChangeSpec := { name := "dataBytes", fn := fun _ => fun
  | [d1, d2] => { results := [.lit (.bool false)], args := [d1, d2] }
  | _ => none }
def DataBytesWrongFalsely : Prop := dataBytesRow.holds Try.pinned (OpenSpec.ofChange dataBytesWrong)

/-- 'watershedlaw09.GraphPlaces': WHATEVER THE INPUT: true; the input reads as it did. -/
def graphPlacesSpec : ChangeSpec := { name := "graphPlaces", fn := fun _ => fun
  | [d1, d2, d3] => { results := [.lit (.bool true)], args := [d1, d2, d3] }
  | _ => none }
def graphPlacesRow : OpenClaim := { program := "ythlehngbadianaa", sum := "0424af40e2335bc0b3b6fe482f976bce8530170acc9cf64751e194d89d4f21f0", func := "watershed/watershedlaw09.GraphPlaces", spec := "graphPlaces", unfollowed := true, recurses := true, plainKeys := false, apart := false }
def GraphPlacesSaid : Prop := graphPlacesRow.holds Try.pinned (OpenSpec.ofChange graphPlacesSpec)

/-- ITS FALSE NEIGHBOUR: 'it returns false'. Refute it at one input. -/
def graphPlacesWrong : ChangeSpec := { name := "graphPlaces", fn := fun _ => fun
  | [d1, d2, d3] => { results := [.lit (.bool false)], args := [d1, d2, d3] }
  | _ => none }
def GraphPlacesWrongFalsely : Prop := graphPlacesRow.holds Try.pinned (OpenSpec.ofChange graphPlacesWrong)

/-- 'watershedlaw21.CountCuts': WHATEVER THE INPUT: true; the input reads as it did. -/
def countCutsSpec : ChangeSpec := { name := "countCuts", fn := fun _ => fun
  | [d1, d2, d3] => { results := [.lit (.bool true)], args := [d1, d2, d3] }
  | _ => none }
def countCutsRow : OpenClaim := { program := "ythlehngbadianaa", sum := "0424af40e2335bc0b3b6fe482f976bce8530170acc9cf64751e194d89d4f21f0", func := "watershed/watershedlaw21.CountCuts", spec := "countCuts", unfollowed := true, recurses := true, plainKeys := false, apart := false }
def CountCutsSaid : Prop := countCutsRow.holds Try.pinned (OpenSpec.ofChange countCutsSpec)

/-- ITS FALSE NEIGHBOUR: 'it returns false'. Refute it at one input. -/
def countCutsWrong : ChangeSpec := { name := "countCuts", fn := fun _ => fun
  | [d1, d2, d3] => { results := [.lit (.bool false)], args := [d1, d2, d3] }
  | _ => none }
def CountCutsWrongFalsely : Prop := countCutsRow.holds Try.pinned (OpenSpec.ofChange countCutsWrong)

/-- 'watershedlaw09.GraphChecks': WHATEVER THE INPUT: true; the input reads as it did. -/
def graphChecksSpec : ChangeSpec := { name := "graphChecks", fn := fun _ => fun
  | [d] => { results := [.lit (.bool true)], args := [d] }
  | _ => none }
def graphChecksRow : OpenClaim := { program := "ythlehngbadianaa", sum := "0424af40e2335bc0b3b6fe482f976bce8530170acc9cf64751e194d89d4f21f0", func := "watershed/watershedlaw09.GraphChecks", spec := "graphChecks", inPlace := ["internal/abi.NoEscape", "internal/bytealg.MakeNoZero"], unfollowed := true, recurses := true, plainKeys := false, apart := false }
def GraphChecksSaid : Prop := graphChecksRow.holds Try.pinned (OpenSpec.ofChange graphChecksSpec)

/-- ITS FALSE NEIGHBOUR: 'it returns false'. Refute it at one input. -/
def graphChecksWrong : ChangeSpec := { name := "graphChecks", fn := fun _ => fun
  | [d] => { results := [.lit (.bool false)], args := [d] }
  | _ => none }
def GraphChecksWrongFalsely : Prop := graphChecksRow.holds Try.pinned (OpenSpec.ofChange graphChecksWrong)

/-- 'watershedlaw18.TableChecks': WHATEVER THE INPUT: true; the input reads as it did. -/
def tableChecksSpec : ChangeSpec := { name := "tableChecks", fn := fun _ => fun
  | [d1, d2, d3, d4, d5] => { results := [.lit (.bool true)], args := [d1, d2, d3, d4, d5] }
  | _ => none }
def tableChecksRow : OpenClaim := { program := "ythlehngbadianaa", sum := "0424af40e2335bc0b3b6fe482f976bce8530170acc9cf64751e194d89d4f21f0", func := "watershed/watershedlaw18.TableChecks", spec := "tableChecks", inPlace := ["internal/abi.NoEscape", "internal/bytealg.MakeNoZero"], unfollowed := true, recurses := true, plainKeys := false, apart := false }
def TableChecksSaid : Prop := tableChecksRow.holds Try.pinned (OpenSpec.ofChange tableChecksSpec)

/-- ITS FALSE NEIGHBOUR: 'it returns false'. Refute it at one input. -/
def tableChecksWrong : ChangeSpec := { name := "tableChecks", fn := fun _ => fun
  | [d1, d2, d3, d4, d5] => { results := [.lit (.bool false)], args := [d1, d2, d3, d4, d5] }
  | _ => none }
def TableChecksWrongFalsely : Prop := tableChecksRow.holds Try.pinned (OpenSpec.ofChange tableChecksWrong)

/-- 'watershedlaw11.DataOrders': WHATEVER THE INPUT: true; the input reads as it did. -/
def dataOrdersSpec : ChangeSpec := { name := "dataOrders", fn := fun _ => fun
  | [d1, d2, d3] => { results := [.lit (.bool true)], args := [d1, d2, d3] }
  | _ => none }
def dataOrdersRow : OpenClaim := { program := "ythlehngbadianaa", sum := "0424af40e2335bc0b3b6fe482f976bce8530170acc9cf64751e194d89d4f21f0", func := "watershed/watershedlaw11.DataOrders", spec := "dataOrders", unfollowed := true, recurses := true, plainKeys := false, apart := false }
def DataOrdersSaid : Prop := dataOrdersRow.holds Try.pinned (OpenSpec.ofChange dataOrdersSpec)

/-- ITS FALSE NEIGHBOUR: 'it returns false'. Refute it at one input. -/
def dataOrdersWrong : ChangeSpec := { name := "dataOrders", fn := fun _ => fun
  | [d1, d2, d3] => { results := [.lit (.bool false)], args := [d1, d2, d3] }
  | _ => none }
def DataOrdersWrongFalsely : Prop := dataOrdersRow.holds Try.pinned (OpenSpec.ofChange dataOrdersWrong)

/-- 'watershedlaw21.CountFolds': WHATEVER THE INPUT: true; the input reads as it did. -/
def countFoldsSpec : ChangeSpec := { name := "countFolds", fn := fun _ => fun
  | [d1, d2] => { results := [.lit (.bool true)], args := [d1, d2] }
  | _ => none }
def countFoldsRow : OpenClaim := { program := "ythlehngbadianaa", sum := "0424af40e2335bc0b3b6fe482f976bce8530170acc9cf64751e194d89d4f21f0", func := "watershed/watershedlaw21.CountFolds", spec := "countFolds", unfollowed := true, recurses := true, plainKeys := false, apart := false }
def CountFoldsSaid : Prop := countFoldsRow.holds Try.pinned (OpenSpec.ofChange countFoldsSpec)

/-- ITS FALSE NEIGHBOUR: 'it returns false'. Refute it at one input. -/
def countFoldsWrong : ChangeSpec := { name := "countFolds", fn := fun _ => fun
  | [d1, d2] => { results := [.lit (.bool false)], args := [d1, d2] }
  | _ => none }
def CountFoldsWrongFalsely : Prop := countFoldsRow.holds Try.pinned (OpenSpec.ofChange countFoldsWrong)

/- THE SECOND FORM. 'bulk': how many values and letters a reading holds, each counted each time it is reached (what is shared counts as often as it is met; a slice's spare places count too). A statement '..UptoSaid' is the law's where the arguments, and the package variables that the reading takes, are together of bulk at most 1048576: NARROWER than '..Said'. Prove '..Said' where nothing that the law and all that it calls make is longer than what came in: it says more and counts as full. Else prove '..UptoSaid'. A law counts once. -/
mutual
def uptoBulk {H : Type} : DataW H → Nat
  | .lit (.string bytes) => bytes.length + 1
  | .lit _ => 1
  | .nil => 1
  | .ptr d => uptoBulk d + 1
  | .slice elems spare => uptoBulkAll elems + uptoBulkAll spare + 1
  | .agg parts => uptoBulkAll parts + 1
  | .iface _ d => uptoBulk d + 1
  | .map entries => uptoBulkEntries entries + 1
  | .held _ => 1
def uptoBulkAll {H : Type} : List (DataW H) → Nat
  | [] => 0
  | d :: r => uptoBulk d + uptoBulkAll r
def uptoBulkEntries {H : Type} : List (Lit × DataW H) → Nat
  | [] => 0
  | x :: r => uptoBulkEntry x + uptoBulkEntries r
def uptoBulkEntry {H : Type} : Lit × DataW H → Nat
  | (.string bytes, d) => bytes.length + uptoBulk d + 1
  | (_, d) => uptoBulk d + 1
 end
def uptoSmall : (H : Type) → List (DataW H) → Bool := fun _ ds => decide (uptoBulkAll ds ≤ 1048576)
def OpenSpec.upto (s : _root_.Go.ChangeSpec) : _root_.Go.OpenSpec := { _root_.Go.OpenSpec.ofChange s with cond := some uptoSmall }

/-- 'watershedlaw20.BusDoes', WHERE WHAT IT READS IS OF BULK AT MOST 1048576: true; the input reads as it did. -/
def busDoesUptoRow : OpenClaim := { program := "ythlehngbadianaa", sum := "0424af40e2335bc0b3b6fe482f976bce8530170acc9cf64751e194d89d4f21f0", func := "watershed/watershedlaw20.BusDoes", spec := "busDoes", plainKeys := false, apart := false, narrowed := true }
def BusDoesUptoSaid : Prop := busDoesUptoRow.holds Try.pinned (OpenSpec.upto busDoesSpec)

/-- 'watershedlaw20.BusOrder', WHERE WHAT IT READS IS OF BULK AT MOST 1048576: true; the input reads as it did. -/
def busOrderUptoRow : OpenClaim := { program := "ythlehngbadianaa", sum := "0424af40e2335bc0b3b6fe482f976bce8530170acc9cf64751e194d89d4f21f0", func := "watershed/watershedlaw20.BusOrder", spec := "busOrder", plainKeys := false, apart := false, narrowed := true }
def BusOrderUptoSaid : Prop := busOrderUptoRow.holds Try.pinned (OpenSpec.upto busOrderSpec)

/-- 'watershedlaw20.BusAll', WHERE WHAT IT READS IS OF BULK AT MOST 1048576: true; the input reads as it did. -/
def busAllUptoRow : OpenClaim := { program := "ythlehngbadianaa", sum := "0424af40e2335bc0b3b6fe482f976bce8530170acc9cf64751e194d89d4f21f0", func := "watershed/watershedlaw20.BusAll", spec := "busAll", plainKeys := false, apart := false, narrowed := true }
def BusAllUptoSaid : Prop := busAllUptoRow.holds Try.pinned (OpenSpec.upto busAllSpec)

/-- 'watershedlaw11.DataBytes', WHERE WHAT IT READS IS OF BULK AT MOST 1048576: true; the input reads as it did. -/
def dataBytesUptoRow : OpenClaim := { program := "ythlehngbadianaa", sum := "0424af40e2335bc0b3b6fe482f976bce8530170acc9cf64751e194d89d4f21f0", func := "watershed/watershedlaw11.DataBytes", spec := "dataBytes", inPlace := ["internal/abi.NoEscape"], plainKeys := false, apart := false, narrowed := true }
def DataBytesUptoSaid : Prop := dataBytesUptoRow.holds Try.pinned (OpenSpec.upto dataBytesSpec)

/-- 'watershedlaw09.GraphPlaces', WHERE WHAT IT READS IS OF BULK AT MOST 1048576: true; the input reads as it did. -/
def graphPlacesUptoRow : OpenClaim := { program := "ythlehngbadianaa", sum := "0424af40e2335bc0b3b6fe482f976bce8530170acc9cf64751e194d89d4f21f0", func := "watershed/watershedlaw09.GraphPlaces", spec := "graphPlaces", unfollowed := true, recurses := true, plainKeys := false, apart := false, narrowed := true }
def GraphPlacesUptoSaid : Prop := graphPlacesUptoRow.holds Try.pinned (OpenSpec.upto graphPlacesSpec)

/-- 'watershedlaw21.CountCuts', WHERE WHAT IT READS IS OF BULK AT MOST 1048576: true; the input reads as it did. -/
def countCutsUptoRow : OpenClaim := { program := "ythlehngbadianaa", sum := "0424af40e2335bc0b3b6fe482f976bce8530170acc9cf64751e194d89d4f21f0", func := "watershed/watershedlaw21.CountCuts", spec := "countCuts", unfollowed := true, recurses := true, plainKeys := false, apart := false, narrowed := true }
def CountCutsUptoSaid : Prop := countCutsUptoRow.holds Try.pinned (OpenSpec.upto countCutsSpec)

/-- 'watershedlaw09.GraphChecks', WHERE WHAT IT READS IS OF BULK AT MOST 1048576: true; the input reads as it did. -/
def graphChecksUptoRow : OpenClaim := { program := "ythlehngbadianaa", sum := "0424af40e2335bc0b3b6fe482f976bce8530170acc9cf64751e194d89d4f21f0", func := "watershed/watershedlaw09.GraphChecks", spec := "graphChecks", inPlace := ["internal/abi.NoEscape", "internal/bytealg.MakeNoZero"], unfollowed := true, recurses := true, plainKeys := false, apart := false, narrowed := true }
def GraphChecksUptoSaid : Prop := graphChecksUptoRow.holds Try.pinned (OpenSpec.upto graphChecksSpec)

/-- 'watershedlaw18.TableChecks', WHERE WHAT IT READS IS OF BULK AT MOST 1048576: true; the input reads as it did. -/
def tableChecksUptoRow : OpenClaim := { program := "ythlehngbadianaa", sum := "0424af40e2335bc0b3b6fe482f976bce8530170acc9cf64751e194d89d4f21f0", func := "watershed/watershedlaw18.TableChecks", spec := "tableChecks", inPlace := ["internal/abi.NoEscape", "internal/bytealg.MakeNoZero"], unfollowed := true, recurses := true, plainKeys := false, apart := false, narrowed := true }
def TableChecksUptoSaid : Prop := tableChecksUptoRow.holds Try.pinned (OpenSpec.upto tableChecksSpec)

/-- 'watershedlaw11.DataOrders', WHERE WHAT IT READS IS OF BULK AT MOST 1048576: true; the input reads as it did. -/
def dataOrdersUptoRow : OpenClaim := { program := "ythlehngbadianaa", sum := "0424af40e2335bc0b3b6fe482f976bce8530170acc9cf64751e194d89d4f21f0", func := "watershed/watershedlaw11.DataOrders", spec := "dataOrders", unfollowed := true, recurses := true, plainKeys := false, apart := false, narrowed := true }
def DataOrdersUptoSaid : Prop := dataOrdersUptoRow.holds Try.pinned (OpenSpec.upto dataOrdersSpec)

/-- 'watershedlaw21.CountFolds', WHERE WHAT IT READS IS OF BULK AT MOST 1048576: true; the input reads as it did. -/
def countFoldsUptoRow : OpenClaim := { program := "ythlehngbadianaa", sum := "0424af40e2335bc0b3b6fe482f976bce8530170acc9cf64751e194d89d4f21f0", func := "watershed/watershedlaw21.CountFolds", spec := "countFolds", unfollowed := true, recurses := true, plainKeys := false, apart := false, narrowed := true }
def CountFoldsUptoSaid : Prop := countFoldsUptoRow.holds Try.pinned (OpenSpec.upto countFoldsSpec)

end Rows
end Go.Proofs.Ythlehngbadianaa
