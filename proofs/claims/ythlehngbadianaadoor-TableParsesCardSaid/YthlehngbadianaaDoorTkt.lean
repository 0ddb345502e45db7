/- What the functions of the program do, each once: contracts of the logic (part kt). -/
import Derived.Test.YthlehngbadianaaDoorOwWeakNil
set_option linter.unusedVariables false
set_option linter.unusedSimpArgs false
set_option linter.unnecessarySimpa false
set_option maxRecDepth 100000
namespace Go.Proofs.YthlehngbadianaaDoor.Ow.Kt
open Go Go.RowKit Go.Proofs
/-! Texts as lists of bytes. -/
def bsS (s : ByteArray) : List UInt8 := s.data.toList
theorem ba_list (s : ByteArray) : (⟨(bsS s).toArray⟩ : ByteArray) = s := by
  apply ByteArray.ext; simp [bsS]
theorem bs_mk (l : List UInt8) : bsS ⟨l.toArray⟩ = l := by simp [bsS]
theorem bs_app (a b : ByteArray) : bsS (a ++ b) = bsS a ++ bsS b := by
  unfold bsS; rw [ByteArray.data_append, Array.toList_append]
theorem bs_len (a : ByteArray) : (bsS a).length = a.size := Array.length_toList
theorem ba_ext {a : ByteArray} {l : List UInt8} (h : bsS a = l) : a = ⟨l.toArray⟩ := by rw [← h, ba_list]
theorem szl (l : List UInt8) : (⟨l.toArray⟩ : ByteArray).size = l.length := rfl
theorem cat_if {a b : ByteArray} (h : a.size + b.size ≤ 1000000) : (if IntKind.i64.max < ((a.size + b.size : Nat) : Int) then none else some (Value.string (a ++ b))) = some (Value.string (a ++ b)) := by
  have m : IntKind.i64.max = 9223372036854775807 := rfl
  rw [if_neg (by rw [m]; omega)]
theorem catL {a : List UInt8} {s : ByteArray} (h : a.length + (bsS s).length ≤ 1000000) : (if IntKind.i64.max < (((⟨a.toArray⟩ : ByteArray).size + s.size : Nat) : Int) then none else some (Value.string ((⟨a.toArray⟩ : ByteArray) ++ s))) = some (Value.string ⟨(a ++ bsS s).toArray⟩) := by
  rw [cat_if (by rw [szl, ← bs_len s]; exact h)]
  rw [ba_ext (show bsS ((⟨a.toArray⟩ : ByteArray) ++ s) = a ++ bsS s by rw [bs_app, bs_mk])]
end Go.Proofs.YthlehngbadianaaDoor.Ow.Kt
