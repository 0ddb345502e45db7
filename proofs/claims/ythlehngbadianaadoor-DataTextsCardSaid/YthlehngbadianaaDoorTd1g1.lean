/- What the functions of the program do, each once: contracts of the logic (part d1 g1). -/
import Derived.Test.YthlehngbadianaaDoorOwEvEv3
import Derived.Test.YthlehngbadianaaDoorProg
import Derived.Test.YthlehngbadianaaDoorTgw
set_option linter.unusedVariables false
set_option linter.unusedSimpArgs false
set_option linter.unnecessarySimpa false
set_option maxRecDepth 100000
set_option maxHeartbeats 4000000
namespace Go.Proofs.YthlehngbadianaaDoor.Ow
open Go Go.RowKit Go.Proofs
theorem hmix : Tryd.prog.follows .mixedOrders = true := by kernel_rfl
def u8A (b : UInt8) : AV := .v (.int .u8 b.toNat)
def bsA (l : List UInt8) : List AV := l.map u8A
def i64A (n : Int) : AV := .v (.int .i64 n)
def strV (l : List UInt8) : AV := .v (.string ⟨l.toArray⟩)
theorem byteV_u8A (b : UInt8) : byteV (u8A b) = some b := by
  have h : b.toNat < 256 := b.toNat_lt
  simp only [u8A, byteV]
  rw [if_pos (by omega)]
  simp
theorem mapM_bsA (l : List UInt8) : (bsA l).mapM byteV = some l := by
  induction l with
  | nil => rfl
  | cons b l ih => 
    simp only [bsA, List.map_cons, List.mapM_cons, byteV_u8A]
    simp only [bsA] at ih
    rw [ih]; rfl
theorem bsA_len (l : List UInt8) : (bsA l).length = l.length := by simp [bsA]
theorem ofNat_toNat {k : Nat} (h : k < 256) : (UInt8.ofNat k).toNat = k := by simp [UInt8.toNat_ofNat']; omega
theorem wrap_u8 (v : Nat) : IntKind.u8.wrap (v : Int) = ((v % 256 : Nat) : Int) := by simp [IntKind.wrap, IntKind.bits, IntKind.signed]
end Go.Proofs.YthlehngbadianaaDoor.Ow
set_option maxRecDepth 100000
set_option maxHeartbeats 4000000
namespace Go.Proofs.YthlehngbadianaaDoor.Ow
open Go Go.RowKit Go.Proofs
theorem beqT {a b : Int} (h : a = b) : (a == b) = true := by simpa using h
theorem beqF {a b : Int} (h : ¬ a = b) : (a == b) = false := by simpa using h
theorem wrI64 {x : Int} (h0 : -9223372036854775808 ≤ x) (h : x < 9223372036854775808) : IntKind.i64.wrap x = x := by
  simp only [IntKind.wrap, IntKind.bits, IntKind.signed]
  simp
  omega
/-! Graphs. -/
abbrev Cl := ByteArray × Int
abbrev Lo := ByteArray × Int × Int
structure O6 where
  nm : ByteArray
  k : Int
  lo : Int
  at_ : Int
  a : Int
  b : Int
abbrev Ch := Int × Int
structure Gr where
  cl : List Cl
  lo : List Lo
  op : List O6
  ch : List Ch
/-- The first N loops lie in loops ahead of them. -/
def WfL (lo : List Lo) (N : Nat) : Prop := ∀ k, k < N → ∃ l, lo[k]? = some l ∧ -1 ≤ l.2.1 ∧ l.2.1 < k
/- (watershed/graph.Graph).deep -/
/- watershed/watershedref09.Deep -/
end Go.Proofs.YthlehngbadianaaDoor.Ow
