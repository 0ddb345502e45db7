/- What the functions of the program do, each once: contracts of the logic (part d1 g1). -/
import Derived.Test.YthlehngbadianaaDoorOwEvEv3
import Derived.Test.YthlehngbadianaaDoorProg
import Derived.Test.YthlehngbadianaaDoorTgw
set_option linter.unusedVariables false
set_option linter.unusedSimpArgs false
set_option linter.unnecessarySimpa false
set_option maxRecDepth 100000
set_option maxHeartbeats 4000000
namespace Go.Proofs.YthlehngbadianaaDoor.Ow
open Go Go.RowKit Go.Proofs
theorem hmix : Tryd.prog.follows .mixedOrders = true := by kernel_rfl
def i64A (n : Int) : AV := .v (.int .i64 n)
def strV (l : List UInt8) : AV := .v (.string ⟨l.toArray⟩)
end Go.Proofs.YthlehngbadianaaDoor.Ow
set_option maxRecDepth 100000
set_option maxHeartbeats 4000000
namespace Go.Proofs.YthlehngbadianaaDoor.Ow
open Go Go.RowKit Go.Proofs
theorem beqT {a b : Int} (h : a = b) : (a == b) = true := by simpa using h
theorem beqF {a b : Int} (h : ¬ a = b) : (a == b) = false := by simpa using h
theorem bneT {a b : Int} (h : ¬ a = b) : (a != b) = true := by simpa using h
theorem bneF {a b : Int} (h : a = b) : (a != b) = false := by simpa using h
theorem wrI64 {x : Int} (h0 : -9223372036854775808 ≤ x) (h : x < 9223372036854775808) : IntKind.i64.wrap x = x := by
  simp only [IntKind.wrap, IntKind.bits, IntKind.signed]
  simp
  omega
/-! Graphs. -/
abbrev Cl := ByteArray × Int
abbrev Lo := ByteArray × Int × Int
structure O6 where
  nm : ByteArray
  k : Int
  lo : Int
  at_ : Int
  a : Int
  b : Int
abbrev Ch := Int × Int
structure Gr where
  cl : List Cl
  lo : List Lo
  op : List O6
  ch : List Ch
def clA (c : Cl) : AV := .agg [.v (.string c.1), .v (.int .i64 c.2)]
def loA (l : Lo) : AV := .agg [.v (.string l.1), .v (.int .i64 l.2.1), .v (.int .i64 l.2.2)]
def opA (o : O6) : AV := .agg [.v (.string o.nm), .v (.int .i64 o.k), .v (.int .i64 o.lo), .v (.int .i64 o.at_), .v (.int .i64 o.a), .v (.int .i64 o.b)]
def chA (c : Ch) : AV := .agg [.v (.int .i64 c.1), .v (.int .i64 c.2)]
def gA (g : Gr) : AV := .agg [.lst 2 (g.cl.map clA), .lst 3 (g.lo.map loA), .lst 6 (g.op.map opA), .lst 2 (g.ch.map chA)]
def upAt (lo : List Lo) (i : Int) : Int := match lo[i.toNat]? with | some l => l.2.1 | none => -1
/-- The first N loops lie in loops ahead of them. -/
def WfL (lo : List Lo) (N : Nat) : Prop := ∀ k, k < N → ∃ l, lo[k]? = some l ∧ -1 ≤ l.2.1 ∧ l.2.1 < k
/-- How deep a loop is. -/
def deepN (lo : List Lo) (i : Int) : Int := if h : 0 ≤ i then (if h2 : upAt lo i < i then 1 + deepN lo (upAt lo i) else 1) else 0
termination_by (i + 1).toNat
decreasing_by omega
theorem deepN_neg {lo : List Lo} {i : Int} (h : i < 0) : deepN lo i = 0 := by rw [deepN, dif_neg (by omega)]
theorem deepN_pos {lo : List Lo} {i : Int} (h : 0 ≤ i) (h2 : upAt lo i < i) : deepN lo i = 1 + deepN lo (upAt lo i) := by rw [deepN, dif_pos h, dif_pos h2]
theorem deepN_ge (lo : List Lo) : ∀ (k : Nat) (i : Int), i < k → 0 ≤ deepN lo i
  | 0, i, h => by rw [deepN_neg (by omega)]; omega
  | k + 1, i, h => by
    by_cases h0 : 0 ≤ i
    · by_cases h2 : upAt lo i < i
      · rw [deepN_pos h0 h2]; have := deepN_ge lo k (upAt lo i) (by omega); omega
      · rw [deepN, dif_pos h0, dif_neg h2]; omega
    · rw [deepN_neg (by omega)]; omega
theorem deepN_le (lo : List Lo) : ∀ (k : Nat) (i : Int), i < k → deepN lo i ≤ k
  | 0, i, h => by rw [deepN_neg (by omega)]; omega
  | k + 1, i, h => by
    by_cases h0 : 0 ≤ i
    · by_cases h2 : upAt lo i < i
      · rw [deepN_pos h0 h2]; have := deepN_le lo k (upAt lo i) (by omega); omega
      · rw [deepN, dif_pos h0, dif_neg h2]; omega
    · rw [deepN_neg (by omega)]; omega
/- (watershed/graph.Graph).deep -/
def cc127 : CC := (.seq (.region [⟨none, 2, (.box 0), [0], none, []⟩, ⟨none, 4, (.val (.mv (.c (.int .i64 0)))), [4], none, []⟩]) (.seq (.region [⟨none, 5, (.val (.mv (.c (.int .i64 0)))), [], none, []⟩]) (.seq (.block 0 (.loop (.seq (.seq (.region [⟨none, 6, (.val (.mv (.s 1))), [], none, []⟩, ⟨none, 7, (.val (.bin .geq (.s 6) (.c (.int .i64 0)))), [6], none, []⟩]) (.cond (.s 7) .skip (.exit 0))) (.seq (.block 1 (.region [⟨none, 14, (.val (.mv (.s 5))), [5, 7], none, []⟩, ⟨none, 15, (.val (.bin .add (.s 14) (.c (.int .i64 1)))), [14], none, []⟩, ⟨none, 5, (.val (.mv (.s 15))), [15], none, []⟩])) (.region [⟨none, 8, (.val (.fa (.s 2) 1)), [], none, []⟩, ⟨none, 9, (.val (.ld (.s 8) none)), [8], none, []⟩, ⟨none, 10, (.val (.mv (.s 1))), [1], none, []⟩, ⟨none, 11, (.val (.ia (.s 9) (.s 10) 3)), [9, 10], none, []⟩, ⟨none, 12, (.val (.fa (.s 11) 1)), [11], none, []⟩, ⟨none, 13, (.val (.ld (.s 12) none)), [12], none, []⟩, ⟨none, 1, (.val (.mv (.s 13))), [13], none, []⟩]))))) (.seq (.region [⟨none, 16, (.val (.mv (.s 5))), [1, 2, 5, 7], none, []⟩, ⟨none, 4, (.val (.mv (.s 16))), [16], none, []⟩]) .ret))))
theorem ok127 : FnOk Tryd.prog 67 cc127 [(.t 4)] 2 17 := ⟨⟨_, Tryd.func67, by kernel_rfl, by kernel_rfl, by kernel_rfl⟩, by decide, by decide⟩
/- watershed/watershedref09.Deep -/
def cc129 : CC := (.seq (.region [⟨none, 2, (.box 0), [0], none, []⟩, ⟨none, 4, (.val (.mv (.c (.int .i64 0)))), [4], none, []⟩]) (.seq (.region [⟨none, 5, (.val (.mv (.c (.int .i64 0)))), [], none, []⟩]) (.seq (.block 0 (.loop (.seq (.seq (.region [⟨none, 6, (.val (.mv (.s 1))), [], none, []⟩, ⟨none, 7, (.val (.bin .geq (.s 6) (.c (.int .i64 0)))), [6], none, []⟩, ⟨none, 8, (.val (.mv (.s 7))), [7], none, []⟩, ⟨(some (8, true)), 9, (.val (.mv (.s 5))), [], none, []⟩, ⟨(some (8, true)), 10, (.val (.bin .lss (.s 9) (.c (.int .i64 10)))), [], none, []⟩, ⟨none, 11, (.val (.pick (.s 8) (.s 10) (.c (.bool false)))), [8], none, []⟩]) (.cond (.s 11) .skip (.exit 0))) (.block 1 (.seq (.region [⟨none, 12, (.val (.mv (.s 5))), [5, 11], none, []⟩, ⟨none, 13, (.val (.bin .add (.s 12) (.c (.int .i64 1)))), [12], none, []⟩, ⟨none, 5, (.val (.mv (.s 13))), [13], none, []⟩]) (.region [⟨none, 14, (.val (.fa (.s 2) 1)), [], none, []⟩, ⟨none, 15, (.val (.ld (.s 14) none)), [14], none, []⟩, ⟨none, 16, (.val (.mv (.s 1))), [1], none, []⟩, ⟨none, 17, (.val (.ia (.s 15) (.s 16) 3)), [15, 16], none, []⟩, ⟨none, 18, (.val (.fa (.s 17) 1)), [17], none, []⟩, ⟨none, 19, (.val (.ld (.s 18) none)), [18], none, []⟩, ⟨none, 1, (.val (.mv (.s 19))), [19], none, []⟩])))))) (.seq (.region [⟨none, 20, (.val (.mv (.s 5))), [1, 2, 5, 9, 10, 11], none, []⟩, ⟨none, 4, (.val (.mv (.s 20))), [20], none, []⟩]) .ret))))
theorem ok129 : FnOk Tryd.prog 52 cc129 [(.t 4)] 2 21 := ⟨⟨_, Tryd.func52, by kernel_rfl, by kernel_rfl, by kernel_rfl⟩, by decide, by decide⟩
def st127 (I : World → Fp → Value → Fp → Prop) (g : Gr) : Int × Int → St
  | (n, i) => ⟨[(5, .v (.int .i64 n)), (1, .v (.int .i64 i)), (2, .ref ⟨1002, [], 0⟩)], [(1002, gA g), (9999, .ext I)], []⟩
theorem c127 (g : Gr) (i : Int) (N : Nat) (hW : WfL g.lo N) (hi : i < N) (hi0 : -1 ≤ i) (hN : N ≤ 1000000) {Q : AV → Al → Prop} (h : Q (i64A (deepN g.lo i)) []) : ACalls Tryd.prog 67 [] [gA g, i64A i] Q := by
  refine ok127.N hmix rfl ?_
  intro I
  simp only [cc127, OI, ↓reduceIte, reduceCtorEq, Nat.reduceAdd, Nat.reduceEqDiff, Nat.reduceBEq, Nat.reduceLT, Nat.reduceLeDiff, Nat.reduceMul, Nat.reduceSub, Int.reduceLE, Int.reduceLT, Int.reduceEq, Int.reduceBEq, Int.reduceBNe, Int.reduceToNat, Int.reduceNeg, Nat.reduceBNe, gA, i64A]
  refine W_loop (st127 I g) (fun a => a.1 + deepN g.lo a.2 = deepN g.lo i ∧ -1 ≤ a.2 ∧ a.2 < N ∧ 0 ≤ a.1) (fun a => (a.2 + 1).toNat) (fun _ _ => rfl) ⟨(0, i), ⟨by simp, hi0, hi, by simp⟩, ?_⟩ ?_
  · simp only [OI, ↓reduceIte, reduceCtorEq, Nat.reduceAdd, Nat.reduceEqDiff, Nat.reduceBEq, Nat.reduceLT, Nat.reduceLeDiff, Nat.reduceMul, Nat.reduceSub, Int.reduceLE, Int.reduceLT, Int.reduceEq, Int.reduceBEq, Int.reduceBNe, Int.reduceToNat, Int.reduceNeg, Nat.reduceBNe, st127, gA]
  rintro ⟨n, j⟩ ⟨h1, h2, h3, h4⟩
  simp only at h1 h2 h3 h4
  refine W_of_N ok127.small hmix ?_
  have hD := deepN_le g.lo N i hi
  have hj := deepN_ge g.lo N j h3
  by_cases hj0 : 0 ≤ j
  · obtain ⟨l, hl, hl1, hl2⟩ := hW j.toNat (by omega)
    have hjl : j < (g.lo.length : Int) := by have := (List.getElem?_eq_some_iff.1 hl).1; omega
    have hup : upAt g.lo j = l.2.1 := by simp only [upAt, hl]
    have hd := deepN_pos (lo := g.lo) hj0 (by rw [hup]; omega)
    rw [hup] at hd
    have hd2 := deepN_ge g.lo N l.2.1 (by omega)
    have w1 : IntKind.i64.wrap (n + 1) = n + 1 := wrI64 (by omega) (by omega)
    simp only [OI, ↓reduceIte, reduceCtorEq, Nat.reduceAdd, Nat.reduceEqDiff, Nat.reduceBEq, Nat.reduceLT, Nat.reduceLeDiff, Nat.reduceMul, Nat.reduceSub, Int.reduceLE, Int.reduceLT, Int.reduceEq, Int.reduceBEq, Int.reduceBNe, Int.reduceToNat, Int.reduceNeg, Nat.reduceBNe, st127, gA, hj0, hjl, hl, loA, w1]
    refine ⟨(n + 1, l.2.1), ⟨⟨by simp only; omega, by simp only; omega, by simp only; omega, by simp only; omega⟩, by simp only; omega⟩, ?_⟩
    simp only [OI, ↓reduceIte, reduceCtorEq, Nat.reduceAdd, Nat.reduceEqDiff, Nat.reduceBEq, Nat.reduceLT, Nat.reduceLeDiff, Nat.reduceMul, Nat.reduceSub, Int.reduceLE, Int.reduceLT, Int.reduceEq, Int.reduceBEq, Int.reduceBNe, Int.reduceToNat, Int.reduceNeg, Nat.reduceBNe, st127, gA, loA]
  · simp only [OI, ↓reduceIte, reduceCtorEq, Nat.reduceAdd, Nat.reduceEqDiff, Nat.reduceBEq, Nat.reduceLT, Nat.reduceLeDiff, Nat.reduceMul, Nat.reduceSub, Int.reduceLE, Int.reduceLT, Int.reduceEq, Int.reduceBEq, Int.reduceBNe, Int.reduceToNat, Int.reduceNeg, Nat.reduceBNe, st127, gA, hj0]
    rw [deepN_neg (by omega)] at h1
    rw [← h1] at h
    simpa [i64A] using h
def st129 (I : World → Fp → Value → Fp → Prop) (g : Gr) : Int × Int → St
  | (n, i) => ⟨[(5, .v (.int .i64 n)), (1, .v (.int .i64 i)), (2, .ref ⟨1002, [], 0⟩)], [(1002, gA g), (9999, .ext I)], []⟩
theorem c129 (g : Gr) (i : Int) (N : Nat) (hW : WfL g.lo N) (hi : i < N) (hi0 : -1 ≤ i) (hN : N ≤ 10) {Q : AV → Al → Prop} (h : Q (i64A (deepN g.lo i)) []) : ACalls Tryd.prog 52 [] [gA g, i64A i] Q := by
  refine ok129.N hmix rfl ?_
  intro I
  simp only [cc129, OI, ↓reduceIte, reduceCtorEq, Nat.reduceAdd, Nat.reduceEqDiff, Nat.reduceBEq, Nat.reduceLT, Nat.reduceLeDiff, Nat.reduceMul, Nat.reduceSub, Int.reduceLE, Int.reduceLT, Int.reduceEq, Int.reduceBEq, Int.reduceBNe, Int.reduceToNat, Int.reduceNeg, Nat.reduceBNe, gA, i64A]
  refine W_loop (st129 I g) (fun a => a.1 + deepN g.lo a.2 = deepN g.lo i ∧ -1 ≤ a.2 ∧ a.2 < N ∧ 0 ≤ a.1) (fun a => (a.2 + 1).toNat) (fun _ _ => rfl) ⟨(0, i), ⟨by simp, hi0, hi, by simp⟩, ?_⟩ ?_
  · simp only [OI, ↓reduceIte, reduceCtorEq, Nat.reduceAdd, Nat.reduceEqDiff, Nat.reduceBEq, Nat.reduceLT, Nat.reduceLeDiff, Nat.reduceMul, Nat.reduceSub, Int.reduceLE, Int.reduceLT, Int.reduceEq, Int.reduceBEq, Int.reduceBNe, Int.reduceToNat, Int.reduceNeg, Nat.reduceBNe, st129, gA]
  rintro ⟨n, j⟩ ⟨h1, h2, h3, h4⟩
  simp only at h1 h2 h3 h4
  refine W_of_N ok129.small hmix ?_
  have hD := deepN_le g.lo N i hi
  have hj := deepN_ge g.lo N j h3
  by_cases hj0 : 0 ≤ j
  · obtain ⟨l, hl, hl1, hl2⟩ := hW j.toNat (by omega)
    have hjl : j < (g.lo.length : Int) := by have := (List.getElem?_eq_some_iff.1 hl).1; omega
    have hup : upAt g.lo j = l.2.1 := by simp only [upAt, hl]
    have hd := deepN_pos (lo := g.lo) hj0 (by rw [hup]; omega)
    rw [hup] at hd
    have hd2 := deepN_ge g.lo N l.2.1 (by omega)
    have w1 : IntKind.i64.wrap (n + 1) = n + 1 := wrI64 (by omega) (by omega)
    have hn : n < 10 := by omega
    simp only [OI, ↓reduceIte, reduceCtorEq, Nat.reduceAdd, Nat.reduceEqDiff, Nat.reduceBEq, Nat.reduceLT, Nat.reduceLeDiff, Nat.reduceMul, Nat.reduceSub, Int.reduceLE, Int.reduceLT, Int.reduceEq, Int.reduceBEq, Int.reduceBNe, Int.reduceToNat, Int.reduceNeg, Nat.reduceBNe, st129, gA, hj0, hjl, hl, loA, w1, hn]
    refine ⟨(n + 1, l.2.1), ⟨⟨by simp only; omega, by simp only; omega, by simp only; omega, by simp only; omega⟩, by simp only; omega⟩, ?_⟩
    simp only [OI, ↓reduceIte, reduceCtorEq, Nat.reduceAdd, Nat.reduceEqDiff, Nat.reduceBEq, Nat.reduceLT, Nat.reduceLeDiff, Nat.reduceMul, Nat.reduceSub, Int.reduceLE, Int.reduceLT, Int.reduceEq, Int.reduceBEq, Int.reduceBNe, Int.reduceToNat, Int.reduceNeg, Nat.reduceBNe, st129, gA, loA]
  · simp only [OI, ↓reduceIte, reduceCtorEq, Nat.reduceAdd, Nat.reduceEqDiff, Nat.reduceBEq, Nat.reduceLT, Nat.reduceLeDiff, Nat.reduceMul, Nat.reduceSub, Int.reduceLE, Int.reduceLT, Int.reduceEq, Int.reduceBEq, Int.reduceBNe, Int.reduceToNat, Int.reduceNeg, Nat.reduceBNe, st129, gA, hj0]
    rw [deepN_neg (by omega)] at h1
    rw [← h1] at h
    simpa [i64A] using h
end Go.Proofs.YthlehngbadianaaDoor.Ow
