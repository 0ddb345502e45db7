/- What the functions of the program do, each once: contracts of the logic (part k1). -/
import Derived.Test.YthlehngbadianaaTh6
import Derived.Test.YthlehngbadianaaTh4
set_option linter.unusedVariables false
set_option linter.unusedSimpArgs false
set_option linter.unnecessarySimpa false
set_option maxRecDepth 100000
set_option maxHeartbeats 4000000
namespace Go.Proofs.Ythlehngbadianaa.Ow
open Go Go.RowKit Go.Proofs
/- watershed/graph.number -/
def cc149 : CC := (.seq (.region [⟨none, 2, (.val (.mv (.c (.string ⟨#[]⟩)))), [2], none, []⟩]) (.seq (.region [⟨none, 3, (.val (.mv (.s 0))), [0], none, []⟩, ⟨none, 4, (.callP 198 [(.s 3)]), [3], none, []⟩, ⟨none, 2, (.val (.mv (.s 4))), [4], none, []⟩]) .ret))
theorem ok149 : FnOk Try.prog 149 cc149 [(.t 2)] 1 5 := ⟨⟨_, Try.func149, by kernel_rfl, by kernel_rfl, by kernel_rfl⟩, by decide, by decide⟩

/- (watershed/graph.Graph).loopName -/
def cc150 : CC := (.seq (.region [⟨none, 2, (.box 0), [0], none, []⟩, ⟨none, 4, (.val (.mv (.c (.string ⟨#[]⟩)))), [4], none, []⟩]) (.seq (.seq (.region [⟨none, 5, (.val (.mv (.s 1))), [], none, []⟩, ⟨none, 6, (.val (.bin .eql (.s 5) (.c (.int .i64 (-1))))), [5], none, []⟩]) (.cond (.s 6) (.seq (.region [⟨none, 4, (.val (.mv (.c (.string ⟨#[45]⟩)))), [1, 2, 6], none, []⟩]) .ret) .skip)) (.seq (.region [⟨none, 7, (.val (.fa (.s 2) 1)), [2, 6], none, []⟩, ⟨none, 8, (.val (.ld (.s 7) none)), [7], none, []⟩, ⟨none, 9, (.val (.mv (.s 1))), [1], none, []⟩, ⟨none, 10, (.val (.ia (.s 8) (.s 9) 3)), [8, 9], none, []⟩, ⟨none, 11, (.val (.fa (.s 10) 0)), [10], none, []⟩, ⟨none, 12, (.val (.ld (.s 11) none)), [11], none, []⟩, ⟨none, 4, (.val (.mv (.s 12))), [12], none, []⟩]) .ret)))
theorem ok150 : FnOk Try.prog 150 cc150 [(.t 4)] 2 13 := ⟨⟨_, Try.func150, by kernel_rfl, by kernel_rfl, by kernel_rfl⟩, by decide, by decide⟩

/- watershed/watershedref09.loopName -/
def cc153 : CC := (.seq (.region [⟨none, 2, (.box 0), [0], none, []⟩, ⟨none, 4, (.val (.mv (.c (.string ⟨#[]⟩)))), [4], none, []⟩]) (.seq (.seq (.region [⟨none, 5, (.val (.mv (.s 1))), [], none, []⟩, ⟨none, 6, (.val (.bin .lss (.s 5) (.c (.int .i64 0)))), [5], none, []⟩]) (.cond (.s 6) (.seq (.region [⟨none, 4, (.val (.mv (.c (.string ⟨#[45]⟩)))), [1, 2, 6], none, []⟩]) .ret) .skip)) (.seq (.region [⟨none, 7, (.val (.fa (.s 2) 1)), [2, 6], none, []⟩, ⟨none, 8, (.val (.ld (.s 7) none)), [7], none, []⟩, ⟨none, 9, (.val (.mv (.s 1))), [1], none, []⟩, ⟨none, 10, (.val (.ia (.s 8) (.s 9) 3)), [8, 9], none, []⟩, ⟨none, 11, (.val (.fa (.s 10) 0)), [10], none, []⟩, ⟨none, 12, (.val (.ld (.s 11) none)), [11], none, []⟩, ⟨none, 4, (.val (.mv (.s 12))), [12], none, []⟩]) .ret)))
theorem ok153 : FnOk Try.prog 153 cc153 [(.t 4)] 2 13 := ⟨⟨_, Try.func153, by kernel_rfl, by kernel_rfl, by kernel_rfl⟩, by decide, by decide⟩

/- watershed/watershedref09.more -/
def cc155 : CC := (.seq (.region [⟨none, 2, (.val (.mv (.c (.int .i64 0)))), [2], none, []⟩]) (.seq (.seq (.region [⟨none, 3, (.val (.mv (.s 0))), [0], none, []⟩]) (.block 0 (.seq (.seq (.region [⟨none, 5, (.val (.bin .eql (.s 3) (.c (.int .i64 3)))), [], none, []⟩, ⟨none, 4, (.val (.mv (.s 5))), [5], none, []⟩]) (.cond (.s 4) .skip (.region [⟨none, 6, (.val (.bin .eql (.s 3) (.c (.int .i64 4)))), [4], none, []⟩, ⟨none, 4, (.val (.mv (.s 6))), [6], none, []⟩]))) (.cond (.s 4) (.seq (.region [⟨none, 2, (.val (.mv (.c (.int .i64 2)))), [3, 4], none, []⟩]) .ret) (.seq (.seq (.region [⟨none, 8, (.val (.bin .eql (.s 3) (.c (.int .i64 6)))), [4], none, []⟩, ⟨none, 7, (.val (.mv (.s 8))), [8], none, []⟩]) (.cond (.s 7) .skip (.region [⟨none, 9, (.val (.bin .eql (.s 3) (.c (.int .i64 10)))), [3, 7], none, []⟩, ⟨none, 7, (.val (.mv (.s 9))), [9], none, []⟩]))) (.cond (.s 7) (.seq (.region [⟨none, 2, (.val (.mv (.c (.int .i64 1)))), [3, 7], none, []⟩]) .ret) .skip)))))) (.seq (.region [⟨none, 2, (.val (.mv (.c (.int .i64 0)))), [3, 7], none, []⟩]) .ret)))
theorem ok155 : FnOk Try.prog 155 cc155 [(.t 2)] 1 10 := ⟨⟨_, Try.func155, by kernel_rfl, by kernel_rfl, by kernel_rfl⟩, by decide, by decide⟩


def bsS (s : ByteArray) : List UInt8 := s.data.toList
theorem c149 (v : Int) (h0 : -9223372036854775808 ≤ v) (h1 : v < 9223372036854775808) {Q : AV → Al → Prop} (h : Q (.v (.string (decB v))) []) : ACalls Try.prog 149 [] [i64A v] Q := by
  refine ok149.N hmix rfl ?_
  intro I
  simp only [cc149, OI0, OI1, OI2, OI3, OI4, OI5, OI6, OI7, OI8, OI9, OI10, OI11, OI12, ↓reduceIte, reduceCtorEq, Nat.reduceAdd, Nat.reduceEqDiff, Nat.reduceBEq, Nat.reduceLT, Nat.reduceLeDiff, Nat.reduceMul, Nat.reduceSub, Int.reduceLE, Int.reduceLT, Int.reduceEq, Int.reduceBEq, Int.reduceBNe, Int.reduceToNat, Int.reduceNeg, Nat.reduceBNe, forall_eq_or_imp, i64A]
  refine c198 v h0 h1 ?_
  simp only [OI0, OI1, OI2, OI3, OI4, OI5, OI6, OI7, OI8, OI9, OI10, OI11, OI12, ↓reduceIte, reduceCtorEq, Nat.reduceAdd, Nat.reduceEqDiff, Nat.reduceBEq, Nat.reduceLT, Nat.reduceLeDiff, Nat.reduceMul, Nat.reduceSub, Int.reduceLE, Int.reduceLT, Int.reduceEq, Int.reduceBEq, Int.reduceBNe, Int.reduceToNat, Int.reduceNeg, Nat.reduceBNe, forall_eq_or_imp]
  exact h
/-- A loop's name, or -. -/
def lpN (g : Gr) (i : Int) : ByteArray := if i = -1 then ⟨#[45]⟩ else match g.lo[i.toNat]? with | some l => l.1 | none => ⟨#[]⟩
theorem c150 (g : Gr) (i : Int) (h0 : -1 ≤ i) (h1 : i < g.lo.length) {Q : AV → Al → Prop} (h : Q (.v (.string (lpN g i))) []) : ACalls Try.prog 150 [] [gA g, i64A i] Q := by
  refine ok150.N hmix rfl ?_
  intro I
  by_cases hi : i = -1
  · simp only [cc150, OI0, OI1, OI2, OI3, OI4, OI5, OI6, OI7, OI8, OI9, OI10, OI11, OI12, ↓reduceIte, reduceCtorEq, Nat.reduceAdd, Nat.reduceEqDiff, Nat.reduceBEq, Nat.reduceLT, Nat.reduceLeDiff, Nat.reduceMul, Nat.reduceSub, Int.reduceLE, Int.reduceLT, Int.reduceEq, Int.reduceBEq, Int.reduceBNe, Int.reduceToNat, Int.reduceNeg, Nat.reduceBNe, forall_eq_or_imp, gA, i64A, beqT hi]
    simpa [lpN, hi] using h
  · obtain ⟨l, hl⟩ : ∃ l, g.lo[i.toNat]? = some l := ⟨_, List.getElem?_eq_getElem (by omega)⟩
    have i0 : 0 ≤ i := by omega
    simp only [cc150, OI0, OI1, OI2, OI3, OI4, OI5, OI6, OI7, OI8, OI9, OI10, OI11, OI12, ↓reduceIte, reduceCtorEq, Nat.reduceAdd, Nat.reduceEqDiff, Nat.reduceBEq, Nat.reduceLT, Nat.reduceLeDiff, Nat.reduceMul, Nat.reduceSub, Int.reduceLE, Int.reduceLT, Int.reduceEq, Int.reduceBEq, Int.reduceBNe, Int.reduceToNat, Int.reduceNeg, Nat.reduceBNe, forall_eq_or_imp, gA, i64A, beqF hi, i0, h1, hl, loA]
    simpa [lpN, hi, hl] using h
theorem c153 (g : Gr) (i : Int) (h0 : -1 ≤ i) (h1 : i < g.lo.length) {Q : AV → Al → Prop} (h : Q (.v (.string (lpN g i))) []) : ACalls Try.prog 153 [] [gA g, i64A i] Q := by
  refine ok153.N hmix rfl ?_
  intro I
  by_cases hi : i < 0
  · have hi' : i = -1 := by omega
    simp only [cc153, OI0, OI1, OI2, OI3, OI4, OI5, OI6, OI7, OI8, OI9, OI10, OI11, OI12, ↓reduceIte, reduceCtorEq, Nat.reduceAdd, Nat.reduceEqDiff, Nat.reduceBEq, Nat.reduceLT, Nat.reduceLeDiff, Nat.reduceMul, Nat.reduceSub, Int.reduceLE, Int.reduceLT, Int.reduceEq, Int.reduceBEq, Int.reduceBNe, Int.reduceToNat, Int.reduceNeg, Nat.reduceBNe, forall_eq_or_imp, gA, i64A, hi]
    simpa [lpN, hi'] using h
  · obtain ⟨l, hl⟩ : ∃ l, g.lo[i.toNat]? = some l := ⟨_, List.getElem?_eq_getElem (by omega)⟩
    have i0 : 0 ≤ i := by omega
    have hi' : ¬ i = -1 := by omega
    simp only [cc153, OI0, OI1, OI2, OI3, OI4, OI5, OI6, OI7, OI8, OI9, OI10, OI11, OI12, ↓reduceIte, reduceCtorEq, Nat.reduceAdd, Nat.reduceEqDiff, Nat.reduceBEq, Nat.reduceLT, Nat.reduceLeDiff, Nat.reduceMul, Nat.reduceSub, Int.reduceLE, Int.reduceLT, Int.reduceEq, Int.reduceBEq, Int.reduceBNe, Int.reduceToNat, Int.reduceNeg, Nat.reduceBNe, forall_eq_or_imp, gA, i64A, hi, i0, h1, hl, loA]
    simpa [lpN, hi', hl] using h
theorem c155 (k : Int) {Q : AV → Al → Prop} (h : Q (i64A (numsOf k)) []) : ACalls Try.prog 155 [] [i64A k] Q := by
  refine ok155.N hmix rfl ?_
  intro I
  by_cases k3 : k = 3
  · subst k3
    simp only [cc155, OI0, OI1, OI2, OI3, OI4, OI5, OI6, OI7, OI8, OI9, OI10, OI11, OI12, ↓reduceIte, reduceCtorEq, Nat.reduceAdd, Nat.reduceEqDiff, Nat.reduceBEq, Nat.reduceLT, Nat.reduceLeDiff, Nat.reduceMul, Nat.reduceSub, Int.reduceLE, Int.reduceLT, Int.reduceEq, Int.reduceBEq, Int.reduceBNe, Int.reduceToNat, Int.reduceNeg, Nat.reduceBNe, forall_eq_or_imp, i64A]
    exact h
  by_cases k4 : k = 4
  · subst k4
    simp only [cc155, OI0, OI1, OI2, OI3, OI4, OI5, OI6, OI7, OI8, OI9, OI10, OI11, OI12, ↓reduceIte, reduceCtorEq, Nat.reduceAdd, Nat.reduceEqDiff, Nat.reduceBEq, Nat.reduceLT, Nat.reduceLeDiff, Nat.reduceMul, Nat.reduceSub, Int.reduceLE, Int.reduceLT, Int.reduceEq, Int.reduceBEq, Int.reduceBNe, Int.reduceToNat, Int.reduceNeg, Nat.reduceBNe, forall_eq_or_imp, i64A]
    exact h
  by_cases k6 : k = 6
  · subst k6
    simp only [cc155, OI0, OI1, OI2, OI3, OI4, OI5, OI6, OI7, OI8, OI9, OI10, OI11, OI12, ↓reduceIte, reduceCtorEq, Nat.reduceAdd, Nat.reduceEqDiff, Nat.reduceBEq, Nat.reduceLT, Nat.reduceLeDiff, Nat.reduceMul, Nat.reduceSub, Int.reduceLE, Int.reduceLT, Int.reduceEq, Int.reduceBEq, Int.reduceBNe, Int.reduceToNat, Int.reduceNeg, Nat.reduceBNe, forall_eq_or_imp, i64A]
    exact h
  by_cases k10 : k = 10
  · subst k10
    simp only [cc155, OI0, OI1, OI2, OI3, OI4, OI5, OI6, OI7, OI8, OI9, OI10, OI11, OI12, ↓reduceIte, reduceCtorEq, Nat.reduceAdd, Nat.reduceEqDiff, Nat.reduceBEq, Nat.reduceLT, Nat.reduceLeDiff, Nat.reduceMul, Nat.reduceSub, Int.reduceLE, Int.reduceLT, Int.reduceEq, Int.reduceBEq, Int.reduceBNe, Int.reduceToNat, Int.reduceNeg, Nat.reduceBNe, forall_eq_or_imp, i64A]
    exact h
  simp only [cc155, OI0, OI1, OI2, OI3, OI4, OI5, OI6, OI7, OI8, OI9, OI10, OI11, OI12, ↓reduceIte, reduceCtorEq, Nat.reduceAdd, Nat.reduceEqDiff, Nat.reduceBEq, Nat.reduceLT, Nat.reduceLeDiff, Nat.reduceMul, Nat.reduceSub, Int.reduceLE, Int.reduceLT, Int.reduceEq, Int.reduceBEq, Int.reduceBNe, Int.reduceToNat, Int.reduceNeg, Nat.reduceBNe, forall_eq_or_imp, i64A, beqF k3, beqF k4, beqF k6, beqF k10]
  simpa [numsOf, k3, k4, k6, k10, i64A] using h
end Go.Proofs.Ythlehngbadianaa.Ow
