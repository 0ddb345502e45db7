/- What the functions of the program do, each once: contracts of the logic (part k6). -/
import Derived.Test.YthlehngbadianaaTk5
import Derived.Test.YthlehngbadianaaTh3
set_option linter.unusedVariables false
set_option linter.unusedSimpArgs false
set_option linter.unnecessarySimpa false
set_option maxRecDepth 100000
set_option maxHeartbeats 4000000
namespace Go.Proofs.Ythlehngbadianaa.Ow
open Go Go.RowKit Go.Proofs
/- watershed/watershedlaw09.GraphChecks -/
def cc9 : CC := (.seq (.region [⟨none, 1, (.box 0), [0], none, []⟩, ⟨none, 2, (.val (.mv (.c (.bool false)))), [2], none, []⟩]) (.seq (.seq (.region [⟨none, 8, (.val (.ld (.s 1) (some 4))), [], none, []⟩, ⟨none, 9, (.callP 43 [(.s 8)]), [8], none, []⟩]) (.cond (.s 9) (.seq (.region [⟨none, 2, (.val (.mv (.c (.bool true)))), [1, 9], none, []⟩]) .ret) .skip)) (.seq (.region [⟨none, 10, (.val (.ld (.s 1) (some 4))), [9], none, []⟩, ⟨none, 11, (.callP 44 [(.s 10)]), [10], none, []⟩, ⟨none, 3, (.alloc (.agg #[(.slice none 0 0), (.slice none 0 0), (.slice none 0 0), (.slice none 0 0)])), [], none, []⟩, ⟨none, 0, (.store 4 (.s 3) (.s 11)), [11], none, []⟩]) (.seq (.region [⟨none, 13, (.val (.ld (.s 3) (some 4))), [], none, []⟩, ⟨none, 14, (.callP 63 [(.s 13)]), [13], none, []⟩, ⟨none, 12, (.val (.mv (.s 14))), [14], none, []⟩, ⟨none, 15, (.val (.ext (.s 12) 0)), [], none, []⟩, ⟨none, 16, (.val (.ext (.s 12) 1)), [12], none, []⟩, ⟨none, 4, (.val (.mv (.s 15))), [15], none, []⟩, ⟨none, 5, (.val (.mv (.s 16))), [16], none, []⟩]) (.seq (.region [⟨none, 18, (.val (.ld (.s 1) (some 4))), [], none, []⟩, ⟨none, 19, (.callP 64 [(.s 18)]), [18], none, []⟩, ⟨none, 17, (.val (.mv (.s 19))), [19], none, []⟩, ⟨none, 20, (.val (.ext (.s 17) 0)), [], none, []⟩, ⟨none, 21, (.val (.ext (.s 17) 1)), [17], none, []⟩, ⟨none, 6, (.val (.mv (.s 20))), [20], none, []⟩, ⟨none, 7, (.val (.mv (.s 21))), [21], none, []⟩]) (.seq (.region [⟨none, 22, (.val (.ld (.s 3) (some 4))), [], none, []⟩, ⟨none, 24, (.val (.ld (.s 1) (some 4))), [], none, []⟩, ⟨none, 23, (.callP 65 [(.s 22)]), [22], none, []⟩, ⟨none, 25, (.callP 66 [(.s 24)]), [24], none, []⟩, ⟨none, 26, (.val (.bin .eql (.s 23) (.s 25))), [23, 25], none, []⟩, ⟨none, 27, (.val (.mv (.s 26))), [26], none, []⟩, ⟨(some (27, true)), 28, (.val (.mv (.s 4))), [4], none, []⟩, ⟨(some (27, true)), 29, (.val (.mv (.s 6))), [6], none, []⟩, ⟨(some (27, true)), 30, (.val (.bin .eql (.s 28) (.s 29))), [28, 29], none, []⟩, ⟨none, 31, (.val (.pick (.s 27) (.s 30) (.c (.bool false)))), [27, 30], none, []⟩, ⟨none, 32, (.val (.mv (.s 31))), [31], none, []⟩, ⟨(some (32, true)), 33, (.val (.mv (.s 5))), [5], none, []⟩, ⟨(some (32, true)), 34, (.val (.mv (.s 7))), [7], none, []⟩, ⟨(some (32, true)), 35, (.val (.bin .eql (.s 33) (.s 34))), [33, 34], none, []⟩, ⟨none, 36, (.val (.pick (.s 32) (.s 35) (.c (.bool false)))), [32, 35], none, []⟩, ⟨none, 37, (.val (.mv (.s 36))), [36], none, []⟩, ⟨(some (37, true)), 38, (.val (.ld (.s 3) (some 4))), [], none, []⟩, ⟨(some (37, true)), 40, (.val (.ld (.s 1) (some 4))), [], none, []⟩, ⟨(some (37, true)), 39, (.callP 67 [(.s 38)]), [38], none, []⟩, ⟨(some (37, true)), 41, (.callP 68 [(.s 40)]), [40], none, []⟩, ⟨(some (37, true)), 42, (.call 56 [(.s 39), (.s 41)]), [39, 41], none, []⟩, ⟨none, 43, (.val (.pick (.s 37) (.s 42) (.c (.bool false)))), [37, 42], none, []⟩, ⟨none, 44, (.val (.mv (.s 43))), [43], none, []⟩, ⟨(some (44, true)), 45, (.val (.ld (.s 3) (some 4))), [3], none, []⟩, ⟨(some (44, true)), 47, (.val (.ld (.s 1) (some 4))), [1], none, []⟩, ⟨(some (44, true)), 46, (.callP 55 [(.s 45)]), [45], none, []⟩, ⟨(some (44, true)), 48, (.callP 54 [(.s 46), (.s 47)]), [46, 47], none, []⟩, ⟨none, 49, (.val (.pick (.s 44) (.s 48) (.c (.bool false)))), [44, 48], none, []⟩, ⟨none, 2, (.val (.mv (.s 49))), [49], none, []⟩]) .ret))))))
theorem ok9 : FnOk Try.prog 9 cc9 [(.t 2)] 1 50 := ⟨⟨_, Try.func9, by kernel_rfl, by kernel_rfl, by kernel_rfl⟩, by decide, by decide⟩


theorem c67n (g : Gr) (hc : ¬ chk g = 0) {Q : AV → Al → Prop} (h : Q (.v (.slice none 0 0)) []) : ACalls Try.prog 67 [] [gA g] Q := by
  refine ok67.N hmix rfl ?_
  intro I
  simp only [cc67, OI0, OI1, OI2, OI3, OI4, OI5, OI6, OI7, OI8, OI9, OI10, OI11, OI12, ↓reduceIte, reduceCtorEq, Nat.reduceAdd, Nat.reduceEqDiff, Nat.reduceBEq, Nat.reduceLT, Nat.reduceLeDiff, Nat.reduceMul, Nat.reduceSub, Int.reduceLE, Int.reduceLT, Int.reduceEq, Int.reduceBEq, Int.reduceBNe, Int.reduceToNat, Int.reduceNeg, Nat.reduceBNe, forall_eq_or_imp, gA, i64A]
  refine c65 g ?_
  simp only [OI0, OI1, OI2, OI3, OI4, OI5, OI6, OI7, OI8, OI9, OI10, OI11, OI12, ↓reduceIte, reduceCtorEq, Nat.reduceAdd, Nat.reduceEqDiff, Nat.reduceBEq, Nat.reduceLT, Nat.reduceLeDiff, Nat.reduceMul, Nat.reduceSub, Int.reduceLE, Int.reduceLT, Int.reduceEq, Int.reduceBEq, Int.reduceBNe, Int.reduceToNat, Int.reduceNeg, Nat.reduceBNe, forall_eq_or_imp, i64A, bneT hc]
  exact h
theorem c68n (g : Gr) (hn : NmOk g) (hc : ¬ chk g = 0) {Q : AV → Al → Prop} (h : Q (.v (.slice none 0 0)) []) : ACalls Try.prog 68 [] [gA g] Q := by
  refine ok68.N hmix rfl ?_
  intro I
  simp only [cc68, OI0, OI1, OI2, OI3, OI4, OI5, OI6, OI7, OI8, OI9, OI10, OI11, OI12, ↓reduceIte, reduceCtorEq, Nat.reduceAdd, Nat.reduceEqDiff, Nat.reduceBEq, Nat.reduceLT, Nat.reduceLeDiff, Nat.reduceMul, Nat.reduceSub, Int.reduceLE, Int.reduceLT, Int.reduceEq, Int.reduceBEq, Int.reduceBNe, Int.reduceToNat, Int.reduceNeg, Nat.reduceBNe, forall_eq_or_imp, gA, i64A]
  refine c66 g hn ?_
  simp only [OI0, OI1, OI2, OI3, OI4, OI5, OI6, OI7, OI8, OI9, OI10, OI11, OI12, ↓reduceIte, reduceCtorEq, Nat.reduceAdd, Nat.reduceEqDiff, Nat.reduceBEq, Nat.reduceLT, Nat.reduceLeDiff, Nat.reduceMul, Nat.reduceSub, Int.reduceLE, Int.reduceLT, Int.reduceEq, Int.reduceBEq, Int.reduceBNe, Int.reduceToNat, Int.reduceNeg, Nat.reduceBNe, forall_eq_or_imp, i64A, bneT hc]
  exact h
theorem c9 (g : Gr) (hr : Rg g) {Q : AV → Al → Prop} (h : Q (.v (.bool true)) []) : ACalls Try.prog 9 [] [gA g] Q := by
  refine ok9.N hmix rfl ?_
  intro I
  simp only [cc9, OI0, OI1, OI2, OI3, OI4, OI5, OI6, OI7, OI8, OI9, OI10, OI11, OI12, ↓reduceIte, reduceCtorEq, Nat.reduceAdd, Nat.reduceEqDiff, Nat.reduceBEq, Nat.reduceLT, Nat.reduceLeDiff, Nat.reduceMul, Nat.reduceSub, Int.reduceLE, Int.reduceLT, Int.reduceEq, Int.reduceBEq, Int.reduceBNe, Int.reduceToNat, Int.reduceNeg, Nat.reduceBNe, forall_eq_or_imp, gA]
  refine c43 g ?_ fun hs => ?_
  · simp only [OI0, OI1, OI2, OI3, OI4, OI5, OI6, OI7, OI8, OI9, OI10, OI11, OI12, ↓reduceIte, reduceCtorEq, Nat.reduceAdd, Nat.reduceEqDiff, Nat.reduceBEq, Nat.reduceLT, Nat.reduceLeDiff, Nat.reduceMul, Nat.reduceSub, Int.reduceLE, Int.reduceLT, Int.reduceEq, Int.reduceBEq, Int.reduceBNe, Int.reduceToNat, Int.reduceNeg, Nat.reduceBNe, forall_eq_or_imp]
    exact h
  simp only [OI0, OI1, OI2, OI3, OI4, OI5, OI6, OI7, OI8, OI9, OI10, OI11, OI12, ↓reduceIte, reduceCtorEq, Nat.reduceAdd, Nat.reduceEqDiff, Nat.reduceBEq, Nat.reduceLT, Nat.reduceLeDiff, Nat.reduceMul, Nat.reduceSub, Int.reduceLE, Int.reduceLT, Int.reduceEq, Int.reduceBEq, Int.reduceBNe, Int.reduceToNat, Int.reduceNeg, Nat.reduceBNe, forall_eq_or_imp]
  refine c44 g hs ?_
  simp only [OI0, OI1, OI2, OI3, OI4, OI5, OI6, OI7, OI8, OI9, OI10, OI11, OI12, ↓reduceIte, reduceCtorEq, Nat.reduceAdd, Nat.reduceEqDiff, Nat.reduceBEq, Nat.reduceLT, Nat.reduceLeDiff, Nat.reduceMul, Nat.reduceSub, Int.reduceLE, Int.reduceLT, Int.reduceEq, Int.reduceBEq, Int.reduceBNe, Int.reduceToNat, Int.reduceNeg, Nat.reduceBNe, forall_eq_or_imp, gA]
  refine c63 g hs hr ?_
  simp only [OI0, OI1, OI2, OI3, OI4, OI5, OI6, OI7, OI8, OI9, OI10, OI11, OI12, ↓reduceIte, reduceCtorEq, Nat.reduceAdd, Nat.reduceEqDiff, Nat.reduceBEq, Nat.reduceLT, Nat.reduceLeDiff, Nat.reduceMul, Nat.reduceSub, Int.reduceLE, Int.reduceLT, Int.reduceEq, Int.reduceBEq, Int.reduceBNe, Int.reduceToNat, Int.reduceNeg, Nat.reduceBNe, forall_eq_or_imp, i64A]
  refine c64 g hs hr ?_
  simp only [OI0, OI1, OI2, OI3, OI4, OI5, OI6, OI7, OI8, OI9, OI10, OI11, OI12, ↓reduceIte, reduceCtorEq, Nat.reduceAdd, Nat.reduceEqDiff, Nat.reduceBEq, Nat.reduceLT, Nat.reduceLeDiff, Nat.reduceMul, Nat.reduceSub, Int.reduceLE, Int.reduceLT, Int.reduceEq, Int.reduceBEq, Int.reduceBNe, Int.reduceToNat, Int.reduceNeg, Nat.reduceBNe, forall_eq_or_imp, i64A]
  refine c65 g ?_
  simp only [OI0, OI1, OI2, OI3, OI4, OI5, OI6, OI7, OI8, OI9, OI10, OI11, OI12, ↓reduceIte, reduceCtorEq, Nat.reduceAdd, Nat.reduceEqDiff, Nat.reduceBEq, Nat.reduceLT, Nat.reduceLeDiff, Nat.reduceMul, Nat.reduceSub, Int.reduceLE, Int.reduceLT, Int.reduceEq, Int.reduceBEq, Int.reduceBNe, Int.reduceToNat, Int.reduceNeg, Nat.reduceBNe, forall_eq_or_imp, i64A]
  refine c66 g hs.nm ?_
  by_cases hc : chk g = 0
  · simp only [OI0, OI1, OI2, OI3, OI4, OI5, OI6, OI7, OI8, OI9, OI10, OI11, OI12, ↓reduceIte, reduceCtorEq, Nat.reduceAdd, Nat.reduceEqDiff, Nat.reduceBEq, Nat.reduceLT, Nat.reduceLeDiff, Nat.reduceMul, Nat.reduceSub, Int.reduceLE, Int.reduceLT, Int.reduceEq, Int.reduceBEq, Int.reduceBNe, Int.reduceToNat, Int.reduceNeg, Nat.reduceBNe, forall_eq_or_imp, i64A, beq_self_eq_true]
    refine c67 g hc ?_
    simp only [OI0, OI1, OI2, OI3, OI4, OI5, OI6, OI7, OI8, OI9, OI10, OI11, OI12, ↓reduceIte, reduceCtorEq, Nat.reduceAdd, Nat.reduceEqDiff, Nat.reduceBEq, Nat.reduceLT, Nat.reduceLeDiff, Nat.reduceMul, Nat.reduceSub, Int.reduceLE, Int.reduceLT, Int.reduceEq, Int.reduceBEq, Int.reduceBNe, Int.reduceToNat, Int.reduceNeg, Nat.reduceBNe, forall_eq_or_imp]
    refine c68 g hs.nm hc ?_
    have hfl : (flowsL g).length ≤ g.ch.length := flN_le g _
    have h48 := hs.ch
    have t1 : List.map frz (List.take (flowsL g).length (List.map i64A (flowsL g))) = List.map i64A (flowsL g) := fz_map i64A (fun _ => rfl) rfl
    simp only [OI0, OI1, OI2, OI3, OI4, OI5, OI6, OI7, OI8, OI9, OI10, OI11, OI12, ↓reduceIte, reduceCtorEq, Nat.reduceAdd, Nat.reduceEqDiff, Nat.reduceBEq, Nat.reduceLT, Nat.reduceLeDiff, Nat.reduceMul, Nat.reduceSub, Int.reduceLE, Int.reduceLT, Int.reduceEq, Int.reduceBEq, Int.reduceBNe, Int.reduceToNat, Int.reduceNeg, Nat.reduceBNe, forall_eq_or_imp, List.length_map, t1, Nat.le_refl]
    refine c56 (flowsL g) (flowsL g) (by omega) ?_
    simp only [OI0, OI1, OI2, OI3, OI4, OI5, OI6, OI7, OI8, OI9, OI10, OI11, OI12, ↓reduceIte, reduceCtorEq, Nat.reduceAdd, Nat.reduceEqDiff, Nat.reduceBEq, Nat.reduceLT, Nat.reduceLeDiff, Nat.reduceMul, Nat.reduceSub, Int.reduceLE, Int.reduceLT, Int.reduceEq, Int.reduceBEq, Int.reduceBNe, Int.reduceToNat, Int.reduceNeg, Nat.reduceBNe, forall_eq_or_imp, decide_true]
    refine c55 g hs ?_
    simp only [OI0, OI1, OI2, OI3, OI4, OI5, OI6, OI7, OI8, OI9, OI10, OI11, OI12, ↓reduceIte, reduceCtorEq, Nat.reduceAdd, Nat.reduceEqDiff, Nat.reduceBEq, Nat.reduceLT, Nat.reduceLeDiff, Nat.reduceMul, Nat.reduceSub, Int.reduceLE, Int.reduceLT, Int.reduceEq, Int.reduceBEq, Int.reduceBNe, Int.reduceToNat, Int.reduceNeg, Nat.reduceBNe, forall_eq_or_imp, gA]
    refine c54 g hs ?_
    simp only [OI0, OI1, OI2, OI3, OI4, OI5, OI6, OI7, OI8, OI9, OI10, OI11, OI12, ↓reduceIte, reduceCtorEq, Nat.reduceAdd, Nat.reduceEqDiff, Nat.reduceBEq, Nat.reduceLT, Nat.reduceLeDiff, Nat.reduceMul, Nat.reduceSub, Int.reduceLE, Int.reduceLT, Int.reduceEq, Int.reduceBEq, Int.reduceBNe, Int.reduceToNat, Int.reduceNeg, Nat.reduceBNe, forall_eq_or_imp]
    exact h
  · simp only [OI0, OI1, OI2, OI3, OI4, OI5, OI6, OI7, OI8, OI9, OI10, OI11, OI12, ↓reduceIte, reduceCtorEq, Nat.reduceAdd, Nat.reduceEqDiff, Nat.reduceBEq, Nat.reduceLT, Nat.reduceLeDiff, Nat.reduceMul, Nat.reduceSub, Int.reduceLE, Int.reduceLT, Int.reduceEq, Int.reduceBEq, Int.reduceBNe, Int.reduceToNat, Int.reduceNeg, Nat.reduceBNe, forall_eq_or_imp, i64A, beq_self_eq_true]
    refine c67n g hc ?_
    simp only [OI0, OI1, OI2, OI3, OI4, OI5, OI6, OI7, OI8, OI9, OI10, OI11, OI12, ↓reduceIte, reduceCtorEq, Nat.reduceAdd, Nat.reduceEqDiff, Nat.reduceBEq, Nat.reduceLT, Nat.reduceLeDiff, Nat.reduceMul, Nat.reduceSub, Int.reduceLE, Int.reduceLT, Int.reduceEq, Int.reduceBEq, Int.reduceBNe, Int.reduceToNat, Int.reduceNeg, Nat.reduceBNe, forall_eq_or_imp]
    refine c68n g hs.nm hc ?_
    simp only [OI0, OI1, OI2, OI3, OI4, OI5, OI6, OI7, OI8, OI9, OI10, OI11, OI12, ↓reduceIte, reduceCtorEq, Nat.reduceAdd, Nat.reduceEqDiff, Nat.reduceBEq, Nat.reduceLT, Nat.reduceLeDiff, Nat.reduceMul, Nat.reduceSub, Int.reduceLE, Int.reduceLT, Int.reduceEq, Int.reduceBEq, Int.reduceBNe, Int.reduceToNat, Int.reduceNeg, Nat.reduceBNe, forall_eq_or_imp]
    refine ACalls.weak (args' := [intsA [], intsA []]) (.cons (.one .nl) (.cons (.one .nl) .nil)) ?_
    refine c56 [] [] (by simp) ?_
    simp only [OI0, OI1, OI2, OI3, OI4, OI5, OI6, OI7, OI8, OI9, OI10, OI11, OI12, ↓reduceIte, reduceCtorEq, Nat.reduceAdd, Nat.reduceEqDiff, Nat.reduceBEq, Nat.reduceLT, Nat.reduceLeDiff, Nat.reduceMul, Nat.reduceSub, Int.reduceLE, Int.reduceLT, Int.reduceEq, Int.reduceBEq, Int.reduceBNe, Int.reduceToNat, Int.reduceNeg, Nat.reduceBNe, forall_eq_or_imp, decide_true]
    refine c55 g hs ?_
    simp only [OI0, OI1, OI2, OI3, OI4, OI5, OI6, OI7, OI8, OI9, OI10, OI11, OI12, ↓reduceIte, reduceCtorEq, Nat.reduceAdd, Nat.reduceEqDiff, Nat.reduceBEq, Nat.reduceLT, Nat.reduceLeDiff, Nat.reduceMul, Nat.reduceSub, Int.reduceLE, Int.reduceLT, Int.reduceEq, Int.reduceBEq, Int.reduceBNe, Int.reduceToNat, Int.reduceNeg, Nat.reduceBNe, forall_eq_or_imp, gA]
    refine c54 g hs ?_
    simp only [OI0, OI1, OI2, OI3, OI4, OI5, OI6, OI7, OI8, OI9, OI10, OI11, OI12, ↓reduceIte, reduceCtorEq, Nat.reduceAdd, Nat.reduceEqDiff, Nat.reduceBEq, Nat.reduceLT, Nat.reduceLeDiff, Nat.reduceMul, Nat.reduceSub, Int.reduceLE, Int.reduceLT, Int.reduceEq, Int.reduceBEq, Int.reduceBNe, Int.reduceToNat, Int.reduceNeg, Nat.reduceBNe, forall_eq_or_imp]
    exact h
end Go.Proofs.Ythlehngbadianaa.Ow
