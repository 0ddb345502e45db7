/- What the functions of the program do, each once: contracts of the logic (part dt). -/
import Derived.Test.YthlehngbadianaaTd1
set_option linter.unusedVariables false
set_option linter.unusedSimpArgs false
set_option linter.unnecessarySimpa false
set_option maxRecDepth 100000
set_option maxHeartbeats 4000000
namespace Go.Proofs.Ythlehngbadianaa.Ow
open Go Go.RowKit Go.Proofs
/- watershed/stamp.there -/
def cc191 : CC := (.seq (.region [⟨none, 2, (.val (.mv (.c (.bool false)))), [2], none, []⟩]) (.seq (.region [⟨none, 3, (.val (.mv (.s 0))), [], none, []⟩, ⟨none, 4, (.val (.bin .geq (.s 3) (.c (.int .i64 0)))), [3], none, []⟩, ⟨none, 5, (.val (.mv (.s 4))), [4], none, []⟩, ⟨(some (5, true)), 6, (.val (.mv (.s 0))), [0], none, []⟩, ⟨(some (5, true)), 7, (.val (.bin .leq (.s 6) (.c (.int .i64 3)))), [6], none, []⟩, ⟨none, 8, (.val (.pick (.s 5) (.s 7) (.c (.bool false)))), [5, 7], none, []⟩, ⟨none, 2, (.val (.mv (.s 8))), [8], none, []⟩]) .ret))
theorem ok191 : FnOk Try.prog 191 cc191 [(.t 2)] 1 9 := ⟨⟨_, Try.func191, by kernel_rfl, by kernel_rfl, by kernel_rfl⟩, by decide, by decide⟩

/- watershed/stamp.rounds -/
def cc192 : CC := (.seq (.region [⟨none, 1, (.box 0), [0], none, []⟩, ⟨none, 2, (.alloc (.agg #[(.int .u32 0), (.int .u32 0), (.int .u32 0)])), [], none, []⟩]) (.seq (.region [⟨none, 3, (.val (.fa (.s 1) 1)), [], none, []⟩, ⟨none, 4, (.val (.ld (.s 3) none)), [3], none, []⟩, ⟨none, 5, (.val (.sla (.s 2) none (some (.s 4)) none 3 1)), [4], none, []⟩, ⟨none, 6, (.val (.fa (.s 1) 2)), [1], none, []⟩, ⟨none, 7, (.val (.sla (.s 6) none none none 3 1)), [6], none, []⟩, ⟨none, 8, (.copy (.s 5) (.s 7)), [5, 7, 8], none, []⟩]) (.seq (.region [⟨none, 9, (.val (.ld (.s 2) (some 3))), [], none, []⟩, ⟨none, 0, (.store 3 (.s 2) (.s 9)), [9], none, []⟩]) .ret)))
theorem ok192 : FnOk Try.prog 192 cc192 [(.c 2 48 (some 3))] 1 10 := ⟨⟨_, Try.func192, by kernel_rfl, by kernel_rfl, by kernel_rfl⟩, by decide, by decide⟩

/- watershed/stamp.Check -/
def cc116 : CC := (.seq (.region [⟨none, 1, (.box 0), [0], none, []⟩, ⟨none, 2, (.val (.mv (.c (.int .i64 0)))), [2], none, []⟩]) (.seq (.seq (.region [⟨none, 6, (.val (.fa (.s 1) 1)), [], none, []⟩, ⟨none, 7, (.val (.ld (.s 6) none)), [6], none, []⟩, ⟨none, 8, (.callP 191 [(.s 7)]), [7], none, []⟩, ⟨none, 9, (.val (.un .not (.s 8))), [8], none, []⟩]) (.cond (.s 9) (.seq (.region [⟨none, 2, (.val (.mv (.c (.int .i64 10)))), [1, 9], none, []⟩]) .ret) .skip)) (.seq (.region [⟨none, 10, (.val (.fa (.s 1) 0)), [9], none, []⟩, ⟨none, 11, (.val (.ld (.s 10) none)), [10], none, []⟩, ⟨none, 12, (.val (.bin .gtr (.s 11) (.c (.int .u32 1048576)))), [11], none, []⟩, ⟨none, 3, (.val (.mv (.s 12))), [12], none, []⟩]) (.seq (.seq (.region [⟨none, 13, (.val (.fa (.s 1) 2)), [], none, []⟩, ⟨none, 14, (.val (.ld (.s 13) (some 3))), [13], none, []⟩, ⟨none, 15, (.val (.mv (.c (.int .i64 0)))), [], none, []⟩]) (.block 0 (.loop (.seq (.region [⟨none, 16, (.val (.bin .lss (.s 15) (.c (.int .i64 3)))), [], none, []⟩]) (.seq (.cond (.s 16) .skip (.exit 0)) (.seq (.block 1 (.seq (.region [⟨none, 17, (.val (.ix (.s 14) (.s 15) 3 1 none)), [16], none, []⟩, ⟨none, 5, (.val (.mv (.s 17))), [17], none, []⟩]) (.region [⟨none, 18, (.val (.mv (.s 3))), [3], none, []⟩, ⟨none, 19, (.val (.mv (.s 18))), [18], none, []⟩, ⟨(some (19, false)), 20, (.val (.mv (.s 5))), [5], none, []⟩, ⟨(some (19, false)), 21, (.val (.bin .gtr (.s 20) (.c (.int .u32 1048576)))), [], none, []⟩, ⟨none, 22, (.val (.pick (.s 19) (.c (.bool true)) (.s 21))), [19], none, []⟩, ⟨none, 3, (.val (.mv (.s 22))), [22], none, []⟩]))) (.region [⟨none, 23, (.val (.bin .add (.s 15) (.c (.int .i64 1)))), [15], none, []⟩, ⟨none, 15, (.val (.mv (.s 23))), [23], none, []⟩]))))))) (.seq (.seq (.region [⟨none, 24, (.val (.mv (.s 3))), [3, 14, 15, 16, 20, 21], none, []⟩]) (.cond (.s 24) (.seq (.region [⟨none, 2, (.val (.mv (.c (.int .i64 1)))), [1, 24], none, []⟩]) .ret) .skip)) (.seq (.seq (.region [⟨none, 25, (.val (.fa (.s 1) 2)), [24], none, []⟩, ⟨none, 26, (.val (.ld (.s 25) (some 3))), [25], none, []⟩, ⟨none, 27, (.val (.ld (.s 1) (some 5))), [1], none, []⟩, ⟨none, 28, (.callP 192 [(.s 27)]), [27], none, []⟩, ⟨none, 29, (.val (.eqa true [1, 1, 1] (.s 26) (.s 28))), [26, 28], none, []⟩]) (.cond (.s 29) (.seq (.region [⟨none, 2, (.val (.mv (.c (.int .i64 6)))), [29], none, []⟩]) .ret) .skip)) (.seq (.region [⟨none, 2, (.val (.mv (.c (.int .i64 0)))), [29], none, []⟩]) .ret)))))))
theorem ok116 : FnOk Try.prog 116 cc116 [(.t 2)] 1 30 := ⟨⟨_, Try.func116, by kernel_rfl, by kernel_rfl, by kernel_rfl⟩, by decide, by decide⟩

/- watershed/watershedref04.Check -/
def cc117 : CC := (.seq (.region [⟨none, 1, (.box 0), [0], none, []⟩, ⟨none, 2, (.val (.mv (.c (.int .i64 0)))), [2], none, []⟩]) (.seq (.seq (.region [⟨none, 5, (.val (.fa (.s 1) 1)), [], none, []⟩, ⟨none, 6, (.val (.ld (.s 5) none)), [5], none, []⟩, ⟨none, 7, (.val (.bin .lss (.s 6) (.c (.int .i64 0)))), [6], none, []⟩, ⟨none, 8, (.val (.mv (.s 7))), [7], none, []⟩, ⟨(some (8, false)), 9, (.val (.fa (.s 1) 1)), [], none, []⟩, ⟨(some (8, false)), 10, (.val (.ld (.s 9) none)), [9], none, []⟩, ⟨(some (8, false)), 11, (.val (.bin .gtr (.s 10) (.c (.int .i64 3)))), [10], none, []⟩, ⟨none, 12, (.val (.pick (.s 8) (.c (.bool true)) (.s 11))), [8, 11], none, []⟩]) (.cond (.s 12) (.seq (.region [⟨none, 2, (.val (.mv (.c (.int .i64 10)))), [1, 12], none, []⟩]) .ret) .skip)) (.seq (.seq (.region [⟨none, 13, (.val (.fa (.s 1) 0)), [12], none, []⟩, ⟨none, 14, (.val (.ld (.s 13) none)), [13], none, []⟩, ⟨none, 15, (.val (.bin .gtr (.s 14) (.c (.int .u32 1048576)))), [14], none, []⟩]) (.cond (.s 15) (.seq (.region [⟨none, 2, (.val (.mv (.c (.int .i64 1)))), [1, 15], none, []⟩]) .ret) .skip)) (.seq (.seq (.region [⟨none, 3, (.val (.mv (.c (.int .i64 0)))), [15], none, []⟩]) (.block 0 (.loop (.seq (.seq (.region [⟨none, 16, (.val (.mv (.s 3))), [], none, []⟩, ⟨none, 17, (.val (.bin .lss (.s 16) (.c (.int .i64 3)))), [16], none, []⟩]) (.cond (.s 17) .skip (.exit 0))) (.seq (.block 1 (.seq (.region [⟨none, 20, (.val (.mv (.s 3))), [17], none, []⟩, ⟨none, 21, (.val (.fa (.s 1) 2)), [], none, []⟩, ⟨none, 22, (.val (.iaa (.s 21) (.s 20) 3 1)), [20, 21], none, []⟩, ⟨none, 23, (.val (.ld (.s 22) none)), [22], none, []⟩, ⟨none, 24, (.val (.bin .gtr (.s 23) (.c (.int .u32 1048576)))), [23], none, []⟩]) (.cond (.s 24) (.seq (.region [⟨none, 2, (.val (.mv (.c (.int .i64 1)))), [1, 3, 24], none, []⟩]) .ret) .skip))) (.region [⟨none, 18, (.val (.mv (.s 3))), [3, 24], none, []⟩, ⟨none, 19, (.val (.bin .add (.s 18) (.c (.int .i64 1)))), [18], none, []⟩, ⟨none, 3, (.val (.mv (.s 19))), [19], none, []⟩])))))) (.seq (.seq (.region [⟨none, 25, (.val (.fa (.s 1) 1)), [3, 17], none, []⟩, ⟨none, 26, (.val (.ld (.s 25) none)), [25], none, []⟩, ⟨none, 4, (.val (.mv (.s 26))), [26], none, []⟩]) (.block 2 (.loop (.seq (.seq (.region [⟨none, 27, (.val (.mv (.s 4))), [], none, []⟩, ⟨none, 28, (.val (.bin .lss (.s 27) (.c (.int .i64 3)))), [27], none, []⟩]) (.cond (.s 28) .skip (.exit 2))) (.seq (.block 3 (.seq (.region [⟨none, 31, (.val (.mv (.s 4))), [28], none, []⟩, ⟨none, 32, (.val (.fa (.s 1) 2)), [], none, []⟩, ⟨none, 33, (.val (.iaa (.s 32) (.s 31) 3 1)), [31, 32], none, []⟩, ⟨none, 34, (.val (.ld (.s 33) none)), [33], none, []⟩, ⟨none, 35, (.val (.bin .neq (.s 34) (.c (.int .u32 0)))), [34], none, []⟩]) (.cond (.s 35) (.seq (.region [⟨none, 2, (.val (.mv (.c (.int .i64 6)))), [1, 4, 35], none, []⟩]) .ret) .skip))) (.region [⟨none, 29, (.val (.mv (.s 4))), [4, 35], none, []⟩, ⟨none, 30, (.val (.bin .add (.s 29) (.c (.int .i64 1)))), [29], none, []⟩, ⟨none, 4, (.val (.mv (.s 30))), [30], none, []⟩])))))) (.seq (.region [⟨none, 2, (.val (.mv (.c (.int .i64 0)))), [1, 4, 28], none, []⟩]) .ret))))))
theorem ok117 : FnOk Try.prog 117 cc117 [(.t 2)] 1 36 := ⟨⟨_, Try.func117, by kernel_rfl, by kernel_rfl, by kernel_rfl⟩, by decide, by decide⟩


/-- What is wrong with a time. -/
def chkT (ep : Int) (d : Int) (x y z : Int) : Int :=
  if d < 0 ∨ 3 < d then 10 else if 1048576 < ep ∨ 1048576 < x ∨ 1048576 < y ∨ 1048576 < z then 1 else if (d ≤ 0 ∧ x ≠ 0) ∨ (d ≤ 1 ∧ y ≠ 0) ∨ (d ≤ 2 ∧ z ≠ 0) then 6 else 0
def tmI (ep d x y z : Int) : AV := .agg [.v (.int .u32 ep), .v (.int .i64 d), .v (.int .u32 x), .v (.int .u32 y), .v (.int .u32 z)]
def arI (x y z : Int) : AV := .agg [.v (.int .u32 x), .v (.int .u32 y), .v (.int .u32 z)]
theorem c191 (d : Int) {Q : AV → Al → Prop} (h : Q (.v (.bool (decide (0 ≤ d ∧ d ≤ 3)))) []) : ACalls Try.prog 191 [] [i64A d] Q := by
  refine ok191.N hmix rfl ?_
  intro I
  by_cases h1 : 0 ≤ d
  · by_cases h2 : d ≤ 3
    · simp only [cc191, OI0, OI1, OI2, OI3, OI4, OI5, OI6, OI7, OI8, OI9, OI10, OI11, OI12, ↓reduceIte, reduceCtorEq, Nat.reduceAdd, Nat.reduceEqDiff, Nat.reduceBEq, Nat.reduceLT, Nat.reduceLeDiff, Nat.reduceMul, Nat.reduceSub, Int.reduceLE, Int.reduceLT, Int.reduceEq, Int.reduceBEq, Int.reduceBNe, Int.reduceToNat, Int.reduceNeg, Nat.reduceBNe, forall_eq_or_imp, i64A, h1, h2]
      simpa [h1, h2] using h
    · simp only [cc191, OI0, OI1, OI2, OI3, OI4, OI5, OI6, OI7, OI8, OI9, OI10, OI11, OI12, ↓reduceIte, reduceCtorEq, Nat.reduceAdd, Nat.reduceEqDiff, Nat.reduceBEq, Nat.reduceLT, Nat.reduceLeDiff, Nat.reduceMul, Nat.reduceSub, Int.reduceLE, Int.reduceLT, Int.reduceEq, Int.reduceBEq, Int.reduceBNe, Int.reduceToNat, Int.reduceNeg, Nat.reduceBNe, forall_eq_or_imp, i64A, h1, h2]
      simpa [h1, h2] using h
  · simp only [cc191, OI0, OI1, OI2, OI3, OI4, OI5, OI6, OI7, OI8, OI9, OI10, OI11, OI12, ↓reduceIte, reduceCtorEq, Nat.reduceAdd, Nat.reduceEqDiff, Nat.reduceBEq, Nat.reduceLT, Nat.reduceLeDiff, Nat.reduceMul, Nat.reduceSub, Int.reduceLE, Int.reduceLT, Int.reduceEq, Int.reduceBEq, Int.reduceBNe, Int.reduceToNat, Int.reduceNeg, Nat.reduceBNe, forall_eq_or_imp, i64A, h1]
    simpa [h1] using h
theorem c192 (ep d x y z : Int) (h0 : 0 ≤ d) (h3 : d ≤ 3) {Q : AV → Al → Prop} (h : Q (arI (if d ≤ 0 then 0 else x) (if d ≤ 1 then 0 else y) (if d ≤ 2 then 0 else z)) []) : ACalls Try.prog 192 [] [tmI ep d x y z] Q := by
  refine ok192.N hmix rfl ?_
  intro I
  have hc : d = 0 ∨ d = 1 ∨ d = 2 ∨ d = 3 := by omega
  have o0 : okBounds 3 none (some 0) none = some (0, 0, 3) := rfl
  have o1 : okBounds 3 none (some 1) none = some (0, 1, 3) := rfl
  have o2 : okBounds 3 none (some 2) none = some (0, 2, 3) := rfl
  have o3 : okBounds 3 none (some 3) none = some (0, 3, 3) := rfl
  have on : okBounds 3 none none none = some (0, 3, 3) := rfl
  rcases hc with rfl | rfl | rfl | rfl <;>
  · simp only [cc192, OI0, OI1, OI2, OI3, OI4, OI5, OI6, OI7, OI8, OI9, OI10, OI11, OI12, ↓reduceIte, reduceCtorEq, Nat.reduceAdd, Nat.reduceEqDiff, Nat.reduceBEq, Nat.reduceLT, Nat.reduceLeDiff, Nat.reduceMul, Nat.reduceSub, Int.reduceLE, Int.reduceLT, Int.reduceEq, Int.reduceBEq, Int.reduceBNe, Int.reduceToNat, Int.reduceNeg, Nat.reduceBNe, forall_eq_or_imp, tmI, o0, o1, o2, o3, on]
    simpa [arI] using h
def wr (ep x y z : Int) (i : Nat) : Prop := 1048576 < ep ∨ (0 < i ∧ 1048576 < x) ∨ (1 < i ∧ 1048576 < y) ∨ (2 < i ∧ 1048576 < z)
def st116 (I : World → Fp → Value → Fp → Prop) (ep d x y z : Int) : Nat × Bool → St
  | (i, b) => ⟨[(15, .v (.int .i64 i)), (14, arI x y z), (3, .v (.bool b)), (1, .ref ⟨1001, [], 0⟩)], [(1001, tmI ep d x y z), (9999, .ext I)], []⟩
theorem c116 (ep d x y z : Int) {Q : AV → Al → Prop} (h : Q (i64A (chkT ep d x y z)) []) : ACalls Try.prog 116 [] [tmI ep d x y z] Q := by
  refine ok116.N hmix rfl ?_
  intro I
  simp only [cc116, OI0, OI1, OI2, OI3, OI4, OI5, OI6, OI7, OI8, OI9, OI10, OI11, OI12, ↓reduceIte, reduceCtorEq, Nat.reduceAdd, Nat.reduceEqDiff, Nat.reduceBEq, Nat.reduceLT, Nat.reduceLeDiff, Nat.reduceMul, Nat.reduceSub, Int.reduceLE, Int.reduceLT, Int.reduceEq, Int.reduceBEq, Int.reduceBNe, Int.reduceToNat, Int.reduceNeg, Nat.reduceBNe, forall_eq_or_imp, tmI]
  refine c191 d ?_
  by_cases hd : 0 ≤ d ∧ d ≤ 3
  · simp only [OI0, OI1, OI2, OI3, OI4, OI5, OI6, OI7, OI8, OI9, OI10, OI11, OI12, ↓reduceIte, reduceCtorEq, Nat.reduceAdd, Nat.reduceEqDiff, Nat.reduceBEq, Nat.reduceLT, Nat.reduceLeDiff, Nat.reduceMul, Nat.reduceSub, Int.reduceLE, Int.reduceLT, Int.reduceEq, Int.reduceBEq, Int.reduceBNe, Int.reduceToNat, Int.reduceNeg, Nat.reduceBNe, forall_eq_or_imp, hd]
    refine W_loop (st116 I ep d x y z) (fun a => a.1 ≤ 3 ∧ (a.2 = true ↔ wr ep x y z a.1)) (fun a => 3 - a.1) (fun _ _ => rfl) ⟨(0, decide (1048576 < ep)), ⟨by simp, by simp [wr]⟩, ?_⟩ ?_
    · simp only [OI0, OI1, OI2, OI3, OI4, OI5, OI6, OI7, OI8, OI9, OI10, OI11, OI12, ↓reduceIte, reduceCtorEq, Nat.reduceAdd, Nat.reduceEqDiff, Nat.reduceBEq, Nat.reduceLT, Nat.reduceLeDiff, Nat.reduceMul, Nat.reduceSub, Int.reduceLE, Int.reduceLT, Int.reduceEq, Int.reduceBEq, Int.reduceBNe, Int.reduceToNat, Int.reduceNeg, Nat.reduceBNe, forall_eq_or_imp, st116, tmI, arI]
    rintro ⟨i, b⟩ ⟨h1, h2⟩
    simp only at h1 h2
    refine W_of_N ok116.small hmix ?_
    have hc : i = 0 ∨ i = 1 ∨ i = 2 ∨ i = 3 := by omega
    have w0 : IntKind.i64.wrap (0 + 1) = 1 := rfl
    have w1 : IntKind.i64.wrap (1 + 1) = 2 := rfl
    have w2 : IntKind.i64.wrap (2 + 1) = 3 := rfl
    rcases hc with rfl | rfl | rfl | rfl
    · cases b
      · simp only [OI0, OI1, OI2, OI3, OI4, OI5, OI6, OI7, OI8, OI9, OI10, OI11, OI12, ↓reduceIte, reduceCtorEq, Nat.reduceAdd, Nat.reduceEqDiff, Nat.reduceBEq, Nat.reduceLT, Nat.reduceLeDiff, Nat.reduceMul, Nat.reduceSub, Int.reduceLE, Int.reduceLT, Int.reduceEq, Int.reduceBEq, Int.reduceBNe, Int.reduceToNat, Int.reduceNeg, Nat.reduceBNe, forall_eq_or_imp, st116, arI, Int.natCast_zero, Int.cast_ofNat_Int, w0]
        simp only [Bool.false_eq_true, false_iff, wr] at h2
        refine ⟨(1, decide (1048576 < x)), ⟨⟨by simp, by simp only [wr, decide_eq_true_eq]; omega⟩, by simp⟩, ?_⟩
        simp only [OI0, OI1, OI2, OI3, OI4, OI5, OI6, OI7, OI8, OI9, OI10, OI11, OI12, ↓reduceIte, reduceCtorEq, Nat.reduceAdd, Nat.reduceEqDiff, Nat.reduceBEq, Nat.reduceLT, Nat.reduceLeDiff, Nat.reduceMul, Nat.reduceSub, Int.reduceLE, Int.reduceLT, Int.reduceEq, Int.reduceBEq, Int.reduceBNe, Int.reduceToNat, Int.reduceNeg, Nat.reduceBNe, forall_eq_or_imp, st116, arI, tmI]
        try rfl
      · simp only [OI0, OI1, OI2, OI3, OI4, OI5, OI6, OI7, OI8, OI9, OI10, OI11, OI12, ↓reduceIte, reduceCtorEq, Nat.reduceAdd, Nat.reduceEqDiff, Nat.reduceBEq, Nat.reduceLT, Nat.reduceLeDiff, Nat.reduceMul, Nat.reduceSub, Int.reduceLE, Int.reduceLT, Int.reduceEq, Int.reduceBEq, Int.reduceBNe, Int.reduceToNat, Int.reduceNeg, Nat.reduceBNe, forall_eq_or_imp, st116, arI, Int.natCast_zero, Int.cast_ofNat_Int, w0]
        simp only [true_iff, wr] at h2
        refine ⟨(1, true), ⟨⟨by simp, by simp only [wr, true_iff]; omega⟩, by simp⟩, ?_⟩
        simp only [OI0, OI1, OI2, OI3, OI4, OI5, OI6, OI7, OI8, OI9, OI10, OI11, OI12, ↓reduceIte, reduceCtorEq, Nat.reduceAdd, Nat.reduceEqDiff, Nat.reduceBEq, Nat.reduceLT, Nat.reduceLeDiff, Nat.reduceMul, Nat.reduceSub, Int.reduceLE, Int.reduceLT, Int.reduceEq, Int.reduceBEq, Int.reduceBNe, Int.reduceToNat, Int.reduceNeg, Nat.reduceBNe, forall_eq_or_imp, st116, arI, tmI]
        try rfl
    · cases b
      · simp only [OI0, OI1, OI2, OI3, OI4, OI5, OI6, OI7, OI8, OI9, OI10, OI11, OI12, ↓reduceIte, reduceCtorEq, Nat.reduceAdd, Nat.reduceEqDiff, Nat.reduceBEq, Nat.reduceLT, Nat.reduceLeDiff, Nat.reduceMul, Nat.reduceSub, Int.reduceLE, Int.reduceLT, Int.reduceEq, Int.reduceBEq, Int.reduceBNe, Int.reduceToNat, Int.reduceNeg, Nat.reduceBNe, forall_eq_or_imp, st116, arI, Int.natCast_zero, Int.cast_ofNat_Int, w1, Int.natCast_one]
        simp only [Bool.false_eq_true, false_iff, wr] at h2
        refine ⟨(2, decide (1048576 < y)), ⟨⟨by simp, by simp only [wr, decide_eq_true_eq]; omega⟩, by simp⟩, ?_⟩
        simp only [OI0, OI1, OI2, OI3, OI4, OI5, OI6, OI7, OI8, OI9, OI10, OI11, OI12, ↓reduceIte, reduceCtorEq, Nat.reduceAdd, Nat.reduceEqDiff, Nat.reduceBEq, Nat.reduceLT, Nat.reduceLeDiff, Nat.reduceMul, Nat.reduceSub, Int.reduceLE, Int.reduceLT, Int.reduceEq, Int.reduceBEq, Int.reduceBNe, Int.reduceToNat, Int.reduceNeg, Nat.reduceBNe, forall_eq_or_imp, st116, arI, tmI]
      · simp only [OI0, OI1, OI2, OI3, OI4, OI5, OI6, OI7, OI8, OI9, OI10, OI11, OI12, ↓reduceIte, reduceCtorEq, Nat.reduceAdd, Nat.reduceEqDiff, Nat.reduceBEq, Nat.reduceLT, Nat.reduceLeDiff, Nat.reduceMul, Nat.reduceSub, Int.reduceLE, Int.reduceLT, Int.reduceEq, Int.reduceBEq, Int.reduceBNe, Int.reduceToNat, Int.reduceNeg, Nat.reduceBNe, forall_eq_or_imp, st116, arI, Int.natCast_zero, Int.cast_ofNat_Int, w1, Int.natCast_one]
        simp only [true_iff, wr] at h2
        refine ⟨(2, true), ⟨⟨by simp, by simp only [wr, true_iff]; omega⟩, by simp⟩, ?_⟩
        simp only [OI0, OI1, OI2, OI3, OI4, OI5, OI6, OI7, OI8, OI9, OI10, OI11, OI12, ↓reduceIte, reduceCtorEq, Nat.reduceAdd, Nat.reduceEqDiff, Nat.reduceBEq, Nat.reduceLT, Nat.reduceLeDiff, Nat.reduceMul, Nat.reduceSub, Int.reduceLE, Int.reduceLT, Int.reduceEq, Int.reduceBEq, Int.reduceBNe, Int.reduceToNat, Int.reduceNeg, Nat.reduceBNe, forall_eq_or_imp, st116, arI, tmI]
    · cases b
      · simp only [OI0, OI1, OI2, OI3, OI4, OI5, OI6, OI7, OI8, OI9, OI10, OI11, OI12, ↓reduceIte, reduceCtorEq, Nat.reduceAdd, Nat.reduceEqDiff, Nat.reduceBEq, Nat.reduceLT, Nat.reduceLeDiff, Nat.reduceMul, Nat.reduceSub, Int.reduceLE, Int.reduceLT, Int.reduceEq, Int.reduceBEq, Int.reduceBNe, Int.reduceToNat, Int.reduceNeg, Nat.reduceBNe, forall_eq_or_imp, st116, arI, Int.natCast_zero, Int.cast_ofNat_Int, w2]
        simp only [Bool.false_eq_true, false_iff, wr] at h2
        refine ⟨(3, decide (1048576 < z)), ⟨⟨by simp, by simp only [wr, decide_eq_true_eq]; omega⟩, by simp⟩, ?_⟩
        simp only [OI0, OI1, OI2, OI3, OI4, OI5, OI6, OI7, OI8, OI9, OI10, OI11, OI12, ↓reduceIte, reduceCtorEq, Nat.reduceAdd, Nat.reduceEqDiff, Nat.reduceBEq, Nat.reduceLT, Nat.reduceLeDiff, Nat.reduceMul, Nat.reduceSub, Int.reduceLE, Int.reduceLT, Int.reduceEq, Int.reduceBEq, Int.reduceBNe, Int.reduceToNat, Int.reduceNeg, Nat.reduceBNe, forall_eq_or_imp, st116, arI, tmI]
      · simp only [OI0, OI1, OI2, OI3, OI4, OI5, OI6, OI7, OI8, OI9, OI10, OI11, OI12, ↓reduceIte, reduceCtorEq, Nat.reduceAdd, Nat.reduceEqDiff, Nat.reduceBEq, Nat.reduceLT, Nat.reduceLeDiff, Nat.reduceMul, Nat.reduceSub, Int.reduceLE, Int.reduceLT, Int.reduceEq, Int.reduceBEq, Int.reduceBNe, Int.reduceToNat, Int.reduceNeg, Nat.reduceBNe, forall_eq_or_imp, st116, arI, Int.natCast_zero, Int.cast_ofNat_Int, w2]
        simp only [true_iff, wr] at h2
        refine ⟨(3, true), ⟨⟨by simp, by simp only [wr, true_iff]; omega⟩, by simp⟩, ?_⟩
        simp only [OI0, OI1, OI2, OI3, OI4, OI5, OI6, OI7, OI8, OI9, OI10, OI11, OI12, ↓reduceIte, reduceCtorEq, Nat.reduceAdd, Nat.reduceEqDiff, Nat.reduceBEq, Nat.reduceLT, Nat.reduceLeDiff, Nat.reduceMul, Nat.reduceSub, Int.reduceLE, Int.reduceLT, Int.reduceEq, Int.reduceBEq, Int.reduceBNe, Int.reduceToNat, Int.reduceNeg, Nat.reduceBNe, forall_eq_or_imp, st116, arI, tmI]
    · cases b
      · simp only [OI0, OI1, OI2, OI3, OI4, OI5, OI6, OI7, OI8, OI9, OI10, OI11, OI12, ↓reduceIte, reduceCtorEq, Nat.reduceAdd, Nat.reduceEqDiff, Nat.reduceBEq, Nat.reduceLT, Nat.reduceLeDiff, Nat.reduceMul, Nat.reduceSub, Int.reduceLE, Int.reduceLT, Int.reduceEq, Int.reduceBEq, Int.reduceBNe, Int.reduceToNat, Int.reduceNeg, Nat.reduceBNe, forall_eq_or_imp, st116, arI, tmI, Int.natCast_zero, Int.cast_ofNat_Int]
        simp only [Bool.false_eq_true, false_iff, wr] at h2
        refine c192 ep d x y z hd.1 hd.2 ?_
        simp only [OI0, OI1, OI2, OI3, OI4, OI5, OI6, OI7, OI8, OI9, OI10, OI11, OI12, ↓reduceIte, reduceCtorEq, Nat.reduceAdd, Nat.reduceEqDiff, Nat.reduceBEq, Nat.reduceLT, Nat.reduceLeDiff, Nat.reduceMul, Nat.reduceSub, Int.reduceLE, Int.reduceLT, Int.reduceEq, Int.reduceBEq, Int.reduceBNe, Int.reduceToNat, Int.reduceNeg, Nat.reduceBNe, forall_eq_or_imp, arI]
        unfold chkT at h
        rw [if_neg (by omega), if_neg (by omega)] at h
        have key : (((x == if d ≤ 0 then 0 else x) && ((y == if d ≤ 1 then 0 else y) && z == if d ≤ 2 then 0 else z)) != true) = true ↔ ((d ≤ 0 ∧ x ≠ 0) ∨ (d ≤ 1 ∧ y ≠ 0) ∨ (d ≤ 2 ∧ z ≠ 0)) := by
          by_cases a0 : d ≤ 0 <;> by_cases a1 : d ≤ 1 <;> by_cases a2 : d ≤ 2 <;> simp [a0, a1, a2] <;> omega
        by_cases hk : ((d ≤ 0 ∧ x ≠ 0) ∨ (d ≤ 1 ∧ y ≠ 0) ∨ (d ≤ 2 ∧ z ≠ 0))
        · rw [if_pos (key.2 hk)]; rw [if_pos hk] at h; exact h
        · rw [if_neg (fun hh => hk (key.1 hh))]; rw [if_neg hk] at h; exact h
      · simp only [OI0, OI1, OI2, OI3, OI4, OI5, OI6, OI7, OI8, OI9, OI10, OI11, OI12, ↓reduceIte, reduceCtorEq, Nat.reduceAdd, Nat.reduceEqDiff, Nat.reduceBEq, Nat.reduceLT, Nat.reduceLeDiff, Nat.reduceMul, Nat.reduceSub, Int.reduceLE, Int.reduceLT, Int.reduceEq, Int.reduceBEq, Int.reduceBNe, Int.reduceToNat, Int.reduceNeg, Nat.reduceBNe, forall_eq_or_imp, st116, arI, Int.natCast_zero, Int.cast_ofNat_Int]
        simp only [true_iff, wr] at h2
        unfold chkT at h
        rw [if_neg (by omega), if_pos (by omega)] at h
        exact h
  · simp only [OI0, OI1, OI2, OI3, OI4, OI5, OI6, OI7, OI8, OI9, OI10, OI11, OI12, ↓reduceIte, reduceCtorEq, Nat.reduceAdd, Nat.reduceEqDiff, Nat.reduceBEq, Nat.reduceLT, Nat.reduceLeDiff, Nat.reduceMul, Nat.reduceSub, Int.reduceLE, Int.reduceLT, Int.reduceEq, Int.reduceBEq, Int.reduceBNe, Int.reduceToNat, Int.reduceNeg, Nat.reduceBNe, forall_eq_or_imp, hd]
    unfold chkT at h
    rw [if_pos (by omega)] at h
    exact h
def st117 (I : World → Fp → Value → Fp → Prop) (ep d x y z : Int) (i : Nat) : St := ⟨[(1, .ref ⟨1001, [], 0⟩), (3, .v (.int .i64 i))], [(1001, tmI ep d x y z), (9999, .ext I)], []⟩
def st117b (I : World → Fp → Value → Fp → Prop) (ep d x y z : Int) (i : Nat) : St := ⟨[(1, .ref ⟨1001, [], 0⟩), (4, .v (.int .i64 i))], [(1001, tmI ep d x y z), (9999, .ext I)], []⟩
theorem c117 (ep d x y z : Int) {Q : AV → Al → Prop} (h : Q (i64A (chkT ep d x y z)) []) : ACalls Try.prog 117 [] [tmI ep d x y z] Q := by
  refine ok117.N hmix rfl ?_
  intro I
  by_cases hd : 0 ≤ d ∧ d ≤ 3
  · have g1 : ¬ d < 0 := by omega
    have g2 : ¬ 3 < d := by omega
    by_cases he : 1048576 < ep
    · simp only [cc117, OI0, OI1, OI2, OI3, OI4, OI5, OI6, OI7, OI8, OI9, OI10, OI11, OI12, ↓reduceIte, reduceCtorEq, Nat.reduceAdd, Nat.reduceEqDiff, Nat.reduceBEq, Nat.reduceLT, Nat.reduceLeDiff, Nat.reduceMul, Nat.reduceSub, Int.reduceLE, Int.reduceLT, Int.reduceEq, Int.reduceBEq, Int.reduceBNe, Int.reduceToNat, Int.reduceNeg, Nat.reduceBNe, forall_eq_or_imp, tmI, g1, g2, he]
      unfold chkT at h
      rw [if_neg (by omega), if_pos (by omega)] at h
      exact h
    simp only [cc117, OI0, OI1, OI2, OI3, OI4, OI5, OI6, OI7, OI8, OI9, OI10, OI11, OI12, ↓reduceIte, reduceCtorEq, Nat.reduceAdd, Nat.reduceEqDiff, Nat.reduceBEq, Nat.reduceLT, Nat.reduceLeDiff, Nat.reduceMul, Nat.reduceSub, Int.reduceLE, Int.reduceLT, Int.reduceEq, Int.reduceBEq, Int.reduceBNe, Int.reduceToNat, Int.reduceNeg, Nat.reduceBNe, forall_eq_or_imp, tmI, g1, g2, he]
    refine W_loop (st117 I ep d x y z) (fun i => i ≤ 3 ∧ ¬ ((0 < i ∧ 1048576 < x) ∨ (1 < i ∧ 1048576 < y) ∨ (2 < i ∧ 1048576 < z))) (fun i => 3 - i) (fun _ _ => rfl) ⟨0, ⟨by simp, by simp⟩, ?_⟩ ?_
    · simp only [OI0, OI1, OI2, OI3, OI4, OI5, OI6, OI7, OI8, OI9, OI10, OI11, OI12, ↓reduceIte, reduceCtorEq, Nat.reduceAdd, Nat.reduceEqDiff, Nat.reduceBEq, Nat.reduceLT, Nat.reduceLeDiff, Nat.reduceMul, Nat.reduceSub, Int.reduceLE, Int.reduceLT, Int.reduceEq, Int.reduceBEq, Int.reduceBNe, Int.reduceToNat, Int.reduceNeg, Nat.reduceBNe, forall_eq_or_imp, st117, tmI]
      try rfl
    rintro i ⟨h1, h2⟩
    refine W_of_N ok117.small hmix ?_
    have hc : i = 0 ∨ i = 1 ∨ i = 2 ∨ i = 3 := by omega
    have w0 : IntKind.i64.wrap (0 + 1) = 1 := rfl
    have w1 : IntKind.i64.wrap (1 + 1) = 2 := rfl
    have w2 : IntKind.i64.wrap (2 + 1) = 3 := rfl
    rcases hc with rfl | rfl | rfl | rfl
    · by_cases hx : 1048576 < x
      · simp only [OI0, OI1, OI2, OI3, OI4, OI5, OI6, OI7, OI8, OI9, OI10, OI11, OI12, ↓reduceIte, reduceCtorEq, Nat.reduceAdd, Nat.reduceEqDiff, Nat.reduceBEq, Nat.reduceLT, Nat.reduceLeDiff, Nat.reduceMul, Nat.reduceSub, Int.reduceLE, Int.reduceLT, Int.reduceEq, Int.reduceBEq, Int.reduceBNe, Int.reduceToNat, Int.reduceNeg, Nat.reduceBNe, forall_eq_or_imp, st117, tmI, Int.natCast_zero, Int.cast_ofNat_Int, Int.natCast_one, w0, hx]
        unfold chkT at h
        rw [if_neg (by omega), if_pos (by omega)] at h
        exact h
      · simp only [OI0, OI1, OI2, OI3, OI4, OI5, OI6, OI7, OI8, OI9, OI10, OI11, OI12, ↓reduceIte, reduceCtorEq, Nat.reduceAdd, Nat.reduceEqDiff, Nat.reduceBEq, Nat.reduceLT, Nat.reduceLeDiff, Nat.reduceMul, Nat.reduceSub, Int.reduceLE, Int.reduceLT, Int.reduceEq, Int.reduceBEq, Int.reduceBNe, Int.reduceToNat, Int.reduceNeg, Nat.reduceBNe, forall_eq_or_imp, st117, tmI, Int.natCast_zero, Int.cast_ofNat_Int, Int.natCast_one, w0, hx]
        refine ⟨1, ⟨⟨by simp, by omega⟩, by simp⟩, ?_⟩
        simp only [OI0, OI1, OI2, OI3, OI4, OI5, OI6, OI7, OI8, OI9, OI10, OI11, OI12, ↓reduceIte, reduceCtorEq, Nat.reduceAdd, Nat.reduceEqDiff, Nat.reduceBEq, Nat.reduceLT, Nat.reduceLeDiff, Nat.reduceMul, Nat.reduceSub, Int.reduceLE, Int.reduceLT, Int.reduceEq, Int.reduceBEq, Int.reduceBNe, Int.reduceToNat, Int.reduceNeg, Nat.reduceBNe, forall_eq_or_imp, st117, tmI, Int.natCast_one]
        try rfl
    · by_cases hx : 1048576 < y
      · simp only [OI0, OI1, OI2, OI3, OI4, OI5, OI6, OI7, OI8, OI9, OI10, OI11, OI12, ↓reduceIte, reduceCtorEq, Nat.reduceAdd, Nat.reduceEqDiff, Nat.reduceBEq, Nat.reduceLT, Nat.reduceLeDiff, Nat.reduceMul, Nat.reduceSub, Int.reduceLE, Int.reduceLT, Int.reduceEq, Int.reduceBEq, Int.reduceBNe, Int.reduceToNat, Int.reduceNeg, Nat.reduceBNe, forall_eq_or_imp, st117, tmI, Int.natCast_zero, Int.cast_ofNat_Int, Int.natCast_one, w1, hx]
        unfold chkT at h
        rw [if_neg (by omega), if_pos (by omega)] at h
        exact h
      · simp only [OI0, OI1, OI2, OI3, OI4, OI5, OI6, OI7, OI8, OI9, OI10, OI11, OI12, ↓reduceIte, reduceCtorEq, Nat.reduceAdd, Nat.reduceEqDiff, Nat.reduceBEq, Nat.reduceLT, Nat.reduceLeDiff, Nat.reduceMul, Nat.reduceSub, Int.reduceLE, Int.reduceLT, Int.reduceEq, Int.reduceBEq, Int.reduceBNe, Int.reduceToNat, Int.reduceNeg, Nat.reduceBNe, forall_eq_or_imp, st117, tmI, Int.natCast_zero, Int.cast_ofNat_Int, Int.natCast_one, w1, hx]
        refine ⟨2, ⟨⟨by simp, by omega⟩, by simp⟩, ?_⟩
        simp only [OI0, OI1, OI2, OI3, OI4, OI5, OI6, OI7, OI8, OI9, OI10, OI11, OI12, ↓reduceIte, reduceCtorEq, Nat.reduceAdd, Nat.reduceEqDiff, Nat.reduceBEq, Nat.reduceLT, Nat.reduceLeDiff, Nat.reduceMul, Nat.reduceSub, Int.reduceLE, Int.reduceLT, Int.reduceEq, Int.reduceBEq, Int.reduceBNe, Int.reduceToNat, Int.reduceNeg, Nat.reduceBNe, forall_eq_or_imp, st117, tmI]
        try rfl
    · by_cases hx : 1048576 < z
      · simp only [OI0, OI1, OI2, OI3, OI4, OI5, OI6, OI7, OI8, OI9, OI10, OI11, OI12, ↓reduceIte, reduceCtorEq, Nat.reduceAdd, Nat.reduceEqDiff, Nat.reduceBEq, Nat.reduceLT, Nat.reduceLeDiff, Nat.reduceMul, Nat.reduceSub, Int.reduceLE, Int.reduceLT, Int.reduceEq, Int.reduceBEq, Int.reduceBNe, Int.reduceToNat, Int.reduceNeg, Nat.reduceBNe, forall_eq_or_imp, st117, tmI, Int.natCast_zero, Int.cast_ofNat_Int, Int.natCast_one, w2, hx]
        unfold chkT at h
        rw [if_neg (by omega), if_pos (by omega)] at h
        exact h
      · simp only [OI0, OI1, OI2, OI3, OI4, OI5, OI6, OI7, OI8, OI9, OI10, OI11, OI12, ↓reduceIte, reduceCtorEq, Nat.reduceAdd, Nat.reduceEqDiff, Nat.reduceBEq, Nat.reduceLT, Nat.reduceLeDiff, Nat.reduceMul, Nat.reduceSub, Int.reduceLE, Int.reduceLT, Int.reduceEq, Int.reduceBEq, Int.reduceBNe, Int.reduceToNat, Int.reduceNeg, Nat.reduceBNe, forall_eq_or_imp, st117, tmI, Int.natCast_zero, Int.cast_ofNat_Int, Int.natCast_one, w2, hx]
        refine ⟨3, ⟨⟨by simp, by omega⟩, by simp⟩, ?_⟩
        simp only [OI0, OI1, OI2, OI3, OI4, OI5, OI6, OI7, OI8, OI9, OI10, OI11, OI12, ↓reduceIte, reduceCtorEq, Nat.reduceAdd, Nat.reduceEqDiff, Nat.reduceBEq, Nat.reduceLT, Nat.reduceLeDiff, Nat.reduceMul, Nat.reduceSub, Int.reduceLE, Int.reduceLT, Int.reduceEq, Int.reduceBEq, Int.reduceBNe, Int.reduceToNat, Int.reduceNeg, Nat.reduceBNe, forall_eq_or_imp, st117, tmI]
        try rfl
    · simp only [OI0, OI1, OI2, OI3, OI4, OI5, OI6, OI7, OI8, OI9, OI10, OI11, OI12, ↓reduceIte, reduceCtorEq, Nat.reduceAdd, Nat.reduceEqDiff, Nat.reduceBEq, Nat.reduceLT, Nat.reduceLeDiff, Nat.reduceMul, Nat.reduceSub, Int.reduceLE, Int.reduceLT, Int.reduceEq, Int.reduceBEq, Int.reduceBNe, Int.reduceToNat, Int.reduceNeg, Nat.reduceBNe, forall_eq_or_imp, st117, tmI, Int.natCast_zero, Int.cast_ofNat_Int, Int.natCast_one]
      obtain ⟨k, rfl⟩ : ∃ k : Nat, d = k := ⟨d.toNat, by omega⟩
      refine W_loop (st117b I ep k x y z) (fun i => k ≤ i ∧ i ≤ 3 ∧ ¬ ((k ≤ 0 ∧ 0 < i ∧ x ≠ 0) ∨ (k ≤ 1 ∧ 1 < i ∧ y ≠ 0) ∨ (k ≤ 2 ∧ 2 < i ∧ z ≠ 0))) (fun i => 3 - i) (fun _ _ => rfl) ⟨k, ⟨by omega, by omega, by omega⟩, ?_⟩ ?_
      · simp only [OI0, OI1, OI2, OI3, OI4, OI5, OI6, OI7, OI8, OI9, OI10, OI11, OI12, ↓reduceIte, reduceCtorEq, Nat.reduceAdd, Nat.reduceEqDiff, Nat.reduceBEq, Nat.reduceLT, Nat.reduceLeDiff, Nat.reduceMul, Nat.reduceSub, Int.reduceLE, Int.reduceLT, Int.reduceEq, Int.reduceBEq, Int.reduceBNe, Int.reduceToNat, Int.reduceNeg, Nat.reduceBNe, forall_eq_or_imp, st117b, tmI]
      rintro i ⟨j0, j1, j2⟩
      refine W_of_N ok117.small hmix ?_
      have hc : i = 0 ∨ i = 1 ∨ i = 2 ∨ i = 3 := by omega
      rcases hc with rfl | rfl | rfl | rfl
      · by_cases hx : x = 0
        · have gx : (x != 0) = false := by simpa using hx
          simp only [OI0, OI1, OI2, OI3, OI4, OI5, OI6, OI7, OI8, OI9, OI10, OI11, OI12, ↓reduceIte, reduceCtorEq, Nat.reduceAdd, Nat.reduceEqDiff, Nat.reduceBEq, Nat.reduceLT, Nat.reduceLeDiff, Nat.reduceMul, Nat.reduceSub, Int.reduceLE, Int.reduceLT, Int.reduceEq, Int.reduceBEq, Int.reduceBNe, Int.reduceToNat, Int.reduceNeg, Nat.reduceBNe, forall_eq_or_imp, st117b, tmI, Int.natCast_zero, Int.cast_ofNat_Int, Int.natCast_one, w0, gx]
          refine ⟨1, ⟨⟨by omega, by omega, by omega⟩, by simp⟩, ?_⟩
          simp only [OI0, OI1, OI2, OI3, OI4, OI5, OI6, OI7, OI8, OI9, OI10, OI11, OI12, ↓reduceIte, reduceCtorEq, Nat.reduceAdd, Nat.reduceEqDiff, Nat.reduceBEq, Nat.reduceLT, Nat.reduceLeDiff, Nat.reduceMul, Nat.reduceSub, Int.reduceLE, Int.reduceLT, Int.reduceEq, Int.reduceBEq, Int.reduceBNe, Int.reduceToNat, Int.reduceNeg, Nat.reduceBNe, forall_eq_or_imp, st117b, tmI, Int.natCast_one]
          try rfl
        · have gx : (x != 0) = true := by simpa using hx
          simp only [OI0, OI1, OI2, OI3, OI4, OI5, OI6, OI7, OI8, OI9, OI10, OI11, OI12, ↓reduceIte, reduceCtorEq, Nat.reduceAdd, Nat.reduceEqDiff, Nat.reduceBEq, Nat.reduceLT, Nat.reduceLeDiff, Nat.reduceMul, Nat.reduceSub, Int.reduceLE, Int.reduceLT, Int.reduceEq, Int.reduceBEq, Int.reduceBNe, Int.reduceToNat, Int.reduceNeg, Nat.reduceBNe, forall_eq_or_imp, st117b, tmI, Int.natCast_zero, Int.cast_ofNat_Int, Int.natCast_one, w0, gx]
          unfold chkT at h
          rw [if_neg (by omega), if_neg (by omega), if_pos (by omega)] at h
          exact h
      · by_cases hx : y = 0
        · have gx : (y != 0) = false := by simpa using hx
          simp only [OI0, OI1, OI2, OI3, OI4, OI5, OI6, OI7, OI8, OI9, OI10, OI11, OI12, ↓reduceIte, reduceCtorEq, Nat.reduceAdd, Nat.reduceEqDiff, Nat.reduceBEq, Nat.reduceLT, Nat.reduceLeDiff, Nat.reduceMul, Nat.reduceSub, Int.reduceLE, Int.reduceLT, Int.reduceEq, Int.reduceBEq, Int.reduceBNe, Int.reduceToNat, Int.reduceNeg, Nat.reduceBNe, forall_eq_or_imp, st117b, tmI, Int.natCast_zero, Int.cast_ofNat_Int, Int.natCast_one, w1, gx]
          refine ⟨2, ⟨⟨by omega, by omega, by omega⟩, by simp⟩, ?_⟩
          simp only [OI0, OI1, OI2, OI3, OI4, OI5, OI6, OI7, OI8, OI9, OI10, OI11, OI12, ↓reduceIte, reduceCtorEq, Nat.reduceAdd, Nat.reduceEqDiff, Nat.reduceBEq, Nat.reduceLT, Nat.reduceLeDiff, Nat.reduceMul, Nat.reduceSub, Int.reduceLE, Int.reduceLT, Int.reduceEq, Int.reduceBEq, Int.reduceBNe, Int.reduceToNat, Int.reduceNeg, Nat.reduceBNe, forall_eq_or_imp, st117b, tmI]
          try rfl
        · have gx : (y != 0) = true := by simpa using hx
          simp only [OI0, OI1, OI2, OI3, OI4, OI5, OI6, OI7, OI8, OI9, OI10, OI11, OI12, ↓reduceIte, reduceCtorEq, Nat.reduceAdd, Nat.reduceEqDiff, Nat.reduceBEq, Nat.reduceLT, Nat.reduceLeDiff, Nat.reduceMul, Nat.reduceSub, Int.reduceLE, Int.reduceLT, Int.reduceEq, Int.reduceBEq, Int.reduceBNe, Int.reduceToNat, Int.reduceNeg, Nat.reduceBNe, forall_eq_or_imp, st117b, tmI, Int.natCast_zero, Int.cast_ofNat_Int, Int.natCast_one, w1, gx]
          unfold chkT at h
          rw [if_neg (by omega), if_neg (by omega), if_pos (by omega)] at h
          exact h
      · by_cases hx : z = 0
        · have gx : (z != 0) = false := by simpa using hx
          simp only [OI0, OI1, OI2, OI3, OI4, OI5, OI6, OI7, OI8, OI9, OI10, OI11, OI12, ↓reduceIte, reduceCtorEq, Nat.reduceAdd, Nat.reduceEqDiff, Nat.reduceBEq, Nat.reduceLT, Nat.reduceLeDiff, Nat.reduceMul, Nat.reduceSub, Int.reduceLE, Int.reduceLT, Int.reduceEq, Int.reduceBEq, Int.reduceBNe, Int.reduceToNat, Int.reduceNeg, Nat.reduceBNe, forall_eq_or_imp, st117b, tmI, Int.natCast_zero, Int.cast_ofNat_Int, Int.natCast_one, w2, gx]
          refine ⟨3, ⟨⟨by omega, by omega, by omega⟩, by simp⟩, ?_⟩
          simp only [OI0, OI1, OI2, OI3, OI4, OI5, OI6, OI7, OI8, OI9, OI10, OI11, OI12, ↓reduceIte, reduceCtorEq, Nat.reduceAdd, Nat.reduceEqDiff, Nat.reduceBEq, Nat.reduceLT, Nat.reduceLeDiff, Nat.reduceMul, Nat.reduceSub, Int.reduceLE, Int.reduceLT, Int.reduceEq, Int.reduceBEq, Int.reduceBNe, Int.reduceToNat, Int.reduceNeg, Nat.reduceBNe, forall_eq_or_imp, st117b, tmI]
          try rfl
        · have gx : (z != 0) = true := by simpa using hx
          simp only [OI0, OI1, OI2, OI3, OI4, OI5, OI6, OI7, OI8, OI9, OI10, OI11, OI12, ↓reduceIte, reduceCtorEq, Nat.reduceAdd, Nat.reduceEqDiff, Nat.reduceBEq, Nat.reduceLT, Nat.reduceLeDiff, Nat.reduceMul, Nat.reduceSub, Int.reduceLE, Int.reduceLT, Int.reduceEq, Int.reduceBEq, Int.reduceBNe, Int.reduceToNat, Int.reduceNeg, Nat.reduceBNe, forall_eq_or_imp, st117b, tmI, Int.natCast_zero, Int.cast_ofNat_Int, Int.natCast_one, w2, gx]
          unfold chkT at h
          rw [if_neg (by omega), if_neg (by omega), if_pos (by omega)] at h
          exact h
      · simp only [OI0, OI1, OI2, OI3, OI4, OI5, OI6, OI7, OI8, OI9, OI10, OI11, OI12, ↓reduceIte, reduceCtorEq, Nat.reduceAdd, Nat.reduceEqDiff, Nat.reduceBEq, Nat.reduceLT, Nat.reduceLeDiff, Nat.reduceMul, Nat.reduceSub, Int.reduceLE, Int.reduceLT, Int.reduceEq, Int.reduceBEq, Int.reduceBNe, Int.reduceToNat, Int.reduceNeg, Nat.reduceBNe, forall_eq_or_imp, st117b, tmI, Int.natCast_zero, Int.cast_ofNat_Int, Int.natCast_one]
        unfold chkT at h
        rw [if_neg (by omega), if_neg (by omega), if_neg (by omega)] at h
        exact h
  · unfold chkT at h
    rw [if_pos (by omega)] at h
    by_cases g1 : d < 0
    · simp only [cc117, OI0, OI1, OI2, OI3, OI4, OI5, OI6, OI7, OI8, OI9, OI10, OI11, OI12, ↓reduceIte, reduceCtorEq, Nat.reduceAdd, Nat.reduceEqDiff, Nat.reduceBEq, Nat.reduceLT, Nat.reduceLeDiff, Nat.reduceMul, Nat.reduceSub, Int.reduceLE, Int.reduceLT, Int.reduceEq, Int.reduceBEq, Int.reduceBNe, Int.reduceToNat, Int.reduceNeg, Nat.reduceBNe, forall_eq_or_imp, tmI, g1]
      exact h
    · have g2 : 3 < d := by omega
      simp only [cc117, OI0, OI1, OI2, OI3, OI4, OI5, OI6, OI7, OI8, OI9, OI10, OI11, OI12, ↓reduceIte, reduceCtorEq, Nat.reduceAdd, Nat.reduceEqDiff, Nat.reduceBEq, Nat.reduceLT, Nat.reduceLeDiff, Nat.reduceMul, Nat.reduceSub, Int.reduceLE, Int.reduceLT, Int.reduceEq, Int.reduceBEq, Int.reduceBNe, Int.reduceToNat, Int.reduceNeg, Nat.reduceBNe, forall_eq_or_imp, tmI, g1, g2]
      exact h
end Go.Proofs.Ythlehngbadianaa.Ow
