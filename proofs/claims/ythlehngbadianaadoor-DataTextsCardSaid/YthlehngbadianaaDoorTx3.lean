/- What the functions of the program do, each once: contracts of the logic (part x3). -/
import Derived.Test.YthlehngbadianaaDoorTx1x2
set_option linter.unusedVariables false
set_option linter.unusedSimpArgs false
set_option linter.unnecessarySimpa false
set_option maxRecDepth 100000
set_option maxHeartbeats 4000000
namespace Go.Proofs.YthlehngbadianaaDoor.Ow
open Go Go.RowKit Go.Proofs
/- watershed/words.Signed -/
def cc1010 : CC := (.seq (.region [⟨none, 2, (.val (.mv (.c (.int .i64 0)))), [2], none, []⟩, ⟨none, 3, (.val (.mv (.c (.int .i64 0)))), [3], none, []⟩]) (.seq (.region [⟨none, 10, (.val (.mv (.s 0))), [0], none, []⟩, ⟨none, 11, (.callP 37 [(.s 10), (.c (.string ⟨#[45]⟩))]), [10], none, []⟩, ⟨none, 9, (.val (.mv (.s 11))), [11], none, []⟩, ⟨none, 12, (.val (.ext (.s 9) 0)), [], none, []⟩, ⟨none, 13, (.val (.ext (.s 9) 1)), [9], none, []⟩, ⟨none, 4, (.val (.mv (.s 12))), [12], none, []⟩, ⟨none, 5, (.val (.mv (.s 13))), [13], none, []⟩]) (.seq (.region [⟨none, 6, (.val (.mv (.c (.int .u64 9223372036854775807)))), [], none, []⟩]) (.seq (.seq (.region [⟨none, 14, (.val (.mv (.s 5))), [], none, []⟩]) (.cond (.s 14) (.region [⟨none, 15, (.val (.mv (.s 6))), [6, 14], none, []⟩, ⟨none, 16, (.val (.bin .add (.s 15) (.c (.int .u64 1)))), [15], none, []⟩, ⟨none, 6, (.val (.mv (.s 16))), [16], none, []⟩]) .skip)) (.seq (.region [⟨none, 18, (.val (.mv (.s 4))), [4, 14], none, []⟩, ⟨none, 19, (.val (.mv (.s 6))), [6], none, []⟩, ⟨none, 20, (.callP 38 [(.s 18), (.s 19)]), [18, 19], none, []⟩, ⟨none, 17, (.val (.mv (.s 20))), [20], none, []⟩, ⟨none, 21, (.val (.ext (.s 17) 0)), [], none, []⟩, ⟨none, 22, (.val (.ext (.s 17) 1)), [17], none, []⟩, ⟨none, 7, (.val (.mv (.s 21))), [21], none, []⟩, ⟨none, 8, (.val (.mv (.s 22))), [22], none, []⟩]) (.seq (.block 0 (.seq (.region [⟨none, 24, (.val (.mv (.s 8))), [8], none, []⟩, ⟨none, 25, (.val (.un .not (.s 24))), [24], none, []⟩, ⟨none, 26, (.val (.mv (.s 25))), [25], none, []⟩, ⟨(some (26, false)), 27, (.val (.mv (.s 5))), [], none, []⟩, ⟨(some (26, false)), 28, (.val (.mv (.s 27))), [27], none, []⟩, ⟨(some (28, true)), 29, (.val (.mv (.s 7))), [], none, []⟩, ⟨(some (28, true)), 30, (.val (.bin .eql (.s 29) (.c (.int .u64 0)))), [29], none, []⟩, ⟨(some (26, false)), 31, (.val (.pick (.s 28) (.s 30) (.c (.bool false)))), [28, 30], none, []⟩, ⟨none, 32, (.val (.pick (.s 26) (.c (.bool true)) (.s 31))), [26, 31], none, []⟩, ⟨none, 23, (.val (.mv (.s 32))), [32], none, []⟩]) (.cond (.s 23) (.seq (.region [⟨none, 2, (.val (.mv (.c (.int .i64 0)))), [5, 7, 23], none, []⟩, ⟨none, 3, (.val (.mv (.c (.int .i64 6)))), [], none, []⟩]) .ret) (.seq (.region [⟨none, 34, (.val (.mv (.s 5))), [5, 23], none, []⟩, ⟨none, 33, (.val (.mv (.s 34))), [34], none, []⟩]) (.cond (.s 33) (.seq (.region [⟨none, 35, (.val (.mv (.s 7))), [7, 33], none, []⟩, ⟨none, 36, (.val (.un .neg (.s 35))), [35], none, []⟩, ⟨none, 37, (.val (.cvi .i64 (.s 36))), [36], none, []⟩, ⟨none, 2, (.val (.mv (.s 37))), [37], none, []⟩, ⟨none, 3, (.val (.mv (.c (.int .i64 0)))), [], none, []⟩]) .ret) .skip))))) (.seq (.region [⟨none, 38, (.val (.mv (.s 7))), [7, 33], none, []⟩, ⟨none, 39, (.val (.cvi .i64 (.s 38))), [38], none, []⟩, ⟨none, 2, (.val (.mv (.s 39))), [39], none, []⟩, ⟨none, 3, (.val (.mv (.c (.int .i64 0)))), [], none, []⟩]) .ret)))))))
theorem ok1010 : FnOk Tryd.prog 18 cc1010 [(.t 2), (.t 3)] 1 40 := ⟨⟨_, Tryd.func18, by kernel_rfl, by kernel_rfl, by kernel_rfl⟩, by decide, by decide⟩
/- watershed/watershedref08.Signed -/
def cc1011 : CC := (.seq (.region [⟨none, 2, (.val (.mv (.c (.int .i64 0)))), [2], none, []⟩, ⟨none, 3, (.val (.mv (.c (.int .i64 0)))), [3], none, []⟩]) (.seq (.region [⟨none, 4, (.val (.mv (.c (.int .u64 0)))), [], none, []⟩]) (.seq (.region [⟨none, 5, (.val (.mv (.c (.int .i64 0)))), [], none, []⟩]) (.seq (.seq (.region [⟨none, 8, (.val (.mv (.s 0))), [], none, []⟩, ⟨none, 9, (.val (.lns (.s 8))), [8], none, []⟩, ⟨none, 10, (.val (.bin .gtr (.s 9) (.c (.int .i64 0)))), [9], none, []⟩, ⟨none, 11, (.val (.mv (.s 10))), [10], none, []⟩, ⟨(some (11, true)), 12, (.val (.mv (.s 0))), [], none, []⟩, ⟨(some (11, true)), 13, (.val (.is (.s 12) (.c (.int .i64 0)))), [12], none, []⟩, ⟨(some (11, true)), 14, (.val (.bin .eql (.s 13) (.c (.int .u8 45)))), [13], none, []⟩, ⟨none, 15, (.val (.pick (.s 11) (.s 14) (.c (.bool false)))), [11, 14], none, []⟩]) (.cond (.s 15) (.region [⟨none, 5, (.val (.mv (.c (.int .i64 1)))), [15], none, []⟩]) .skip)) (.seq (.seq (.region [⟨none, 16, (.val (.mv (.s 0))), [15], none, []⟩, ⟨none, 17, (.val (.lns (.s 16))), [16], none, []⟩, ⟨none, 18, (.val (.bin .gtr (.s 17) (.c (.int .i64 20)))), [17], none, []⟩]) (.cond (.s 18) (.seq (.region [⟨none, 2, (.val (.mv (.c (.int .i64 0)))), [0, 4, 5, 18], none, []⟩, ⟨none, 3, (.val (.mv (.c (.int .i64 6)))), [], none, []⟩]) .ret) .skip)) (.seq (.seq (.region [⟨none, 19, (.val (.mv (.s 5))), [18], none, []⟩, ⟨none, 6, (.val (.mv (.s 19))), [19], none, []⟩]) (.block 0 (.loop (.seq (.seq (.region [⟨none, 20, (.val (.mv (.s 6))), [], none, []⟩, ⟨none, 21, (.val (.mv (.s 0))), [], none, []⟩, ⟨none, 22, (.val (.lns (.s 21))), [21], none, []⟩, ⟨none, 23, (.val (.bin .lss (.s 20) (.s 22))), [20, 22], none, []⟩]) (.cond (.s 23) .skip (.exit 0))) (.seq (.block 1 (.seq (.seq (.region [⟨none, 26, (.val (.mv (.s 0))), [23], none, []⟩, ⟨none, 27, (.val (.mv (.s 6))), [], none, []⟩, ⟨none, 28, (.val (.is (.s 26) (.s 27))), [26, 27], none, []⟩, ⟨none, 29, (.val (.bin .lss (.s 28) (.c (.int .u8 48)))), [28], none, []⟩, ⟨none, 30, (.val (.mv (.s 29))), [29], none, []⟩, ⟨(some (30, false)), 31, (.val (.mv (.s 0))), [], none, []⟩, ⟨(some (30, false)), 32, (.val (.mv (.s 6))), [], none, []⟩, ⟨(some (30, false)), 33, (.val (.is (.s 31) (.s 32))), [], none, []⟩, ⟨(some (30, false)), 34, (.val (.bin .gtr (.s 33) (.c (.int .u8 57)))), [], none, []⟩, ⟨none, 35, (.val (.pick (.s 30) (.c (.bool true)) (.s 34))), [30], none, []⟩]) (.cond (.s 35) (.seq (.region [⟨none, 2, (.val (.mv (.c (.int .i64 0)))), [0, 4, 5, 6, 31, 32, 33, 34, 35], none, []⟩, ⟨none, 3, (.val (.mv (.c (.int .i64 6)))), [], none, []⟩]) .ret) .skip)) (.region [⟨none, 36, (.val (.mv (.s 4))), [4, 35], none, []⟩, ⟨none, 37, (.val (.bin .mul (.s 36) (.c (.int .u64 10)))), [36], none, []⟩, ⟨none, 38, (.val (.mv (.s 0))), [], none, []⟩, ⟨none, 39, (.val (.mv (.s 6))), [], none, []⟩, ⟨none, 40, (.val (.is (.s 38) (.s 39))), [38, 39], none, []⟩, ⟨none, 41, (.val (.bin .sub (.s 40) (.c (.int .u8 48)))), [40], none, []⟩, ⟨none, 42, (.val (.cvi .u64 (.s 41))), [41], none, []⟩, ⟨none, 43, (.val (.bin .add (.s 37) (.s 42))), [37, 42], none, []⟩, ⟨none, 4, (.val (.mv (.s 43))), [43], none, []⟩]))) (.region [⟨none, 24, (.val (.mv (.s 6))), [6], none, []⟩, ⟨none, 25, (.val (.bin .add (.s 24) (.c (.int .i64 1)))), [24], none, []⟩, ⟨none, 6, (.val (.mv (.s 25))), [25], none, []⟩])))))) (.seq (.region [⟨none, 44, (.val (.mv (.s 4))), [4, 6, 23, 31, 32, 33, 34], none, []⟩, ⟨none, 45, (.val (.cvi .i64 (.s 44))), [44], none, []⟩, ⟨none, 7, (.val (.mv (.s 45))), [45], none, []⟩]) (.seq (.seq (.region [⟨none, 46, (.val (.mv (.s 5))), [5], none, []⟩, ⟨none, 47, (.val (.bin .eql (.s 46) (.c (.int .i64 1)))), [46], none, []⟩]) (.cond (.s 47) (.region [⟨none, 48, (.val (.mv (.s 7))), [7, 47], none, []⟩, ⟨none, 49, (.val (.un .neg (.s 48))), [48], none, []⟩, ⟨none, 7, (.val (.mv (.s 49))), [49], none, []⟩]) .skip)) (.seq (.seq (.region [⟨none, 50, (.val (.mv (.s 7))), [47], none, []⟩, ⟨none, 51, (.callP 22 [(.s 50)]), [50], none, []⟩, ⟨none, 52, (.val (.mv (.s 0))), [0], none, []⟩, ⟨none, 53, (.val (.bin .neq (.s 51) (.s 52))), [51, 52], none, []⟩]) (.cond (.s 53) (.seq (.region [⟨none, 2, (.val (.mv (.c (.int .i64 0)))), [7, 53], none, []⟩, ⟨none, 3, (.val (.mv (.c (.int .i64 6)))), [], none, []⟩]) .ret) .skip)) (.seq (.region [⟨none, 54, (.val (.mv (.s 7))), [7, 53], none, []⟩, ⟨none, 2, (.val (.mv (.s 54))), [54], none, []⟩, ⟨none, 3, (.val (.mv (.c (.int .i64 0)))), [], none, []⟩]) .ret))))))))))
theorem ok1011 : FnOk Tryd.prog 19 cc1011 [(.t 2), (.t 3)] 1 55 := ⟨⟨_, Tryd.func19, by kernel_rfl, by kernel_rfl, by kernel_rfl⟩, by decide, by decide⟩
/-- What Signed returns. -/
def sgnO (w : List UInt8) : Int × Int := match sgnR w with
  | some v => (v, 0)
  | none => (0, 6)
def sgA (w : List UInt8) : Nat := if w.head? = some 45 then 1 else 0
theorem sgnR_digs {w : List UInt8} {v : Int} (h : sgnR w = some v) : ∃ n, natR (w.drop (sgA w)) = some n ∧ (v = if sgA w = 1 then -(n : Int) else n) ∧ n ≤ 9223372036854775808 := by
  unfold sgnR at h
  unfold sgA
  split at h
  · rename_i hc
    rw [if_pos hc]
    split at h
    · rename_i n hn
      split at h
      · cases h
      · obtain rfl := Option.some.inj h
        exact ⟨n, hn, by simp, by omega⟩
    · cases h
  · rename_i hc
    rw [if_neg hc]
    split at h
    · rename_i n hn
      split at h
      · cases h
      · obtain rfl := Option.some.inj h
        exact ⟨n, by simpa using hn, by simp, by omega⟩
    · cases h
theorem pre45 (w : List UInt8) : [45].isPrefixOf w = decide (w.head? = some 45) := by
  cases w with
  | nil => rfl
  | cons x xs =>
    simp only [List.isPrefixOf, Bool.and_true, List.head?_cons, Option.some.injEq]
    rw [Bool.eq_iff_iff, beq_iff_eq, decide_eq_true_eq]
    exact ⟨fun e => e.symm, fun e => e.symm⟩
theorem c1010 (w : List UInt8) (hl : w.length ≤ 1000000) {Q : AV → Al → Prop} (h : Q (.tup [i64A (sgnO w).1, i64A (sgnO w).2]) []) : ACalls Tryd.prog 18 [] [strV w] Q := by
  refine ok1010.N hmix rfl ?_
  intro I
  have wm : IntKind.u64.wrap (9223372036854775807 + 1) = 9223372036854775808 := by decide
  simp only [cc1010, OI, ↓reduceIte, reduceCtorEq, Nat.reduceAdd, Nat.reduceEqDiff, Nat.reduceBEq, Nat.reduceLT, Nat.reduceLeDiff, Nat.reduceMul, Nat.reduceSub, Int.reduceLE, Int.reduceLT, Int.reduceEq, Int.reduceBEq, Int.reduceBNe, Int.reduceToNat, Int.reduceNeg, Nat.reduceBNe, strV]
  refine c1020 w [45] ?_
  rw [pre45]
  by_cases h45 : w.head? = some 45
  · have e1 : cutP w [45] = w.drop 1 := by
      rw [cutP, pre45, if_pos (decide_eq_true h45)]; rfl
    have hd : decide (w.head? = some 45) = true := decide_eq_true h45
    simp only [OI, ↓reduceIte, reduceCtorEq, Nat.reduceAdd, Nat.reduceEqDiff, Nat.reduceBEq, Nat.reduceLT, Nat.reduceLeDiff, Nat.reduceMul, Nat.reduceSub, Int.reduceLE, Int.reduceLT, Int.reduceEq, Int.reduceBEq, Int.reduceBNe, Int.reduceToNat, Int.reduceNeg, Nat.reduceBNe, strV, hd, wm, e1]
    refine c1021 (w.drop 1) 9223372036854775808 (by simp; omega) (by decide) (by decide) ?_
    cases hn : natR (w.drop 1) with
    | none =>
      have e2 : natO (w.drop 1) 9223372036854775808 = (0, false) := by rw [natO, hn]
      have e3 : sgnO w = (0, 6) := by rw [sgnO, sgnR, if_pos h45, hn]
      rw [e3] at h
      simp only [OI, ↓reduceIte, reduceCtorEq, Nat.reduceAdd, Nat.reduceEqDiff, Nat.reduceBEq, Nat.reduceLT, Nat.reduceLeDiff, Nat.reduceMul, Nat.reduceSub, Int.reduceLE, Int.reduceLT, Int.reduceEq, Int.reduceBEq, Int.reduceBNe, Int.reduceToNat, Int.reduceNeg, Nat.reduceBNe, e2, i64A]
      exact h
    | some n =>
      by_cases hb : n ≤ 9223372036854775808
      · have e2 : natO (w.drop 1) 9223372036854775808 = (n, true) := by rw [natO, hn]; simp only; rw [if_pos hb]
        by_cases h0 : n = 0
        · subst h0
          have e3 : sgnO w = (0, 6) := by rw [sgnO, sgnR, if_pos h45, hn]; rfl
          rw [e3] at h
          have z : (((0 : Nat) : Int) == 0) = true := rfl
          simp only [OI, ↓reduceIte, reduceCtorEq, Nat.reduceAdd, Nat.reduceEqDiff, Nat.reduceBEq, Nat.reduceLT, Nat.reduceLeDiff, Nat.reduceMul, Nat.reduceSub, Int.reduceLE, Int.reduceLT, Int.reduceEq, Int.reduceBEq, Int.reduceBNe, Int.reduceToNat, Int.reduceNeg, Nat.reduceBNe, e2, i64A, z]
          exact h
        · have e3 : sgnO w = (-(n : Int), 0) := by rw [sgnO, sgnR, if_pos h45, hn]; simp only; rw [if_neg (by omega)]
          rw [e3] at h
          have z : ((n : Int) == 0) = false := by rw [beq_eq_false_iff_ne]; omega
          have wn : IntKind.i64.wrap (IntKind.u64.wrap (0 - (n : Int))) = -(n : Int) := by
            simp only [IntKind.wrap, IntKind.bits, IntKind.signed]; simp; omega
          have wn' : IntKind.i64.wrap (IntKind.u64.wrap (-(n : Int))) = -(n : Int) := by
            simp only [IntKind.wrap, IntKind.bits, IntKind.signed]; simp; omega
          simp only [OI, ↓reduceIte, reduceCtorEq, Nat.reduceAdd, Nat.reduceEqDiff, Nat.reduceBEq, Nat.reduceLT, Nat.reduceLeDiff, Nat.reduceMul, Nat.reduceSub, Int.reduceLE, Int.reduceLT, Int.reduceEq, Int.reduceBEq, Int.reduceBNe, Int.reduceToNat, Int.reduceNeg, Nat.reduceBNe, e2, i64A, z, wn, wn']
          exact h
      · have e2 : natO (w.drop 1) 9223372036854775808 = (0, false) := by rw [natO, hn]; simp only; rw [if_neg hb]
        have e3 : sgnO w = (0, 6) := by rw [sgnO, sgnR, if_pos h45, hn]; simp only; rw [if_pos (by omega)]
        rw [e3] at h
        simp only [OI, ↓reduceIte, reduceCtorEq, Nat.reduceAdd, Nat.reduceEqDiff, Nat.reduceBEq, Nat.reduceLT, Nat.reduceLeDiff, Nat.reduceMul, Nat.reduceSub, Int.reduceLE, Int.reduceLT, Int.reduceEq, Int.reduceBEq, Int.reduceBNe, Int.reduceToNat, Int.reduceNeg, Nat.reduceBNe, e2, i64A]
        exact h
  · have e1 : cutP w [45] = w := by
      rw [cutP, pre45, if_neg (by simpa using h45)]
    have hd : decide (w.head? = some 45) = false := decide_eq_false h45
    simp only [OI, ↓reduceIte, reduceCtorEq, Nat.reduceAdd, Nat.reduceEqDiff, Nat.reduceBEq, Nat.reduceLT, Nat.reduceLeDiff, Nat.reduceMul, Nat.reduceSub, Int.reduceLE, Int.reduceLT, Int.reduceEq, Int.reduceBEq, Int.reduceBNe, Int.reduceToNat, Int.reduceNeg, Nat.reduceBNe, strV, hd, wm, e1]
    refine c1021 w 9223372036854775807 hl (by decide) (by decide) ?_
    cases hn : natR w with
    | none =>
      have e2 : natO w 9223372036854775807 = (0, false) := by rw [natO, hn]
      have e3 : sgnO w = (0, 6) := by rw [sgnO, sgnR, if_neg h45, hn]
      rw [e3] at h
      simp only [OI, ↓reduceIte, reduceCtorEq, Nat.reduceAdd, Nat.reduceEqDiff, Nat.reduceBEq, Nat.reduceLT, Nat.reduceLeDiff, Nat.reduceMul, Nat.reduceSub, Int.reduceLE, Int.reduceLT, Int.reduceEq, Int.reduceBEq, Int.reduceBNe, Int.reduceToNat, Int.reduceNeg, Nat.reduceBNe, e2, i64A]
      exact h
    | some n =>
      by_cases hb : n ≤ 9223372036854775807
      · have e2 : natO w 9223372036854775807 = (n, true) := by rw [natO, hn]; simp only; rw [if_pos hb]
        have e3 : sgnO w = ((n : Int), 0) := by rw [sgnO, sgnR, if_neg h45, hn]; simp only; rw [if_neg (by omega)]
        rw [e3] at h
        have wn : IntKind.i64.wrap (n : Int) = n := wrI64 (by omega) (by omega)
        simp only [OI, ↓reduceIte, reduceCtorEq, Nat.reduceAdd, Nat.reduceEqDiff, Nat.reduceBEq, Nat.reduceLT, Nat.reduceLeDiff, Nat.reduceMul, Nat.reduceSub, Int.reduceLE, Int.reduceLT, Int.reduceEq, Int.reduceBEq, Int.reduceBNe, Int.reduceToNat, Int.reduceNeg, Nat.reduceBNe, e2, i64A, wn]
        exact h
      · have e2 : natO w 9223372036854775807 = (0, false) := by rw [natO, hn]; simp only; rw [if_neg hb]
        have e3 : sgnO w = (0, 6) := by rw [sgnO, sgnR, if_neg h45, hn]; simp only; rw [if_pos (by omega)]
        rw [e3] at h
        simp only [OI, ↓reduceIte, reduceCtorEq, Nat.reduceAdd, Nat.reduceEqDiff, Nat.reduceBEq, Nat.reduceLT, Nat.reduceLeDiff, Nat.reduceMul, Nat.reduceSub, Int.reduceLE, Int.reduceLT, Int.reduceEq, Int.reduceBEq, Int.reduceBNe, Int.reduceToNat, Int.reduceNeg, Nat.reduceBNe, e2, i64A]
        exact h
def st1011 (I : World → Fp → Value → Fp → Prop) (w : List UInt8) : Nat × Nat × Nat → St
  | (i, n, a) => ⟨[(6, .v (.int .i64 i)), (4, .v (.int .u64 n)), (5, .v (.int .i64 a)), (0, strV w)], [(9999, .ext I)], []⟩
theorem c1011 (w : List UInt8) {Q : AV → Al → Prop} (h : Q (.tup [i64A (sgnO w).1, i64A (sgnO w).2]) []) : ACalls Tryd.prog 19 [] [strV w] Q := by
  refine ok1011.N hmix rfl ?_
  intro I
  have hsz := ba_size w
  have hf : sgnR w = none → Q (.tup [i64A 0, i64A 6]) [] := fun e => by simpa [sgnO, e] using h
  have hbe := @ba_at w 0
  have hcs : ∀ c, w[0]? = some c → w.head? = some c := fun c hc => by rw [List.head?_eq_getElem?]; exact hc
  have hend : ∀ n : Int, -9223372036854775808 ≤ n → n < 9223372036854775808 → (∀ v, sgnR w = some v → v = n) →
      ((decB n).toList == (⟨w.toArray⟩ : ByteArray).toList) = true ∧ Q (.tup [i64A n, i64A 0]) [] ∨ ((decB n).toList == (⟨w.toArray⟩ : ByteArray).toList) = false ∧ Q (.tup [i64A 0, i64A 6]) [] := by
    intro n h0 h1 hv
    have e : ((decB n).toList == (⟨w.toArray⟩ : ByteArray).toList) = decide (decL n = w) := by
      rw [decB, ba_toL, ba_toL, Bool.eq_iff_iff, beq_iff_eq, decide_eq_true_eq]
    rw [e]
    by_cases hd : decL n = w
    · have e2 : sgnR w = some n := by rw [← hd]; exact sgnR_decL h0 h1
      rw [sgnO, e2] at h
      exact .inl ⟨decide_eq_true hd, h⟩
    · have e2 : sgnR w = none := by
        cases hs : sgnR w with
        | none => rfl
        | some v => exact absurd (by rw [← hv v hs]; exact (sgnR_some hs).1) hd
      exact .inr ⟨decide_eq_false hd, hf e2⟩
  have hsg : sgA w = 1 ∧ (∃ c, w[0]? = some c ∧ c = 45) ∨ sgA w = 0 ∧ ((∃ c, w[0]? = some c ∧ ¬ c = 45) ∨ w = []) := by
    cases w with
    | nil => right; exact ⟨rfl, .inr rfl⟩
    | cons x xs =>
      by_cases hx : x = 45
      · left; exact ⟨by simp [sgA, hx], x, rfl, hx⟩
      · right; exact ⟨by simp [sgA, hx], .inl ⟨x, rfl, hx⟩⟩
  by_cases h20 : (20 : Int) < w.length
  · have e : sgnR w = none := by
      cases hs : sgnR w with
      | none => rfl
      | some v => have := sgnR_len hs; omega
    have l0 : (0 : Int) < w.length := by omega
    rcases hsg with ⟨_, c, hc, rfl⟩ | ⟨_, ⟨c, hc, hne⟩ | hw⟩
    · have h10 : (((UInt8.toNat 45 : Nat) : Int) == 45) = true := rfl
      simp only [cc1011, OI, ↓reduceIte, reduceCtorEq, Nat.reduceAdd, Nat.reduceEqDiff, Nat.reduceBEq, Nat.reduceLT, Nat.reduceLeDiff, Nat.reduceMul, Nat.reduceSub, Int.reduceLE, Int.reduceLT, Int.reduceEq, Int.reduceBEq, Int.reduceBNe, Int.reduceToNat, Int.reduceNeg, Nat.reduceBNe, strV, hsz, l0, hbe, hc, h10, h20]
      exact hf e
    · have h10 : (((UInt8.toNat c : Nat) : Int) == 45) = false := by
        rw [beq_eq_false_iff_ne]; intro e; apply hne; apply UInt8.toNat_inj.1
        have : c.toNat = 45 := by omega
        rw [this]; rfl
      simp only [cc1011, OI, ↓reduceIte, reduceCtorEq, Nat.reduceAdd, Nat.reduceEqDiff, Nat.reduceBEq, Nat.reduceLT, Nat.reduceLeDiff, Nat.reduceMul, Nat.reduceSub, Int.reduceLE, Int.reduceLT, Int.reduceEq, Int.reduceBEq, Int.reduceBNe, Int.reduceToNat, Int.reduceNeg, Nat.reduceBNe, strV, hsz, l0, hbe, hc, h10, h20]
      exact hf e
    · rw [hw] at h20; simp at h20
  rcases hsg with ⟨hs, c, hc, rfl⟩ | ⟨hs, ⟨c, hc, hne⟩ | hw⟩
  all_goals first
    | (have hs' : sgA w = 1 := hs
       have l0 : (0 : Int) < w.length := by have := (List.getElem?_eq_some_iff.1 hc).1; omega
       have h10 : (((UInt8.toNat 45 : Nat) : Int) == 45) = true := rfl
       simp only [cc1011, OI, ↓reduceIte, reduceCtorEq, Nat.reduceAdd, Nat.reduceEqDiff, Nat.reduceBEq, Nat.reduceLT, Nat.reduceLeDiff, Nat.reduceMul, Nat.reduceSub, Int.reduceLE, Int.reduceLT, Int.reduceEq, Int.reduceBEq, Int.reduceBNe, Int.reduceToNat, Int.reduceNeg, Nat.reduceBNe, strV, hsz, l0, hbe, hc, h10, h20])
    | (have l0 : (0 : Int) < w.length := by have := (List.getElem?_eq_some_iff.1 hc).1; omega
       have h10 : (((UInt8.toNat c : Nat) : Int) == 45) = false := by
         rw [beq_eq_false_iff_ne]; intro e; apply hne; apply UInt8.toNat_inj.1
         have : c.toNat = 45 := by omega
         rw [this]; rfl
       simp only [cc1011, OI, ↓reduceIte, reduceCtorEq, Nat.reduceAdd, Nat.reduceEqDiff, Nat.reduceBEq, Nat.reduceLT, Nat.reduceLeDiff, Nat.reduceMul, Nat.reduceSub, Int.reduceLE, Int.reduceLT, Int.reduceEq, Int.reduceBEq, Int.reduceBNe, Int.reduceToNat, Int.reduceNeg, Nat.reduceBNe, strV, hsz, l0, hbe, hc, h10, h20])
    | (have l0 : ¬ (0 : Int) < w.length := by rw [hw]; simp
       simp only [cc1011, OI, ↓reduceIte, reduceCtorEq, Nat.reduceAdd, Nat.reduceEqDiff, Nat.reduceBEq, Nat.reduceLT, Nat.reduceLeDiff, Nat.reduceMul, Nat.reduceSub, Int.reduceLE, Int.reduceLT, Int.reduceEq, Int.reduceBEq, Int.reduceBNe, Int.reduceToNat, Int.reduceNeg, Nat.reduceBNe, strV, hsz, l0, h20])
  all_goals
    refine W_loop (st1011 I w) (fun x => x.2.2 = sgA w ∧ x.2.2 ≤ x.1 ∧ x.1 ≤ w.length ∧ ((w.drop x.2.2).take (x.1 - x.2.2)).all isD = true ∧ x.2.1 = natF ((w.drop x.2.2).take (x.1 - x.2.2)) % 18446744073709551616) (fun x => w.length - x.1) (fun _ _ => rfl) ⟨(sgA w, 0, sgA w), ⟨rfl, Nat.le_refl _, ?_, by simp, by simp [natF]⟩, ?_⟩ ?_
    · simp only
      rw [hs]
      first | exact Nat.zero_le _ | omega
    · rw [hs]
      simp only [OI, ↓reduceIte, reduceCtorEq, Nat.reduceAdd, Nat.reduceEqDiff, Nat.reduceBEq, Nat.reduceLT, Nat.reduceLeDiff, Nat.reduceMul, Nat.reduceSub, Int.reduceLE, Int.reduceLT, Int.reduceEq, Int.reduceBEq, Int.reduceBNe, Int.reduceToNat, Int.reduceNeg, Nat.reduceBNe, st1011, strV]
      try rfl
    rintro ⟨i, n, a⟩ ⟨ha, hai, hi, hal, hn⟩
    simp only at ha hai hi hal hn
    have ha1 : a ≤ 1 := by rw [ha, sgA]; split <;> omega
    refine W_of_N ok1011.small hmix ?_
    by_cases hil : i < w.length
    · have hil' : (i : Int) < w.length := by omega
      have i0 : (0 : Int) ≤ i := by omega
      obtain ⟨b, hbi⟩ : ∃ b, w[i]? = some b := ⟨_, List.getElem?_eq_getElem hil⟩
      have w1 : IntKind.i64.wrap ((i : Int) + 1) = ((i + 1 : Nat) : Int) := by rw [wrI64 (by omega) (by omega)]; omega
      have htk : (w.drop a).take (i + 1 - a) = (w.drop a).take (i - a) ++ [b] := by
        have e : i + 1 - a = (i - a) + 1 := by omega
        rw [e, List.take_add_one, List.getElem?_drop, show a + (i - a) = i by omega, hbi]; rfl
      by_cases hd : isD b = true
      · have hb' : 48 ≤ b.toNat ∧ b.toNat ≤ 57 := by simpa [isD] using hd
        have d1 : ¬ (b.toNat : Int) < 48 := by omega
        have d2 : ¬ (57 : Int) < b.toNat := by omega
        have wd : IntKind.u64.wrap (IntKind.u8.wrap ((b.toNat : Int) - 48)) = ((b.toNat - 48 : Nat) : Int) := by
          simp only [IntKind.wrap, IntKind.bits, IntKind.signed]; simp; omega
        have wa : IntKind.u64.wrap (IntKind.u64.wrap ((n : Int) * 10) + ((b.toNat - 48 : Nat) : Int)) = ((natF ((w.drop a).take (i - a) ++ [b]) % 18446744073709551616 : Nat) : Int) := by
          rw [natF_snoc, hn]
          generalize natF ((w.drop a).take (i - a)) = N
          simp only [IntKind.wrap, IntKind.bits, IntKind.signed]; simp; omega
        simp only [OI, ↓reduceIte, reduceCtorEq, Nat.reduceAdd, Nat.reduceEqDiff, Nat.reduceBEq, Nat.reduceLT, Nat.reduceLeDiff, Nat.reduceMul, Nat.reduceSub, Int.reduceLE, Int.reduceLT, Int.reduceEq, Int.reduceBEq, Int.reduceBNe, Int.reduceToNat, Int.reduceNeg, Nat.reduceBNe, st1011, strV, hsz, hil', i0, ba_at, hbi, d1, d2, wd, wa, w1]
        refine ⟨(i + 1, natF ((w.drop a).take (i - a) ++ [b]) % 18446744073709551616, a), ⟨⟨ha, by simp only; omega, by simp only; omega, ?_, ?_⟩, by simp only; omega⟩, ?_⟩
        · simp only [htk, List.all_append, hal, hd, List.all_cons, List.all_nil, Bool.and_self]
        · simp only [htk]
        · simp only [OI, ↓reduceIte, reduceCtorEq, Nat.reduceAdd, Nat.reduceEqDiff, Nat.reduceBEq, Nat.reduceLT, Nat.reduceLeDiff, Nat.reduceMul, Nat.reduceSub, Int.reduceLE, Int.reduceLT, Int.reduceEq, Int.reduceBEq, Int.reduceBNe, Int.reduceToNat, Int.reduceNeg, Nat.reduceBNe, st1011, strV]
          try rfl
      · have hd' : isD b = false := Bool.eq_false_iff.2 hd
        have e : sgnR w = none := by
          cases hsr : sgnR w with
          | none => rfl
          | some v =>
            obtain ⟨k, hk, _⟩ := sgnR_digs hsr
            rw [← ha] at hk
            obtain ⟨_, _, hk3, _⟩ := natR_some hk
            have : b ∈ w.drop a := by
              rw [List.mem_iff_getElem?]
              exact ⟨i - a, by rw [List.getElem?_drop, show a + (i - a) = i by omega, hbi]⟩
            rw [List.all_eq_true] at hk3
            rw [hk3 b this] at hd'
            cases hd'
        by_cases d1 : (b.toNat : Int) < 48
        · simp only [OI, ↓reduceIte, reduceCtorEq, Nat.reduceAdd, Nat.reduceEqDiff, Nat.reduceBEq, Nat.reduceLT, Nat.reduceLeDiff, Nat.reduceMul, Nat.reduceSub, Int.reduceLE, Int.reduceLT, Int.reduceEq, Int.reduceBEq, Int.reduceBNe, Int.reduceToNat, Int.reduceNeg, Nat.reduceBNe, st1011, strV, hsz, hil', i0, ba_at, hbi, d1]
          exact hf e
        · have d2 : (57 : Int) < b.toNat := by
            simp only [isD, Bool.and_eq_false_iff, decide_eq_false_iff_not] at hd'
            omega
          simp only [OI, ↓reduceIte, reduceCtorEq, Nat.reduceAdd, Nat.reduceEqDiff, Nat.reduceBEq, Nat.reduceLT, Nat.reduceLeDiff, Nat.reduceMul, Nat.reduceSub, Int.reduceLE, Int.reduceLT, Int.reduceEq, Int.reduceBEq, Int.reduceBNe, Int.reduceToNat, Int.reduceNeg, Nat.reduceBNe, st1011, strV, hsz, hil', i0, ba_at, hbi, d1, d2]
          exact hf e
    · obtain rfl : i = w.length := by omega
      have htl : (w.drop a).take (w.length - a) = w.drop a := List.take_of_length_le (by simp)
      rw [htl] at hal hn
      have hv : ∀ v, sgnR w = some v → v = if a = 1 then -(natF (w.drop a) : Int) else natF (w.drop a) := by
        intro v hv
        obtain ⟨k, hk, hk2, _⟩ := sgnR_digs hv
        rw [← ha] at hk hk2
        obtain ⟨_, hk3, _⟩ := natR_some hk
        rw [hk3]; exact hk2
      have hvb : ∀ v, sgnR w = some v → natF (w.drop a) ≤ 9223372036854775808 ∧ (a = 0 → natF (w.drop a) < 9223372036854775808) := by
        intro v hv'
        have e := hv v hv'
        obtain ⟨_, b1, b2⟩ := sgnR_some hv'
        by_cases h1 : a = 1
        · rw [if_pos h1] at e; omega
        · rw [if_neg h1] at e; omega
      generalize natF (w.drop a) = N at hn hv hvb
      have hn2 : n < 18446744073709551616 := by omega
      by_cases h1 : a = 1
      · have z : ((a : Int) == 1) = true := by rw [beq_iff_eq]; omega
        have bd : ∀ x : Int, -9223372036854775808 ≤ IntKind.i64.wrap x ∧ IntKind.i64.wrap x < 9223372036854775808 := fun x => by
          simp only [IntKind.wrap, IntKind.bits, IntKind.signed]; simp; omega
        obtain ⟨x, hx⟩ : ∃ x, x = IntKind.i64.wrap (-(IntKind.i64.wrap (n : Int))) := ⟨_, rfl⟩
        have hx' : IntKind.i64.wrap (0 - (IntKind.i64.wrap (n : Int))) = x := by rw [hx, Int.zero_sub]
        have b0 := bd (-(IntKind.i64.wrap (n : Int)))
        rw [← hx] at b0
        simp only [OI, ↓reduceIte, reduceCtorEq, Nat.reduceAdd, Nat.reduceEqDiff, Nat.reduceBEq, Nat.reduceLT, Nat.reduceLeDiff, Nat.reduceMul, Nat.reduceSub, Int.reduceLE, Int.reduceLT, Int.reduceEq, Int.reduceBEq, Int.reduceBNe, Int.reduceToNat, Int.reduceNeg, Nat.reduceBNe, st1011, strV, hsz, Int.lt_irrefl, z, hx', ← hx]
        refine c152 x b0.1 b0.2 ?_
        have key := hend x b0.1 b0.2 (fun v hv' => by
          have e1 := hv v hv'
          have e2 := hvb v hv'
          rw [if_pos h1] at e1
          rw [e1, hx]
          simp only [IntKind.wrap, IntKind.bits, IntKind.signed]; simp; omega)
        rcases key with ⟨ht, key⟩ | ⟨ht, key⟩
        · simp only [OI, ↓reduceIte, reduceCtorEq, Nat.reduceAdd, Nat.reduceEqDiff, Nat.reduceBEq, Nat.reduceLT, Nat.reduceLeDiff, Nat.reduceMul, Nat.reduceSub, Int.reduceLE, Int.reduceLT, Int.reduceEq, Int.reduceBEq, Int.reduceBNe, Int.reduceToNat, Int.reduceNeg, Nat.reduceBNe, ht]
          exact key
        · simp only [OI, ↓reduceIte, reduceCtorEq, Nat.reduceAdd, Nat.reduceEqDiff, Nat.reduceBEq, Nat.reduceLT, Nat.reduceLeDiff, Nat.reduceMul, Nat.reduceSub, Int.reduceLE, Int.reduceLT, Int.reduceEq, Int.reduceBEq, Int.reduceBNe, Int.reduceToNat, Int.reduceNeg, Nat.reduceBNe, ht]
          exact key
      · have z : ((a : Int) == 1) = false := by rw [beq_eq_false_iff_ne]; omega
        have bd : ∀ x : Int, -9223372036854775808 ≤ IntKind.i64.wrap x ∧ IntKind.i64.wrap x < 9223372036854775808 := fun x => by
          simp only [IntKind.wrap, IntKind.bits, IntKind.signed]; simp; omega
        obtain ⟨x, hx⟩ : ∃ x, x = IntKind.i64.wrap (n : Int) := ⟨_, rfl⟩
        have b0 := bd (n : Int)
        rw [← hx] at b0
        simp only [OI, ↓reduceIte, reduceCtorEq, Nat.reduceAdd, Nat.reduceEqDiff, Nat.reduceBEq, Nat.reduceLT, Nat.reduceLeDiff, Nat.reduceMul, Nat.reduceSub, Int.reduceLE, Int.reduceLT, Int.reduceEq, Int.reduceBEq, Int.reduceBNe, Int.reduceToNat, Int.reduceNeg, Nat.reduceBNe, st1011, strV, hsz, Int.lt_irrefl, z, ← hx]
        refine c152 x b0.1 b0.2 ?_
        have key := hend x b0.1 b0.2 (fun v hv' => by
          have e1 := hv v hv'
          have e2 := hvb v hv'
          rw [if_neg h1] at e1
          rw [e1, hx]
          simp only [IntKind.wrap, IntKind.bits, IntKind.signed]; simp; omega)
        rcases key with ⟨ht, key⟩ | ⟨ht, key⟩
        · simp only [OI, ↓reduceIte, reduceCtorEq, Nat.reduceAdd, Nat.reduceEqDiff, Nat.reduceBEq, Nat.reduceLT, Nat.reduceLeDiff, Nat.reduceMul, Nat.reduceSub, Int.reduceLE, Int.reduceLT, Int.reduceEq, Int.reduceBEq, Int.reduceBNe, Int.reduceToNat, Int.reduceNeg, Nat.reduceBNe, ht]
          exact key
        · simp only [OI, ↓reduceIte, reduceCtorEq, Nat.reduceAdd, Nat.reduceEqDiff, Nat.reduceBEq, Nat.reduceLT, Nat.reduceLeDiff, Nat.reduceMul, Nat.reduceSub, Int.reduceLE, Int.reduceLT, Int.reduceEq, Int.reduceBEq, Int.reduceBNe, Int.reduceToNat, Int.reduceNeg, Nat.reduceBNe, ht]
          exact key
end Go.Proofs.YthlehngbadianaaDoor.Ow
