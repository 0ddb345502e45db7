/- What the functions of the program do, each once: contracts of the logic (part g4). -/
import Derived.Test.YthlehngbadianaaTg3
set_option linter.unusedVariables false
set_option linter.unusedSimpArgs false
set_option linter.unnecessarySimpa false
set_option maxRecDepth 100000
set_option maxHeartbeats 4000000
namespace Go.Proofs.Ythlehngbadianaa.Ow
open Go Go.RowKit Go.Proofs
/- watershed/watershedref08.Name -/
def cc167 : CC := (.seq (.region [⟨none, 2, (.val (.mv (.c (.bool false)))), [2], none, []⟩]) (.seq (.seq (.region [⟨none, 4, (.val (.mv (.s 0))), [], none, []⟩, ⟨none, 5, (.val (.lns (.s 4))), [4], none, []⟩, ⟨none, 6, (.val (.bin .lss (.s 5) (.c (.int .i64 1)))), [5], none, []⟩, ⟨none, 7, (.val (.mv (.s 6))), [6], none, []⟩, ⟨(some (7, false)), 8, (.val (.mv (.s 0))), [], none, []⟩, ⟨(some (7, false)), 9, (.val (.lns (.s 8))), [8], none, []⟩, ⟨(some (7, false)), 10, (.val (.bin .gtr (.s 9) (.c (.int .i64 12)))), [9], none, []⟩, ⟨none, 11, (.val (.pick (.s 7) (.c (.bool true)) (.s 10))), [7, 10], none, []⟩, ⟨none, 12, (.val (.mv (.s 11))), [11], none, []⟩, ⟨(some (12, false)), 13, (.val (.mv (.s 0))), [], none, []⟩, ⟨(some (12, false)), 14, (.val (.is (.s 13) (.c (.int .i64 0)))), [13], none, []⟩, ⟨(some (12, false)), 15, (.val (.bin .lss (.s 14) (.c (.int .u8 97)))), [14], none, []⟩, ⟨none, 16, (.val (.pick (.s 12) (.c (.bool true)) (.s 15))), [12, 15], none, []⟩, ⟨none, 17, (.val (.mv (.s 16))), [16], none, []⟩, ⟨(some (17, false)), 18, (.val (.mv (.s 0))), [], none, []⟩, ⟨(some (17, false)), 19, (.val (.is (.s 18) (.c (.int .i64 0)))), [18], none, []⟩, ⟨(some (17, false)), 20, (.val (.bin .gtr (.s 19) (.c (.int .u8 122)))), [19], none, []⟩, ⟨none, 21, (.val (.pick (.s 17) (.c (.bool true)) (.s 20))), [17, 20], none, []⟩]) (.cond (.s 21) (.seq (.region [⟨none, 2, (.val (.mv (.c (.bool false)))), [0, 21], none, []⟩]) .ret) .skip)) (.seq (.seq (.region [⟨none, 3, (.val (.mv (.c (.int .i64 0)))), [21], none, []⟩]) (.block 0 (.loop (.seq (.seq (.region [⟨none, 22, (.val (.mv (.s 3))), [], none, []⟩, ⟨none, 23, (.val (.mv (.s 0))), [], none, []⟩, ⟨none, 24, (.val (.lns (.s 23))), [23], none, []⟩, ⟨none, 25, (.val (.bin .lss (.s 22) (.s 24))), [22, 24], none, []⟩]) (.cond (.s 25) .skip (.exit 0))) (.seq (.block 1 (.seq (.region [⟨none, 28, (.val (.mv (.s 0))), [25], none, []⟩, ⟨none, 29, (.val (.mv (.s 3))), [], none, []⟩, ⟨none, 30, (.val (.is (.s 28) (.s 29))), [28, 29], none, []⟩, ⟨none, 31, (.val (.bin .geq (.s 30) (.c (.int .u8 97)))), [30], none, []⟩, ⟨none, 32, (.val (.mv (.s 31))), [31], none, []⟩, ⟨(some (32, true)), 33, (.val (.mv (.s 0))), [], none, []⟩, ⟨(some (32, true)), 34, (.val (.mv (.s 3))), [], none, []⟩, ⟨(some (32, true)), 35, (.val (.is (.s 33) (.s 34))), [], none, []⟩, ⟨(some (32, true)), 36, (.val (.bin .leq (.s 35) (.c (.int .u8 122)))), [], none, []⟩, ⟨none, 37, (.val (.pick (.s 32) (.s 36) (.c (.bool false)))), [32], none, []⟩, ⟨none, 38, (.val (.mv (.s 37))), [37], none, []⟩, ⟨(some (38, false)), 39, (.val (.mv (.s 0))), [], none, []⟩, ⟨(some (38, false)), 40, (.val (.mv (.s 3))), [], none, []⟩, ⟨(some (38, false)), 41, (.val (.is (.s 39) (.s 40))), [], none, []⟩, ⟨(some (38, false)), 42, (.val (.bin .geq (.s 41) (.c (.int .u8 48)))), [], none, []⟩, ⟨(some (38, false)), 43, (.val (.mv (.s 42))), [], none, []⟩, ⟨(some (43, true)), 44, (.val (.mv (.s 0))), [], none, []⟩, ⟨(some (43, true)), 45, (.val (.mv (.s 3))), [], none, []⟩, ⟨(some (43, true)), 46, (.val (.is (.s 44) (.s 45))), [], none, []⟩, ⟨(some (43, true)), 47, (.val (.bin .leq (.s 46) (.c (.int .u8 57)))), [], none, []⟩, ⟨(some (38, false)), 48, (.val (.pick (.s 43) (.s 47) (.c (.bool false)))), [], none, []⟩, ⟨none, 49, (.val (.pick (.s 38) (.c (.bool true)) (.s 48))), [38], none, []⟩, ⟨none, 50, (.val (.un .not (.s 49))), [49], none, []⟩]) (.cond (.s 50) (.seq (.region [⟨none, 2, (.val (.mv (.c (.bool false)))), [0, 3, 33, 34, 35, 36, 39, 40, 41, 42, 43, 44, 45, 46, 47, 48, 50], none, []⟩]) .ret) .skip))) (.region [⟨none, 26, (.val (.mv (.s 3))), [3, 50], none, []⟩, ⟨none, 27, (.val (.bin .add (.s 26) (.c (.int .i64 1)))), [26], none, []⟩, ⟨none, 3, (.val (.mv (.s 27))), [27], none, []⟩])))))) (.seq (.region [⟨none, 2, (.val (.mv (.c (.bool true)))), [0, 3, 25, 33, 34, 35, 36, 39, 40, 41, 42, 43, 44, 45, 46, 47, 48], none, []⟩]) .ret))))
theorem ok167 : FnOk Try.prog 167 cc167 [(.t 2)] 1 51 := ⟨⟨_, Try.func167, by kernel_rfl, by kernel_rfl, by kernel_rfl⟩, by decide, by decide⟩

/- watershed/watershedref09.name -/
def cc160 : CC := (.seq (.region [⟨none, 4, (.val (.mv (.c (.int .i64 0)))), [4], none, []⟩]) (.seq (.seq (.region [⟨none, 6, (.val (.mv (.s 0))), [], none, []⟩, ⟨none, 7, (.callP 167 [(.s 6)]), [6], none, []⟩, ⟨none, 8, (.val (.un .not (.s 7))), [7], none, []⟩]) (.cond (.s 8) (.seq (.region [⟨none, 4, (.val (.mv (.c (.int .i64 6)))), [0, 1, 8], none, []⟩]) .ret) .skip)) (.seq (.seq (.region [⟨none, 5, (.val (.mv (.c (.int .i64 0)))), [8], none, []⟩]) (.block 0 (.loop (.seq (.seq (.region [⟨none, 9, (.val (.mv (.s 5))), [], none, []⟩, ⟨none, 10, (.val (.mv (.s 1))), [], none, []⟩, ⟨none, 11, (.val (.lnl (.s 10) 1)), [10], none, []⟩, ⟨none, 12, (.val (.bin .lss (.s 9) (.s 11))), [9, 11], none, []⟩]) (.cond (.s 12) .skip (.exit 0))) (.seq (.block 1 (.seq (.region [⟨none, 15, (.val (.mv (.s 1))), [12], none, []⟩, ⟨none, 16, (.val (.mv (.s 5))), [], none, []⟩, ⟨none, 17, (.val (.ia (.s 15) (.s 16) 1)), [15, 16], none, []⟩, ⟨none, 18, (.val (.ld (.s 17) none)), [17], none, []⟩, ⟨none, 19, (.val (.mv (.s 0))), [], none, []⟩, ⟨none, 20, (.val (.bin .eql (.s 18) (.s 19))), [18, 19], none, []⟩]) (.cond (.s 20) (.seq (.region [⟨none, 4, (.val (.mv (.c (.int .i64 4)))), [0, 1, 5, 20], none, []⟩]) .ret) .skip))) (.region [⟨none, 13, (.val (.mv (.s 5))), [5, 20], none, []⟩, ⟨none, 14, (.val (.bin .add (.s 13) (.c (.int .i64 1)))), [13], none, []⟩, ⟨none, 5, (.val (.mv (.s 14))), [14], none, []⟩])))))) (.seq (.region [⟨none, 4, (.val (.mv (.c (.int .i64 0)))), [0, 1, 5, 12], none, []⟩]) .ret))))
theorem ok160 : FnOk Try.prog 160 cc160 [(.t 4)] 2 21 := ⟨⟨_, Try.func160, by kernel_rfl, by kernel_rfl, by kernel_rfl⟩, by decide, by decide⟩

/- slices.Contains[[]watershed/graph.Channel,watershed/graph.Channel] -/
def cc203 : CC := (.seq (.region [⟨none, 3, (.box 1), [1], none, []⟩, ⟨none, 4, (.val (.mv (.c (.bool false)))), [4], none, []⟩]) (.seq (.region [⟨none, 5, (.val (.mv (.s 0))), [0], none, []⟩, ⟨none, 6, (.val (.ld (.s 3) (some 2))), [3], none, []⟩, ⟨none, 7, (.call 228 [(.s 5), (.s 6)]), [5, 6], none, []⟩, ⟨none, 8, (.val (.bin .geq (.s 7) (.c (.int .i64 0)))), [7], none, []⟩, ⟨none, 4, (.val (.mv (.s 8))), [8], none, []⟩]) .ret))
theorem ok203 : FnOk Try.prog 203 cc203 [(.t 4)] 2 9 := ⟨⟨_, Try.func203, by kernel_rfl, by kernel_rfl, by kernel_rfl⟩, by decide, by decide⟩

/- slices.Index[[]watershed/graph.Channel,watershed/graph.Channel] -/
def cc228 : CC := (.seq (.region [⟨none, 3, (.box 1), [1], none, []⟩, ⟨none, 4, (.val (.mv (.c (.int .i64 0)))), [4], none, []⟩]) (.seq (.seq (.region [⟨none, 6, (.val (.mv (.s 0))), [], none, []⟩, ⟨none, 7, (.val (.lnl (.s 6) 2)), [6], none, []⟩, ⟨none, 8, (.val (.mv (.c (.int .i64 0)))), [], none, []⟩]) (.block 0 (.loop (.seq (.region [⟨none, 9, (.val (.bin .lss (.s 8) (.s 7))), [], none, []⟩]) (.seq (.cond (.s 9) .skip (.exit 0)) (.seq (.block 1 (.seq (.region [⟨none, 10, (.val (.mv (.s 8))), [9], none, []⟩, ⟨none, 5, (.val (.mv (.s 10))), [10], none, []⟩]) (.seq (.region [⟨none, 11, (.val (.ld (.s 3) (some 2))), [], none, []⟩, ⟨none, 12, (.val (.mv (.s 0))), [], none, []⟩, ⟨none, 13, (.val (.mv (.s 5))), [], none, []⟩, ⟨none, 14, (.val (.ia (.s 12) (.s 13) 2)), [12, 13], none, []⟩, ⟨none, 15, (.val (.ld (.s 14) (some 2))), [14], none, []⟩, ⟨none, 16, (.val (.eqa false [1, 1] (.s 11) (.s 15))), [11, 15], none, []⟩]) (.cond (.s 16) (.seq (.region [⟨none, 17, (.val (.mv (.s 5))), [0, 3, 5, 7, 8, 16], none, []⟩, ⟨none, 4, (.val (.mv (.s 17))), [17], none, []⟩]) .ret) .skip)))) (.region [⟨none, 18, (.val (.bin .add (.s 8) (.c (.int .i64 1)))), [5, 8, 16], none, []⟩, ⟨none, 8, (.val (.mv (.s 18))), [18], none, []⟩]))))))) (.seq (.region [⟨none, 4, (.val (.mv (.c (.int .i64 (-1))))), [0, 3, 7, 8, 9], none, []⟩]) .ret)))
theorem ok228 : FnOk Try.prog 228 cc228 [(.t 4)] 2 19 := ⟨⟨_, Try.func228, by kernel_rfl, by kernel_rfl, by kernel_rfl⟩, by decide, by decide⟩


theorem ba_get {s : ByteArray} {i : Nat} (h : i < s.size) : (s[i]?).getD 0 = s[i]'h := by
  rw [getElem?_pos s i h]; rfl
theorem nameB_bad {s : ByteArray} {i : Nat} (h : i < s.size) (hb : okB (s[i]'h) = false) : nameB s = false := by
  simp only [nameB, all_false h hb, Bool.and_false]
def st167 (I : World → Fp → Value → Fp → Prop) (s : ByteArray) (i : Nat) : St := ⟨[(3, .v (.int .i64 i)), (0, .v (.string s))], [(9999, .ext I)], []⟩
theorem c167 (s : ByteArray) (hs : s.size ≤ 1000000) {Q : AV → Al → Prop} (h : Q (.v (.bool (nameB s))) []) : ACalls Try.prog 167 [] [.v (.string s)] Q := by
  refine ok167.N hmix rfl ?_
  intro I
  by_cases h0 : (s.size : Int) < 1
  · have e : nameB s = false := by
      have : s.size = 0 := by omega
      simp [nameB, this]
    simp only [cc167, OI0, OI1, OI2, OI3, OI4, OI5, OI6, OI7, OI8, OI9, OI10, OI11, OI12, ↓reduceIte, reduceCtorEq, Nat.reduceAdd, Nat.reduceEqDiff, Nat.reduceBEq, Nat.reduceLT, Nat.reduceLeDiff, Nat.reduceMul, Nat.reduceSub, Int.reduceLE, Int.reduceLT, Int.reduceEq, Int.reduceBEq, Int.reduceBNe, Int.reduceToNat, Int.reduceNeg, Nat.reduceBNe, forall_eq_or_imp, h0]
    rw [e] at h; exact h
  by_cases h12 : (12 : Int) < s.size
  · have e : nameB s = false := by
      have : ¬ s.size ≤ 12 := by omega
      simp [nameB, this]
    simp only [cc167, OI0, OI1, OI2, OI3, OI4, OI5, OI6, OI7, OI8, OI9, OI10, OI11, OI12, ↓reduceIte, reduceCtorEq, Nat.reduceAdd, Nat.reduceEqDiff, Nat.reduceBEq, Nat.reduceLT, Nat.reduceLeDiff, Nat.reduceMul, Nat.reduceSub, Int.reduceLE, Int.reduceLT, Int.reduceEq, Int.reduceBEq, Int.reduceBNe, Int.reduceToNat, Int.reduceNeg, Nat.reduceBNe, forall_eq_or_imp, h0, h12]
    rw [e] at h; exact h
  have hz : (0 : Int) < s.size := by omega
  have hz' : 0 < s.size := by omega
  have g0 : s[0]? = some (s[0]'hz') := getElem?_pos s 0 hz'
  have hl0 : nameB s = (letB (s[0]'hz').toNat && s.data.toList.all fun b => letB b.toNat || digB b.toNat) := by
    have a1 : s.size ≤ 12 := by omega
    have a2 : s.size ≠ 0 := by omega
    simp only [nameB, a1, a2, get0 hz', ne_eq, not_false_eq_true, decide_true, Bool.true_and]
  by_cases l1 : ((s[0]'hz').toNat : Int) < 97
  · have e : nameB s = false := by
      rw [hl0]
      have : letB (s[0]'hz').toNat = false := by simp only [letB, Bool.and_eq_false_iff, decide_eq_false_iff_not]; omega
      simp [this]
    simp only [cc167, OI0, OI1, OI2, OI3, OI4, OI5, OI6, OI7, OI8, OI9, OI10, OI11, OI12, ↓reduceIte, reduceCtorEq, Nat.reduceAdd, Nat.reduceEqDiff, Nat.reduceBEq, Nat.reduceLT, Nat.reduceLeDiff, Nat.reduceMul, Nat.reduceSub, Int.reduceLE, Int.reduceLT, Int.reduceEq, Int.reduceBEq, Int.reduceBNe, Int.reduceToNat, Int.reduceNeg, Nat.reduceBNe, forall_eq_or_imp, h0, h12, hz, g0, l1]
    rw [e] at h; exact h
  by_cases l2 : (122 : Int) < ((s[0]'hz').toNat : Int)
  · have e : nameB s = false := by
      rw [hl0]
      have : letB (s[0]'hz').toNat = false := by simp only [letB, Bool.and_eq_false_iff, decide_eq_false_iff_not]; omega
      simp [this]
    simp only [cc167, OI0, OI1, OI2, OI3, OI4, OI5, OI6, OI7, OI8, OI9, OI10, OI11, OI12, ↓reduceIte, reduceCtorEq, Nat.reduceAdd, Nat.reduceEqDiff, Nat.reduceBEq, Nat.reduceLT, Nat.reduceLeDiff, Nat.reduceMul, Nat.reduceSub, Int.reduceLE, Int.reduceLT, Int.reduceEq, Int.reduceBEq, Int.reduceBNe, Int.reduceToNat, Int.reduceNeg, Nat.reduceBNe, forall_eq_or_imp, h0, h12, hz, g0, l1, l2]
    rw [e] at h; exact h
  simp only [cc167, OI0, OI1, OI2, OI3, OI4, OI5, OI6, OI7, OI8, OI9, OI10, OI11, OI12, ↓reduceIte, reduceCtorEq, Nat.reduceAdd, Nat.reduceEqDiff, Nat.reduceBEq, Nat.reduceLT, Nat.reduceLeDiff, Nat.reduceMul, Nat.reduceSub, Int.reduceLE, Int.reduceLT, Int.reduceEq, Int.reduceBEq, Int.reduceBNe, Int.reduceToNat, Int.reduceNeg, Nat.reduceBNe, forall_eq_or_imp, h0, h12, hz, g0, l1, l2]
  refine W_loop (st167 I s) (fun i => i ≤ s.size ∧ ∀ j (hj : j < s.size), j < i → okB (s[j]'hj) = true) (fun i => s.size - i) (fun _ _ => rfl) ⟨0, ⟨by omega, fun j _ h => by omega⟩, ?_⟩ ?_
  · simp only [OI0, OI1, OI2, OI3, OI4, OI5, OI6, OI7, OI8, OI9, OI10, OI11, OI12, ↓reduceIte, reduceCtorEq, Nat.reduceAdd, Nat.reduceEqDiff, Nat.reduceBEq, Nat.reduceLT, Nat.reduceLeDiff, Nat.reduceMul, Nat.reduceSub, Int.reduceLE, Int.reduceLT, Int.reduceEq, Int.reduceBEq, Int.reduceBNe, Int.reduceToNat, Int.reduceNeg, Nat.reduceBNe, forall_eq_or_imp, st167]
    try rfl
  rintro i ⟨hi, hall⟩
  refine W_of_N ok167.small hmix ?_
  by_cases hil : i < s.size
  · have hil' : (i : Int) < s.size := by omega
    have i0 : (0 : Int) ≤ i := by omega
    have gi : s[i]? = some (s[i]'hil) := getElem?_pos s i hil
    have w1 : IntKind.i64.wrap ((i : Int) + 1) = ((i + 1 : Nat) : Int) := by rw [wrI64 (by omega) (by omega)]; omega
    have bad : ∀ hb : okB (s[i]'hil) = false, Q (.v (.bool false)) [] := fun hb => by rw [nameB_bad hil hb] at h; exact h
    have good : okB (s[i]'hil) = true → ∀ j (hj : j < s.size), j < i + 1 → okB (s[j]'hj) = true := by
      intro hb j hj hlt
      by_cases he : j = i
      · subst he; exact hb
      · exact hall j hj (by omega)
    generalize hx : s[i]'hil = x at gi bad good
    by_cases a1 : (97 : Int) ≤ (x.toNat : Int)
    · by_cases a2 : (x.toNat : Int) ≤ 122
      · simp only [OI0, OI1, OI2, OI3, OI4, OI5, OI6, OI7, OI8, OI9, OI10, OI11, OI12, ↓reduceIte, reduceCtorEq, Nat.reduceAdd, Nat.reduceEqDiff, Nat.reduceBEq, Nat.reduceLT, Nat.reduceLeDiff, Nat.reduceMul, Nat.reduceSub, Int.reduceLE, Int.reduceLT, Int.reduceEq, Int.reduceBEq, Int.reduceBNe, Int.reduceToNat, Int.reduceNeg, Nat.reduceBNe, forall_eq_or_imp, st167, hil', i0, gi, a1, a2, w1]
        refine ⟨i + 1, ⟨⟨by omega, good ?_⟩, by omega⟩, ?_⟩
        · simp only [okB, letB, digB, Bool.or_eq_true, Bool.and_eq_true, decide_eq_true_eq]; omega
        · simp only [OI0, OI1, OI2, OI3, OI4, OI5, OI6, OI7, OI8, OI9, OI10, OI11, OI12, ↓reduceIte, reduceCtorEq, Nat.reduceAdd, Nat.reduceEqDiff, Nat.reduceBEq, Nat.reduceLT, Nat.reduceLeDiff, Nat.reduceMul, Nat.reduceSub, Int.reduceLE, Int.reduceLT, Int.reduceEq, Int.reduceBEq, Int.reduceBNe, Int.reduceToNat, Int.reduceNeg, Nat.reduceBNe, forall_eq_or_imp, st167]
      · have a3 : (48 : Int) ≤ (x.toNat : Int) := by omega
        have a4 : ¬ (x.toNat : Int) ≤ 57 := by omega
        simp only [OI0, OI1, OI2, OI3, OI4, OI5, OI6, OI7, OI8, OI9, OI10, OI11, OI12, ↓reduceIte, reduceCtorEq, Nat.reduceAdd, Nat.reduceEqDiff, Nat.reduceBEq, Nat.reduceLT, Nat.reduceLeDiff, Nat.reduceMul, Nat.reduceSub, Int.reduceLE, Int.reduceLT, Int.reduceEq, Int.reduceBEq, Int.reduceBNe, Int.reduceToNat, Int.reduceNeg, Nat.reduceBNe, forall_eq_or_imp, st167, hil', i0, gi, a1, a2, a3, a4, w1]
        exact bad (by simp only [okB, letB, digB, Bool.or_eq_false_iff, Bool.and_eq_false_iff, decide_eq_false_iff_not]; omega)
    · by_cases a3 : (48 : Int) ≤ (x.toNat : Int)
      · by_cases a4 : (x.toNat : Int) ≤ 57
        · simp only [OI0, OI1, OI2, OI3, OI4, OI5, OI6, OI7, OI8, OI9, OI10, OI11, OI12, ↓reduceIte, reduceCtorEq, Nat.reduceAdd, Nat.reduceEqDiff, Nat.reduceBEq, Nat.reduceLT, Nat.reduceLeDiff, Nat.reduceMul, Nat.reduceSub, Int.reduceLE, Int.reduceLT, Int.reduceEq, Int.reduceBEq, Int.reduceBNe, Int.reduceToNat, Int.reduceNeg, Nat.reduceBNe, forall_eq_or_imp, st167, hil', i0, gi, a1, a3, a4, w1]
          refine ⟨i + 1, ⟨⟨by omega, good ?_⟩, by omega⟩, ?_⟩
          · simp only [okB, letB, digB, Bool.or_eq_true, Bool.and_eq_true, decide_eq_true_eq]; omega
          · simp only [OI0, OI1, OI2, OI3, OI4, OI5, OI6, OI7, OI8, OI9, OI10, OI11, OI12, ↓reduceIte, reduceCtorEq, Nat.reduceAdd, Nat.reduceEqDiff, Nat.reduceBEq, Nat.reduceLT, Nat.reduceLeDiff, Nat.reduceMul, Nat.reduceSub, Int.reduceLE, Int.reduceLT, Int.reduceEq, Int.reduceBEq, Int.reduceBNe, Int.reduceToNat, Int.reduceNeg, Nat.reduceBNe, forall_eq_or_imp, st167]
        · simp only [OI0, OI1, OI2, OI3, OI4, OI5, OI6, OI7, OI8, OI9, OI10, OI11, OI12, ↓reduceIte, reduceCtorEq, Nat.reduceAdd, Nat.reduceEqDiff, Nat.reduceBEq, Nat.reduceLT, Nat.reduceLeDiff, Nat.reduceMul, Nat.reduceSub, Int.reduceLE, Int.reduceLT, Int.reduceEq, Int.reduceBEq, Int.reduceBNe, Int.reduceToNat, Int.reduceNeg, Nat.reduceBNe, forall_eq_or_imp, st167, hil', i0, gi, a1, a3, a4, w1]
          exact bad (by simp only [okB, letB, digB, Bool.or_eq_false_iff, Bool.and_eq_false_iff, decide_eq_false_iff_not]; omega)
      · simp only [OI0, OI1, OI2, OI3, OI4, OI5, OI6, OI7, OI8, OI9, OI10, OI11, OI12, ↓reduceIte, reduceCtorEq, Nat.reduceAdd, Nat.reduceEqDiff, Nat.reduceBEq, Nat.reduceLT, Nat.reduceLeDiff, Nat.reduceMul, Nat.reduceSub, Int.reduceLE, Int.reduceLT, Int.reduceEq, Int.reduceBEq, Int.reduceBNe, Int.reduceToNat, Int.reduceNeg, Nat.reduceBNe, forall_eq_or_imp, st167, hil', i0, gi, a1, a3, w1]
        exact bad (by simp only [okB, letB, digB, Bool.or_eq_false_iff, Bool.and_eq_false_iff, decide_eq_false_iff_not]; omega)
  · obtain rfl : i = s.size := by omega
    simp only [OI0, OI1, OI2, OI3, OI4, OI5, OI6, OI7, OI8, OI9, OI10, OI11, OI12, ↓reduceIte, reduceCtorEq, Nat.reduceAdd, Nat.reduceEqDiff, Nat.reduceBEq, Nat.reduceLT, Nat.reduceLeDiff, Nat.reduceMul, Nat.reduceSub, Int.reduceLE, Int.reduceLT, Int.reduceEq, Int.reduceBEq, Int.reduceBNe, Int.reduceToNat, Int.reduceNeg, Nat.reduceBNe, forall_eq_or_imp, st167, Int.lt_irrefl]
    have hT := all_true fun j hj => hall j hj hj
    have hlt : letB (s[0]'hz').toNat = true := by simp only [letB, Bool.and_eq_true, decide_eq_true_eq]; omega
    rw [hl0, hT, hlt] at h
    exact h
def strA (s : ByteArray) : AV := .v (.string s)
def nmR (s : ByteArray) (l : List ByteArray) : Int := if nameB s = false then 6 else if memB s l = true then 4 else 0
def st160 (I : World → Fp → Value → Fp → Prop) (s : ByteArray) (l : List ByteArray) (i : Nat) : St := ⟨[(5, .v (.int .i64 i)), (0, .v (.string s)), (1, .lst 1 (l.map strA))], [(9999, .ext I)], []⟩
theorem c160 (s : ByteArray) (l : List ByteArray) (hs : s.size ≤ 1000000) (hl : l.length ≤ 1000000) {Q : AV → Al → Prop} (h : Q (i64A (seeR s l)) []) : ACalls Try.prog 160 [] [.v (.string s), .lst 1 (l.map strA)] Q := by
  refine ok160.N hmix rfl ?_
  intro I
  simp only [cc160, OI0, OI1, OI2, OI3, OI4, OI5, OI6, OI7, OI8, OI9, OI10, OI11, OI12, ↓reduceIte, reduceCtorEq, Nat.reduceAdd, Nat.reduceEqDiff, Nat.reduceBEq, Nat.reduceLT, Nat.reduceLeDiff, Nat.reduceMul, Nat.reduceSub, Int.reduceLE, Int.reduceLT, Int.reduceEq, Int.reduceBEq, Int.reduceBNe, Int.reduceToNat, Int.reduceNeg, Nat.reduceBNe, forall_eq_or_imp]
  refine c167 s hs ?_
  cases hn : nameB s with
  | false =>
    simp only [OI0, OI1, OI2, OI3, OI4, OI5, OI6, OI7, OI8, OI9, OI10, OI11, OI12, ↓reduceIte, reduceCtorEq, Nat.reduceAdd, Nat.reduceEqDiff, Nat.reduceBEq, Nat.reduceLT, Nat.reduceLeDiff, Nat.reduceMul, Nat.reduceSub, Int.reduceLE, Int.reduceLT, Int.reduceEq, Int.reduceBEq, Int.reduceBNe, Int.reduceToNat, Int.reduceNeg, Nat.reduceBNe, forall_eq_or_imp]
    simpa [seeR, hn, i64A] using h
  | true =>
    simp only [OI0, OI1, OI2, OI3, OI4, OI5, OI6, OI7, OI8, OI9, OI10, OI11, OI12, ↓reduceIte, reduceCtorEq, Nat.reduceAdd, Nat.reduceEqDiff, Nat.reduceBEq, Nat.reduceLT, Nat.reduceLeDiff, Nat.reduceMul, Nat.reduceSub, Int.reduceLE, Int.reduceLT, Int.reduceEq, Int.reduceBEq, Int.reduceBNe, Int.reduceToNat, Int.reduceNeg, Nat.reduceBNe, forall_eq_or_imp]
    refine W_loop (st160 I s l) (fun i => i ≤ l.length ∧ ∀ j t, j < i → l[j]? = some t → (t.toList == s.toList) = false) (fun i => l.length - i) (fun _ _ => rfl) ⟨0, ⟨by omega, fun j t h => by omega⟩, ?_⟩ ?_
    · simp only [OI0, OI1, OI2, OI3, OI4, OI5, OI6, OI7, OI8, OI9, OI10, OI11, OI12, ↓reduceIte, reduceCtorEq, Nat.reduceAdd, Nat.reduceEqDiff, Nat.reduceBEq, Nat.reduceLT, Nat.reduceLeDiff, Nat.reduceMul, Nat.reduceSub, Int.reduceLE, Int.reduceLT, Int.reduceEq, Int.reduceBEq, Int.reduceBNe, Int.reduceToNat, Int.reduceNeg, Nat.reduceBNe, forall_eq_or_imp, st160]
      try rfl
    rintro i ⟨hi, hall⟩
    refine W_of_N ok160.small hmix ?_
    by_cases hil : i < l.length
    · have hil' : (i : Int) < l.length := by omega
      have i0 : (0 : Int) ≤ i := by omega
      have hgi : l[i]? = some l[i] := List.getElem?_eq_getElem hil
      have w1 : IntKind.i64.wrap ((i : Int) + 1) = ((i + 1 : Nat) : Int) := by rw [wrI64 (by omega) (by omega)]; omega
      cases ht : (l[i].toList == s.toList) with
      | true =>
        simp only [OI0, OI1, OI2, OI3, OI4, OI5, OI6, OI7, OI8, OI9, OI10, OI11, OI12, ↓reduceIte, reduceCtorEq, Nat.reduceAdd, Nat.reduceEqDiff, Nat.reduceBEq, Nat.reduceLT, Nat.reduceLeDiff, Nat.reduceMul, Nat.reduceSub, Int.reduceLE, Int.reduceLT, Int.reduceEq, Int.reduceBEq, Int.reduceBNe, Int.reduceToNat, Int.reduceNeg, Nat.reduceBNe, forall_eq_or_imp, st160, hil', i0, hgi, w1, strA, ht]
        have hm : memB s l = true := by
          rw [memB, List.any_eq_true]
          exact ⟨l[i], List.getElem_mem hil, ht⟩
        simpa [seeR, hn, hm, i64A] using h
      | false =>
        simp only [OI0, OI1, OI2, OI3, OI4, OI5, OI6, OI7, OI8, OI9, OI10, OI11, OI12, ↓reduceIte, reduceCtorEq, Nat.reduceAdd, Nat.reduceEqDiff, Nat.reduceBEq, Nat.reduceLT, Nat.reduceLeDiff, Nat.reduceMul, Nat.reduceSub, Int.reduceLE, Int.reduceLT, Int.reduceEq, Int.reduceBEq, Int.reduceBNe, Int.reduceToNat, Int.reduceNeg, Nat.reduceBNe, forall_eq_or_imp, st160, hil', i0, hgi, w1, strA, ht]
        refine ⟨i + 1, ⟨⟨by omega, fun j t hj hg => ?_⟩, by omega⟩, ?_⟩
        · by_cases he : j = i
          · subst he; rw [hgi] at hg; rw [← Option.some.inj hg]; exact ht
          · exact hall j t (by omega) hg
        · simp only [OI0, OI1, OI2, OI3, OI4, OI5, OI6, OI7, OI8, OI9, OI10, OI11, OI12, ↓reduceIte, reduceCtorEq, Nat.reduceAdd, Nat.reduceEqDiff, Nat.reduceBEq, Nat.reduceLT, Nat.reduceLeDiff, Nat.reduceMul, Nat.reduceSub, Int.reduceLE, Int.reduceLT, Int.reduceEq, Int.reduceBEq, Int.reduceBNe, Int.reduceToNat, Int.reduceNeg, Nat.reduceBNe, forall_eq_or_imp, st160]
    · obtain rfl : i = l.length := by omega
      simp only [OI0, OI1, OI2, OI3, OI4, OI5, OI6, OI7, OI8, OI9, OI10, OI11, OI12, ↓reduceIte, reduceCtorEq, Nat.reduceAdd, Nat.reduceEqDiff, Nat.reduceBEq, Nat.reduceLT, Nat.reduceLeDiff, Nat.reduceMul, Nat.reduceSub, Int.reduceLE, Int.reduceLT, Int.reduceEq, Int.reduceBEq, Int.reduceBNe, Int.reduceToNat, Int.reduceNeg, Nat.reduceBNe, forall_eq_or_imp, st160, Int.lt_irrefl]
      have hm : memB s l = false := by
        rw [memB, List.any_eq_false]
        intro t ht
        obtain ⟨j, hj⟩ := List.getElem?_of_mem ht
        have := hall j t (List.getElem?_eq_some_iff.1 hj).1 hj
        simp [this]
      simpa [seeR, hn, hm, i64A] using h
def chEq (x y : Ch) : Bool := (y.1 == x.1) && (y.2 == x.2)
def hasCh (l : List Ch) (c : Ch) : Bool := l.any fun x => (c.1 == x.1) && (c.2 == x.2)
def st228 (I : World → Fp → Value → Fp → Prop) (l : List Ch) (c : Ch) (i : Nat) : St := ⟨[(8, .v (.int .i64 i)), (7, .v (.int .i64 l.length)), (3, .ref ⟨1003, [], 0⟩), (0, .lst 2 (l.map chA))], [(1003, chA c), (9999, .ext I)], []⟩
theorem c228 (l : List Ch) (c : Ch) (hl : l.length ≤ 1000000) {Q : AV → Al → Prop} (h : ∀ n : Int, (hasCh l c = true → 0 ≤ n) → (hasCh l c = false → n = -1) → Q (i64A n) []) : ACalls Try.prog 228 [] [.lst 2 (l.map chA), chA c] Q := by
  refine ok228.N hmix rfl ?_
  intro I
  simp only [cc228, OI0, OI1, OI2, OI3, OI4, OI5, OI6, OI7, OI8, OI9, OI10, OI11, OI12, ↓reduceIte, reduceCtorEq, Nat.reduceAdd, Nat.reduceEqDiff, Nat.reduceBEq, Nat.reduceLT, Nat.reduceLeDiff, Nat.reduceMul, Nat.reduceSub, Int.reduceLE, Int.reduceLT, Int.reduceEq, Int.reduceBEq, Int.reduceBNe, Int.reduceToNat, Int.reduceNeg, Nat.reduceBNe, forall_eq_or_imp, chA]
  refine W_loop (st228 I l c) (fun i => i ≤ l.length ∧ ∀ j x, j < i → l[j]? = some x → ((c.1 == x.1) && (c.2 == x.2)) = false) (fun i => l.length - i) (fun _ _ => rfl) ⟨0, ⟨by omega, fun j t h => by omega⟩, ?_⟩ ?_
  · simp only [OI0, OI1, OI2, OI3, OI4, OI5, OI6, OI7, OI8, OI9, OI10, OI11, OI12, ↓reduceIte, reduceCtorEq, Nat.reduceAdd, Nat.reduceEqDiff, Nat.reduceBEq, Nat.reduceLT, Nat.reduceLeDiff, Nat.reduceMul, Nat.reduceSub, Int.reduceLE, Int.reduceLT, Int.reduceEq, Int.reduceBEq, Int.reduceBNe, Int.reduceToNat, Int.reduceNeg, Nat.reduceBNe, forall_eq_or_imp, st228, chA]
    try trace_state
  rintro i ⟨hi, hall⟩
  refine W_of_N ok228.small hmix ?_
  by_cases hil : i < l.length
  · have hil' : (i : Int) < l.length := by omega
    have i0 : (0 : Int) ≤ i := by omega
    have hgi : l[i]? = some l[i] := List.getElem?_eq_getElem hil
    have w1 : IntKind.i64.wrap ((i : Int) + 1) = ((i + 1 : Nat) : Int) := by rw [wrI64 (by omega) (by omega)]; omega
    cases ht : ((c.1 == l[i].1) && (c.2 == l[i].2)) with
    | true =>
      simp only [OI0, OI1, OI2, OI3, OI4, OI5, OI6, OI7, OI8, OI9, OI10, OI11, OI12, ↓reduceIte, reduceCtorEq, Nat.reduceAdd, Nat.reduceEqDiff, Nat.reduceBEq, Nat.reduceLT, Nat.reduceLeDiff, Nat.reduceMul, Nat.reduceSub, Int.reduceLE, Int.reduceLT, Int.reduceEq, Int.reduceBEq, Int.reduceBNe, Int.reduceToNat, Int.reduceNeg, Nat.reduceBNe, forall_eq_or_imp, st228, hil', i0, hgi, w1, chA, ht, fit1, fitL, eqL, eq1]
      refine h _ (fun _ => by omega) fun hf => ?_
      have hm : hasCh l c = true := by
        rw [hasCh, List.any_eq_true]
        exact ⟨l[i], List.getElem_mem hil, ht⟩
      rw [hm] at hf; cases hf
    | false =>
      simp only [OI0, OI1, OI2, OI3, OI4, OI5, OI6, OI7, OI8, OI9, OI10, OI11, OI12, ↓reduceIte, reduceCtorEq, Nat.reduceAdd, Nat.reduceEqDiff, Nat.reduceBEq, Nat.reduceLT, Nat.reduceLeDiff, Nat.reduceMul, Nat.reduceSub, Int.reduceLE, Int.reduceLT, Int.reduceEq, Int.reduceBEq, Int.reduceBNe, Int.reduceToNat, Int.reduceNeg, Nat.reduceBNe, forall_eq_or_imp, st228, hil', i0, hgi, w1, chA, ht, fit1, fitL, eqL, eq1]
      refine ⟨i + 1, ⟨⟨by omega, fun j t hj hg => ?_⟩, by omega⟩, ?_⟩
      · by_cases he : j = i
        · subst he; rw [hgi] at hg; rw [← Option.some.inj hg]; exact ht
        · exact hall j t (by omega) hg
      · simp only [OI0, OI1, OI2, OI3, OI4, OI5, OI6, OI7, OI8, OI9, OI10, OI11, OI12, ↓reduceIte, reduceCtorEq, Nat.reduceAdd, Nat.reduceEqDiff, Nat.reduceBEq, Nat.reduceLT, Nat.reduceLeDiff, Nat.reduceMul, Nat.reduceSub, Int.reduceLE, Int.reduceLT, Int.reduceEq, Int.reduceBEq, Int.reduceBNe, Int.reduceToNat, Int.reduceNeg, Nat.reduceBNe, forall_eq_or_imp, st228, chA]
  · obtain rfl : i = l.length := by omega
    simp only [OI0, OI1, OI2, OI3, OI4, OI5, OI6, OI7, OI8, OI9, OI10, OI11, OI12, ↓reduceIte, reduceCtorEq, Nat.reduceAdd, Nat.reduceEqDiff, Nat.reduceBEq, Nat.reduceLT, Nat.reduceLeDiff, Nat.reduceMul, Nat.reduceSub, Int.reduceLE, Int.reduceLT, Int.reduceEq, Int.reduceBEq, Int.reduceBNe, Int.reduceToNat, Int.reduceNeg, Nat.reduceBNe, forall_eq_or_imp, st228, Int.lt_irrefl]
    have hm : hasCh l c = false := by
      rw [hasCh, List.any_eq_false]
      intro t ht
      obtain ⟨j, hj⟩ := List.getElem?_of_mem ht
      have := hall j t (List.getElem?_eq_some_iff.1 hj).1 hj
      simpa using this
    exact h _ (fun hf => by rw [hm] at hf; cases hf) fun _ => rfl
theorem c203 (l : List Ch) (c : Ch) (hl : l.length ≤ 1000000) {Q : AV → Al → Prop} (h : Q (.v (.bool (hasCh l c))) []) : ACalls Try.prog 203 [] [.lst 2 (l.map chA), chA c] Q := by
  refine ok203.N hmix rfl ?_
  intro I
  simp only [cc203, OI0, OI1, OI2, OI3, OI4, OI5, OI6, OI7, OI8, OI9, OI10, OI11, OI12, ↓reduceIte, reduceCtorEq, Nat.reduceAdd, Nat.reduceEqDiff, Nat.reduceBEq, Nat.reduceLT, Nat.reduceLeDiff, Nat.reduceMul, Nat.reduceSub, Int.reduceLE, Int.reduceLT, Int.reduceEq, Int.reduceBEq, Int.reduceBNe, Int.reduceToNat, Int.reduceNeg, Nat.reduceBNe, forall_eq_or_imp, chA]
  refine c228 l c hl ?_
  intro n h1 h2
  cases hm : hasCh l c with
  | true =>
    have := h1 hm
    simp only [OI0, OI1, OI2, OI3, OI4, OI5, OI6, OI7, OI8, OI9, OI10, OI11, OI12, ↓reduceIte, reduceCtorEq, Nat.reduceAdd, Nat.reduceEqDiff, Nat.reduceBEq, Nat.reduceLT, Nat.reduceLeDiff, Nat.reduceMul, Nat.reduceSub, Int.reduceLE, Int.reduceLT, Int.reduceEq, Int.reduceBEq, Int.reduceBNe, Int.reduceToNat, Int.reduceNeg, Nat.reduceBNe, forall_eq_or_imp, i64A, this]
    rw [hm] at h; exact h
  | false =>
    obtain rfl := h2 hm
    simp only [OI0, OI1, OI2, OI3, OI4, OI5, OI6, OI7, OI8, OI9, OI10, OI11, OI12, ↓reduceIte, reduceCtorEq, Nat.reduceAdd, Nat.reduceEqDiff, Nat.reduceBEq, Nat.reduceLT, Nat.reduceLeDiff, Nat.reduceMul, Nat.reduceSub, Int.reduceLE, Int.reduceLT, Int.reduceEq, Int.reduceBEq, Int.reduceBNe, Int.reduceToNat, Int.reduceNeg, Nat.reduceBNe, forall_eq_or_imp, i64A]
    rw [hm] at h; exact h
end Go.Proofs.Ythlehngbadianaa.Ow
