/- What the functions of the program do, each once: contracts of the logic (part d4). -/
import Derived.Test.YthlehngbadianaaTd3
set_option linter.unusedVariables false
set_option linter.unusedSimpArgs false
set_option linter.unnecessarySimpa false
set_option maxRecDepth 100000
set_option maxHeartbeats 4000000
namespace Go.Proofs.Ythlehngbadianaa.Ow
open Go Go.RowKit Go.Proofs
/- (watershed/code.Reader).Int -/
def cc118 : CC := (.seq (.region [⟨none, 4, (.val (.mv (.c (.int .i64 0)))), [4], none, []⟩]) (.seq (.region [⟨none, 6, (.val (.mv (.s 0))), [], none, []⟩, ⟨none, 7, (.call 193 [(.s 6)]), [6], (some 0), []⟩, ⟨none, 5, (.val (.mv (.s 7))), [7], none, []⟩]) (.seq (.seq (.region [⟨none, 8, (.val (.mv (.s 1))), [], none, []⟩, ⟨none, 9, (.val (.bin .lss (.s 8) (.c (.int .i64 0)))), [8], none, []⟩, ⟨none, 10, (.val (.mv (.s 9))), [9], none, []⟩, ⟨(some (10, false)), 11, (.val (.mv (.s 5))), [], none, []⟩, ⟨(some (10, false)), 12, (.val (.mv (.s 1))), [1], none, []⟩, ⟨(some (10, false)), 13, (.val (.cvi .u64 (.s 12))), [12], none, []⟩, ⟨(some (10, false)), 14, (.val (.bin .gtr (.s 11) (.s 13))), [11, 13], none, []⟩, ⟨none, 15, (.val (.pick (.s 10) (.c (.bool true)) (.s 14))), [10, 14], none, []⟩]) (.cond (.s 15) (.region [⟨none, 16, (.val (.mv (.s 0))), [15], none, []⟩, ⟨none, 17, (.call 121 [(.s 16), (.c (.int .i64 1))]), [16, 17], (some 0), []⟩]) .skip)) (.seq (.seq (.region [⟨none, 18, (.val (.mv (.s 0))), [0, 15], none, []⟩, ⟨none, 19, (.val (.nc (.s 18))), [18], none, []⟩, ⟨none, 20, (.val (.fa (.s 19) 1)), [19], none, []⟩, ⟨none, 21, (.val (.ld (.s 20) none)), [20], none, []⟩, ⟨none, 22, (.val (.bin .neq (.s 21) (.c (.int .i64 0)))), [21], none, []⟩]) (.cond (.s 22) (.seq (.region [⟨none, 4, (.val (.mv (.c (.int .i64 0)))), [5, 22], none, []⟩]) .ret) .skip)) (.seq (.region [⟨none, 23, (.val (.mv (.s 5))), [5, 22], none, []⟩, ⟨none, 24, (.val (.cvi .i64 (.s 23))), [23], none, []⟩, ⟨none, 4, (.val (.mv (.s 24))), [24], none, []⟩]) .ret)))))
theorem ok118 : FnOk Try.prog 118 cc118 [(.t 4)] 2 25 := ⟨⟨_, Try.func118, by kernel_rfl, by kernel_rfl, by kernel_rfl⟩, by decide, by decide⟩

/- (watershed/watershedref02.Reader).Int -/
def cc122 : CC := (.seq (.region [⟨none, 4, (.val (.mv (.c (.int .i64 0)))), [4], none, []⟩]) (.seq (.region [⟨none, 6, (.val (.mv (.s 0))), [], none, []⟩, ⟨none, 7, (.call 194 [(.s 6)]), [6], (some 0), []⟩, ⟨none, 5, (.val (.mv (.s 7))), [7], none, []⟩]) (.seq (.seq (.region [⟨none, 8, (.val (.mv (.s 0))), [], none, []⟩, ⟨none, 9, (.val (.nc (.s 8))), [8], none, []⟩, ⟨none, 10, (.val (.fa (.s 9) 2)), [9], none, []⟩, ⟨none, 11, (.val (.ld (.s 10) none)), [10], none, []⟩, ⟨none, 12, (.val (.bin .eql (.s 11) (.c (.int .i64 0)))), [11], none, []⟩, ⟨none, 13, (.val (.mv (.s 12))), [12], none, []⟩, ⟨(some (13, true)), 14, (.val (.mv (.s 1))), [], none, []⟩, ⟨(some (13, true)), 15, (.val (.bin .lss (.s 14) (.c (.int .i64 0)))), [14], none, []⟩, ⟨(some (13, true)), 16, (.val (.mv (.s 15))), [15], none, []⟩, ⟨(some (16, false)), 17, (.val (.mv (.s 5))), [], none, []⟩, ⟨(some (16, false)), 18, (.val (.mv (.s 1))), [1], none, []⟩, ⟨(some (16, false)), 19, (.val (.cvi .u64 (.s 18))), [18], none, []⟩, ⟨(some (16, false)), 20, (.val (.bin .gtr (.s 17) (.s 19))), [17, 19], none, []⟩, ⟨(some (13, true)), 21, (.val (.pick (.s 16) (.c (.bool true)) (.s 20))), [16, 20], none, []⟩, ⟨none, 22, (.val (.pick (.s 13) (.s 21) (.c (.bool false)))), [13, 21], none, []⟩]) (.cond (.s 22) (.region [⟨none, 23, (.val (.mv (.s 0))), [22], none, []⟩, ⟨none, 24, (.val (.nc (.s 23))), [23], none, []⟩, ⟨none, 25, (.val (.fa (.s 24) 2)), [24], none, []⟩, ⟨none, 0, (.store 1 (.s 25) (.c (.int .i64 1))), [25], none, []⟩]) .skip)) (.seq (.seq (.region [⟨none, 26, (.val (.mv (.s 0))), [0, 22], none, []⟩, ⟨none, 27, (.val (.nc (.s 26))), [26], none, []⟩, ⟨none, 28, (.val (.fa (.s 27) 2)), [27], none, []⟩, ⟨none, 29, (.val (.ld (.s 28) none)), [28], none, []⟩, ⟨none, 30, (.val (.bin .neq (.s 29) (.c (.int .i64 0)))), [29], none, []⟩]) (.cond (.s 30) (.seq (.region [⟨none, 4, (.val (.mv (.c (.int .i64 0)))), [5, 30], none, []⟩]) .ret) .skip)) (.seq (.region [⟨none, 31, (.val (.mv (.s 5))), [5, 30], none, []⟩, ⟨none, 32, (.val (.cvi .i64 (.s 31))), [31], none, []⟩, ⟨none, 4, (.val (.mv (.s 32))), [32], none, []⟩]) .ret)))))
theorem ok122 : FnOk Try.prog 122 cc122 [(.t 4)] 2 33 := ⟨⟨_, Try.func122, by kernel_rfl, by kernel_rfl, by kernel_rfl⟩, by decide, by decide⟩

/- (watershed/code.Reader).Signed -/
def cc120 : CC := (.seq (.region [⟨none, 2, (.val (.mv (.c (.int .i64 0)))), [2], none, []⟩]) (.seq (.region [⟨none, 4, (.val (.mv (.s 0))), [0], none, []⟩, ⟨none, 5, (.call 193 [(.s 4)]), [4], (some 0), []⟩, ⟨none, 3, (.val (.mv (.s 5))), [5], none, []⟩]) (.seq (.region [⟨none, 6, (.val (.mv (.s 3))), [], none, []⟩, ⟨none, 7, (.val (.bin .shr (.s 6) (.c (.int .u64 1)))), [6], none, []⟩, ⟨none, 8, (.val (.cvi .i64 (.s 7))), [7], none, []⟩, ⟨none, 9, (.val (.mv (.s 3))), [3], none, []⟩, ⟨none, 10, (.val (.bin .and (.s 9) (.c (.int .u64 1)))), [9], none, []⟩, ⟨none, 11, (.val (.cvi .i64 (.s 10))), [10], none, []⟩, ⟨none, 12, (.val (.un .neg (.s 11))), [11], none, []⟩, ⟨none, 13, (.val (.bin .xor (.s 8) (.s 12))), [8, 12], none, []⟩, ⟨none, 2, (.val (.mv (.s 13))), [13], none, []⟩]) .ret)))
theorem ok120 : FnOk Try.prog 120 cc120 [(.t 2)] 1 14 := ⟨⟨_, Try.func120, by kernel_rfl, by kernel_rfl, by kernel_rfl⟩, by decide, by decide⟩

/- (watershed/watershedref02.Reader).Signed -/
def cc124 : CC := (.seq (.region [⟨none, 2, (.val (.mv (.c (.int .i64 0)))), [2], none, []⟩]) (.seq (.region [⟨none, 4, (.val (.mv (.s 0))), [0], none, []⟩, ⟨none, 5, (.call 194 [(.s 4)]), [4], (some 0), []⟩, ⟨none, 3, (.val (.mv (.s 5))), [5], none, []⟩]) (.seq (.seq (.region [⟨none, 6, (.val (.mv (.s 3))), [], none, []⟩, ⟨none, 7, (.val (.bin .rem (.s 6) (.c (.int .u64 2)))), [6], none, []⟩, ⟨none, 8, (.val (.bin .eql (.s 7) (.c (.int .u64 1)))), [7], none, []⟩]) (.cond (.s 8) (.seq (.region [⟨none, 9, (.val (.mv (.s 3))), [3, 8], none, []⟩, ⟨none, 10, (.val (.bin .quo (.s 9) (.c (.int .u64 2)))), [9], none, []⟩, ⟨none, 11, (.val (.cvi .i64 (.s 10))), [10], none, []⟩, ⟨none, 12, (.val (.un .neg (.s 11))), [11], none, []⟩, ⟨none, 13, (.val (.bin .sub (.s 12) (.c (.int .i64 1)))), [12], none, []⟩, ⟨none, 2, (.val (.mv (.s 13))), [13], none, []⟩]) .ret) .skip)) (.seq (.region [⟨none, 14, (.val (.mv (.s 3))), [3, 8], none, []⟩, ⟨none, 15, (.val (.bin .quo (.s 14) (.c (.int .u64 2)))), [14], none, []⟩, ⟨none, 16, (.val (.cvi .i64 (.s 15))), [15], none, []⟩, ⟨none, 2, (.val (.mv (.s 16))), [16], none, []⟩]) .ret))))
theorem ok124 : FnOk Try.prog 124 cc124 [(.t 2)] 1 17 := ⟨⟨_, Try.func124, by kernel_rfl, by kernel_rfl, by kernel_rfl⟩, by decide, by decide⟩


/-- A number of at most so much. -/
def intM (S : List UInt8) (most : Nat) (p : Nat) (e : Int) : Nat × Nat × Int :=
  if (numM S p e).2.2 ≠ 0 then (0, (numM S p e).2.1, (numM S p e).2.2) else if most < (numM S p e).1 then (0, (numM S p e).2.1, 1) else ((numM S p e).1, (numM S p e).2.1, 0)
theorem intM_le {S : List UInt8} {most p : Nat} {e : Int} (h : p ≤ S.length) : (intM S most p e).2.1 ≤ S.length := by
  have := numM_le (e := e) h
  unfold intM; split <;> (try split) <;> exact this
theorem intM_most {S : List UInt8} {most p : Nat} {e : Int} : (intM S most p e).1 ≤ most := by
  unfold intM; split <;> (try split) <;> simp <;> omega
theorem c118 (S : List UInt8) (most p : Nat) (e : Int) (hS : S.length ≤ 1000000) (hp : p ≤ S.length) (hm : most ≤ 2000000) {Q : AV → Al → Prop} (h : Q (i64A (intM S most p e).1) [(0, rdA (S.drop (intM S most p e).2.1) (intM S most p e).2.2)]) : ACalls Try.prog 118 [(0, rdA (S.drop p) e)] [.ref ⟨0, [], 0⟩, i64A most] Q := by
  refine ok118.N hmix rfl ?_
  intro I
  simp only [cc118, OI0, OI1, OI2, OI3, OI4, OI5, OI6, OI7, OI8, OI9, OI10, OI11, OI12, reduceIte, reduceCtorEq, Nat.reduceAdd, Nat.reduceEqDiff, Nat.reduceBEq, Nat.reduceLT, Nat.reduceLeDiff, Nat.reduceMul, Nat.reduceSub, Int.reduceLE, Int.reduceLT, Int.reduceEq, Int.reduceBEq, Int.reduceBNe, Int.reduceToNat, Int.reduceNeg, Nat.reduceBNe, forall_eq_or_imp, rdA, i64A]
  refine c193 S p e hS hp ?_
  have hlt := numM_lt S p e
  unfold intM at h
  generalize numM S p e = r at h hlt
  obtain ⟨v, q, e1⟩ := r
  simp only at h hlt
  have m0 : ¬ ((most : Int) < 0) := by omega
  have wm : IntKind.u64.wrap (most : Int) = most := wrap_u64 (by omega) (by omega)
  by_cases hv : most < v
  · have hv' : (most : Int) < v := by omega
    simp only [OI0, OI1, OI2, OI3, OI4, OI5, OI6, OI7, OI8, OI9, OI10, OI11, OI12, reduceIte, reduceCtorEq, Nat.reduceAdd, Nat.reduceEqDiff, Nat.reduceBEq, Nat.reduceLT, Nat.reduceLeDiff, Nat.reduceMul, Nat.reduceSub, Int.reduceLE, Int.reduceLT, Int.reduceEq, Int.reduceBEq, Int.reduceBNe, Int.reduceToNat, Int.reduceNeg, Nat.reduceBNe, forall_eq_or_imp, rdA, u64A, m0, wm, hv']
    refine c121 (S.drop q) e1 1 ?_
    by_cases he : e1 = 0
    · subst he
      simp only [OI0, OI1, OI2, OI3, OI4, OI5, OI6, OI7, OI8, OI9, OI10, OI11, OI12, reduceIte, reduceCtorEq, Nat.reduceAdd, Nat.reduceEqDiff, Nat.reduceBEq, Nat.reduceLT, Nat.reduceLeDiff, Nat.reduceMul, Nat.reduceSub, Int.reduceLE, Int.reduceLT, Int.reduceEq, Int.reduceBEq, Int.reduceBNe, Int.reduceToNat, Int.reduceNeg, Nat.reduceBNe, forall_eq_or_imp, rdA]
      simp only [ne_eq, not_true_eq_false, if_false, hv, if_true] at h
      exact h
    · have hb : (e1 != 0) = true := by simpa using he
      simp only [OI0, OI1, OI2, OI3, OI4, OI5, OI6, OI7, OI8, OI9, OI10, OI11, OI12, reduceIte, reduceCtorEq, Nat.reduceAdd, Nat.reduceEqDiff, Nat.reduceBEq, Nat.reduceLT, Nat.reduceLeDiff, Nat.reduceMul, Nat.reduceSub, Int.reduceLE, Int.reduceLT, Int.reduceEq, Int.reduceBEq, Int.reduceBNe, Int.reduceToNat, Int.reduceNeg, Nat.reduceBNe, forall_eq_or_imp, rdA, he, hb]
      simp only [ne_eq, he, not_false_eq_true, if_true] at h
      exact h
  · have hv' : ¬ (most : Int) < v := by omega
    have wv : IntKind.i64.wrap (v : Int) = v := wrap_i64 (by omega) (by omega)
    by_cases he : e1 = 0
    · subst he
      simp only [OI0, OI1, OI2, OI3, OI4, OI5, OI6, OI7, OI8, OI9, OI10, OI11, OI12, reduceIte, reduceCtorEq, Nat.reduceAdd, Nat.reduceEqDiff, Nat.reduceBEq, Nat.reduceLT, Nat.reduceLeDiff, Nat.reduceMul, Nat.reduceSub, Int.reduceLE, Int.reduceLT, Int.reduceEq, Int.reduceBEq, Int.reduceBNe, Int.reduceToNat, Int.reduceNeg, Nat.reduceBNe, forall_eq_or_imp, rdA, u64A, m0, wm, hv', wv]
      simp only [ne_eq, not_true_eq_false, if_false, hv] at h
      exact h
    · have hb : (e1 != 0) = true := by simpa using he
      simp only [OI0, OI1, OI2, OI3, OI4, OI5, OI6, OI7, OI8, OI9, OI10, OI11, OI12, reduceIte, reduceCtorEq, Nat.reduceAdd, Nat.reduceEqDiff, Nat.reduceBEq, Nat.reduceLT, Nat.reduceLeDiff, Nat.reduceMul, Nat.reduceSub, Int.reduceLE, Int.reduceLT, Int.reduceEq, Int.reduceBEq, Int.reduceBNe, Int.reduceToNat, Int.reduceNeg, Nat.reduceBNe, forall_eq_or_imp, rdA, u64A, m0, wm, hv', hb]
      simp only [ne_eq, he, not_false_eq_true, if_true] at h
      exact h
theorem c122 (S : List UInt8) (most p : Nat) (e : Int) (hS : S.length ≤ 1000000) (hp : p ≤ S.length) (hm : most ≤ 2000000) {Q : AV → Al → Prop} (h : Q (i64A (intM S most p e).1) [(0, rfA S (intM S most p e).2.1 (intM S most p e).2.2)]) : ACalls Try.prog 122 [(0, rfA S p e)] [.ref ⟨0, [], 0⟩, i64A most] Q := by
  refine ok122.N hmix rfl ?_
  intro I
  simp only [cc122, OI0, OI1, OI2, OI3, OI4, OI5, OI6, OI7, OI8, OI9, OI10, OI11, OI12, reduceIte, reduceCtorEq, Nat.reduceAdd, Nat.reduceEqDiff, Nat.reduceBEq, Nat.reduceLT, Nat.reduceLeDiff, Nat.reduceMul, Nat.reduceSub, Int.reduceLE, Int.reduceLT, Int.reduceEq, Int.reduceBEq, Int.reduceBNe, Int.reduceToNat, Int.reduceNeg, Nat.reduceBNe, forall_eq_or_imp, rfA, i64A]
  refine c194 S p e hS hp ?_
  have hlt := numM_lt S p e
  unfold intM at h
  generalize numM S p e = r at h hlt
  obtain ⟨v, q, e1⟩ := r
  simp only at h hlt
  have m0 : ¬ ((most : Int) < 0) := by omega
  have wm : IntKind.u64.wrap (most : Int) = most := wrap_u64 (by omega) (by omega)
  by_cases he : e1 = 0
  · subst he
    by_cases hv : most < v
    · have hv' : (most : Int) < v := by omega
      simp only [OI0, OI1, OI2, OI3, OI4, OI5, OI6, OI7, OI8, OI9, OI10, OI11, OI12, reduceIte, reduceCtorEq, Nat.reduceAdd, Nat.reduceEqDiff, Nat.reduceBEq, Nat.reduceLT, Nat.reduceLeDiff, Nat.reduceMul, Nat.reduceSub, Int.reduceLE, Int.reduceLT, Int.reduceEq, Int.reduceBEq, Int.reduceBNe, Int.reduceToNat, Int.reduceNeg, Nat.reduceBNe, forall_eq_or_imp, rfA, u64A, m0, wm, hv']
      simp only [ne_eq, not_true_eq_false, if_false, hv, if_true] at h
      exact h
    · have hv' : ¬ (most : Int) < v := by omega
      have wv : IntKind.i64.wrap (v : Int) = v := wrap_i64 (by omega) (by omega)
      simp only [OI0, OI1, OI2, OI3, OI4, OI5, OI6, OI7, OI8, OI9, OI10, OI11, OI12, reduceIte, reduceCtorEq, Nat.reduceAdd, Nat.reduceEqDiff, Nat.reduceBEq, Nat.reduceLT, Nat.reduceLeDiff, Nat.reduceMul, Nat.reduceSub, Int.reduceLE, Int.reduceLT, Int.reduceEq, Int.reduceBEq, Int.reduceBNe, Int.reduceToNat, Int.reduceNeg, Nat.reduceBNe, forall_eq_or_imp, rfA, u64A, m0, wm, hv', wv]
      simp only [ne_eq, not_true_eq_false, if_false, hv] at h
      exact h
  · have hb : (e1 != 0) = true := by simpa using he
    have hb2 : (e1 == 0) = false := by simpa using he
    simp only [OI0, OI1, OI2, OI3, OI4, OI5, OI6, OI7, OI8, OI9, OI10, OI11, OI12, reduceIte, reduceCtorEq, Nat.reduceAdd, Nat.reduceEqDiff, Nat.reduceBEq, Nat.reduceLT, Nat.reduceLeDiff, Nat.reduceMul, Nat.reduceSub, Int.reduceLE, Int.reduceLT, Int.reduceEq, Int.reduceBEq, Int.reduceBNe, Int.reduceToNat, Int.reduceNeg, Nat.reduceBNe, forall_eq_or_imp, rfA, u64A, m0, wm, hb, hb2]
    simp only [ne_eq, he, not_false_eq_true, if_true] at h
    exact h
def unzig (v : Nat) : Int := if v % 2 = 1 then -((v / 2 : Nat) : Int) - 1 else ((v / 2 : Nat) : Int)
def sgnM (S : List UInt8) (p : Nat) (e : Int) : Int × Nat × Int := (unzig (numM S p e).1, (numM S p e).2.1, (numM S p e).2.2)
theorem sgnM_le {S : List UInt8} {p : Nat} {e : Int} (h : p ≤ S.length) : (sgnM S p e).2.1 ≤ S.length := numM_le h
theorem unzig_bd {v : Nat} (h : v < 18446744073709551616) : -9223372036854775808 ≤ unzig v ∧ unzig v < 9223372036854775808 := by unfold unzig; split <;> omega
theorem sg120 {v : Nat} (h : v < 18446744073709551616) : IntKind.i64.wrap ((BitVec.ofInt IntKind.i64.bits (IntKind.i64.wrap ((v : Int).fdiv (2 ^ min 1 IntKind.u64.bits))) ^^^ BitVec.ofInt IntKind.i64.bits (IntKind.i64.wrap (0 - IntKind.i64.wrap (IntKind.u64.wrap ((BitVec.ofInt IntKind.u64.bits (v : Int) &&& BitVec.ofInt IntKind.u64.bits 1).toNat : Int))))).toNat : Int) = unzig v := by
  have e1 : (2 : Int) ^ min 1 IntKind.u64.bits = 2 := rfl
  have ea : (BitVec.ofInt IntKind.u64.bits (v : Int) &&& BitVec.ofInt IntKind.u64.bits 1).toNat = v % 2 := by
    show (BitVec.ofInt 64 (v : Int) &&& BitVec.ofInt 64 1).toNat = v % 2
    rw [BitVec.toNat_and, BitVec.toNat_ofInt, BitVec.toNat_ofInt]
    have e2 : ((v : Int) % ((2 ^ 64 : Nat) : Int)).toNat = v := by omega
    have e3 : ((1 : Int) % ((2 ^ 64 : Nat) : Int)).toNat = 1 := rfl
    rw [e2, e3, Nat.and_one_is_mod]
  rw [e1, ea, Int.fdiv_eq_ediv_of_nonneg _ (by omega), wrap_u64 (x := ((v % 2 : Nat) : Int)) (by omega) (by omega), wrap_i64 (x := ((v % 2 : Nat) : Int)) (by omega) (by omega), wrap_i64 (x := 0 - ((v % 2 : Nat) : Int)) (by omega) (by omega), wrap_i64 (x := (v : Int) / 2) (by omega) (by omega)]
  unfold unzig
  have hx : (BitVec.ofInt 64 ((v : Int) / 2)).toNat = v / 2 := by rw [BitVec.toNat_ofInt]; omega
  rcases Nat.mod_two_eq_zero_or_one v with h2 | h2
  · rw [h2, if_neg (by omega)]
    have : (BitVec.ofInt IntKind.i64.bits ((v : Int) / 2) ^^^ BitVec.ofInt IntKind.i64.bits (0 - ((0 : Nat) : Int))).toNat = v / 2 := by
      show (BitVec.ofInt 64 ((v : Int) / 2) ^^^ 0#64).toNat = v / 2
      rw [BitVec.xor_zero, hx]
    rw [this, wrap_i64 (by omega) (by omega)]
  · rw [h2, if_pos rfl]
    have : (BitVec.ofInt IntKind.i64.bits ((v : Int) / 2) ^^^ BitVec.ofInt IntKind.i64.bits (0 - ((1 : Nat) : Int))).toNat = 18446744073709551615 - v / 2 := by
      show (BitVec.ofInt 64 ((v : Int) / 2) ^^^ BitVec.allOnes 64).toNat = _
      rw [xor_ones, hx]
    rw [this]
    have hw : ∀ x : Int, 9223372036854775808 ≤ x → x < 18446744073709551616 → IntKind.i64.wrap x = x - 18446744073709551616 := by
      intro x h1 h2
      simp only [IntKind.wrap, IntKind.bits, IntKind.signed]
      simp
      omega
    rw [hw _ (by omega) (by omega)]
    omega
theorem c120 (S : List UInt8) (p : Nat) (e : Int) (hS : S.length ≤ 1000000) (hp : p ≤ S.length) {Q : AV → Al → Prop} (h : Q (i64A (sgnM S p e).1) [(0, rdA (S.drop (sgnM S p e).2.1) (sgnM S p e).2.2)]) : ACalls Try.prog 120 [(0, rdA (S.drop p) e)] [.ref ⟨0, [], 0⟩] Q := by
  refine ok120.N hmix rfl ?_
  intro I
  simp only [cc120, OI0, OI1, OI2, OI3, OI4, OI5, OI6, OI7, OI8, OI9, OI10, OI11, OI12, reduceIte, reduceCtorEq, Nat.reduceAdd, Nat.reduceEqDiff, Nat.reduceBEq, Nat.reduceLT, Nat.reduceLeDiff, Nat.reduceMul, Nat.reduceSub, Int.reduceLE, Int.reduceLT, Int.reduceEq, Int.reduceBEq, Int.reduceBNe, Int.reduceToNat, Int.reduceNeg, Nat.reduceBNe, forall_eq_or_imp, rdA, i64A]
  refine c193 S p e hS hp ?_
  have hlt := numM_lt S p e
  unfold sgnM at h
  generalize numM S p e = r at h hlt
  obtain ⟨v, q, e1⟩ := r
  simp only at h hlt
  simp only [OI0, OI1, OI2, OI3, OI4, OI5, OI6, OI7, OI8, OI9, OI10, OI11, OI12, reduceIte, reduceCtorEq, Nat.reduceAdd, Nat.reduceEqDiff, Nat.reduceBEq, Nat.reduceLT, Nat.reduceLeDiff, Nat.reduceMul, Nat.reduceSub, Int.reduceLE, Int.reduceLT, Int.reduceEq, Int.reduceBEq, Int.reduceBNe, Int.reduceToNat, Int.reduceNeg, Nat.reduceBNe, forall_eq_or_imp, rdA, u64A, sg120 hlt]
  exact h
theorem c124 (S : List UInt8) (p : Nat) (e : Int) (hS : S.length ≤ 1000000) (hp : p ≤ S.length) {Q : AV → Al → Prop} (h : Q (i64A (sgnM S p e).1) [(0, rfA S (sgnM S p e).2.1 (sgnM S p e).2.2)]) : ACalls Try.prog 124 [(0, rfA S p e)] [.ref ⟨0, [], 0⟩] Q := by
  refine ok124.N hmix rfl ?_
  intro I
  simp only [cc124, OI0, OI1, OI2, OI3, OI4, OI5, OI6, OI7, OI8, OI9, OI10, OI11, OI12, reduceIte, reduceCtorEq, Nat.reduceAdd, Nat.reduceEqDiff, Nat.reduceBEq, Nat.reduceLT, Nat.reduceLeDiff, Nat.reduceMul, Nat.reduceSub, Int.reduceLE, Int.reduceLT, Int.reduceEq, Int.reduceBEq, Int.reduceBNe, Int.reduceToNat, Int.reduceNeg, Nat.reduceBNe, forall_eq_or_imp, rfA, i64A]
  refine c194 S p e hS hp ?_
  have hlt := numM_lt S p e
  unfold sgnM at h
  generalize numM S p e = r at h hlt
  obtain ⟨v, q, e1⟩ := r
  simp only at h hlt
  have e2 : (v : Int).tmod 2 = ((v % 2 : Nat) : Int) := by rw [Int.tmod_eq_emod_of_nonneg (by omega)]; rfl
  have e3 : IntKind.i64.wrap (IntKind.u64.wrap ((v : Int).tdiv 2)) = ((v / 2 : Nat) : Int) := by
    rw [Int.tdiv_eq_ediv_of_nonneg (by omega), wrap_u64 (by omega) (by omega), wrap_i64 (by omega) (by omega)]; rfl
  by_cases h2 : v % 2 = 1
  · have g2 : (((v % 2 : Nat) : Int) == 1) = true := by simp; omega
    have e4 : IntKind.i64.wrap (IntKind.i64.wrap (0 - ((v / 2 : Nat) : Int)) - 1) = unzig v := by
      rw [wrap_i64 (x := 0 - ((v / 2 : Nat) : Int)) (by omega) (by omega), wrap_i64 (by omega) (by omega)]
      unfold unzig; rw [if_pos h2]; omega
    simp only [OI0, OI1, OI2, OI3, OI4, OI5, OI6, OI7, OI8, OI9, OI10, OI11, OI12, reduceIte, reduceCtorEq, Nat.reduceAdd, Nat.reduceEqDiff, Nat.reduceBEq, Nat.reduceLT, Nat.reduceLeDiff, Nat.reduceMul, Nat.reduceSub, Int.reduceLE, Int.reduceLT, Int.reduceEq, Int.reduceBEq, Int.reduceBNe, Int.reduceToNat, Int.reduceNeg, Nat.reduceBNe, forall_eq_or_imp, rfA, u64A, e2, g2, e3, e4]
    exact h
  · have g2 : (((v % 2 : Nat) : Int) == 1) = false := by simp; omega
    have e4 : unzig v = ((v / 2 : Nat) : Int) := by unfold unzig; rw [if_neg h2]
    simp only [OI0, OI1, OI2, OI3, OI4, OI5, OI6, OI7, OI8, OI9, OI10, OI11, OI12, reduceIte, reduceCtorEq, Nat.reduceAdd, Nat.reduceEqDiff, Nat.reduceBEq, Nat.reduceLT, Nat.reduceLeDiff, Nat.reduceMul, Nat.reduceSub, Int.reduceLE, Int.reduceLT, Int.reduceEq, Int.reduceBEq, Int.reduceBNe, Int.reduceToNat, Int.reduceNeg, Nat.reduceBNe, forall_eq_or_imp, rfA, u64A, e2, g2, e3]
    rw [e4] at h
    exact h
end Go.Proofs.Ythlehngbadianaa.Ow
