/- What the functions of the program do, each once: contracts of the logic (part d3). -/
import Derived.Test.YthlehngbadianaaTd2
set_option linter.unusedVariables false
set_option linter.unusedSimpArgs false
set_option linter.unnecessarySimpa false
set_option maxRecDepth 100000
set_option maxHeartbeats 4000000
namespace Go.Proofs.Ythlehngbadianaa.Ow
open Go Go.RowKit Go.Proofs
/- (watershed/code.Reader).Num -/
def cc193 : CC := (.seq (.region [⟨none, 2, (.val (.mv (.c (.int .u64 0)))), [2], none, []⟩]) (.seq (.seq (.region [⟨none, 6, (.val (.mv (.s 0))), [], none, []⟩, ⟨none, 7, (.val (.nc (.s 6))), [6], none, []⟩, ⟨none, 8, (.val (.fa (.s 7) 1)), [7], none, []⟩, ⟨none, 9, (.val (.ld (.s 8) none)), [8], none, []⟩, ⟨none, 10, (.val (.bin .neq (.s 9) (.c (.int .i64 0)))), [9], none, []⟩]) (.cond (.s 10) (.seq (.region [⟨none, 2, (.val (.mv (.c (.int .u64 0)))), [0, 10], none, []⟩]) .ret) .skip)) (.seq (.region [⟨none, 12, (.val (.mv (.s 0))), [10], none, []⟩, ⟨none, 13, (.val (.nc (.s 12))), [12], none, []⟩, ⟨none, 14, (.val (.fa (.s 13) 0)), [13], none, []⟩, ⟨none, 15, (.val (.ld (.s 14) none)), [14], none, []⟩, ⟨none, 16, (.call 226 [(.s 15)]), [15], none, []⟩, ⟨none, 11, (.val (.mv (.s 16))), [16], none, []⟩, ⟨none, 17, (.val (.ext (.s 11) 0)), [], none, []⟩, ⟨none, 18, (.val (.ext (.s 11) 1)), [], none, []⟩, ⟨none, 19, (.val (.ext (.s 11) 2)), [11], none, []⟩, ⟨none, 3, (.val (.mv (.s 17))), [17], none, []⟩, ⟨none, 4, (.val (.mv (.s 18))), [18], none, []⟩, ⟨none, 5, (.val (.mv (.s 19))), [19], none, []⟩]) (.seq (.region [⟨none, 20, (.val (.mv (.s 0))), [], none, []⟩, ⟨none, 21, (.val (.mv (.s 0))), [], none, []⟩, ⟨none, 22, (.val (.mv (.s 0))), [0], none, []⟩, ⟨none, 23, (.val (.nc (.s 22))), [22], none, []⟩, ⟨none, 24, (.val (.fa (.s 23) 0)), [23], none, []⟩, ⟨none, 25, (.val (.ld (.s 24) none)), [24], none, []⟩, ⟨none, 26, (.val (.mv (.s 4))), [4], none, []⟩, ⟨none, 27, (.val (.ss (.s 25) (some (.s 26)) none)), [25, 26], none, []⟩, ⟨none, 28, (.val (.mv (.s 5))), [5], none, []⟩, ⟨none, 29, (.val (.nc (.s 20))), [20], none, []⟩, ⟨none, 30, (.val (.fa (.s 29) 0)), [29], none, []⟩, ⟨none, 0, (.store 1 (.s 30) (.s 27)), [27, 30], none, []⟩, ⟨none, 31, (.val (.nc (.s 21))), [21], none, []⟩, ⟨none, 32, (.val (.fa (.s 31) 1)), [31], none, []⟩, ⟨none, 0, (.store 1 (.s 32) (.s 28)), [28, 32], none, []⟩]) (.seq (.region [⟨none, 33, (.val (.mv (.s 3))), [3], none, []⟩, ⟨none, 2, (.val (.mv (.s 33))), [33], none, []⟩]) .ret)))))
theorem ok193 : FnOk Try.prog 193 cc193 [(.t 2)] 1 34 := ⟨⟨_, Try.func193, by kernel_rfl, by kernel_rfl, by kernel_rfl⟩, by decide, by decide⟩

/- (watershed/watershedref02.Reader).Num -/
def cc194 : CC := (.seq (.region [⟨none, 2, (.val (.mv (.c (.int .u64 0)))), [2], none, []⟩]) (.seq (.seq (.region [⟨none, 6, (.val (.mv (.s 0))), [], none, []⟩, ⟨none, 7, (.val (.nc (.s 6))), [6], none, []⟩, ⟨none, 8, (.val (.fa (.s 7) 2)), [7], none, []⟩, ⟨none, 9, (.val (.ld (.s 8) none)), [8], none, []⟩, ⟨none, 10, (.val (.bin .neq (.s 9) (.c (.int .i64 0)))), [9], none, []⟩]) (.cond (.s 10) (.seq (.region [⟨none, 2, (.val (.mv (.c (.int .u64 0)))), [0, 10], none, []⟩]) .ret) .skip)) (.seq (.region [⟨none, 3, (.val (.mv (.c (.int .u64 0)))), [10], none, []⟩]) (.seq (.seq (.region [⟨none, 4, (.val (.mv (.c (.int .i64 0)))), [], none, []⟩]) (.block 0 (.loop (.seq (.seq (.region [⟨none, 11, (.val (.mv (.s 4))), [], none, []⟩, ⟨none, 12, (.val (.bin .lss (.s 11) (.c (.int .i64 10)))), [11], none, []⟩]) (.cond (.s 12) .skip (.exit 0))) (.seq (.block 1 (.seq (.seq (.region [⟨none, 15, (.val (.mv (.s 0))), [12], none, []⟩, ⟨none, 16, (.val (.nc (.s 15))), [15], none, []⟩, ⟨none, 17, (.val (.fa (.s 16) 1)), [16], none, []⟩, ⟨none, 18, (.val (.ld (.s 17) none)), [17], none, []⟩, ⟨none, 19, (.val (.mv (.s 4))), [], none, []⟩, ⟨none, 20, (.val (.bin .add (.s 18) (.s 19))), [18, 19], none, []⟩, ⟨none, 21, (.val (.mv (.s 0))), [], none, []⟩, ⟨none, 22, (.val (.nc (.s 21))), [21], none, []⟩, ⟨none, 23, (.val (.fa (.s 22) 0)), [22], none, []⟩, ⟨none, 24, (.val (.ld (.s 23) none)), [23], none, []⟩, ⟨none, 25, (.val (.lns (.s 24))), [24], none, []⟩, ⟨none, 26, (.val (.bin .geq (.s 20) (.s 25))), [20, 25], none, []⟩]) (.cond (.s 26) (.seq (.region [⟨none, 27, (.val (.mv (.s 0))), [0, 3, 4, 26, 44, 45, 48, 49, 50, 51, 52, 53], none, []⟩, ⟨none, 28, (.val (.nc (.s 27))), [27], none, []⟩, ⟨none, 29, (.val (.fa (.s 28) 2)), [28], none, []⟩, ⟨none, 0, (.store 1 (.s 29) (.c (.int .i64 11))), [29], none, []⟩]) (.seq (.region [⟨none, 2, (.val (.mv (.c (.int .u64 0)))), [], none, []⟩]) .ret)) .skip)) (.seq (.region [⟨none, 30, (.val (.mv (.s 0))), [26], none, []⟩, ⟨none, 31, (.val (.nc (.s 30))), [30], none, []⟩, ⟨none, 32, (.val (.fa (.s 31) 0)), [31], none, []⟩, ⟨none, 33, (.val (.ld (.s 32) none)), [32], none, []⟩, ⟨none, 34, (.val (.mv (.s 0))), [], none, []⟩, ⟨none, 35, (.val (.nc (.s 34))), [34], none, []⟩, ⟨none, 36, (.val (.fa (.s 35) 1)), [35], none, []⟩, ⟨none, 37, (.val (.ld (.s 36) none)), [36], none, []⟩, ⟨none, 38, (.val (.mv (.s 4))), [], none, []⟩, ⟨none, 39, (.val (.bin .add (.s 37) (.s 38))), [37, 38], none, []⟩, ⟨none, 40, (.val (.is (.s 33) (.s 39))), [33, 39], none, []⟩, ⟨none, 5, (.val (.mv (.s 40))), [40], none, []⟩]) (.seq (.seq (.region [⟨none, 41, (.val (.mv (.s 4))), [], none, []⟩, ⟨none, 42, (.val (.bin .eql (.s 41) (.c (.int .i64 9)))), [41], none, []⟩, ⟨none, 43, (.val (.mv (.s 42))), [42], none, []⟩, ⟨(some (43, true)), 44, (.val (.mv (.s 5))), [], none, []⟩, ⟨(some (43, true)), 45, (.val (.bin .gtr (.s 44) (.c (.int .u8 1)))), [], none, []⟩, ⟨none, 46, (.val (.pick (.s 43) (.s 45) (.c (.bool false)))), [43], none, []⟩, ⟨none, 47, (.val (.mv (.s 46))), [46], none, []⟩, ⟨(some (47, false)), 48, (.val (.mv (.s 4))), [], none, []⟩, ⟨(some (47, false)), 49, (.val (.bin .gtr (.s 48) (.c (.int .i64 0)))), [], none, []⟩, ⟨(some (47, false)), 50, (.val (.mv (.s 49))), [], none, []⟩, ⟨(some (50, true)), 51, (.val (.mv (.s 5))), [], none, []⟩, ⟨(some (50, true)), 52, (.val (.bin .eql (.s 51) (.c (.int .u8 0)))), [], none, []⟩, ⟨(some (47, false)), 53, (.val (.pick (.s 50) (.s 52) (.c (.bool false)))), [], none, []⟩, ⟨none, 54, (.val (.pick (.s 47) (.c (.bool true)) (.s 53))), [47], none, []⟩]) (.cond (.s 54) (.seq (.region [⟨none, 55, (.val (.mv (.s 0))), [0, 3, 4, 5, 44, 45, 48, 49, 50, 51, 52, 53, 54], none, []⟩, ⟨none, 56, (.val (.nc (.s 55))), [55], none, []⟩, ⟨none, 57, (.val (.fa (.s 56) 2)), [56], none, []⟩, ⟨none, 0, (.store 1 (.s 57) (.c (.int .i64 6))), [57], none, []⟩]) (.seq (.region [⟨none, 2, (.val (.mv (.c (.int .u64 0)))), [], none, []⟩]) .ret)) .skip)) (.seq (.region [⟨none, 58, (.val (.mv (.s 3))), [3, 54], none, []⟩, ⟨none, 59, (.val (.mv (.s 5))), [], none, []⟩, ⟨none, 60, (.val (.bin .rem (.s 59) (.c (.int .u8 128)))), [59], none, []⟩, ⟨none, 61, (.val (.cvi .u64 (.s 60))), [60], none, []⟩, ⟨none, 62, (.val (.mv (.s 4))), [], none, []⟩, ⟨none, 63, (.val (.bin .mul (.c (.int .i64 7)) (.s 62))), [62], none, []⟩, ⟨none, 64, (.val (.bin .shl (.s 61) (.s 63))), [61, 63], none, []⟩, ⟨none, 65, (.val (.bin .or (.s 58) (.s 64))), [58, 64], none, []⟩, ⟨none, 3, (.val (.mv (.s 65))), [65], none, []⟩]) (.seq (.region [⟨none, 66, (.val (.mv (.s 5))), [5], none, []⟩, ⟨none, 67, (.val (.bin .lss (.s 66) (.c (.int .u8 128)))), [66], none, []⟩]) (.cond (.s 67) (.seq (.region [⟨none, 68, (.val (.mv (.s 0))), [44, 45, 48, 49, 50, 51, 52, 53, 67], none, []⟩, ⟨none, 69, (.val (.mv (.s 0))), [0], none, []⟩, ⟨none, 70, (.val (.nc (.s 69))), [69], none, []⟩, ⟨none, 71, (.val (.fa (.s 70) 1)), [70], none, []⟩, ⟨none, 72, (.val (.ld (.s 71) none)), [71], none, []⟩, ⟨none, 73, (.val (.mv (.s 4))), [4], none, []⟩, ⟨none, 74, (.val (.bin .add (.s 72) (.s 73))), [72, 73], none, []⟩, ⟨none, 75, (.val (.bin .add (.s 74) (.c (.int .i64 1)))), [74], none, []⟩, ⟨none, 76, (.val (.nc (.s 68))), [68], none, []⟩, ⟨none, 77, (.val (.fa (.s 76) 1)), [76], none, []⟩, ⟨none, 0, (.store 1 (.s 77) (.s 75)), [75, 77], none, []⟩]) (.seq (.region [⟨none, 78, (.val (.mv (.s 3))), [3], none, []⟩, ⟨none, 2, (.val (.mv (.s 78))), [78], none, []⟩]) .ret)) .skip))))))) (.region [⟨none, 13, (.val (.mv (.s 4))), [4, 67], none, []⟩, ⟨none, 14, (.val (.bin .add (.s 13) (.c (.int .i64 1)))), [13], none, []⟩, ⟨none, 4, (.val (.mv (.s 14))), [14], none, []⟩])))))) (.seq (.region [⟨none, 2, (.val (.mv (.c (.int .u64 0)))), [0, 3, 4, 12, 44, 45, 48, 49, 50, 51, 52, 53], none, []⟩]) .ret)))))
theorem ok194 : FnOk Try.prog 194 cc194 [(.t 2)] 1 79 := ⟨⟨_, Try.func194, by kernel_rfl, by kernel_rfl, by kernel_rfl⟩, by decide, by decide⟩

/- watershed/code.New -/
def cc36 : CC := (.seq (.region [⟨none, 2, (.val (.mv (.c (.pointer none)))), [2], none, []⟩]) (.seq (.region [⟨none, 3, (.val (.mv (.s 0))), [0], none, []⟩, ⟨none, 4, (.val (.bld [(.string ⟨#[]⟩), (.int .i64 0)] [(0, (1, (.s 3)))])), [3], none, []⟩, ⟨none, 5, (.box 4), [4], none, []⟩, ⟨none, 2, (.val (.mv (.s 5))), [5], none, []⟩]) .ret))
theorem ok36 : FnOk Try.prog 36 cc36 [(.t 2)] 1 6 := ⟨⟨_, Try.func36, by kernel_rfl, by kernel_rfl, by kernel_rfl⟩, by decide, by decide⟩

/- (watershed/code.Reader).Err -/
def cc40 : CC := (.seq (.region [⟨none, 2, (.val (.mv (.c (.int .i64 0)))), [2], none, []⟩]) (.seq (.region [⟨none, 3, (.val (.mv (.s 0))), [0], none, []⟩, ⟨none, 4, (.val (.nc (.s 3))), [3], none, []⟩, ⟨none, 5, (.val (.fa (.s 4) 1)), [4], none, []⟩, ⟨none, 6, (.val (.ld (.s 5) none)), [5], none, []⟩, ⟨none, 2, (.val (.mv (.s 6))), [6], none, []⟩]) .ret))
theorem ok40 : FnOk Try.prog 40 cc40 [(.t 2)] 1 7 := ⟨⟨_, Try.func40, by kernel_rfl, by kernel_rfl, by kernel_rfl⟩, by decide, by decide⟩

/- (watershed/code.Reader).Left -/
def cc41 : CC := (.seq (.region [⟨none, 2, (.val (.mv (.c (.int .i64 0)))), [2], none, []⟩]) (.seq (.region [⟨none, 3, (.val (.mv (.s 0))), [0], none, []⟩, ⟨none, 4, (.val (.nc (.s 3))), [3], none, []⟩, ⟨none, 5, (.val (.fa (.s 4) 0)), [4], none, []⟩, ⟨none, 6, (.val (.ld (.s 5) none)), [5], none, []⟩, ⟨none, 7, (.val (.lns (.s 6))), [6], none, []⟩, ⟨none, 2, (.val (.mv (.s 7))), [7], none, []⟩]) .ret))
theorem ok41 : FnOk Try.prog 41 cc41 [(.t 2)] 1 8 := ⟨⟨_, Try.func41, by kernel_rfl, by kernel_rfl, by kernel_rfl⟩, by decide, by decide⟩

/- (watershed/watershedref02.Reader).Left -/
def cc42 : CC := (.seq (.region [⟨none, 2, (.val (.mv (.c (.int .i64 0)))), [2], none, []⟩]) (.seq (.region [⟨none, 3, (.val (.mv (.s 0))), [], none, []⟩, ⟨none, 4, (.val (.nc (.s 3))), [3], none, []⟩, ⟨none, 5, (.val (.fa (.s 4) 0)), [4], none, []⟩, ⟨none, 6, (.val (.ld (.s 5) none)), [5], none, []⟩, ⟨none, 7, (.val (.lns (.s 6))), [6], none, []⟩, ⟨none, 8, (.val (.mv (.s 0))), [0], none, []⟩, ⟨none, 9, (.val (.nc (.s 8))), [8], none, []⟩, ⟨none, 10, (.val (.fa (.s 9) 1)), [9], none, []⟩, ⟨none, 11, (.val (.ld (.s 10) none)), [10], none, []⟩, ⟨none, 12, (.val (.bin .sub (.s 7) (.s 11))), [7, 11], none, []⟩, ⟨none, 2, (.val (.mv (.s 12))), [12], none, []⟩]) .ret))
theorem ok42 : FnOk Try.prog 42 cc42 [(.t 2)] 1 13 := ⟨⟨_, Try.func42, by kernel_rfl, by kernel_rfl, by kernel_rfl⟩, by decide, by decide⟩

/- (watershed/watershedref02.Reader).Fail -/
def cc125 : CC := (.seq (.region [⟨none, 4, (.val (.mv (.s 0))), [], none, []⟩, ⟨none, 5, (.val (.nc (.s 4))), [4], none, []⟩, ⟨none, 6, (.val (.fa (.s 5) 2)), [5], none, []⟩, ⟨none, 7, (.val (.ld (.s 6) none)), [6], none, []⟩, ⟨none, 8, (.val (.bin .eql (.s 7) (.c (.int .i64 0)))), [7], none, []⟩]) (.cond (.s 8) (.region [⟨none, 9, (.val (.mv (.s 0))), [0, 8], none, []⟩, ⟨none, 10, (.val (.mv (.s 1))), [1], none, []⟩, ⟨none, 11, (.val (.nc (.s 9))), [9], none, []⟩, ⟨none, 12, (.val (.fa (.s 11) 2)), [11], none, []⟩, ⟨none, 0, (.store 1 (.s 12) (.s 10)), [10, 12], none, []⟩]) .skip))
theorem ok125 : FnOk Try.prog 125 cc125 [] 2 13 := ⟨⟨_, Try.func125, by kernel_rfl, by kernel_rfl, by kernel_rfl⟩, by decide, by decide⟩


def rfA (S : List UInt8) (p : Nat) (e : Int) : AV := .agg [.v (.string ⟨S.toArray⟩), .v (.int .i64 p), .v (.int .i64 e)]
theorem rdN_len : ∀ (l : List UInt8) (i v : Nat), (rdN l i v).2.1 ≤ i + l.length
  | [], i, v => by simp [rdN]
  | b :: l, i, v => by
    rw [rdN]
    split
    · simp
    · split
      · simp
      · have := rdN_len l (i + 1) (v + b.toNat % 128 * 128 ^ i); simp; omega
theorem rdN_lt : ∀ (l : List UInt8) (i v : Nat), i ≤ 9 → v < 128 ^ i → (rdN l i v).1 < 18446744073709551616
  | [], i, v, h1, h2 => by simp [rdN]
  | b :: l, i, v, h1, h2 => by
    rw [rdN]
    split
    · simp
    · rename_i hn
      split
      · simp only
        exact (acc226 h1 (fun h => by omega) h2).2
      · refine rdN_lt l (i + 1) _ ?_ ?_
        · have := b.toNat_lt; omega
        · rw [Nat.pow_succ]
          have : b.toNat % 128 * 128 ^ i ≤ 127 * 128 ^ i := Nat.mul_le_mul_right _ (by omega)
          omega
/-- A reader's number: what it is; where the reader stands behind it; what is wrong. -/
def numM (S : List UInt8) (p : Nat) (e : Int) : Nat × Nat × Int := if e ≠ 0 then (0, p, e) else ((rdN (S.drop p) 0 0).1, p + (rdN (S.drop p) 0 0).2.1, (rdN (S.drop p) 0 0).2.2)
theorem numM_lt (S : List UInt8) (p : Nat) (e : Int) : (numM S p e).1 < 18446744073709551616 := by
  unfold numM; split
  · simp
  · exact rdN_lt _ 0 0 (by omega) (by simp)
theorem numM_le {S : List UInt8} {p : Nat} {e : Int} (h : p ≤ S.length) : (numM S p e).2.1 ≤ S.length := by
  unfold numM; split
  · exact h
  · have := rdN_len (S.drop p) 0 0; simp at this ⊢; omega
theorem ext_bytes (l : List UInt8) (n : Nat) : (ByteArray.mk l.toArray).extract n l.length = ⟨(l.drop n).toArray⟩ := by
  apply ByteArray.ext
  apply Array.ext'
  simp [ByteArray.data_extract, List.extract]
  exact List.take_of_length_le (by simp)
theorem c193 (S : List UInt8) (p : Nat) (e : Int) (hS : S.length ≤ 1000000) (hp : p ≤ S.length) {Q : AV → Al → Prop} (h : Q (u64A (numM S p e).1) [(0, rdA (S.drop (numM S p e).2.1) (numM S p e).2.2)]) : ACalls Try.prog 193 [(0, rdA (S.drop p) e)] [.ref ⟨0, [], 0⟩] Q := by
  refine ok193.N hmix rfl ?_
  intro I
  by_cases he : e = 0
  · subst he
    simp only [cc193, OI0, OI1, OI2, OI3, OI4, OI5, OI6, OI7, OI8, OI9, OI10, OI11, OI12, reduceIte, reduceCtorEq, Nat.reduceAdd, Nat.reduceEqDiff, Nat.reduceBEq, Nat.reduceLT, Nat.reduceLeDiff, Nat.reduceMul, Nat.reduceSub, Int.reduceLE, Int.reduceLT, Int.reduceEq, Int.reduceBEq, Int.reduceBNe, Int.reduceToNat, Int.reduceNeg, Nat.reduceBNe, forall_eq_or_imp, rdA]
    simp only [numM, ne_eq, not_true_eq_false, if_false] at h
    generalize hr : rdN (S.drop p) 0 0 = r at h
    obtain ⟨v, k, e2⟩ := r
    have hk := rdN_len (S.drop p) 0 0
    rw [hr] at hk
    refine c226 (S.drop p) (by simp; omega) ?_
    rw [hr]
    have hsz : (ByteArray.mk (S.drop p).toArray).size = (S.drop p).length := rfl
    have e1 : okBounds (S.drop p).length (some (k : Int)) none none = some (k, (S.drop p).length, (S.drop p).length) := by
      simp [okBounds]; simp at hk; omega
    simp only [OI0, OI1, OI2, OI3, OI4, OI5, OI6, OI7, OI8, OI9, OI10, OI11, OI12, reduceIte, reduceCtorEq, Nat.reduceAdd, Nat.reduceEqDiff, Nat.reduceBEq, Nat.reduceLT, Nat.reduceLeDiff, Nat.reduceMul, Nat.reduceSub, Int.reduceLE, Int.reduceLT, Int.reduceEq, Int.reduceBEq, Int.reduceBNe, Int.reduceToNat, Int.reduceNeg, Nat.reduceBNe, forall_eq_or_imp, u64A, i64A, hsz, e1, ext_bytes, List.drop_drop]
    exact ⟨⟨by omega, by simp at hk ⊢; omega⟩, h⟩
  · have hb : (e != 0) = true := by simpa using he
    simp only [cc193, OI0, OI1, OI2, OI3, OI4, OI5, OI6, OI7, OI8, OI9, OI10, OI11, OI12, reduceIte, reduceCtorEq, Nat.reduceAdd, Nat.reduceEqDiff, Nat.reduceBEq, Nat.reduceLT, Nat.reduceLeDiff, Nat.reduceMul, Nat.reduceSub, Int.reduceLE, Int.reduceLT, Int.reduceEq, Int.reduceBEq, Int.reduceBNe, Int.reduceToNat, Int.reduceNeg, Nat.reduceBNe, forall_eq_or_imp, rdA, hb]
    simp only [numM, ne_eq, he, not_false_eq_true, if_true] at h
    exact h
theorem c36 (s : List UInt8) {Q : AV → Al → Prop} (h : Q (.obj (rdA s 0)) []) : ACalls Try.prog 36 [] [strV s] Q := by
  refine ok36.N hmix rfl ?_
  intro I
  simp only [cc36, OI0, OI1, OI2, OI3, OI4, OI5, OI6, OI7, OI8, OI9, OI10, OI11, OI12, reduceIte, reduceCtorEq, Nat.reduceAdd, Nat.reduceEqDiff, Nat.reduceBEq, Nat.reduceLT, Nat.reduceLeDiff, Nat.reduceMul, Nat.reduceSub, Int.reduceLE, Int.reduceLT, Int.reduceEq, Int.reduceBEq, Int.reduceBNe, Int.reduceToNat, Int.reduceNeg, Nat.reduceBNe, forall_eq_or_imp, strV]
  exact h
theorem c40 (s : List UInt8) (k : Int) {Q : AV → Al → Prop} (h : Q (i64A k) []) : ACalls Try.prog 40 [] [.fptr (rdA s k) 0] Q := by
  refine ok40.N hmix rfl ?_
  intro I
  simp only [cc40, OI0, OI1, OI2, OI3, OI4, OI5, OI6, OI7, OI8, OI9, OI10, OI11, OI12, reduceIte, reduceCtorEq, Nat.reduceAdd, Nat.reduceEqDiff, Nat.reduceBEq, Nat.reduceLT, Nat.reduceLeDiff, Nat.reduceMul, Nat.reduceSub, Int.reduceLE, Int.reduceLT, Int.reduceEq, Int.reduceBEq, Int.reduceBNe, Int.reduceToNat, Int.reduceNeg, Nat.reduceBNe, forall_eq_or_imp, rdA]
  exact h
theorem c41 (s : List UInt8) (k : Int) {Q : AV → Al → Prop} (h : Q (i64A s.length) []) : ACalls Try.prog 41 [] [.fptr (rdA s k) 0] Q := by
  refine ok41.N hmix rfl ?_
  intro I
  simp only [cc41, OI0, OI1, OI2, OI3, OI4, OI5, OI6, OI7, OI8, OI9, OI10, OI11, OI12, reduceIte, reduceCtorEq, Nat.reduceAdd, Nat.reduceEqDiff, Nat.reduceBEq, Nat.reduceLT, Nat.reduceLeDiff, Nat.reduceMul, Nat.reduceSub, Int.reduceLE, Int.reduceLT, Int.reduceEq, Int.reduceBEq, Int.reduceBNe, Int.reduceToNat, Int.reduceNeg, Nat.reduceBNe, forall_eq_or_imp, rdA]
  exact h
theorem c42 (S : List UInt8) (p : Nat) (k : Int) (hS : S.length ≤ 1000000) (hp : p ≤ S.length) {Q : AV → Al → Prop} (h : Q (i64A (S.drop p).length) []) : ACalls Try.prog 42 [] [.fptr (rfA S p k) 0] Q := by
  refine ok42.N hmix rfl ?_
  intro I
  have hsz : (ByteArray.mk S.toArray).size = S.length := rfl
  have hw : IntKind.i64.wrap ((S.length : Int) - p) = ((S.drop p).length : Int) := by rw [wrap_i64 (by omega) (by omega)]; simp; omega
  simp only [cc42, OI0, OI1, OI2, OI3, OI4, OI5, OI6, OI7, OI8, OI9, OI10, OI11, OI12, reduceIte, reduceCtorEq, Nat.reduceAdd, Nat.reduceEqDiff, Nat.reduceBEq, Nat.reduceLT, Nat.reduceLeDiff, Nat.reduceMul, Nat.reduceSub, Int.reduceLE, Int.reduceLT, Int.reduceEq, Int.reduceBEq, Int.reduceBNe, Int.reduceToNat, Int.reduceNeg, Nat.reduceBNe, forall_eq_or_imp, rfA, hsz, hw]
  exact h
theorem c125 (S : List UInt8) (p : Nat) (e x : Int) {Q : AV → Al → Prop} (h : Q (.tup []) [(0, rfA S p (if e = 0 then x else e))]) : ACalls Try.prog 125 [(0, rfA S p e)] [.ref ⟨0, [], 0⟩, i64A x] Q := by
  refine ok125.N hmix rfl ?_
  intro I
  simp only [cc125, OI0, OI1, OI2, OI3, OI4, OI5, OI6, OI7, OI8, OI9, OI10, OI11, OI12, reduceIte, reduceCtorEq, Nat.reduceAdd, Nat.reduceEqDiff, Nat.reduceBEq, Nat.reduceLT, Nat.reduceLeDiff, Nat.reduceMul, Nat.reduceSub, Int.reduceLE, Int.reduceLT, Int.reduceEq, Int.reduceBEq, Int.reduceBNe, Int.reduceToNat, Int.reduceNeg, Nat.reduceBNe, forall_eq_or_imp, i64A, rfA]
  by_cases he : e = 0
  · rw [if_pos (by simpa using he)]; rw [if_pos he] at h; exact h
  · rw [if_neg (by simpa using he)]; rw [if_neg he] at h; exact h
def st194 (I : World → Fp → Value → Fp → Prop) (S : List UInt8) (p : Nat) : Nat × Nat → St
  | (i, v) => ⟨[(0, .ref ⟨0, [], 0⟩), (3, .v (.int .u64 v)), (4, .v (.int .i64 i))], [(0, rfA S p 0), (9999, .ext I)], []⟩
theorem remb (b : UInt8) : ((b.toNat : Int)).tmod 128 = ((b.toNat % 128 : Nat) : Int) := by rw [Int.tmod_eq_emod_of_nonneg (by omega)]; rfl
theorem c194 (S : List UInt8) (p : Nat) (e : Int) (hS : S.length ≤ 1000000) (hp : p ≤ S.length) {Q : AV → Al → Prop} (h : Q (u64A (numM S p e).1) [(0, rfA S (numM S p e).2.1 (numM S p e).2.2)]) : ACalls Try.prog 194 [(0, rfA S p e)] [.ref ⟨0, [], 0⟩] Q := by
  refine ok194.N hmix rfl ?_
  intro I
  by_cases he : e = 0
  · subst he
    simp only [cc194, OI0, OI1, OI2, OI3, OI4, OI5, OI6, OI7, OI8, OI9, OI10, OI11, OI12, reduceIte, reduceCtorEq, Nat.reduceAdd, Nat.reduceEqDiff, Nat.reduceBEq, Nat.reduceLT, Nat.reduceLeDiff, Nat.reduceMul, Nat.reduceSub, Int.reduceLE, Int.reduceLT, Int.reduceEq, Int.reduceBEq, Int.reduceBNe, Int.reduceToNat, Int.reduceNeg, Nat.reduceBNe, forall_eq_or_imp, rfA]
    simp only [numM, ne_eq, not_true_eq_false, if_false] at h
    refine W_loop (st194 I S p) (fun a => rdN (S.drop (p + a.1)) a.1 a.2 = rdN (S.drop p) 0 0 ∧ a.1 ≤ 9 ∧ p + a.1 ≤ S.length ∧ a.2 < 128 ^ a.1) (fun a => S.length - a.1) (fun _ _ => rfl) ⟨(0, 0), ⟨rfl, by simp, hp, by simp⟩, ?_⟩ ?_
    · simp only [OI0, OI1, OI2, OI3, OI4, OI5, OI6, OI7, OI8, OI9, OI10, OI11, OI12, reduceIte, reduceCtorEq, Nat.reduceAdd, Nat.reduceEqDiff, Nat.reduceBEq, Nat.reduceLT, Nat.reduceLeDiff, Nat.reduceMul, Nat.reduceSub, Int.reduceLE, Int.reduceLT, Int.reduceEq, Int.reduceBEq, Int.reduceBNe, Int.reduceToNat, Int.reduceNeg, Nat.reduceBNe, forall_eq_or_imp, st194, rfA]
    rintro ⟨i, v⟩ ⟨h1, h2, h3, h4⟩
    simp only at h1 h2 h3 h4
    refine W_of_N ok194.small hmix ?_
    have hsz : (ByteArray.mk S.toArray).size = S.length := rfl
    have wi : IntKind.i64.wrap ((p : Int) + i) = ((p + i : Nat) : Int) := by rw [wrap_i64 (by omega) (by omega)]; omega
    have i10 : (i : Int) < 10 := by omega
    rcases Nat.lt_or_ge (p + i) S.length with hi | hi
    · have hd := List.drop_eq_getElem_cons hi
      have hget : ((ByteArray.mk S.toArray)[p + i]?.getD 0) = S[p + i] := by
        have : (ByteArray.mk S.toArray)[p + i]? = some S[p + i] := by
          rw [getElem?_pos (ByteArray.mk S.toArray) (p + i) hi]
          rfl
        rw [this]; rfl
      generalize hb : S[p + i] = b at hd hget
      have f1 : ¬ ((S.length : Int) ≤ ((p + i : Nat) : Int)) := by omega
      have f2 : ((p + i : Nat) : Int) < (S.length : Int) := by omega
      have f3 : (0 : Int) ≤ ((p + i : Nat) : Int) := by omega
      have hb256 : b.toNat < 256 := b.toNat_lt
      rw [hd, rdN] at h1
      have w7 : IntKind.i64.wrap (7 * (i : Int)) = ((7 * i : Nat) : Int) := by rw [wrap_i64 (by omega) (by omega)]; omega
      have w1 : IntKind.i64.wrap ((i : Int) + 1) = ((i + 1 : Nat) : Int) := by rw [wrap_i64 (by omega) (by omega)]; omega
      have w2 : IntKind.i64.wrap (((p + i : Nat) : Int) + 1) = ((p + (i + 1) : Nat) : Int) := by rw [wrap_i64 (by omega) (by omega)]; omega
      have n7 : ¬ (((7 * i : Nat) : Int) < 0) := by omega
      have wr : IntKind.u8.wrap ((b.toNat % 128 : Nat) : Int) = ((b.toNat % 128 : Nat) : Int) := by rw [wrap_u8]; omega
      by_cases c9 : i = 9
      · have g9 : ((i : Int) == 9) = true := by simp; omega
        have gp : (0 : Int) < i := by omega
        by_cases cb : 1 < b.toNat
        · have gb : (1 : Int) < b.toNat := by omega
          simp only [OI0, OI1, OI2, OI3, OI4, OI5, OI6, OI7, OI8, OI9, OI10, OI11, OI12, reduceIte, reduceCtorEq, Nat.reduceAdd, Nat.reduceEqDiff, Nat.reduceBEq, Nat.reduceLT, Nat.reduceLeDiff, Nat.reduceMul, Nat.reduceSub, Int.reduceLE, Int.reduceLT, Int.reduceEq, Int.reduceBEq, Int.reduceBNe, Int.reduceToNat, Int.reduceNeg, Nat.reduceBNe, forall_eq_or_imp, st194, rfA, hsz, f1, f2, f3, hget, g9, gp, gb, wi, i10]
          rw [if_pos (by omega)] at h1
          rw [← h1] at h; exact h
        · have gb : ¬ (1 : Int) < b.toNat := by omega
          by_cases c0 : b.toNat = 0
          · have g0 : ((b.toNat : Int) == 0) = true := by simp; omega
            simp only [OI0, OI1, OI2, OI3, OI4, OI5, OI6, OI7, OI8, OI9, OI10, OI11, OI12, reduceIte, reduceCtorEq, Nat.reduceAdd, Nat.reduceEqDiff, Nat.reduceBEq, Nat.reduceLT, Nat.reduceLeDiff, Nat.reduceMul, Nat.reduceSub, Int.reduceLE, Int.reduceLT, Int.reduceEq, Int.reduceBEq, Int.reduceBNe, Int.reduceToNat, Int.reduceNeg, Nat.reduceBNe, forall_eq_or_imp, st194, rfA, hsz, f1, f2, f3, hget, g9, gp, gb, g0, wi, i10]
            rw [if_pos (by omega)] at h1
            rw [← h1] at h; exact h
          · have g0 : ((b.toNat : Int) == 0) = false := by simp; omega
            have gl : (b.toNat : Int) < 128 := by omega
            have a1 := (acc226 (b := b) h2 (fun _ => by omega) h4).1
            rw [low7] at a1
            simp only [OI0, OI1, OI2, OI3, OI4, OI5, OI6, OI7, OI8, OI9, OI10, OI11, OI12, reduceIte, reduceCtorEq, Nat.reduceAdd, Nat.reduceEqDiff, Nat.reduceBEq, Nat.reduceLT, Nat.reduceLeDiff, Nat.reduceMul, Nat.reduceSub, Int.reduceLE, Int.reduceLT, Int.reduceEq, Int.reduceBEq, Int.reduceBNe, Int.reduceToNat, Int.reduceNeg, Nat.reduceBNe, forall_eq_or_imp, st194, rfA, hsz, f1, f2, f3, hget, g9, gp, gb, g0, gl, w7, w1, w2, n7, a1, wi, i10, remb, wr]
            rw [if_neg (by omega), if_pos (by omega)] at h1
            rw [← h1] at h; exact h
      · have g9 : ((i : Int) == 9) = false := by simp; omega
        have keep : ∀ gl : ¬ b.toNat < 128, ¬ ((i = 9 ∧ 1 < b.toNat) ∨ (0 < i ∧ b.toNat = 0)) → rdN (S.drop (p + (i + 1))) (i + 1) (v + b.toNat % 128 * 128 ^ i) = rdN (S.drop p) 0 0 ∧ i + 1 ≤ 9 ∧ p + (i + 1) ≤ S.length ∧ v + b.toNat % 128 * 128 ^ i < 128 ^ (i + 1) := by
          intro gl hn
          rw [if_neg hn, if_neg gl] at h1
          refine ⟨h1, by omega, by omega, ?_⟩
          rw [Nat.pow_succ]
          have : b.toNat % 128 * 128 ^ i ≤ 127 * 128 ^ i := Nat.mul_le_mul_right _ (by omega)
          omega
        have a1 := (acc226 (b := b) h2 (fun h => absurd h c9) h4).1
        rw [low7] at a1
        by_cases cp : 0 < i
        · have gp : (0 : Int) < i := by omega
          by_cases c0 : b.toNat = 0
          · have g0 : ((b.toNat : Int) == 0) = true := by simp; omega
            simp only [OI0, OI1, OI2, OI3, OI4, OI5, OI6, OI7, OI8, OI9, OI10, OI11, OI12, reduceIte, reduceCtorEq, Nat.reduceAdd, Nat.reduceEqDiff, Nat.reduceBEq, Nat.reduceLT, Nat.reduceLeDiff, Nat.reduceMul, Nat.reduceSub, Int.reduceLE, Int.reduceLT, Int.reduceEq, Int.reduceBEq, Int.reduceBNe, Int.reduceToNat, Int.reduceNeg, Nat.reduceBNe, forall_eq_or_imp, st194, rfA, hsz, f1, f2, f3, hget, g9, gp, g0, wi, i10]
            rw [if_pos (by omega)] at h1
            rw [← h1] at h; exact h
          · have g0 : ((b.toNat : Int) == 0) = false := by simp; omega
            by_cases cl : b.toNat < 128
            · have gl : (b.toNat : Int) < 128 := by omega
              simp only [OI0, OI1, OI2, OI3, OI4, OI5, OI6, OI7, OI8, OI9, OI10, OI11, OI12, reduceIte, reduceCtorEq, Nat.reduceAdd, Nat.reduceEqDiff, Nat.reduceBEq, Nat.reduceLT, Nat.reduceLeDiff, Nat.reduceMul, Nat.reduceSub, Int.reduceLE, Int.reduceLT, Int.reduceEq, Int.reduceBEq, Int.reduceBNe, Int.reduceToNat, Int.reduceNeg, Nat.reduceBNe, forall_eq_or_imp, st194, rfA, hsz, f1, f2, f3, hget, g9, gp, g0, gl, w7, w1, w2, n7, a1, wi, i10, remb, wr]
              rw [if_neg (by omega), if_pos cl] at h1
              rw [← h1] at h; exact h
            · have gl : ¬ (b.toNat : Int) < 128 := by omega
              simp only [OI0, OI1, OI2, OI3, OI4, OI5, OI6, OI7, OI8, OI9, OI10, OI11, OI12, reduceIte, reduceCtorEq, Nat.reduceAdd, Nat.reduceEqDiff, Nat.reduceBEq, Nat.reduceLT, Nat.reduceLeDiff, Nat.reduceMul, Nat.reduceSub, Int.reduceLE, Int.reduceLT, Int.reduceEq, Int.reduceBEq, Int.reduceBNe, Int.reduceToNat, Int.reduceNeg, Nat.reduceBNe, forall_eq_or_imp, st194, rfA, hsz, f1, f2, f3, hget, g9, gp, g0, gl, w7, w1, w2, n7, a1, wi, i10, remb, wr]
              refine ⟨(i + 1, v + b.toNat % 128 * 128 ^ i), ⟨keep cl (by omega), by simp only; omega⟩, ?_⟩
              simp only [OI0, OI1, OI2, OI3, OI4, OI5, OI6, OI7, OI8, OI9, OI10, OI11, OI12, reduceIte, reduceCtorEq, Nat.reduceAdd, Nat.reduceEqDiff, Nat.reduceBEq, Nat.reduceLT, Nat.reduceLeDiff, Nat.reduceMul, Nat.reduceSub, Int.reduceLE, Int.reduceLT, Int.reduceEq, Int.reduceBEq, Int.reduceBNe, Int.reduceToNat, Int.reduceNeg, Nat.reduceBNe, forall_eq_or_imp, st194, rfA]
        · have gp : ¬ (0 : Int) < i := by omega
          by_cases cl : b.toNat < 128
          · have gl : (b.toNat : Int) < 128 := by omega
            simp only [OI0, OI1, OI2, OI3, OI4, OI5, OI6, OI7, OI8, OI9, OI10, OI11, OI12, reduceIte, reduceCtorEq, Nat.reduceAdd, Nat.reduceEqDiff, Nat.reduceBEq, Nat.reduceLT, Nat.reduceLeDiff, Nat.reduceMul, Nat.reduceSub, Int.reduceLE, Int.reduceLT, Int.reduceEq, Int.reduceBEq, Int.reduceBNe, Int.reduceToNat, Int.reduceNeg, Nat.reduceBNe, forall_eq_or_imp, st194, rfA, hsz, f1, f2, f3, hget, g9, gp, gl, w7, w1, w2, n7, a1, wi, i10, remb, wr]
            rw [if_neg (by omega), if_pos cl] at h1
            rw [← h1] at h; exact h
          · have gl : ¬ (b.toNat : Int) < 128 := by omega
            simp only [OI0, OI1, OI2, OI3, OI4, OI5, OI6, OI7, OI8, OI9, OI10, OI11, OI12, reduceIte, reduceCtorEq, Nat.reduceAdd, Nat.reduceEqDiff, Nat.reduceBEq, Nat.reduceLT, Nat.reduceLeDiff, Nat.reduceMul, Nat.reduceSub, Int.reduceLE, Int.reduceLT, Int.reduceEq, Int.reduceBEq, Int.reduceBNe, Int.reduceToNat, Int.reduceNeg, Nat.reduceBNe, forall_eq_or_imp, st194, rfA, hsz, f1, f2, f3, hget, g9, gp, gl, w7, w1, w2, n7, a1, wi, i10, remb, wr]
            refine ⟨(i + 1, v + b.toNat % 128 * 128 ^ i), ⟨keep cl (by omega), by simp only; omega⟩, ?_⟩
            simp only [OI0, OI1, OI2, OI3, OI4, OI5, OI6, OI7, OI8, OI9, OI10, OI11, OI12, reduceIte, reduceCtorEq, Nat.reduceAdd, Nat.reduceEqDiff, Nat.reduceBEq, Nat.reduceLT, Nat.reduceLeDiff, Nat.reduceMul, Nat.reduceSub, Int.reduceLE, Int.reduceLT, Int.reduceEq, Int.reduceBEq, Int.reduceBNe, Int.reduceToNat, Int.reduceNeg, Nat.reduceBNe, forall_eq_or_imp, st194, rfA]
    · have f1 : (S.length : Int) ≤ ((p + i : Nat) : Int) := by omega
      simp only [OI0, OI1, OI2, OI3, OI4, OI5, OI6, OI7, OI8, OI9, OI10, OI11, OI12, reduceIte, reduceCtorEq, Nat.reduceAdd, Nat.reduceEqDiff, Nat.reduceBEq, Nat.reduceLT, Nat.reduceLeDiff, Nat.reduceMul, Nat.reduceSub, Int.reduceLE, Int.reduceLT, Int.reduceEq, Int.reduceBEq, Int.reduceBNe, Int.reduceToNat, Int.reduceNeg, Nat.reduceBNe, forall_eq_or_imp, st194, rfA, hsz, f1, wi, i10]
      rw [List.drop_eq_nil_of_le hi, rdN] at h1
      rw [← h1] at h; exact h
  · have hb : (e != 0) = true := by simpa using he
    simp only [cc194, OI0, OI1, OI2, OI3, OI4, OI5, OI6, OI7, OI8, OI9, OI10, OI11, OI12, reduceIte, reduceCtorEq, Nat.reduceAdd, Nat.reduceEqDiff, Nat.reduceBEq, Nat.reduceLT, Nat.reduceLeDiff, Nat.reduceMul, Nat.reduceSub, Int.reduceLE, Int.reduceLT, Int.reduceEq, Int.reduceBEq, Int.reduceBNe, Int.reduceToNat, Int.reduceNeg, Nat.reduceBNe, forall_eq_or_imp, rfA, hb]
    simp only [numM, ne_eq, he, not_false_eq_true, if_true] at h
    exact h
end Go.Proofs.Ythlehngbadianaa.Ow
