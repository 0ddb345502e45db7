/- What the functions of the program do, each once: contracts of the logic (part d2). -/
import Derived.Test.YthlehngbadianaaTd1
set_option linter.unusedVariables false
set_option linter.unusedSimpArgs false
set_option linter.unnecessarySimpa false
set_option maxRecDepth 100000
set_option maxHeartbeats 4000000
namespace Go.Proofs.Ythlehngbadianaa.Ow
open Go Go.RowKit Go.Proofs
/- watershed/watershedref02.Num -/
def cc114 : CC := (.seq (.region [⟨none, 2, (.val (.mv (.c (.string ⟨#[]⟩)))), [2], none, []⟩]) (.seq (.region [⟨none, 3, (.val (.mv (.c (.slice none 0 0)))), [], none, []⟩]) (.seq (.block 0 (.loop (.seq (.seq (.region [⟨none, 4, (.val (.mv (.s 0))), [], none, []⟩, ⟨none, 5, (.val (.bin .geq (.s 4) (.c (.int .u64 128)))), [4], none, []⟩]) (.cond (.s 5) .skip (.exit 0))) (.block 1 (.seq (.region [⟨none, 6, (.val (.mv (.s 3))), [3, 5], none, []⟩, ⟨none, 7, (.val (.mv (.s 0))), [], none, []⟩, ⟨none, 8, (.val (.bin .rem (.s 7) (.c (.int .u64 128)))), [7], none, []⟩, ⟨none, 9, (.val (.cvi .u8 (.s 8))), [8], none, []⟩, ⟨none, 10, (.val (.bin .add (.s 9) (.c (.int .u8 128)))), [9], none, []⟩, ⟨none, 11, (.lit 1 [(.s 10)]), [10], none, []⟩, ⟨none, 12, (.app 1 1 false (.s 6) (.s 11)), [6, 11], none, []⟩, ⟨none, 3, (.val (.mv (.s 12))), [12], none, []⟩]) (.region [⟨none, 13, (.val (.mv (.s 0))), [0], none, []⟩, ⟨none, 14, (.val (.bin .quo (.s 13) (.c (.int .u64 128)))), [13], none, []⟩, ⟨none, 0, (.val (.mv (.s 14))), [14], none, []⟩])))))) (.seq (.region [⟨none, 15, (.val (.mv (.s 3))), [3, 5], none, []⟩, ⟨none, 16, (.val (.mv (.s 0))), [0], none, []⟩, ⟨none, 17, (.val (.cvi .u8 (.s 16))), [16], none, []⟩, ⟨none, 18, (.lit 1 [(.s 17)]), [17], none, []⟩, ⟨none, 19, (.app 1 1 false (.s 15) (.s 18)), [15, 18], none, []⟩, ⟨none, 20, (.val (.b2s (.s 19))), [19], none, []⟩, ⟨none, 2, (.val (.mv (.s 20))), [20], none, []⟩]) .ret))))
theorem ok114 : FnOk Try.prog 114 cc114 [(.t 2)] 1 21 := ⟨⟨_, Try.func114, by kernel_rfl, by kernel_rfl, by kernel_rfl⟩, by decide, by decide⟩

/- watershed/code.Signed -/
def cc111 : CC := (.seq (.region [⟨none, 2, (.val (.mv (.c (.string ⟨#[]⟩)))), [2], none, []⟩]) (.seq (.region [⟨none, 3, (.val (.mv (.s 0))), [], none, []⟩, ⟨none, 4, (.val (.cvi .u64 (.s 3))), [3], none, []⟩, ⟨none, 5, (.val (.bin .shl (.s 4) (.c (.int .u64 1)))), [4], none, []⟩, ⟨none, 6, (.val (.mv (.s 0))), [0], none, []⟩, ⟨none, 7, (.val (.bin .shr (.s 6) (.c (.int .u64 63)))), [6], none, []⟩, ⟨none, 8, (.val (.cvi .u64 (.s 7))), [7], none, []⟩, ⟨none, 9, (.val (.bin .xor (.s 5) (.s 8))), [5, 8], none, []⟩, ⟨none, 10, (.call 110 [(.s 9)]), [9], none, []⟩, ⟨none, 2, (.val (.mv (.s 10))), [10], none, []⟩]) .ret))
theorem ok111 : FnOk Try.prog 111 cc111 [(.t 2)] 1 11 := ⟨⟨_, Try.func111, by kernel_rfl, by kernel_rfl, by kernel_rfl⟩, by decide, by decide⟩

/- watershed/watershedref02.Signed -/
def cc115 : CC := (.seq (.region [⟨none, 2, (.val (.mv (.c (.string ⟨#[]⟩)))), [2], none, []⟩]) (.seq (.seq (.region [⟨none, 3, (.val (.mv (.s 0))), [], none, []⟩, ⟨none, 4, (.val (.bin .lss (.s 3) (.c (.int .i64 0)))), [3], none, []⟩]) (.cond (.s 4) (.seq (.region [⟨none, 5, (.val (.mv (.s 0))), [0, 4], none, []⟩, ⟨none, 6, (.val (.bin .add (.s 5) (.c (.int .i64 1)))), [5], none, []⟩, ⟨none, 7, (.val (.un .neg (.s 6))), [6], none, []⟩, ⟨none, 8, (.val (.cvi .u64 (.s 7))), [7], none, []⟩, ⟨none, 9, (.val (.bin .mul (.c (.int .u64 2)) (.s 8))), [8], none, []⟩, ⟨none, 10, (.val (.bin .add (.s 9) (.c (.int .u64 1)))), [9], none, []⟩, ⟨none, 11, (.call 114 [(.s 10)]), [10], none, []⟩, ⟨none, 2, (.val (.mv (.s 11))), [11], none, []⟩]) .ret) .skip)) (.seq (.region [⟨none, 12, (.val (.mv (.s 0))), [0, 4], none, []⟩, ⟨none, 13, (.val (.cvi .u64 (.s 12))), [12], none, []⟩, ⟨none, 14, (.val (.bin .mul (.c (.int .u64 2)) (.s 13))), [13], none, []⟩, ⟨none, 15, (.call 114 [(.s 14)]), [14], none, []⟩, ⟨none, 2, (.val (.mv (.s 15))), [15], none, []⟩]) .ret)))
theorem ok115 : FnOk Try.prog 115 cc115 [(.t 2)] 1 16 := ⟨⟨_, Try.func115, by kernel_rfl, by kernel_rfl, by kernel_rfl⟩, by decide, by decide⟩

/- watershed/code.number -/
def cc226 : CC := (.seq (.region [⟨none, 2, (.val (.mv (.c (.int .u64 0)))), [], none, []⟩, ⟨none, 3, (.val (.mv (.c (.int .i64 0)))), [], none, []⟩, ⟨none, 4, (.val (.mv (.c (.int .i64 0)))), [4], none, []⟩]) (.block 0 (.loop (.block 1 (.seq (.seq (.region [⟨none, 6, (.val (.mv (.s 3))), [38], none, []⟩, ⟨none, 7, (.val (.mv (.s 0))), [], none, []⟩, ⟨none, 8, (.val (.lns (.s 7))), [7], none, []⟩, ⟨none, 9, (.val (.bin .eql (.s 6) (.s 8))), [6, 8], none, []⟩]) (.cond (.s 9) (.seq (.region [⟨none, 2, (.val (.mv (.c (.int .u64 0)))), [0, 3, 9, 16, 17, 20, 21, 22, 23, 24, 25], none, []⟩, ⟨none, 3, (.val (.mv (.c (.int .i64 0)))), [], none, []⟩, ⟨none, 4, (.val (.mv (.c (.int .i64 11)))), [], none, []⟩]) .ret) .skip)) (.seq (.region [⟨none, 10, (.val (.mv (.s 0))), [9], none, []⟩, ⟨none, 11, (.val (.mv (.s 3))), [], none, []⟩, ⟨none, 12, (.val (.is (.s 10) (.s 11))), [10, 11], none, []⟩, ⟨none, 5, (.val (.mv (.s 12))), [12], none, []⟩]) (.seq (.seq (.region [⟨none, 13, (.val (.mv (.s 3))), [], none, []⟩, ⟨none, 14, (.val (.bin .eql (.s 13) (.c (.int .i64 9)))), [13], none, []⟩, ⟨none, 15, (.val (.mv (.s 14))), [14], none, []⟩, ⟨(some (15, true)), 16, (.val (.mv (.s 5))), [], none, []⟩, ⟨(some (15, true)), 17, (.val (.bin .gtr (.s 16) (.c (.int .u8 1)))), [], none, []⟩, ⟨none, 18, (.val (.pick (.s 15) (.s 17) (.c (.bool false)))), [15], none, []⟩, ⟨none, 19, (.val (.mv (.s 18))), [18], none, []⟩, ⟨(some (19, false)), 20, (.val (.mv (.s 3))), [], none, []⟩, ⟨(some (19, false)), 21, (.val (.bin .gtr (.s 20) (.c (.int .i64 0)))), [], none, []⟩, ⟨(some (19, false)), 22, (.val (.mv (.s 21))), [], none, []⟩, ⟨(some (22, true)), 23, (.val (.mv (.s 5))), [], none, []⟩, ⟨(some (22, true)), 24, (.val (.bin .eql (.s 23) (.c (.int .u8 0)))), [], none, []⟩, ⟨(some (19, false)), 25, (.val (.pick (.s 22) (.s 24) (.c (.bool false)))), [], none, []⟩, ⟨none, 26, (.val (.pick (.s 19) (.c (.bool true)) (.s 25))), [19], none, []⟩]) (.cond (.s 26) (.seq (.region [⟨none, 2, (.val (.mv (.c (.int .u64 0)))), [0, 3, 5, 16, 17, 20, 21, 22, 23, 24, 25, 26], none, []⟩, ⟨none, 3, (.val (.mv (.c (.int .i64 0)))), [], none, []⟩, ⟨none, 4, (.val (.mv (.c (.int .i64 6)))), [], none, []⟩]) .ret) .skip)) (.seq (.region [⟨none, 27, (.val (.mv (.s 2))), [2, 26], none, []⟩, ⟨none, 28, (.val (.mv (.s 5))), [], none, []⟩, ⟨none, 29, (.val (.bin .andNot (.s 28) (.c (.int .u8 128)))), [28], none, []⟩, ⟨none, 30, (.val (.cvi .u64 (.s 29))), [29], none, []⟩, ⟨none, 31, (.val (.mv (.s 3))), [], none, []⟩, ⟨none, 32, (.val (.bin .mul (.c (.int .i64 7)) (.s 31))), [31], none, []⟩, ⟨none, 33, (.val (.bin .shl (.s 30) (.s 32))), [30, 32], none, []⟩, ⟨none, 34, (.val (.bin .or (.s 27) (.s 33))), [27, 33], none, []⟩, ⟨none, 2, (.val (.mv (.s 34))), [34], none, []⟩]) (.seq (.region [⟨none, 35, (.val (.mv (.s 3))), [3], none, []⟩, ⟨none, 36, (.val (.bin .add (.s 35) (.c (.int .i64 1)))), [35], none, []⟩, ⟨none, 3, (.val (.mv (.s 36))), [36], none, []⟩]) (.seq (.region [⟨none, 37, (.val (.mv (.s 5))), [5], none, []⟩, ⟨none, 38, (.val (.bin .lss (.s 37) (.c (.int .u8 128)))), [37], none, []⟩]) (.cond (.s 38) (.seq (.region [⟨none, 39, (.val (.mv (.s 2))), [0, 2, 16, 17, 20, 21, 22, 23, 24, 25, 38], none, []⟩, ⟨none, 40, (.val (.mv (.s 3))), [3], none, []⟩, ⟨none, 2, (.val (.mv (.s 39))), [39], none, []⟩, ⟨none, 3, (.val (.mv (.s 40))), [40], none, []⟩, ⟨none, 4, (.val (.mv (.c (.int .i64 0)))), [], none, []⟩]) .ret) .skip)))))))))))
theorem ok226 : FnOk Try.prog 226 cc226 [(.t 2), (.t 3), (.t 4)] 1 41 := ⟨⟨_, Try.func226, by kernel_rfl, by kernel_rfl, by kernel_rfl⟩, by decide, by decide⟩

/- (watershed/code.Reader).Fail -/
def cc121 : CC := (.seq (.region [⟨none, 4, (.val (.mv (.s 0))), [], none, []⟩, ⟨none, 5, (.val (.nc (.s 4))), [4], none, []⟩, ⟨none, 6, (.val (.fa (.s 5) 1)), [5], none, []⟩, ⟨none, 7, (.val (.ld (.s 6) none)), [6], none, []⟩, ⟨none, 8, (.val (.bin .eql (.s 7) (.c (.int .i64 0)))), [7], none, []⟩]) (.cond (.s 8) (.region [⟨none, 9, (.val (.mv (.s 0))), [0, 8], none, []⟩, ⟨none, 10, (.val (.mv (.s 1))), [1], none, []⟩, ⟨none, 11, (.val (.nc (.s 9))), [9], none, []⟩, ⟨none, 12, (.val (.fa (.s 11) 1)), [11], none, []⟩, ⟨none, 0, (.store 1 (.s 12) (.s 10)), [10, 12], none, []⟩]) .skip))
theorem ok121 : FnOk Try.prog 121 cc121 [] 2 13 := ⟨⟨_, Try.func121, by kernel_rfl, by kernel_rfl, by kernel_rfl⟩, by decide, by decide⟩


def st114 (I : World → Fp → Value → Fp → Prop) : Option (List UInt8) × Nat → St
  | (none, v) => ⟨[(0, .v (.int .u64 v)), (3, .v (.slice none 0 0))], [(9999, .ext I)], []⟩
  | (some l, v) => ⟨[(0, .v (.int .u64 v)), (3, .sl ⟨2012, [], 0⟩ 1 0 (bsA l).length)], [(2012, .own 1 (bsA l)), (9999, .ext I)], []⟩
theorem rem128 (v : Nat) : IntKind.u8.wrap (IntKind.u8.wrap ((v : Int).tmod 128) + 128) = ((UInt8.ofNat (v % 128 + 128)).toNat : Int) := by
  have : (v : Int).tmod 128 = ((v % 128 : Nat) : Int) := by rw [Int.tmod_eq_emod_of_nonneg (by omega)]; rfl
  rw [this, wrap_u8, ofNat_toNat (by omega), show ((v % 128 % 256 : Nat) : Int) + 128 = ((v % 128 % 256 + 128 : Nat) : Int) by omega, wrap_u8]
  omega
theorem wrap_u64 {x : Int} (h0 : 0 ≤ x) (h : x < 18446744073709551616) : IntKind.u64.wrap x = x := by
  simp only [IntKind.wrap, IntKind.bits, IntKind.signed]
  simp
  omega
theorem wrap_i64 {x : Int} (h0 : -9223372036854775808 ≤ x) (h : x < 9223372036854775808) : IntKind.i64.wrap x = x := by
  simp only [IntKind.wrap, IntKind.bits, IntKind.signed]
  simp
  omega
theorem quo128 {v : Nat} (h : v < 18446744073709551616) : IntKind.u64.wrap ((v : Int).tdiv 128) = ((v / 128 : Nat) : Int) := by
  rw [Int.tdiv_eq_ediv_of_nonneg (by omega), wrap_u64 (by omega) (by omega)]
  omega
theorem c114 (v : Nat) (hv : v < 18446744073709551616) {Q : AV → Al → Prop} (h : Q (strV (numB v)) []) : ACalls Try.prog 114 [] [u64A v] Q := by
  refine ok114.N hmix rfl ?_
  intro I
  simp only [cc114, OI0, OI1, OI2, OI3, OI4, OI5, OI6, OI7, OI8, OI9, OI10, OI11, OI12, reduceIte, reduceCtorEq, Nat.reduceAdd, Nat.reduceEqDiff, Nat.reduceBEq, Nat.reduceLT, Nat.reduceLeDiff, Nat.reduceMul, Nat.reduceSub, Int.reduceLE, Int.reduceLT, Int.reduceEq, Int.reduceBEq, Int.reduceBNe, Int.reduceToNat, Int.reduceNeg, Nat.reduceBNe, forall_eq_or_imp, u64A]
  refine W_loop (st114 I) (fun a => (a.1.getD []) ++ numB a.2 = numB v ∧ (a.2 < 18446744073709551616)) (fun a => a.2) ?_ ?_ ?_
  · rintro ⟨l, v⟩ _
    cases l <;> rfl
  · refine ⟨(none, v), ⟨rfl, hv⟩, ?_⟩
    simp only [OI0, OI1, OI2, OI3, OI4, OI5, OI6, OI7, OI8, OI9, OI10, OI11, OI12, reduceIte, reduceCtorEq, Nat.reduceAdd, Nat.reduceEqDiff, Nat.reduceBEq, Nat.reduceLT, Nat.reduceLeDiff, Nat.reduceMul, Nat.reduceSub, Int.reduceLE, Int.reduceLT, Int.reduceEq, Int.reduceBEq, Int.reduceBNe, Int.reduceToNat, Int.reduceNeg, Nat.reduceBNe, forall_eq_or_imp, st114, u64A]
  · rintro ⟨l, v'⟩ ⟨h2, h3⟩
    simp only at h2 h3
    have hll : (l.getD []).length ≤ 10 := by
      have := congrArg List.length h2
      rw [List.length_append] at this
      have := numB_len64 hv
      omega
    refine W_of_N ok114.small hmix ?_
    by_cases hb : 128 ≤ v'
    · have hb' : (128 : Int) ≤ v' := by omega
      cases l with
      | none =>
        simp only [OI0, OI1, OI2, OI3, OI4, OI5, OI6, OI7, OI8, OI9, OI10, OI11, OI12, reduceIte, reduceCtorEq, Nat.reduceAdd, Nat.reduceEqDiff, Nat.reduceBEq, Nat.reduceLT, Nat.reduceLeDiff, Nat.reduceMul, Nat.reduceSub, Int.reduceLE, Int.reduceLT, Int.reduceEq, Int.reduceBEq, Int.reduceBNe, Int.reduceToNat, Int.reduceNeg, Nat.reduceBNe, forall_eq_or_imp, st114, rem128, quo128 h3, hb']
        refine ⟨(some [UInt8.ofNat (v' % 128 + 128)], v' / 128), ⟨⟨?_, by simp only; omega⟩, by simp only; omega⟩, ?_⟩
        · simp only [Option.getD_some, List.singleton_append, ← numB_big hb]; simpa using h2
        · simp only [OI0, OI1, OI2, OI3, OI4, OI5, OI6, OI7, OI8, OI9, OI10, OI11, OI12, reduceIte, reduceCtorEq, Nat.reduceAdd, Nat.reduceEqDiff, Nat.reduceBEq, Nat.reduceLT, Nat.reduceLeDiff, Nat.reduceMul, Nat.reduceSub, Int.reduceLE, Int.reduceLT, Int.reduceEq, Int.reduceBEq, Int.reduceBNe, Int.reduceToNat, Int.reduceNeg, Nat.reduceBNe, forall_eq_or_imp, st114, bsA, u8A]
      | some l =>
        simp only [Option.getD_some] at hll h2
        simp only [OI0, OI1, OI2, OI3, OI4, OI5, OI6, OI7, OI8, OI9, OI10, OI11, OI12, reduceIte, reduceCtorEq, Nat.reduceAdd, Nat.reduceEqDiff, Nat.reduceBEq, Nat.reduceLT, Nat.reduceLeDiff, Nat.reduceMul, Nat.reduceSub, Int.reduceLE, Int.reduceLT, Int.reduceEq, Int.reduceBEq, Int.reduceBNe, Int.reduceToNat, Int.reduceNeg, Nat.reduceBNe, forall_eq_or_imp, st114, rem128, quo128 h3, hb']
        refine ⟨by rw [bsA_len]; omega, ?_⟩
        refine ⟨(some (l ++ [UInt8.ofNat (v' % 128 + 128)]), v' / 128), ⟨⟨?_, by simp only; omega⟩, by simp only; omega⟩, ?_⟩
        · simp only [Option.getD_some, List.append_assoc, List.singleton_append, ← numB_big hb]; exact h2
        · simp only [OI0, OI1, OI2, OI3, OI4, OI5, OI6, OI7, OI8, OI9, OI10, OI11, OI12, reduceIte, reduceCtorEq, Nat.reduceAdd, Nat.reduceEqDiff, Nat.reduceBEq, Nat.reduceLT, Nat.reduceLeDiff, Nat.reduceMul, Nat.reduceSub, Int.reduceLE, Int.reduceLT, Int.reduceEq, Int.reduceBEq, Int.reduceBNe, Int.reduceToNat, Int.reduceNeg, Nat.reduceBNe, forall_eq_or_imp, st114, bsA, u8A]
    · have hb' : ¬ (128 : Int) ≤ v' := by omega
      have hsm := numB_small (show v' < 128 by omega)
      rw [hsm] at h2
      cases l with
      | none =>
        simp only [OI0, OI1, OI2, OI3, OI4, OI5, OI6, OI7, OI8, OI9, OI10, OI11, OI12, reduceIte, reduceCtorEq, Nat.reduceAdd, Nat.reduceEqDiff, Nat.reduceBEq, Nat.reduceLT, Nat.reduceLeDiff, Nat.reduceMul, Nat.reduceSub, Int.reduceLE, Int.reduceLT, Int.reduceEq, Int.reduceBEq, Int.reduceBNe, Int.reduceToNat, Int.reduceNeg, Nat.reduceBNe, forall_eq_or_imp, st114, hb', low8 (show v' < 128 by omega)]
        refine ⟨UInt8.ofNat v', byteV_u8A (UInt8.ofNat v'), ?_⟩
        rw [← h2] at h; exact h
      | some l =>
        simp only [Option.getD_some] at hll h2
        simp only [OI0, OI1, OI2, OI3, OI4, OI5, OI6, OI7, OI8, OI9, OI10, OI11, OI12, reduceIte, reduceCtorEq, Nat.reduceAdd, Nat.reduceEqDiff, Nat.reduceBEq, Nat.reduceLT, Nat.reduceLeDiff, Nat.reduceMul, Nat.reduceSub, Int.reduceLE, Int.reduceLT, Int.reduceEq, Int.reduceBEq, Int.reduceBNe, Int.reduceToNat, Int.reduceNeg, Nat.reduceBNe, forall_eq_or_imp, st114, hb', low8 (show v' < 128 by omega)]
        refine ⟨by rw [bsA_len]; omega, numB v, ?_, h⟩
        rw [← h2, ← mapM_bsA, bsA_app]
        congr 1
        exact List.take_of_length_le (by simp [bsA])
/-- A signed number as one without sign. -/
def zig (k : Int) : Nat := if k < 0 then 2 * (-(k + 1)).toNat + 1 else 2 * k.toNat
theorem zig_lt {k : Int} (h1 : -9223372036854775808 ≤ k) (h2 : k < 9223372036854775808) : zig k < 18446744073709551616 := by unfold zig; split <;> omega
theorem xor_ones (x : BitVec 64) : (x ^^^ BitVec.allOnes 64).toNat = 18446744073709551615 - x.toNat := by
  rw [BitVec.xor_allOnes, BitVec.toNat_not]
theorem zig111 {k : Int} (h1 : -9223372036854775808 ≤ k) (h2 : k < 9223372036854775808) : IntKind.u64.wrap ((BitVec.ofInt IntKind.u64.bits (IntKind.u64.wrap (IntKind.u64.wrap k * 2 ^ min 1 IntKind.u64.bits)) ^^^ BitVec.ofInt IntKind.u64.bits (IntKind.u64.wrap (k.fdiv (2 ^ min 63 IntKind.i64.bits)))).toNat : Int) = (zig k : Int) := by
  have hw : ∀ x : Int, IntKind.u64.wrap x = x % 18446744073709551616 := by intro x; simp [IntKind.wrap, IntKind.bits, IntKind.signed]
  have e1 : (2 : Int) ^ min 63 IntKind.i64.bits = 9223372036854775808 := rfl
  have e2 : (2 : Int) ^ min 1 IntKind.u64.bits = 2 := rfl
  rw [e1, e2, hw k, hw (k % _ * 2)]
  have hx : (BitVec.ofInt 64 (k % 18446744073709551616 * 2 % 18446744073709551616)).toNat = (2 * k % 18446744073709551616).toNat := by
    simp only [BitVec.toNat_ofInt]
    omega
  rcases Int.lt_or_le k 0 with hk | hk
  · have hd : k.fdiv 9223372036854775808 = -1 := by rw [Int.fdiv_eq_ediv_of_nonneg _ (by omega)]; omega
    rw [hd, hw (-1)]
    have hxo : (BitVec.ofInt IntKind.u64.bits (k % 18446744073709551616 * 2 % 18446744073709551616) ^^^ BitVec.ofInt IntKind.u64.bits (-1 % 18446744073709551616)).toNat = 18446744073709551615 - (2 * k % 18446744073709551616).toNat := by
      show (BitVec.ofInt 64 (k % 18446744073709551616 * 2 % 18446744073709551616) ^^^ BitVec.allOnes 64).toNat = _
      rw [xor_ones, hx]
    rw [hxo, hw]
    unfold zig
    rw [if_pos hk]
    omega
  · have hd : k.fdiv 9223372036854775808 = 0 := by rw [Int.fdiv_eq_ediv_of_nonneg _ (by omega)]; omega
    rw [hd, hw 0]
    have hxo : (BitVec.ofInt IntKind.u64.bits (k % 18446744073709551616 * 2 % 18446744073709551616) ^^^ BitVec.ofInt IntKind.u64.bits (0 % 18446744073709551616)).toNat = (2 * k % 18446744073709551616).toNat := by
      show (BitVec.ofInt 64 (k % 18446744073709551616 * 2 % 18446744073709551616) ^^^ 0#64).toNat = _
      rw [BitVec.xor_zero, hx]
    rw [hxo, hw]
    unfold zig
    rw [if_neg (by omega)]
    omega
theorem c111 (k : Int) (h1 : -9223372036854775808 ≤ k) (h2 : k < 9223372036854775808) {Q : AV → Al → Prop} (h : Q (strV (numB (zig k))) []) : ACalls Try.prog 111 [] [i64A k] Q := by
  refine ok111.N hmix rfl ?_
  intro I
  simp only [cc111, OI0, OI1, OI2, OI3, OI4, OI5, OI6, OI7, OI8, OI9, OI10, OI11, OI12, reduceIte, reduceCtorEq, Nat.reduceAdd, Nat.reduceEqDiff, Nat.reduceBEq, Nat.reduceLT, Nat.reduceLeDiff, Nat.reduceMul, Nat.reduceSub, Int.reduceLE, Int.reduceLT, Int.reduceEq, Int.reduceBEq, Int.reduceBNe, Int.reduceToNat, Int.reduceNeg, Nat.reduceBNe, forall_eq_or_imp, i64A, zig111 h1 h2]
  refine c110 (zig k) (zig_lt h1 h2) ?_
  simp only [OI0, OI1, OI2, OI3, OI4, OI5, OI6, OI7, OI8, OI9, OI10, OI11, OI12, reduceIte, reduceCtorEq, Nat.reduceAdd, Nat.reduceEqDiff, Nat.reduceBEq, Nat.reduceLT, Nat.reduceLeDiff, Nat.reduceMul, Nat.reduceSub, Int.reduceLE, Int.reduceLT, Int.reduceEq, Int.reduceBEq, Int.reduceBNe, Int.reduceToNat, Int.reduceNeg, Nat.reduceBNe, forall_eq_or_imp, strV]
  exact h
theorem c115 (k : Int) (h1 : -9223372036854775808 ≤ k) (h2 : k < 9223372036854775808) {Q : AV → Al → Prop} (h : Q (strV (numB (zig k))) []) : ACalls Try.prog 115 [] [i64A k] Q := by
  refine ok115.N hmix rfl ?_
  intro I
  by_cases hk : k < 0
  · have e : IntKind.u64.wrap (IntKind.u64.wrap (2 * IntKind.u64.wrap (IntKind.i64.wrap (0 - IntKind.i64.wrap (k + 1)))) + 1) = (zig k : Int) := by
      rw [wrap_i64 (x := k + 1) (by omega) (by omega), wrap_i64 (x := 0 - (k + 1)) (by omega) (by omega), wrap_u64 (x := 0 - (k + 1)) (by omega) (by omega), wrap_u64 (x := 2 * (0 - (k + 1))) (by omega) (by omega), wrap_u64 (by omega) (by omega)]
      unfold zig; rw [if_pos hk]; omega
    simp only [cc115, OI0, OI1, OI2, OI3, OI4, OI5, OI6, OI7, OI8, OI9, OI10, OI11, OI12, reduceIte, reduceCtorEq, Nat.reduceAdd, Nat.reduceEqDiff, Nat.reduceBEq, Nat.reduceLT, Nat.reduceLeDiff, Nat.reduceMul, Nat.reduceSub, Int.reduceLE, Int.reduceLT, Int.reduceEq, Int.reduceBEq, Int.reduceBNe, Int.reduceToNat, Int.reduceNeg, Nat.reduceBNe, forall_eq_or_imp, i64A, hk, e]
    refine c114 (zig k) (zig_lt h1 h2) ?_
    simp only [OI0, OI1, OI2, OI3, OI4, OI5, OI6, OI7, OI8, OI9, OI10, OI11, OI12, reduceIte, reduceCtorEq, Nat.reduceAdd, Nat.reduceEqDiff, Nat.reduceBEq, Nat.reduceLT, Nat.reduceLeDiff, Nat.reduceMul, Nat.reduceSub, Int.reduceLE, Int.reduceLT, Int.reduceEq, Int.reduceBEq, Int.reduceBNe, Int.reduceToNat, Int.reduceNeg, Nat.reduceBNe, forall_eq_or_imp, strV]
    exact h
  · have e : IntKind.u64.wrap (2 * IntKind.u64.wrap k) = (zig k : Int) := by
      rw [wrap_u64 (x := k) (by omega) (by omega), wrap_u64 (by omega) (by omega)]
      unfold zig; rw [if_neg hk]; omega
    simp only [cc115, OI0, OI1, OI2, OI3, OI4, OI5, OI6, OI7, OI8, OI9, OI10, OI11, OI12, reduceIte, reduceCtorEq, Nat.reduceAdd, Nat.reduceEqDiff, Nat.reduceBEq, Nat.reduceLT, Nat.reduceLeDiff, Nat.reduceMul, Nat.reduceSub, Int.reduceLE, Int.reduceLT, Int.reduceEq, Int.reduceBEq, Int.reduceBNe, Int.reduceToNat, Int.reduceNeg, Nat.reduceBNe, forall_eq_or_imp, i64A, hk, e]
    refine c114 (zig k) (zig_lt h1 h2) ?_
    simp only [OI0, OI1, OI2, OI3, OI4, OI5, OI6, OI7, OI8, OI9, OI10, OI11, OI12, reduceIte, reduceCtorEq, Nat.reduceAdd, Nat.reduceEqDiff, Nat.reduceBEq, Nat.reduceLT, Nat.reduceLeDiff, Nat.reduceMul, Nat.reduceSub, Int.reduceLE, Int.reduceLT, Int.reduceEq, Int.reduceBEq, Int.reduceBNe, Int.reduceToNat, Int.reduceNeg, Nat.reduceBNe, forall_eq_or_imp, strV]
    exact h
def rdA (l : List UInt8) (e : Int) : AV := .agg [.v (.string ⟨l.toArray⟩), .v (.int .i64 e)]
theorem c121 (l : List UInt8) (e x : Int) {Q : AV → Al → Prop} (h : Q (.tup []) [(0, rdA l (if e = 0 then x else e))]) : ACalls Try.prog 121 [(0, rdA l e)] [.ref ⟨0, [], 0⟩, i64A x] Q := by
  refine ok121.N hmix rfl ?_
  intro I
  simp only [cc121, OI0, OI1, OI2, OI3, OI4, OI5, OI6, OI7, OI8, OI9, OI10, OI11, OI12, reduceIte, reduceCtorEq, Nat.reduceAdd, Nat.reduceEqDiff, Nat.reduceBEq, Nat.reduceLT, Nat.reduceLeDiff, Nat.reduceMul, Nat.reduceSub, Int.reduceLE, Int.reduceLT, Int.reduceEq, Int.reduceBEq, Int.reduceBNe, Int.reduceToNat, Int.reduceNeg, Nat.reduceBNe, forall_eq_or_imp, i64A, rdA]
  by_cases he : e = 0
  · rw [if_pos (by simpa using he)]; rw [if_pos he] at h; exact h
  · rw [if_neg (by simpa using he)]; rw [if_neg he] at h; exact h
/-- A number's bytes, read. -/
def rdN : List UInt8 → Nat → Nat → Nat × Nat × Int
  | [], i, v => (0, 0, 11)
  | b :: l, i, v => if (i = 9 ∧ 1 < b.toNat) ∨ (0 < i ∧ b.toNat = 0) then (0, 0, 6) else if b.toNat < 128 then (v + b.toNat % 128 * 128 ^ i, i + 1, 0) else rdN l (i + 1) (v + b.toNat % 128 * 128 ^ i)
def st226 (I : World → Fp → Value → Fp → Prop) (s : List UInt8) : Nat × Nat → St
  | (i, v) => ⟨[(0, .v (.string ⟨s.toArray⟩)), (2, .v (.int .u64 v)), (3, .v (.int .i64 i))], [(9999, .ext I)], []⟩
theorem low7 (b : UInt8) : IntKind.u8.wrap ((BitVec.ofInt IntKind.u8.bits (b.toNat : Int) &&& ~~~ BitVec.ofInt IntKind.u8.bits 128).toNat : Int) = ((b.toNat % 128 : Nat) : Int) := by
  have h : ∀ k : BitVec 8, (k &&& ~~~ 128#8).toNat = k.toNat % 128 := by decide
  have hb : b.toNat < 256 := b.toNat_lt
  have h2 : (BitVec.ofInt IntKind.u8.bits (b.toNat : Int) &&& ~~~ BitVec.ofInt IntKind.u8.bits 128).toNat = b.toNat % 128 := by
    show (BitVec.ofInt 8 (b.toNat : Int) &&& ~~~ 128#8).toNat = b.toNat % 128
    rw [h]
    congr 1
    rw [BitVec.toNat_ofInt]
    omega
  rw [h2, wrap_u8]
  omega
theorem acc226 {v i : Nat} {b : UInt8} (hi : i ≤ 9) (hb : i = 9 → b.toNat ≤ 1) (hv : v < 128 ^ i) :
    IntKind.u64.wrap ((BitVec.ofInt IntKind.u64.bits (v : Int) ||| BitVec.ofInt IntKind.u64.bits (IntKind.u64.wrap (IntKind.u64.wrap (IntKind.u8.wrap ((BitVec.ofInt IntKind.u8.bits (b.toNat : Int) &&& ~~~ BitVec.ofInt IntKind.u8.bits 128).toNat : Int)) * 2 ^ min (7 * i) IntKind.u64.bits))).toNat : Int) = ((v + b.toNat % 128 * 128 ^ i : Nat) : Int) ∧ v + b.toNat % 128 * 128 ^ i < 18446744073709551616 := by
  rw [low7, wrap_u64 (x := ((b.toNat % 128 : Nat) : Int)) (by omega) (by omega)]
  have hm : min (7 * i) IntKind.u64.bits = 7 * i := by simp [IntKind.bits]; omega
  have hp : (2 : Nat) ^ (7 * i) = 128 ^ i := by rw [Nat.pow_mul]
  have hbound : 128 ^ i ≤ 9223372036854775808 := by
    calc 128 ^ i ≤ 128 ^ 9 := Nat.pow_le_pow_right (by omega) hi
      _ = 9223372036854775808 := by decide
  have hprod : b.toNat % 128 * 128 ^ i ≤ 18446744073709551616 - 128 ^ i := by
    rcases Nat.lt_or_ge i 9 with h | h
    · have : 128 ^ i ≤ 128 ^ 8 := Nat.pow_le_pow_right (by omega) (by omega)
      have h8 : (128 : Nat) ^ 8 = 72057594037927936 := by decide
      have : b.toNat % 128 * 128 ^ i ≤ 127 * 128 ^ i := Nat.mul_le_mul_right _ (by omega)
      omega
    · obtain rfl : i = 9 := by omega
      have := hb rfl
      have : b.toNat % 128 * 128 ^ 9 ≤ 1 * 128 ^ 9 := Nat.mul_le_mul_right _ (by omega)
      omega
  have hc : ((b.toNat % 128 : Nat) : Int) * 2 ^ (7 * i) = ((b.toNat % 128 * 128 ^ i : Nat) : Int) := by
    rw [Int.natCast_mul, ← hp]
    simp
  rw [hm, hc]
  generalize hM : b.toNat % 128 * 128 ^ i = M at hprod ⊢
  have hpos : 0 < 128 ^ i := Nat.pos_of_ne_zero (by simp)
  rw [wrap_u64 (x := (M : Int)) (by omega) (by omega)]
  have hor : (BitVec.ofInt IntKind.u64.bits (v : Int) ||| BitVec.ofInt IntKind.u64.bits (M : Int)).toNat = v + M := by
    show (BitVec.ofInt 64 (v : Int) ||| BitVec.ofInt 64 (M : Int)).toNat = v + M
    rw [BitVec.toNat_or, BitVec.toNat_ofInt, BitVec.toNat_ofInt]
    have e1 : ((v : Int) % ((2 ^ 64 : Nat) : Int)).toNat = v := by omega
    have e2 : ((M : Int) % ((2 ^ 64 : Nat) : Int)).toNat = M := by omega
    rw [e1, e2]
    have h3 := Nat.two_pow_add_eq_or_of_lt (b := v) (i := 7 * i) (by rw [hp]; exact hv) (b.toNat % 128)
    rw [hp, Nat.mul_comm, hM] at h3
    rw [Nat.or_comm, ← h3]
    omega
  rw [hor]
  exact ⟨wrap_u64 (by omega) (by omega), by omega⟩
theorem c226 (s : List UInt8) (hs : s.length ≤ 1000000) {Q : AV → Al → Prop} (h : Q (.tup [u64A (rdN s 0 0).1, i64A (rdN s 0 0).2.1, i64A (rdN s 0 0).2.2]) []) : ACalls Try.prog 226 [] [strV s] Q := by
  refine ok226.N hmix rfl ?_
  intro I
  simp only [cc226, OI0, OI1, OI2, OI3, OI4, OI5, OI6, OI7, OI8, OI9, OI10, OI11, OI12, reduceIte, reduceCtorEq, Nat.reduceAdd, Nat.reduceEqDiff, Nat.reduceBEq, Nat.reduceLT, Nat.reduceLeDiff, Nat.reduceMul, Nat.reduceSub, Int.reduceLE, Int.reduceLT, Int.reduceEq, Int.reduceBEq, Int.reduceBNe, Int.reduceToNat, Int.reduceNeg, Nat.reduceBNe, forall_eq_or_imp, strV]
  refine W_loop (st226 I s) (fun a => rdN (s.drop a.1) a.1 a.2 = rdN s 0 0 ∧ a.1 ≤ 9 ∧ a.1 ≤ s.length ∧ a.2 < 128 ^ a.1) (fun a => s.length - a.1) (fun _ _ => rfl) ⟨(0, 0), ⟨rfl, by simp⟩, ?_⟩ ?_
  · simp only [OI0, OI1, OI2, OI3, OI4, OI5, OI6, OI7, OI8, OI9, OI10, OI11, OI12, reduceIte, reduceCtorEq, Nat.reduceAdd, Nat.reduceEqDiff, Nat.reduceBEq, Nat.reduceLT, Nat.reduceLeDiff, Nat.reduceMul, Nat.reduceSub, Int.reduceLE, Int.reduceLT, Int.reduceEq, Int.reduceBEq, Int.reduceBNe, Int.reduceToNat, Int.reduceNeg, Nat.reduceBNe, forall_eq_or_imp, st226]
  rintro ⟨i, v⟩ ⟨h1, h2, h3, h4⟩
  simp only at h1 h2 h3 h4
  refine W_of_N ok226.small hmix ?_
  have hsz : (ByteArray.mk s.toArray).size = s.length := rfl
  rcases Nat.lt_or_ge i s.length with hi | hi
  · have hd := List.drop_eq_getElem_cons hi
    have hget : ((ByteArray.mk s.toArray)[i]?.getD 0) = s[i] := by
      have : (ByteArray.mk s.toArray)[i]? = some s[i] := by
        rw [getElem?_pos (ByteArray.mk s.toArray) i hi]
        rfl
      rw [this]; rfl
    generalize hb : s[i] = b at hd hget
    have f1 : ((i : Int) == (s.length : Int)) = false := by simp; omega
    have f2 : (i : Int) < (s.length : Int) := by omega
    have f3 : (0 : Int) ≤ i := by omega
    have hb256 : b.toNat < 256 := b.toNat_lt
    rw [hd, rdN] at h1
    have w7 : IntKind.i64.wrap (7 * (i : Int)) = ((7 * i : Nat) : Int) := by rw [wrap_i64 (by omega) (by omega)]; omega
    have w1 : IntKind.i64.wrap ((i : Int) + 1) = ((i + 1 : Nat) : Int) := by rw [wrap_i64 (by omega) (by omega)]; omega
    have n7 : ¬ (((7 * i : Nat) : Int) < 0) := by omega
    by_cases c9 : i = 9
    · have g9 : ((i : Int) == 9) = true := by simp; omega
      have gp : (0 : Int) < i := by omega
      by_cases cb : 1 < b.toNat
      · have gb : (1 : Int) < b.toNat := by omega
        simp only [OI0, OI1, OI2, OI3, OI4, OI5, OI6, OI7, OI8, OI9, OI10, OI11, OI12, reduceIte, reduceCtorEq, Nat.reduceAdd, Nat.reduceEqDiff, Nat.reduceBEq, Nat.reduceLT, Nat.reduceLeDiff, Nat.reduceMul, Nat.reduceSub, Int.reduceLE, Int.reduceLT, Int.reduceEq, Int.reduceBEq, Int.reduceBNe, Int.reduceToNat, Int.reduceNeg, Nat.reduceBNe, forall_eq_or_imp, st226, hsz, f1, f2, f3, hget, g9, gp, gb]
        rw [if_pos (by omega)] at h1
        rw [← h1] at h; exact h
      · have gb : ¬ (1 : Int) < b.toNat := by omega
        by_cases c0 : b.toNat = 0
        · have g0 : ((b.toNat : Int) == 0) = true := by simp; omega
          simp only [OI0, OI1, OI2, OI3, OI4, OI5, OI6, OI7, OI8, OI9, OI10, OI11, OI12, reduceIte, reduceCtorEq, Nat.reduceAdd, Nat.reduceEqDiff, Nat.reduceBEq, Nat.reduceLT, Nat.reduceLeDiff, Nat.reduceMul, Nat.reduceSub, Int.reduceLE, Int.reduceLT, Int.reduceEq, Int.reduceBEq, Int.reduceBNe, Int.reduceToNat, Int.reduceNeg, Nat.reduceBNe, forall_eq_or_imp, st226, hsz, f1, f2, f3, hget, g9, gp, gb, g0]
          rw [if_pos (by omega)] at h1
          rw [← h1] at h; exact h
        · have g0 : ((b.toNat : Int) == 0) = false := by simp; omega
          have gl : (b.toNat : Int) < 128 := by omega
          obtain ⟨a1, a2⟩ := acc226 (b := b) h2 (fun _ => by omega) h4
          simp only [OI0, OI1, OI2, OI3, OI4, OI5, OI6, OI7, OI8, OI9, OI10, OI11, OI12, reduceIte, reduceCtorEq, Nat.reduceAdd, Nat.reduceEqDiff, Nat.reduceBEq, Nat.reduceLT, Nat.reduceLeDiff, Nat.reduceMul, Nat.reduceSub, Int.reduceLE, Int.reduceLT, Int.reduceEq, Int.reduceBEq, Int.reduceBNe, Int.reduceToNat, Int.reduceNeg, Nat.reduceBNe, forall_eq_or_imp, st226, hsz, f1, f2, f3, hget, g9, gp, gb, g0, gl, w7, w1, n7, a1]
          rw [if_neg (by omega), if_pos (by omega)] at h1
          rw [← h1] at h; exact h
    · have g9 : ((i : Int) == 9) = false := by simp; omega
      have keep : ∀ gl : ¬ b.toNat < 128, ¬ ((i = 9 ∧ 1 < b.toNat) ∨ (0 < i ∧ b.toNat = 0)) → rdN (s.drop (i + 1)) (i + 1) (v + b.toNat % 128 * 128 ^ i) = rdN s 0 0 ∧ i + 1 ≤ 9 ∧ i + 1 ≤ s.length ∧ v + b.toNat % 128 * 128 ^ i < 128 ^ (i + 1) := by
        intro gl hn
        rw [if_neg hn, if_neg gl] at h1
        refine ⟨h1, by omega, by omega, ?_⟩
        rw [Nat.pow_succ]
        have : b.toNat % 128 * 128 ^ i ≤ 127 * 128 ^ i := Nat.mul_le_mul_right _ (by omega)
        omega
      obtain ⟨a1, a2⟩ := acc226 (b := b) h2 (fun h => absurd h c9) h4
      by_cases cp : 0 < i
      · have gp : (0 : Int) < i := by omega
        by_cases c0 : b.toNat = 0
        · have g0 : ((b.toNat : Int) == 0) = true := by simp; omega
          simp only [OI0, OI1, OI2, OI3, OI4, OI5, OI6, OI7, OI8, OI9, OI10, OI11, OI12, reduceIte, reduceCtorEq, Nat.reduceAdd, Nat.reduceEqDiff, Nat.reduceBEq, Nat.reduceLT, Nat.reduceLeDiff, Nat.reduceMul, Nat.reduceSub, Int.reduceLE, Int.reduceLT, Int.reduceEq, Int.reduceBEq, Int.reduceBNe, Int.reduceToNat, Int.reduceNeg, Nat.reduceBNe, forall_eq_or_imp, st226, hsz, f1, f2, f3, hget, g9, gp, g0]
          rw [if_pos (by omega)] at h1
          rw [← h1] at h; exact h
        · have g0 : ((b.toNat : Int) == 0) = false := by simp; omega
          by_cases cl : b.toNat < 128
          · have gl : (b.toNat : Int) < 128 := by omega
            simp only [OI0, OI1, OI2, OI3, OI4, OI5, OI6, OI7, OI8, OI9, OI10, OI11, OI12, reduceIte, reduceCtorEq, Nat.reduceAdd, Nat.reduceEqDiff, Nat.reduceBEq, Nat.reduceLT, Nat.reduceLeDiff, Nat.reduceMul, Nat.reduceSub, Int.reduceLE, Int.reduceLT, Int.reduceEq, Int.reduceBEq, Int.reduceBNe, Int.reduceToNat, Int.reduceNeg, Nat.reduceBNe, forall_eq_or_imp, st226, hsz, f1, f2, f3, hget, g9, gp, g0, gl, w7, w1, n7, a1]
            rw [if_neg (by omega), if_pos cl] at h1
            rw [← h1] at h; exact h
          · have gl : ¬ (b.toNat : Int) < 128 := by omega
            simp only [OI0, OI1, OI2, OI3, OI4, OI5, OI6, OI7, OI8, OI9, OI10, OI11, OI12, reduceIte, reduceCtorEq, Nat.reduceAdd, Nat.reduceEqDiff, Nat.reduceBEq, Nat.reduceLT, Nat.reduceLeDiff, Nat.reduceMul, Nat.reduceSub, Int.reduceLE, Int.reduceLT, Int.reduceEq, Int.reduceBEq, Int.reduceBNe, Int.reduceToNat, Int.reduceNeg, Nat.reduceBNe, forall_eq_or_imp, st226, hsz, f1, f2, f3, hget, g9, gp, g0, gl, w7, w1, n7, a1]
            refine ⟨(i + 1, v + b.toNat % 128 * 128 ^ i), ⟨keep cl (by omega), by simp only; omega⟩, ?_⟩
            simp only [OI0, OI1, OI2, OI3, OI4, OI5, OI6, OI7, OI8, OI9, OI10, OI11, OI12, reduceIte, reduceCtorEq, Nat.reduceAdd, Nat.reduceEqDiff, Nat.reduceBEq, Nat.reduceLT, Nat.reduceLeDiff, Nat.reduceMul, Nat.reduceSub, Int.reduceLE, Int.reduceLT, Int.reduceEq, Int.reduceBEq, Int.reduceBNe, Int.reduceToNat, Int.reduceNeg, Nat.reduceBNe, forall_eq_or_imp, st226]
      · have gp : ¬ (0 : Int) < i := by omega
        by_cases cl : b.toNat < 128
        · have gl : (b.toNat : Int) < 128 := by omega
          simp only [OI0, OI1, OI2, OI3, OI4, OI5, OI6, OI7, OI8, OI9, OI10, OI11, OI12, reduceIte, reduceCtorEq, Nat.reduceAdd, Nat.reduceEqDiff, Nat.reduceBEq, Nat.reduceLT, Nat.reduceLeDiff, Nat.reduceMul, Nat.reduceSub, Int.reduceLE, Int.reduceLT, Int.reduceEq, Int.reduceBEq, Int.reduceBNe, Int.reduceToNat, Int.reduceNeg, Nat.reduceBNe, forall_eq_or_imp, st226, hsz, f1, f2, f3, hget, g9, gp, gl, w7, w1, n7, a1]
          rw [if_neg (by omega), if_pos cl] at h1
          rw [← h1] at h; exact h
        · have gl : ¬ (b.toNat : Int) < 128 := by omega
          simp only [OI0, OI1, OI2, OI3, OI4, OI5, OI6, OI7, OI8, OI9, OI10, OI11, OI12, reduceIte, reduceCtorEq, Nat.reduceAdd, Nat.reduceEqDiff, Nat.reduceBEq, Nat.reduceLT, Nat.reduceLeDiff, Nat.reduceMul, Nat.reduceSub, Int.reduceLE, Int.reduceLT, Int.reduceEq, Int.reduceBEq, Int.reduceBNe, Int.reduceToNat, Int.reduceNeg, Nat.reduceBNe, forall_eq_or_imp, st226, hsz, f1, f2, f3, hget, g9, gp, gl, w7, w1, n7, a1]
          refine ⟨(i + 1, v + b.toNat % 128 * 128 ^ i), ⟨keep cl (by omega), by simp only; omega⟩, ?_⟩
          simp only [OI0, OI1, OI2, OI3, OI4, OI5, OI6, OI7, OI8, OI9, OI10, OI11, OI12, reduceIte, reduceCtorEq, Nat.reduceAdd, Nat.reduceEqDiff, Nat.reduceBEq, Nat.reduceLT, Nat.reduceLeDiff, Nat.reduceMul, Nat.reduceSub, Int.reduceLE, Int.reduceLT, Int.reduceEq, Int.reduceBEq, Int.reduceBNe, Int.reduceToNat, Int.reduceNeg, Nat.reduceBNe, forall_eq_or_imp, st226]
  · obtain rfl : i = s.length := by omega
    simp only [OI0, OI1, OI2, OI3, OI4, OI5, OI6, OI7, OI8, OI9, OI10, OI11, OI12, reduceIte, reduceCtorEq, Nat.reduceAdd, Nat.reduceEqDiff, Nat.reduceBEq, Nat.reduceLT, Nat.reduceLeDiff, Nat.reduceMul, Nat.reduceSub, Int.reduceLE, Int.reduceLT, Int.reduceEq, Int.reduceBEq, Int.reduceBNe, Int.reduceToNat, Int.reduceNeg, Nat.reduceBNe, forall_eq_or_imp, st226, hsz, beq_self_eq_true]
    rw [List.drop_length, rdN] at h1
    rw [← h1] at h; exact h
end Go.Proofs.Ythlehngbadianaa.Ow
