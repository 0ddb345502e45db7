/- What the functions of the program do, each once: contracts of the logic (part g3 g4). -/
import Derived.Test.YthlehngbadianaaDoorTg2
set_option linter.unusedVariables false
set_option linter.unusedSimpArgs false
set_option linter.unnecessarySimpa false
set_option maxRecDepth 100000
set_option maxHeartbeats 4000000
namespace Go.Proofs.YthlehngbadianaaDoor.Ow
open Go Go.RowKit Go.Proofs
/-- A kind's word. -/
def wordOf (k : Int) : ByteArray :=
  if k = 1 then ⟨#[105, 110, 112, 117, 116]⟩ else if k = 2 then ⟨#[99, 97, 112, 116, 117, 114, 101]⟩ else if k = 3 then ⟨#[109, 97, 112]⟩ else if k = 4 then ⟨#[102, 105, 108, 116, 101, 114]⟩
  else if k = 5 then ⟨#[115, 119, 97, 112]⟩ else if k = 6 then ⟨#[114, 101, 107, 101, 121]⟩ else if k = 7 then ⟨#[101, 110, 116, 101, 114]⟩ else if k = 8 then ⟨#[108, 101, 97, 118, 101]⟩
  else if k = 9 then ⟨#[110, 101, 120, 116]⟩ else if k = 10 then ⟨#[100, 101, 108, 97, 121]⟩ else if k = 11 then ⟨#[115, 117, 109]⟩ else if k = 12 then ⟨#[99, 111, 117, 110, 116]⟩
  else if k = 13 then ⟨#[108, 101, 97, 115, 116]⟩ else if k = 14 then ⟨#[109, 111, 115, 116]⟩ else ⟨#[]⟩
def numsOf (k : Int) : Int := if k = 3 ∨ k = 4 then 2 else if k = 6 ∨ k = 10 then 1 else 0
def frmA (k : Int) : AV := .agg [.v (.string (wordOf k)), .v (.bool (decide (7 ≤ k ∧ k ≤ 9))), .v (.bool (decide (1 ≤ k ∧ k ≤ 2))), .v (.int .i64 (numsOf k))]
def frmL (k : Int) : List AV := [.v (.string (wordOf k)), .v (.bool (decide (7 ≤ k ∧ k ≤ 9))), .v (.bool (decide (1 ≤ k ∧ k ≤ 2))), .v (.int .i64 (numsOf k))]
theorem kinds (k : Int) (h1 : 1 ≤ k) (h2 : k ≤ 14) : k = 1 ∨ k = 2 ∨ k = 3 ∨ k = 4 ∨ k = 5 ∨ k = 6 ∨ k = 7 ∨ k = 8 ∨ k = 9 ∨ k = 10 ∨ k = 11 ∨ k = 12 ∨ k = 13 ∨ k = 14 := by omega
/- watershed/watershedref09.Word -/
def cc154 : CC := (.seq (.region [⟨none, 2, (.val (.mv (.c (.string ⟨#[]⟩)))), [2], none, []⟩]) (.seq (.seq (.region [⟨none, 3, (.val (.mv (.s 0))), [0], none, []⟩]) (.block 0 (.seq (.region [⟨none, 5, (.val (.bin .eql (.s 3) (.c (.int .i64 1)))), [], none, []⟩, ⟨none, 4, (.val (.mv (.s 5))), [5], none, []⟩]) (.cond (.s 4) (.seq (.region [⟨none, 2, (.val (.mv (.c (.string ⟨#[105, 110, 112, 117, 116]⟩)))), [3, 4], none, []⟩]) .ret) (.seq (.region [⟨none, 7, (.val (.bin .eql (.s 3) (.c (.int .i64 2)))), [4], none, []⟩, ⟨none, 6, (.val (.mv (.s 7))), [7], none, []⟩]) (.cond (.s 6) (.seq (.region [⟨none, 2, (.val (.mv (.c (.string ⟨#[99, 97, 112, 116, 117, 114, 101]⟩)))), [3, 6], none, []⟩]) .ret) (.seq (.region [⟨none, 9, (.val (.bin .eql (.s 3) (.c (.int .i64 3)))), [6], none, []⟩, ⟨none, 8, (.val (.mv (.s 9))), [9], none, []⟩]) (.cond (.s 8) (.seq (.region [⟨none, 2, (.val (.mv (.c (.string ⟨#[109, 97, 112]⟩)))), [3, 8], none, []⟩]) .ret) (.seq (.region [⟨none, 11, (.val (.bin .eql (.s 3) (.c (.int .i64 4)))), [8], none, []⟩, ⟨none, 10, (.val (.mv (.s 11))), [11], none, []⟩]) (.cond (.s 10) (.seq (.region [⟨none, 2, (.val (.mv (.c (.string ⟨#[102, 105, 108, 116, 101, 114]⟩)))), [3, 10], none, []⟩]) .ret) (.seq (.region [⟨none, 13, (.val (.bin .eql (.s 3) (.c (.int .i64 5)))), [10], none, []⟩, ⟨none, 12, (.val (.mv (.s 13))), [13], none, []⟩]) (.cond (.s 12) (.seq (.region [⟨none, 2, (.val (.mv (.c (.string ⟨#[115, 119, 97, 112]⟩)))), [3, 12], none, []⟩]) .ret) (.seq (.region [⟨none, 15, (.val (.bin .eql (.s 3) (.c (.int .i64 6)))), [12], none, []⟩, ⟨none, 14, (.val (.mv (.s 15))), [15], none, []⟩]) (.cond (.s 14) (.seq (.region [⟨none, 2, (.val (.mv (.c (.string ⟨#[114, 101, 107, 101, 121]⟩)))), [3, 14], none, []⟩]) .ret) (.seq (.region [⟨none, 17, (.val (.bin .eql (.s 3) (.c (.int .i64 7)))), [14], none, []⟩, ⟨none, 16, (.val (.mv (.s 17))), [17], none, []⟩]) (.cond (.s 16) (.seq (.region [⟨none, 2, (.val (.mv (.c (.string ⟨#[101, 110, 116, 101, 114]⟩)))), [3, 16], none, []⟩]) .ret) (.seq (.region [⟨none, 19, (.val (.bin .eql (.s 3) (.c (.int .i64 8)))), [16], none, []⟩, ⟨none, 18, (.val (.mv (.s 19))), [19], none, []⟩]) (.cond (.s 18) (.seq (.region [⟨none, 2, (.val (.mv (.c (.string ⟨#[108, 101, 97, 118, 101]⟩)))), [3, 18], none, []⟩]) .ret) (.seq (.region [⟨none, 21, (.val (.bin .eql (.s 3) (.c (.int .i64 9)))), [18], none, []⟩, ⟨none, 20, (.val (.mv (.s 21))), [21], none, []⟩]) (.cond (.s 20) (.seq (.region [⟨none, 2, (.val (.mv (.c (.string ⟨#[110, 101, 120, 116]⟩)))), [3, 20], none, []⟩]) .ret) (.seq (.region [⟨none, 23, (.val (.bin .eql (.s 3) (.c (.int .i64 10)))), [20], none, []⟩, ⟨none, 22, (.val (.mv (.s 23))), [23], none, []⟩]) (.cond (.s 22) (.seq (.region [⟨none, 2, (.val (.mv (.c (.string ⟨#[100, 101, 108, 97, 121]⟩)))), [3, 22], none, []⟩]) .ret) (.seq (.region [⟨none, 25, (.val (.bin .eql (.s 3) (.c (.int .i64 11)))), [22], none, []⟩, ⟨none, 24, (.val (.mv (.s 25))), [25], none, []⟩]) (.cond (.s 24) (.seq (.region [⟨none, 2, (.val (.mv (.c (.string ⟨#[115, 117, 109]⟩)))), [3, 24], none, []⟩]) .ret) (.seq (.region [⟨none, 27, (.val (.bin .eql (.s 3) (.c (.int .i64 12)))), [24], none, []⟩, ⟨none, 26, (.val (.mv (.s 27))), [27], none, []⟩]) (.cond (.s 26) (.seq (.region [⟨none, 2, (.val (.mv (.c (.string ⟨#[99, 111, 117, 110, 116]⟩)))), [3, 26], none, []⟩]) .ret) (.seq (.region [⟨none, 29, (.val (.bin .eql (.s 3) (.c (.int .i64 13)))), [26], none, []⟩, ⟨none, 28, (.val (.mv (.s 29))), [29], none, []⟩]) (.cond (.s 28) (.seq (.region [⟨none, 2, (.val (.mv (.c (.string ⟨#[108, 101, 97, 115, 116]⟩)))), [3, 28], none, []⟩]) .ret) (.seq (.region [⟨none, 31, (.val (.bin .eql (.s 3) (.c (.int .i64 14)))), [3, 28], none, []⟩, ⟨none, 30, (.val (.mv (.s 31))), [31], none, []⟩]) (.cond (.s 30) (.seq (.region [⟨none, 2, (.val (.mv (.c (.string ⟨#[109, 111, 115, 116]⟩)))), [30], none, []⟩]) .ret) .skip)))))))))))))))))))))))))))))) (.seq (.region [⟨none, 2, (.val (.mv (.c (.string ⟨#[]⟩)))), [30], none, []⟩]) .ret)))
theorem ok154 : FnOk Tryd.prog 84 cc154 [(.t 2)] 1 32 := ⟨⟨_, Tryd.func84, by kernel_rfl, by kernel_rfl, by kernel_rfl⟩, by decide, by decide⟩
/- watershed/graph.formOf -/
def cc199 : CC := (.seq (.region [⟨none, 2, (.alloc (.agg #[(.string ⟨#[]⟩), (.bool false), (.bool false), (.int .i64 0)])), [], none, []⟩, ⟨none, 3, (.val (.mv (.c (.bool false)))), [3], none, []⟩]) (.seq (.seq (.region [⟨none, 4, (.val (.mv (.s 0))), [], none, []⟩, ⟨none, 5, (.val (.bin .lss (.s 4) (.c (.int .i64 1)))), [4], none, []⟩, ⟨none, 6, (.val (.mv (.s 5))), [5], none, []⟩, ⟨(some (6, false)), 7, (.val (.mv (.s 0))), [], none, []⟩, ⟨(some (6, false)), 8, (.val (.bin .gtr (.s 7) (.c (.int .i64 14)))), [7], none, []⟩, ⟨none, 9, (.val (.pick (.s 6) (.c (.bool true)) (.s 8))), [6, 8], none, []⟩]) (.cond (.s 9) (.seq (.region [⟨none, 10, (.val (.bld [(.string ⟨#[]⟩), (.bool false), (.bool false), (.int .i64 0)] [])), [0, 9], none, []⟩, ⟨none, 0, (.store 4 (.s 2) (.s 10)), [10], none, []⟩, ⟨none, 3, (.val (.mv (.c (.bool false)))), [], none, []⟩]) .ret) .skip)) (.seq (.region [⟨none, 11, (.callP 96 []), [9], none, []⟩, ⟨none, 12, (.val (.mv (.s 0))), [0], none, []⟩, ⟨none, 13, (.val (.ix (.s 11) (.s 12) 15 4 (some 4))), [11, 12], none, []⟩, ⟨none, 0, (.store 4 (.s 2) (.s 13)), [13], none, []⟩, ⟨none, 3, (.val (.mv (.c (.bool true)))), [], none, []⟩]) .ret)))
theorem ok199 : FnOk Tryd.prog 68 cc199 [(.c 2 130 (some 4)), (.t 3)] 1 14 := ⟨⟨_, Tryd.func68, by kernel_rfl, by kernel_rfl, by kernel_rfl⟩, by decide, by decide⟩
/- watershed/graph.forms -/
def cc227 : CC := (.seq (.region [⟨none, 0, (.alloc (.agg #[(.string ⟨#[]⟩), (.bool false), (.bool false), (.int .i64 0), (.string ⟨#[]⟩), (.bool false), (.bool false), (.int .i64 0), (.string ⟨#[]⟩), (.bool false), (.bool false), (.int .i64 0), (.string ⟨#[]⟩), (.bool false), (.bool false), (.int .i64 0), (.string ⟨#[]⟩), (.bool false), (.bool false), (.int .i64 0), (.string ⟨#[]⟩), (.bool false), (.bool false), (.int .i64 0), (.string ⟨#[]⟩), (.bool false), (.bool false), (.int .i64 0), (.string ⟨#[]⟩), (.bool false), (.bool false), (.int .i64 0), (.string ⟨#[]⟩), (.bool false), (.bool false), (.int .i64 0), (.string ⟨#[]⟩), (.bool false), (.bool false), (.int .i64 0), (.string ⟨#[]⟩), (.bool false), (.bool false), (.int .i64 0), (.string ⟨#[]⟩), (.bool false), (.bool false), (.int .i64 0), (.string ⟨#[]⟩), (.bool false), (.bool false), (.int .i64 0), (.string ⟨#[]⟩), (.bool false), (.bool false), (.int .i64 0), (.string ⟨#[]⟩), (.bool false), (.bool false), (.int .i64 0)])), [], none, []⟩]) (.seq (.region [⟨none, 1, (.val (.bld [(.string ⟨#[]⟩), (.bool false), (.bool false), (.int .i64 0)] [(0, (1, (.c (.string ⟨#[105, 110, 112, 117, 116]⟩)))), (2, (1, (.c (.bool true))))])), [], none, []⟩, ⟨none, 2, (.val (.bld [(.string ⟨#[]⟩), (.bool false), (.bool false), (.int .i64 0)] [(0, (1, (.c (.string ⟨#[99, 97, 112, 116, 117, 114, 101]⟩)))), (2, (1, (.c (.bool true))))])), [], none, []⟩, ⟨none, 3, (.val (.bld [(.string ⟨#[]⟩), (.bool false), (.bool false), (.int .i64 0)] [(0, (1, (.c (.string ⟨#[109, 97, 112]⟩)))), (3, (1, (.c (.int .i64 2))))])), [], none, []⟩, ⟨none, 4, (.val (.bld [(.string ⟨#[]⟩), (.bool false), (.bool false), (.int .i64 0)] [(0, (1, (.c (.string ⟨#[102, 105, 108, 116, 101, 114]⟩)))), (3, (1, (.c (.int .i64 2))))])), [], none, []⟩, ⟨none, 5, (.val (.bld [(.string ⟨#[]⟩), (.bool false), (.bool false), (.int .i64 0)] [(0, (1, (.c (.string ⟨#[115, 119, 97, 112]⟩))))])), [], none, []⟩, ⟨none, 6, (.val (.bld [(.string ⟨#[]⟩), (.bool false), (.bool false), (.int .i64 0)] [(0, (1, (.c (.string ⟨#[114, 101, 107, 101, 121]⟩)))), (3, (1, (.c (.int .i64 1))))])), [], none, []⟩, ⟨none, 7, (.val (.bld [(.string ⟨#[]⟩), (.bool false), (.bool false), (.int .i64 0)] [(0, (1, (.c (.string ⟨#[101, 110, 116, 101, 114]⟩)))), (1, (1, (.c (.bool true))))])), [], none, []⟩, ⟨none, 8, (.val (.bld [(.string ⟨#[]⟩), (.bool false), (.bool false), (.int .i64 0)] [(0, (1, (.c (.string ⟨#[108, 101, 97, 118, 101]⟩)))), (1, (1, (.c (.bool true))))])), [], none, []⟩, ⟨none, 9, (.val (.bld [(.string ⟨#[]⟩), (.bool false), (.bool false), (.int .i64 0)] [(0, (1, (.c (.string ⟨#[110, 101, 120, 116]⟩)))), (1, (1, (.c (.bool true))))])), [], none, []⟩, ⟨none, 10, (.val (.bld [(.string ⟨#[]⟩), (.bool false), (.bool false), (.int .i64 0)] [(0, (1, (.c (.string ⟨#[100, 101, 108, 97, 121]⟩)))), (3, (1, (.c (.int .i64 1))))])), [], none, []⟩, ⟨none, 11, (.val (.bld [(.string ⟨#[]⟩), (.bool false), (.bool false), (.int .i64 0)] [(0, (1, (.c (.string ⟨#[115, 117, 109]⟩))))])), [], none, []⟩, ⟨none, 12, (.val (.bld [(.string ⟨#[]⟩), (.bool false), (.bool false), (.int .i64 0)] [(0, (1, (.c (.string ⟨#[99, 111, 117, 110, 116]⟩))))])), [], none, []⟩, ⟨none, 13, (.val (.bld [(.string ⟨#[]⟩), (.bool false), (.bool false), (.int .i64 0)] [(0, (1, (.c (.string ⟨#[108, 101, 97, 115, 116]⟩))))])), [], none, []⟩, ⟨none, 14, (.val (.bld [(.string ⟨#[]⟩), (.bool false), (.bool false), (.int .i64 0)] [(0, (1, (.c (.string ⟨#[109, 111, 115, 116]⟩))))])), [], none, []⟩, ⟨none, 15, (.val (.bld [(.string ⟨#[]⟩), (.bool false), (.bool false), (.int .i64 0), (.string ⟨#[]⟩), (.bool false), (.bool false), (.int .i64 0), (.string ⟨#[]⟩), (.bool false), (.bool false), (.int .i64 0), (.string ⟨#[]⟩), (.bool false), (.bool false), (.int .i64 0), (.string ⟨#[]⟩), (.bool false), (.bool false), (.int .i64 0), (.string ⟨#[]⟩), (.bool false), (.bool false), (.int .i64 0), (.string ⟨#[]⟩), (.bool false), (.bool false), (.int .i64 0), (.string ⟨#[]⟩), (.bool false), (.bool false), (.int .i64 0), (.string ⟨#[]⟩), (.bool false), (.bool false), (.int .i64 0), (.string ⟨#[]⟩), (.bool false), (.bool false), (.int .i64 0), (.string ⟨#[]⟩), (.bool false), (.bool false), (.int .i64 0), (.string ⟨#[]⟩), (.bool false), (.bool false), (.int .i64 0), (.string ⟨#[]⟩), (.bool false), (.bool false), (.int .i64 0), (.string ⟨#[]⟩), (.bool false), (.bool false), (.int .i64 0), (.string ⟨#[]⟩), (.bool false), (.bool false), (.int .i64 0)] [(4, (4, (.s 1))), (8, (4, (.s 2))), (12, (4, (.s 3))), (16, (4, (.s 4))), (20, (4, (.s 5))), (24, (4, (.s 6))), (28, (4, (.s 7))), (32, (4, (.s 8))), (36, (4, (.s 9))), (40, (4, (.s 10))), (44, (4, (.s 11))), (48, (4, (.s 12))), (52, (4, (.s 13))), (56, (4, (.s 14)))])), [1, 2, 3, 4, 5, 6, 7, 8, 9, 10, 11, 12, 13, 14], none, []⟩, ⟨none, 0, (.store 60 (.s 0) (.s 15)), [15], none, []⟩]) .ret))
theorem ok227 : FnOk Tryd.prog 96 cc227 [(.c 0 152 (some 60))] 0 16 := ⟨⟨_, Tryd.func96, by kernel_rfl, by kernel_rfl, by kernel_rfl⟩, by decide, by decide⟩
theorem c154 (k : Int) {Q : AV → Al → Prop} (h : Q (.v (.string (wordOf k))) []) : ACalls Tryd.prog 84 [] [i64A k] Q := by
  refine ok154.N hmix rfl ?_
  intro I
  by_cases hk : 1 ≤ k ∧ k ≤ 14
  · rcases kinds k hk.1 hk.2 with rfl | rfl | rfl | rfl | rfl | rfl | rfl | rfl | rfl | rfl | rfl | rfl | rfl | rfl <;>
    · simp only [cc154, OI, ↓reduceIte, reduceCtorEq, Nat.reduceAdd, Nat.reduceEqDiff, Nat.reduceBEq, Nat.reduceLT, Nat.reduceLeDiff, Nat.reduceMul, Nat.reduceSub, Int.reduceLE, Int.reduceLT, Int.reduceEq, Int.reduceBEq, Int.reduceBNe, Int.reduceToNat, Int.reduceNeg, Nat.reduceBNe, i64A, Int.reduceBEq]
      exact h
  · have hne : ∀ n : Int, 1 ≤ n → n ≤ 14 → (k == n) = false := fun n h1 h2 => beqF fun e => hk ⟨by omega, by omega⟩
    simp only [cc154, OI, ↓reduceIte, reduceCtorEq, Nat.reduceAdd, Nat.reduceEqDiff, Nat.reduceBEq, Nat.reduceLT, Nat.reduceLeDiff, Nat.reduceMul, Nat.reduceSub, Int.reduceLE, Int.reduceLT, Int.reduceEq, Int.reduceBEq, Int.reduceBNe, Int.reduceToNat, Int.reduceNeg, Nat.reduceBNe, i64A, hne 1 (by decide) (by decide), hne 2 (by decide) (by decide), hne 3 (by decide) (by decide), hne 4 (by decide) (by decide), hne 5 (by decide) (by decide), hne 6 (by decide) (by decide), hne 7 (by decide) (by decide), hne 8 (by decide) (by decide), hne 9 (by decide) (by decide), hne 10 (by decide) (by decide), hne 11 (by decide) (by decide), hne 12 (by decide) (by decide), hne 13 (by decide) (by decide), hne 14 (by decide) (by decide)]
    have e : wordOf k = ⟨#[]⟩ := by
      unfold wordOf
      repeat rw [if_neg (by omega)]
    rw [e] at h
    exact h
theorem c227 {Q : AV → Al → Prop} (h : Q (.agg (frmL 0 ++ frmL 1 ++ frmL 2 ++ frmL 3 ++ frmL 4 ++ frmL 5 ++ frmL 6 ++ frmL 7 ++ frmL 8 ++ frmL 9 ++ frmL 10 ++ frmL 11 ++ frmL 12 ++ frmL 13 ++ frmL 14)) []) : ACalls Tryd.prog 96 [] [] Q := by
  refine ok227.N hmix rfl ?_
  intro I
  simp only [cc227, OI, ↓reduceIte, reduceCtorEq, Nat.reduceAdd, Nat.reduceEqDiff, Nat.reduceBEq, Nat.reduceLT, Nat.reduceLeDiff, Nat.reduceMul, Nat.reduceSub, Int.reduceLE, Int.reduceLT, Int.reduceEq, Int.reduceBEq, Int.reduceBNe, Int.reduceToNat, Int.reduceNeg, Nat.reduceBNe]
  exact h
theorem c199 (k : Int) {Q : AV → Al → Prop} (h : Q (.tup [if 1 ≤ k ∧ k ≤ 14 then frmA k else frmA 0, .v (.bool (decide (1 ≤ k ∧ k ≤ 14)))]) []) : ACalls Tryd.prog 68 [] [i64A k] Q := by
  refine ok199.N hmix rfl ?_
  intro I
  by_cases hk : 1 ≤ k ∧ k ≤ 14
  · have h1 : ¬ k < 1 := by omega
    have h2 : ¬ 14 < k := by omega
    simp only [cc199, OI, ↓reduceIte, reduceCtorEq, Nat.reduceAdd, Nat.reduceEqDiff, Nat.reduceBEq, Nat.reduceLT, Nat.reduceLeDiff, Nat.reduceMul, Nat.reduceSub, Int.reduceLE, Int.reduceLT, Int.reduceEq, Int.reduceBEq, Int.reduceBNe, Int.reduceToNat, Int.reduceNeg, Nat.reduceBNe, i64A, h1, h2]
    refine c227 ?_
    rw [if_pos hk, decide_eq_true hk] at h
    rcases kinds k hk.1 hk.2 with rfl | rfl | rfl | rfl | rfl | rfl | rfl | rfl | rfl | rfl | rfl | rfl | rfl | rfl <;>
    · simp only [OI, ↓reduceIte, reduceCtorEq, Nat.reduceAdd, Nat.reduceEqDiff, Nat.reduceBEq, Nat.reduceLT, Nat.reduceLeDiff, Nat.reduceMul, Nat.reduceSub, Int.reduceLE, Int.reduceLT, Int.reduceEq, Int.reduceBEq, Int.reduceBNe, Int.reduceToNat, Int.reduceNeg, Nat.reduceBNe, frmL, Int.reduceToNat, Nat.reduceMul]
      exact h
  · rw [if_neg hk, decide_eq_false hk] at h
    by_cases h1 : k < 1
    · simp only [cc199, OI, ↓reduceIte, reduceCtorEq, Nat.reduceAdd, Nat.reduceEqDiff, Nat.reduceBEq, Nat.reduceLT, Nat.reduceLeDiff, Nat.reduceMul, Nat.reduceSub, Int.reduceLE, Int.reduceLT, Int.reduceEq, Int.reduceBEq, Int.reduceBNe, Int.reduceToNat, Int.reduceNeg, Nat.reduceBNe, i64A, h1]
      exact h
    · have h2 : 14 < k := by omega
      simp only [cc199, OI, ↓reduceIte, reduceCtorEq, Nat.reduceAdd, Nat.reduceEqDiff, Nat.reduceBEq, Nat.reduceLT, Nat.reduceLeDiff, Nat.reduceMul, Nat.reduceSub, Int.reduceLE, Int.reduceLT, Int.reduceEq, Int.reduceBEq, Int.reduceBNe, Int.reduceToNat, Int.reduceNeg, Nat.reduceBNe, i64A, h1, h2]
      exact h
end Go.Proofs.YthlehngbadianaaDoor.Ow
set_option maxRecDepth 100000
set_option maxHeartbeats 4000000
namespace Go.Proofs.YthlehngbadianaaDoor.Ow
open Go Go.RowKit Go.Proofs
/- watershed/watershedref08.Name -/
def cc167 : CC := (.seq (.region [⟨none, 2, (.val (.mv (.c (.bool false)))), [2], none, []⟩]) (.seq (.seq (.region [⟨none, 4, (.val (.mv (.s 0))), [], none, []⟩, ⟨none, 5, (.val (.lns (.s 4))), [4], none, []⟩, ⟨none, 6, (.val (.bin .lss (.s 5) (.c (.int .i64 1)))), [5], none, []⟩, ⟨none, 7, (.val (.mv (.s 6))), [6], none, []⟩, ⟨(some (7, false)), 8, (.val (.mv (.s 0))), [], none, []⟩, ⟨(some (7, false)), 9, (.val (.lns (.s 8))), [8], none, []⟩, ⟨(some (7, false)), 10, (.val (.bin .gtr (.s 9) (.c (.int .i64 12)))), [9], none, []⟩, ⟨none, 11, (.val (.pick (.s 7) (.c (.bool true)) (.s 10))), [7, 10], none, []⟩, ⟨none, 12, (.val (.mv (.s 11))), [11], none, []⟩, ⟨(some (12, false)), 13, (.val (.mv (.s 0))), [], none, []⟩, ⟨(some (12, false)), 14, (.val (.is (.s 13) (.c (.int .i64 0)))), [13], none, []⟩, ⟨(some (12, false)), 15, (.val (.bin .lss (.s 14) (.c (.int .u8 97)))), [14], none, []⟩, ⟨none, 16, (.val (.pick (.s 12) (.c (.bool true)) (.s 15))), [12, 15], none, []⟩, ⟨none, 17, (.val (.mv (.s 16))), [16], none, []⟩, ⟨(some (17, false)), 18, (.val (.mv (.s 0))), [], none, []⟩, ⟨(some (17, false)), 19, (.val (.is (.s 18) (.c (.int .i64 0)))), [18], none, []⟩, ⟨(some (17, false)), 20, (.val (.bin .gtr (.s 19) (.c (.int .u8 122)))), [19], none, []⟩, ⟨none, 21, (.val (.pick (.s 17) (.c (.bool true)) (.s 20))), [17, 20], none, []⟩]) (.cond (.s 21) (.seq (.region [⟨none, 2, (.val (.mv (.c (.bool false)))), [0, 21], none, []⟩]) .ret) .skip)) (.seq (.seq (.region [⟨none, 3, (.val (.mv (.c (.int .i64 0)))), [21], none, []⟩]) (.block 0 (.loop (.seq (.seq (.region [⟨none, 22, (.val (.mv (.s 3))), [], none, []⟩, ⟨none, 23, (.val (.mv (.s 0))), [], none, []⟩, ⟨none, 24, (.val (.lns (.s 23))), [23], none, []⟩, ⟨none, 25, (.val (.bin .lss (.s 22) (.s 24))), [22, 24], none, []⟩]) (.cond (.s 25) .skip (.exit 0))) (.seq (.block 1 (.seq (.region [⟨none, 28, (.val (.mv (.s 0))), [25], none, []⟩, ⟨none, 29, (.val (.mv (.s 3))), [], none, []⟩, ⟨none, 30, (.val (.is (.s 28) (.s 29))), [28, 29], none, []⟩, ⟨none, 31, (.val (.bin .geq (.s 30) (.c (.int .u8 97)))), [30], none, []⟩, ⟨none, 32, (.val (.mv (.s 31))), [31], none, []⟩, ⟨(some (32, true)), 33, (.val (.mv (.s 0))), [], none, []⟩, ⟨(some (32, true)), 34, (.val (.mv (.s 3))), [], none, []⟩, ⟨(some (32, true)), 35, (.val (.is (.s 33) (.s 34))), [], none, []⟩, ⟨(some (32, true)), 36, (.val (.bin .leq (.s 35) (.c (.int .u8 122)))), [], none, []⟩, ⟨none, 37, (.val (.pick (.s 32) (.s 36) (.c (.bool false)))), [32], none, []⟩, ⟨none, 38, (.val (.mv (.s 37))), [37], none, []⟩, ⟨(some (38, false)), 39, (.val (.mv (.s 0))), [], none, []⟩, ⟨(some (38, false)), 40, (.val (.mv (.s 3))), [], none, []⟩, ⟨(some (38, false)), 41, (.val (.is (.s 39) (.s 40))), [], none, []⟩, ⟨(some (38, false)), 42, (.val (.bin .geq (.s 41) (.c (.int .u8 48)))), [], none, []⟩, ⟨(some (38, false)), 43, (.val (.mv (.s 42))), [], none, []⟩, ⟨(some (43, true)), 44, (.val (.mv (.s 0))), [], none, []⟩, ⟨(some (43, true)), 45, (.val (.mv (.s 3))), [], none, []⟩, ⟨(some (43, true)), 46, (.val (.is (.s 44) (.s 45))), [], none, []⟩, ⟨(some (43, true)), 47, (.val (.bin .leq (.s 46) (.c (.int .u8 57)))), [], none, []⟩, ⟨(some (38, false)), 48, (.val (.pick (.s 43) (.s 47) (.c (.bool false)))), [], none, []⟩, ⟨none, 49, (.val (.pick (.s 38) (.c (.bool true)) (.s 48))), [38], none, []⟩, ⟨none, 50, (.val (.un .not (.s 49))), [49], none, []⟩]) (.cond (.s 50) (.seq (.region [⟨none, 2, (.val (.mv (.c (.bool false)))), [0, 3, 33, 34, 35, 36, 39, 40, 41, 42, 43, 44, 45, 46, 47, 48, 50], none, []⟩]) .ret) .skip))) (.region [⟨none, 26, (.val (.mv (.s 3))), [3, 50], none, []⟩, ⟨none, 27, (.val (.bin .add (.s 26) (.c (.int .i64 1)))), [26], none, []⟩, ⟨none, 3, (.val (.mv (.s 27))), [27], none, []⟩])))))) (.seq (.region [⟨none, 2, (.val (.mv (.c (.bool true)))), [0, 3, 25, 33, 34, 35, 36, 39, 40, 41, 42, 43, 44, 45, 46, 47, 48], none, []⟩]) .ret))))
theorem ok167 : FnOk Tryd.prog 57 cc167 [(.t 2)] 1 51 := ⟨⟨_, Tryd.func57, by kernel_rfl, by kernel_rfl, by kernel_rfl⟩, by decide, by decide⟩
/- watershed/watershedref09.name -/
def cc160 : CC := (.seq (.region [⟨none, 4, (.val (.mv (.c (.int .i64 0)))), [4], none, []⟩]) (.seq (.seq (.region [⟨none, 6, (.val (.mv (.s 0))), [], none, []⟩, ⟨none, 7, (.callP 57 [(.s 6)]), [6], none, []⟩, ⟨none, 8, (.val (.un .not (.s 7))), [7], none, []⟩]) (.cond (.s 8) (.seq (.region [⟨none, 4, (.val (.mv (.c (.int .i64 6)))), [0, 1, 8], none, []⟩]) .ret) .skip)) (.seq (.seq (.region [⟨none, 5, (.val (.mv (.c (.int .i64 0)))), [8], none, []⟩]) (.block 0 (.loop (.seq (.seq (.region [⟨none, 9, (.val (.mv (.s 5))), [], none, []⟩, ⟨none, 10, (.val (.mv (.s 1))), [], none, []⟩, ⟨none, 11, (.val (.lnl (.s 10) 1)), [10], none, []⟩, ⟨none, 12, (.val (.bin .lss (.s 9) (.s 11))), [9, 11], none, []⟩]) (.cond (.s 12) .skip (.exit 0))) (.seq (.block 1 (.seq (.region [⟨none, 15, (.val (.mv (.s 1))), [12], none, []⟩, ⟨none, 16, (.val (.mv (.s 5))), [], none, []⟩, ⟨none, 17, (.val (.ia (.s 15) (.s 16) 1)), [15, 16], none, []⟩, ⟨none, 18, (.val (.ld (.s 17) none)), [17], none, []⟩, ⟨none, 19, (.val (.mv (.s 0))), [], none, []⟩, ⟨none, 20, (.val (.bin .eql (.s 18) (.s 19))), [18, 19], none, []⟩]) (.cond (.s 20) (.seq (.region [⟨none, 4, (.val (.mv (.c (.int .i64 4)))), [0, 1, 5, 20], none, []⟩]) .ret) .skip))) (.region [⟨none, 13, (.val (.mv (.s 5))), [5, 20], none, []⟩, ⟨none, 14, (.val (.bin .add (.s 13) (.c (.int .i64 1)))), [13], none, []⟩, ⟨none, 5, (.val (.mv (.s 14))), [14], none, []⟩])))))) (.seq (.region [⟨none, 4, (.val (.mv (.c (.int .i64 0)))), [0, 1, 5, 12], none, []⟩]) .ret))))
theorem ok160 : FnOk Tryd.prog 51 cc160 [(.t 4)] 2 21 := ⟨⟨_, Tryd.func51, by kernel_rfl, by kernel_rfl, by kernel_rfl⟩, by decide, by decide⟩
/- slices.Contains[[]watershed/graph.Channel,watershed/graph.Channel] -/
def cc203 : CC := (.seq (.region [⟨none, 3, (.box 1), [1], none, []⟩, ⟨none, 4, (.val (.mv (.c (.bool false)))), [4], none, []⟩]) (.seq (.region [⟨none, 5, (.val (.mv (.s 0))), [0], none, []⟩, ⟨none, 6, (.val (.ld (.s 3) (some 2))), [3], none, []⟩, ⟨none, 7, (.call 97 [(.s 5), (.s 6)]), [5, 6], none, []⟩, ⟨none, 8, (.val (.bin .geq (.s 7) (.c (.int .i64 0)))), [7], none, []⟩, ⟨none, 4, (.val (.mv (.s 8))), [8], none, []⟩]) .ret))
theorem ok203 : FnOk Tryd.prog 72 cc203 [(.t 4)] 2 9 := ⟨⟨_, Tryd.func72, by kernel_rfl, by kernel_rfl, by kernel_rfl⟩, by decide, by decide⟩
/- slices.Index[[]watershed/graph.Channel,watershed/graph.Channel] -/
def cc228 : CC := (.seq (.region [⟨none, 3, (.box 1), [1], none, []⟩, ⟨none, 4, (.val (.mv (.c (.int .i64 0)))), [4], none, []⟩]) (.seq (.seq (.region [⟨none, 6, (.val (.mv (.s 0))), [], none, []⟩, ⟨none, 7, (.val (.lnl (.s 6) 2)), [6], none, []⟩, ⟨none, 8, (.val (.mv (.c (.int .i64 0)))), [], none, []⟩]) (.block 0 (.loop (.seq (.region [⟨none, 9, (.val (.bin .lss (.s 8) (.s 7))), [], none, []⟩]) (.seq (.cond (.s 9) .skip (.exit 0)) (.seq (.block 1 (.seq (.region [⟨none, 10, (.val (.mv (.s 8))), [9], none, []⟩, ⟨none, 5, (.val (.mv (.s 10))), [10], none, []⟩]) (.seq (.region [⟨none, 11, (.val (.ld (.s 3) (some 2))), [], none, []⟩, ⟨none, 12, (.val (.mv (.s 0))), [], none, []⟩, ⟨none, 13, (.val (.mv (.s 5))), [], none, []⟩, ⟨none, 14, (.val (.ia (.s 12) (.s 13) 2)), [12, 13], none, []⟩, ⟨none, 15, (.val (.ld (.s 14) (some 2))), [14], none, []⟩, ⟨none, 16, (.val (.eqa false [1, 1] (.s 11) (.s 15))), [11, 15], none, []⟩]) (.cond (.s 16) (.seq (.region [⟨none, 17, (.val (.mv (.s 5))), [0, 3, 5, 7, 8, 16], none, []⟩, ⟨none, 4, (.val (.mv (.s 17))), [17], none, []⟩]) .ret) .skip)))) (.region [⟨none, 18, (.val (.bin .add (.s 8) (.c (.int .i64 1)))), [5, 8, 16], none, []⟩, ⟨none, 8, (.val (.mv (.s 18))), [18], none, []⟩]))))))) (.seq (.region [⟨none, 4, (.val (.mv (.c (.int .i64 (-1))))), [0, 3, 7, 8, 9], none, []⟩]) .ret)))
theorem ok228 : FnOk Tryd.prog 97 cc228 [(.t 4)] 2 19 := ⟨⟨_, Tryd.func97, by kernel_rfl, by kernel_rfl, by kernel_rfl⟩, by decide, by decide⟩
theorem nameB_bad {s : ByteArray} {i : Nat} (h : i < s.size) (hb : okB (s[i]'h) = false) : nameB s = false := by
  simp only [nameB, all_false h hb, Bool.and_false]
def st167 (I : World → Fp → Value → Fp → Prop) (s : ByteArray) (i : Nat) : St := ⟨[(3, .v (.int .i64 i)), (0, .v (.string s))], [(9999, .ext I)], []⟩
theorem c167 (s : ByteArray) (hs : s.size ≤ 1000000) {Q : AV → Al → Prop} (h : Q (.v (.bool (nameB s))) []) : ACalls Tryd.prog 57 [] [.v (.string s)] Q := by
  refine ok167.N hmix rfl ?_
  intro I
  by_cases h0 : (s.size : Int) < 1
  · have e : nameB s = false := by
      have : s.size = 0 := by omega
      simp [nameB, this]
    simp only [cc167, OI, ↓reduceIte, reduceCtorEq, Nat.reduceAdd, Nat.reduceEqDiff, Nat.reduceBEq, Nat.reduceLT, Nat.reduceLeDiff, Nat.reduceMul, Nat.reduceSub, Int.reduceLE, Int.reduceLT, Int.reduceEq, Int.reduceBEq, Int.reduceBNe, Int.reduceToNat, Int.reduceNeg, Nat.reduceBNe, h0]
    rw [e] at h; exact h
  by_cases h12 : (12 : Int) < s.size
  · have e : nameB s = false := by
      have : ¬ s.size ≤ 12 := by omega
      simp [nameB, this]
    simp only [cc167, OI, ↓reduceIte, reduceCtorEq, Nat.reduceAdd, Nat.reduceEqDiff, Nat.reduceBEq, Nat.reduceLT, Nat.reduceLeDiff, Nat.reduceMul, Nat.reduceSub, Int.reduceLE, Int.reduceLT, Int.reduceEq, Int.reduceBEq, Int.reduceBNe, Int.reduceToNat, Int.reduceNeg, Nat.reduceBNe, h0, h12]
    rw [e] at h; exact h
  have hz : (0 : Int) < s.size := by omega
  have hz' : 0 < s.size := by omega
  have g0 : s[0]? = some (s[0]'hz') := getElem?_pos s 0 hz'
  have hl0 : nameB s = (letB (s[0]'hz').toNat && s.data.toList.all fun b => letB b.toNat || digB b.toNat) := by
    have a1 : s.size ≤ 12 := by omega
    have a2 : s.size ≠ 0 := by omega
    simp only [nameB, a1, a2, get0 hz', ne_eq, not_false_eq_true, decide_true, Bool.true_and]
  by_cases l1 : ((s[0]'hz').toNat : Int) < 97
  · have e : nameB s = false := by
      rw [hl0]
      have : letB (s[0]'hz').toNat = false := by simp only [letB, Bool.and_eq_false_iff, decide_eq_false_iff_not]; omega
      simp [this]
    simp only [cc167, OI, ↓reduceIte, reduceCtorEq, Nat.reduceAdd, Nat.reduceEqDiff, Nat.reduceBEq, Nat.reduceLT, Nat.reduceLeDiff, Nat.reduceMul, Nat.reduceSub, Int.reduceLE, Int.reduceLT, Int.reduceEq, Int.reduceBEq, Int.reduceBNe, Int.reduceToNat, Int.reduceNeg, Nat.reduceBNe, h0, h12, hz, g0, l1]
    rw [e] at h; exact h
  by_cases l2 : (122 : Int) < ((s[0]'hz').toNat : Int)
  · have e : nameB s = false := by
      rw [hl0]
      have : letB (s[0]'hz').toNat = false := by simp only [letB, Bool.and_eq_false_iff, decide_eq_false_iff_not]; omega
      simp [this]
    simp only [cc167, OI, ↓reduceIte, reduceCtorEq, Nat.reduceAdd, Nat.reduceEqDiff, Nat.reduceBEq, Nat.reduceLT, Nat.reduceLeDiff, Nat.reduceMul, Nat.reduceSub, Int.reduceLE, Int.reduceLT, Int.reduceEq, Int.reduceBEq, Int.reduceBNe, Int.reduceToNat, Int.reduceNeg, Nat.reduceBNe, h0, h12, hz, g0, l1, l2]
    rw [e] at h; exact h
  simp only [cc167, OI, ↓reduceIte, reduceCtorEq, Nat.reduceAdd, Nat.reduceEqDiff, Nat.reduceBEq, Nat.reduceLT, Nat.reduceLeDiff, Nat.reduceMul, Nat.reduceSub, Int.reduceLE, Int.reduceLT, Int.reduceEq, Int.reduceBEq, Int.reduceBNe, Int.reduceToNat, Int.reduceNeg, Nat.reduceBNe, h0, h12, hz, g0, l1, l2]
  refine W_loop (st167 I s) (fun i => i ≤ s.size ∧ ∀ j (hj : j < s.size), j < i → okB (s[j]'hj) = true) (fun i => s.size - i) (fun _ _ => rfl) ⟨0, ⟨by omega, fun j _ h => by omega⟩, ?_⟩ ?_
  · simp only [OI, ↓reduceIte, reduceCtorEq, Nat.reduceAdd, Nat.reduceEqDiff, Nat.reduceBEq, Nat.reduceLT, Nat.reduceLeDiff, Nat.reduceMul, Nat.reduceSub, Int.reduceLE, Int.reduceLT, Int.reduceEq, Int.reduceBEq, Int.reduceBNe, Int.reduceToNat, Int.reduceNeg, Nat.reduceBNe, st167]
    try rfl
  rintro i ⟨hi, hall⟩
  refine W_of_N ok167.small hmix ?_
  by_cases hil : i < s.size
  · have hil' : (i : Int) < s.size := by omega
    have i0 : (0 : Int) ≤ i := by omega
    have gi : s[i]? = some (s[i]'hil) := getElem?_pos s i hil
    have w1 : IntKind.i64.wrap ((i : Int) + 1) = ((i + 1 : Nat) : Int) := by rw [wrI64 (by omega) (by omega)]; omega
    have bad : ∀ hb : okB (s[i]'hil) = false, Q (.v (.bool false)) [] := fun hb => by rw [nameB_bad hil hb] at h; exact h
    have good : okB (s[i]'hil) = true → ∀ j (hj : j < s.size), j < i + 1 → okB (s[j]'hj) = true := by
      intro hb j hj hlt
      by_cases he : j = i
      · subst he; exact hb
      · exact hall j hj (by omega)
    generalize hx : s[i]'hil = x at gi bad good
    by_cases a1 : (97 : Int) ≤ (x.toNat : Int)
    · by_cases a2 : (x.toNat : Int) ≤ 122
      · simp only [OI, ↓reduceIte, reduceCtorEq, Nat.reduceAdd, Nat.reduceEqDiff, Nat.reduceBEq, Nat.reduceLT, Nat.reduceLeDiff, Nat.reduceMul, Nat.reduceSub, Int.reduceLE, Int.reduceLT, Int.reduceEq, Int.reduceBEq, Int.reduceBNe, Int.reduceToNat, Int.reduceNeg, Nat.reduceBNe, st167, hil', i0, gi, a1, a2, w1]
        refine ⟨i + 1, ⟨⟨by omega, good ?_⟩, by omega⟩, ?_⟩
        · simp only [okB, letB, digB, Bool.or_eq_true, Bool.and_eq_true, decide_eq_true_eq]; omega
        · simp only [OI, ↓reduceIte, reduceCtorEq, Nat.reduceAdd, Nat.reduceEqDiff, Nat.reduceBEq, Nat.reduceLT, Nat.reduceLeDiff, Nat.reduceMul, Nat.reduceSub, Int.reduceLE, Int.reduceLT, Int.reduceEq, Int.reduceBEq, Int.reduceBNe, Int.reduceToNat, Int.reduceNeg, Nat.reduceBNe, st167]
      · have a3 : (48 : Int) ≤ (x.toNat : Int) := by omega
        have a4 : ¬ (x.toNat : Int) ≤ 57 := by omega
        simp only [OI, ↓reduceIte, reduceCtorEq, Nat.reduceAdd, Nat.reduceEqDiff, Nat.reduceBEq, Nat.reduceLT, Nat.reduceLeDiff, Nat.reduceMul, Nat.reduceSub, Int.reduceLE, Int.reduceLT, Int.reduceEq, Int.reduceBEq, Int.reduceBNe, Int.reduceToNat, Int.reduceNeg, Nat.reduceBNe, st167, hil', i0, gi, a1, a2, a3, a4, w1]
        exact bad (by simp only [okB, letB, digB, Bool.or_eq_false_iff, Bool.and_eq_false_iff, decide_eq_false_iff_not]; omega)
    · by_cases a3 : (48 : Int) ≤ (x.toNat : Int)
      · by_cases a4 : (x.toNat : Int) ≤ 57
        · simp only [OI, ↓reduceIte, reduceCtorEq, Nat.reduceAdd, Nat.reduceEqDiff, Nat.reduceBEq, Nat.reduceLT, Nat.reduceLeDiff, Nat.reduceMul, Nat.reduceSub, Int.reduceLE, Int.reduceLT, Int.reduceEq, Int.reduceBEq, Int.reduceBNe, Int.reduceToNat, Int.reduceNeg, Nat.reduceBNe, st167, hil', i0, gi, a1, a3, a4, w1]
          refine ⟨i + 1, ⟨⟨by omega, good ?_⟩, by omega⟩, ?_⟩
          · simp only [okB, letB, digB, Bool.or_eq_true, Bool.and_eq_true, decide_eq_true_eq]; omega
          · simp only [OI, ↓reduceIte, reduceCtorEq, Nat.reduceAdd, Nat.reduceEqDiff, Nat.reduceBEq, Nat.reduceLT, Nat.reduceLeDiff, Nat.reduceMul, Nat.reduceSub, Int.reduceLE, Int.reduceLT, Int.reduceEq, Int.reduceBEq, Int.reduceBNe, Int.reduceToNat, Int.reduceNeg, Nat.reduceBNe, st167]
        · simp only [OI, ↓reduceIte, reduceCtorEq, Nat.reduceAdd, Nat.reduceEqDiff, Nat.reduceBEq, Nat.reduceLT, Nat.reduceLeDiff, Nat.reduceMul, Nat.reduceSub, Int.reduceLE, Int.reduceLT, Int.reduceEq, Int.reduceBEq, Int.reduceBNe, Int.reduceToNat, Int.reduceNeg, Nat.reduceBNe, st167, hil', i0, gi, a1, a3, a4, w1]
          exact bad (by simp only [okB, letB, digB, Bool.or_eq_false_iff, Bool.and_eq_false_iff, decide_eq_false_iff_not]; omega)
      · simp only [OI, ↓reduceIte, reduceCtorEq, Nat.reduceAdd, Nat.reduceEqDiff, Nat.reduceBEq, Nat.reduceLT, Nat.reduceLeDiff, Nat.reduceMul, Nat.reduceSub, Int.reduceLE, Int.reduceLT, Int.reduceEq, Int.reduceBEq, Int.reduceBNe, Int.reduceToNat, Int.reduceNeg, Nat.reduceBNe, st167, hil', i0, gi, a1, a3, w1]
        exact bad (by simp only [okB, letB, digB, Bool.or_eq_false_iff, Bool.and_eq_false_iff, decide_eq_false_iff_not]; omega)
  · obtain rfl : i = s.size := by omega
    simp only [OI, ↓reduceIte, reduceCtorEq, Nat.reduceAdd, Nat.reduceEqDiff, Nat.reduceBEq, Nat.reduceLT, Nat.reduceLeDiff, Nat.reduceMul, Nat.reduceSub, Int.reduceLE, Int.reduceLT, Int.reduceEq, Int.reduceBEq, Int.reduceBNe, Int.reduceToNat, Int.reduceNeg, Nat.reduceBNe, st167, Int.lt_irrefl]
    have hT := all_true fun j hj => hall j hj hj
    have hlt : letB (s[0]'hz').toNat = true := by simp only [letB, Bool.and_eq_true, decide_eq_true_eq]; omega
    rw [hl0, hT, hlt] at h
    exact h
def strA (s : ByteArray) : AV := .v (.string s)
def st160 (I : World → Fp → Value → Fp → Prop) (s : ByteArray) (l : List ByteArray) (i : Nat) : St := ⟨[(5, .v (.int .i64 i)), (0, .v (.string s)), (1, .lst 1 (l.map strA))], [(9999, .ext I)], []⟩
theorem c160 (s : ByteArray) (l : List ByteArray) (hs : s.size ≤ 1000000) (hl : l.length ≤ 1000000) {Q : AV → Al → Prop} (h : Q (i64A (seeR s l)) []) : ACalls Tryd.prog 51 [] [.v (.string s), .lst 1 (l.map strA)] Q := by
  refine ok160.N hmix rfl ?_
  intro I
  simp only [cc160, OI, ↓reduceIte, reduceCtorEq, Nat.reduceAdd, Nat.reduceEqDiff, Nat.reduceBEq, Nat.reduceLT, Nat.reduceLeDiff, Nat.reduceMul, Nat.reduceSub, Int.reduceLE, Int.reduceLT, Int.reduceEq, Int.reduceBEq, Int.reduceBNe, Int.reduceToNat, Int.reduceNeg, Nat.reduceBNe]
  refine c167 s hs ?_
  cases hn : nameB s with
  | false =>
    simp only [OI, ↓reduceIte, reduceCtorEq, Nat.reduceAdd, Nat.reduceEqDiff, Nat.reduceBEq, Nat.reduceLT, Nat.reduceLeDiff, Nat.reduceMul, Nat.reduceSub, Int.reduceLE, Int.reduceLT, Int.reduceEq, Int.reduceBEq, Int.reduceBNe, Int.reduceToNat, Int.reduceNeg, Nat.reduceBNe]
    simpa [seeR, hn, i64A] using h
  | true =>
    simp only [OI, ↓reduceIte, reduceCtorEq, Nat.reduceAdd, Nat.reduceEqDiff, Nat.reduceBEq, Nat.reduceLT, Nat.reduceLeDiff, Nat.reduceMul, Nat.reduceSub, Int.reduceLE, Int.reduceLT, Int.reduceEq, Int.reduceBEq, Int.reduceBNe, Int.reduceToNat, Int.reduceNeg, Nat.reduceBNe]
    refine W_loop (st160 I s l) (fun i => i ≤ l.length ∧ ∀ j t, j < i → l[j]? = some t → (t.toList == s.toList) = false) (fun i => l.length - i) (fun _ _ => rfl) ⟨0, ⟨by omega, fun j t h => by omega⟩, ?_⟩ ?_
    · simp only [OI, ↓reduceIte, reduceCtorEq, Nat.reduceAdd, Nat.reduceEqDiff, Nat.reduceBEq, Nat.reduceLT, Nat.reduceLeDiff, Nat.reduceMul, Nat.reduceSub, Int.reduceLE, Int.reduceLT, Int.reduceEq, Int.reduceBEq, Int.reduceBNe, Int.reduceToNat, Int.reduceNeg, Nat.reduceBNe, st160]
      try rfl
    rintro i ⟨hi, hall⟩
    refine W_of_N ok160.small hmix ?_
    by_cases hil : i < l.length
    · have hil' : (i : Int) < l.length := by omega
      have i0 : (0 : Int) ≤ i := by omega
      have hgi : l[i]? = some l[i] := List.getElem?_eq_getElem hil
      have w1 : IntKind.i64.wrap ((i : Int) + 1) = ((i + 1 : Nat) : Int) := by rw [wrI64 (by omega) (by omega)]; omega
      cases ht : (l[i].toList == s.toList) with
      | true =>
        simp only [OI, ↓reduceIte, reduceCtorEq, Nat.reduceAdd, Nat.reduceEqDiff, Nat.reduceBEq, Nat.reduceLT, Nat.reduceLeDiff, Nat.reduceMul, Nat.reduceSub, Int.reduceLE, Int.reduceLT, Int.reduceEq, Int.reduceBEq, Int.reduceBNe, Int.reduceToNat, Int.reduceNeg, Nat.reduceBNe, st160, hil', i0, hgi, w1, strA, ht]
        have hm : memB s l = true := by
          rw [memB, List.any_eq_true]
          exact ⟨l[i], List.getElem_mem hil, ht⟩
        simpa [seeR, hn, hm, i64A] using h
      | false =>
        simp only [OI, ↓reduceIte, reduceCtorEq, Nat.reduceAdd, Nat.reduceEqDiff, Nat.reduceBEq, Nat.reduceLT, Nat.reduceLeDiff, Nat.reduceMul, Nat.reduceSub, Int.reduceLE, Int.reduceLT, Int.reduceEq, Int.reduceBEq, Int.reduceBNe, Int.reduceToNat, Int.reduceNeg, Nat.reduceBNe, st160, hil', i0, hgi, w1, strA, ht]
        refine ⟨i + 1, ⟨⟨by omega, fun j t hj hg => ?_⟩, by omega⟩, ?_⟩
        · by_cases he : j = i
          · subst he; rw [hgi] at hg; rw [← Option.some.inj hg]; exact ht
          · exact hall j t (by omega) hg
        · simp only [OI, ↓reduceIte, reduceCtorEq, Nat.reduceAdd, Nat.reduceEqDiff, Nat.reduceBEq, Nat.reduceLT, Nat.reduceLeDiff, Nat.reduceMul, Nat.reduceSub, Int.reduceLE, Int.reduceLT, Int.reduceEq, Int.reduceBEq, Int.reduceBNe, Int.reduceToNat, Int.reduceNeg, Nat.reduceBNe, st160]
    · obtain rfl : i = l.length := by omega
      simp only [OI, ↓reduceIte, reduceCtorEq, Nat.reduceAdd, Nat.reduceEqDiff, Nat.reduceBEq, Nat.reduceLT, Nat.reduceLeDiff, Nat.reduceMul, Nat.reduceSub, Int.reduceLE, Int.reduceLT, Int.reduceEq, Int.reduceBEq, Int.reduceBNe, Int.reduceToNat, Int.reduceNeg, Nat.reduceBNe, st160, Int.lt_irrefl]
      have hm : memB s l = false := by
        rw [memB, List.any_eq_false]
        intro t ht
        obtain ⟨j, hj⟩ := List.getElem?_of_mem ht
        have := hall j t (List.getElem?_eq_some_iff.1 hj).1 hj
        simp [this]
      simpa [seeR, hn, hm, i64A] using h
def hasCh (l : List Ch) (c : Ch) : Bool := l.any fun x => (c.1 == x.1) && (c.2 == x.2)
def st228 (I : World → Fp → Value → Fp → Prop) (l : List Ch) (c : Ch) (i : Nat) : St := ⟨[(8, .v (.int .i64 i)), (7, .v (.int .i64 l.length)), (3, .ref ⟨1003, [], 0⟩), (0, .lst 2 (l.map chA))], [(1003, chA c), (9999, .ext I)], []⟩
theorem c228 (l : List Ch) (c : Ch) (hl : l.length ≤ 1000000) {Q : AV → Al → Prop} (h : ∀ n : Int, (hasCh l c = true → 0 ≤ n) → (hasCh l c = false → n = -1) → Q (i64A n) []) : ACalls Tryd.prog 97 [] [.lst 2 (l.map chA), chA c] Q := by
  refine ok228.N hmix rfl ?_
  intro I
  simp only [cc228, OI, ↓reduceIte, reduceCtorEq, Nat.reduceAdd, Nat.reduceEqDiff, Nat.reduceBEq, Nat.reduceLT, Nat.reduceLeDiff, Nat.reduceMul, Nat.reduceSub, Int.reduceLE, Int.reduceLT, Int.reduceEq, Int.reduceBEq, Int.reduceBNe, Int.reduceToNat, Int.reduceNeg, Nat.reduceBNe, chA]
  refine W_loop (st228 I l c) (fun i => i ≤ l.length ∧ ∀ j x, j < i → l[j]? = some x → ((c.1 == x.1) && (c.2 == x.2)) = false) (fun i => l.length - i) (fun _ _ => rfl) ⟨0, ⟨by omega, fun j t h => by omega⟩, ?_⟩ ?_
  · simp only [OI, ↓reduceIte, reduceCtorEq, Nat.reduceAdd, Nat.reduceEqDiff, Nat.reduceBEq, Nat.reduceLT, Nat.reduceLeDiff, Nat.reduceMul, Nat.reduceSub, Int.reduceLE, Int.reduceLT, Int.reduceEq, Int.reduceBEq, Int.reduceBNe, Int.reduceToNat, Int.reduceNeg, Nat.reduceBNe, st228, chA]
    try trace_state
  rintro i ⟨hi, hall⟩
  refine W_of_N ok228.small hmix ?_
  by_cases hil : i < l.length
  · have hil' : (i : Int) < l.length := by omega
    have i0 : (0 : Int) ≤ i := by omega
    have hgi : l[i]? = some l[i] := List.getElem?_eq_getElem hil
    have w1 : IntKind.i64.wrap ((i : Int) + 1) = ((i + 1 : Nat) : Int) := by rw [wrI64 (by omega) (by omega)]; omega
    cases ht : ((c.1 == l[i].1) && (c.2 == l[i].2)) with
    | true =>
      simp only [OI, ↓reduceIte, reduceCtorEq, Nat.reduceAdd, Nat.reduceEqDiff, Nat.reduceBEq, Nat.reduceLT, Nat.reduceLeDiff, Nat.reduceMul, Nat.reduceSub, Int.reduceLE, Int.reduceLT, Int.reduceEq, Int.reduceBEq, Int.reduceBNe, Int.reduceToNat, Int.reduceNeg, Nat.reduceBNe, st228, hil', i0, hgi, w1, chA, ht, fit1, fitL, eqL, eq1]
      refine h _ (fun _ => by omega) fun hf => ?_
      have hm : hasCh l c = true := by
        rw [hasCh, List.any_eq_true]
        exact ⟨l[i], List.getElem_mem hil, ht⟩
      rw [hm] at hf; cases hf
    | false =>
      simp only [OI, ↓reduceIte, reduceCtorEq, Nat.reduceAdd, Nat.reduceEqDiff, Nat.reduceBEq, Nat.reduceLT, Nat.reduceLeDiff, Nat.reduceMul, Nat.reduceSub, Int.reduceLE, Int.reduceLT, Int.reduceEq, Int.reduceBEq, Int.reduceBNe, Int.reduceToNat, Int.reduceNeg, Nat.reduceBNe, st228, hil', i0, hgi, w1, chA, ht, fit1, fitL, eqL, eq1]
      refine ⟨i + 1, ⟨⟨by omega, fun j t hj hg => ?_⟩, by omega⟩, ?_⟩
      · by_cases he : j = i
        · subst he; rw [hgi] at hg; rw [← Option.some.inj hg]; exact ht
        · exact hall j t (by omega) hg
      · simp only [OI, ↓reduceIte, reduceCtorEq, Nat.reduceAdd, Nat.reduceEqDiff, Nat.reduceBEq, Nat.reduceLT, Nat.reduceLeDiff, Nat.reduceMul, Nat.reduceSub, Int.reduceLE, Int.reduceLT, Int.reduceEq, Int.reduceBEq, Int.reduceBNe, Int.reduceToNat, Int.reduceNeg, Nat.reduceBNe, st228, chA]
  · obtain rfl : i = l.length := by omega
    simp only [OI, ↓reduceIte, reduceCtorEq, Nat.reduceAdd, Nat.reduceEqDiff, Nat.reduceBEq, Nat.reduceLT, Nat.reduceLeDiff, Nat.reduceMul, Nat.reduceSub, Int.reduceLE, Int.reduceLT, Int.reduceEq, Int.reduceBEq, Int.reduceBNe, Int.reduceToNat, Int.reduceNeg, Nat.reduceBNe, st228, Int.lt_irrefl]
    have hm : hasCh l c = false := by
      rw [hasCh, List.any_eq_false]
      intro t ht
      obtain ⟨j, hj⟩ := List.getElem?_of_mem ht
      have := hall j t (List.getElem?_eq_some_iff.1 hj).1 hj
      simpa using this
    exact h _ (fun hf => by rw [hm] at hf; cases hf) fun _ => rfl
theorem c203 (l : List Ch) (c : Ch) (hl : l.length ≤ 1000000) {Q : AV → Al → Prop} (h : Q (.v (.bool (hasCh l c))) []) : ACalls Tryd.prog 72 [] [.lst 2 (l.map chA), chA c] Q := by
  refine ok203.N hmix rfl ?_
  intro I
  simp only [cc203, OI, ↓reduceIte, reduceCtorEq, Nat.reduceAdd, Nat.reduceEqDiff, Nat.reduceBEq, Nat.reduceLT, Nat.reduceLeDiff, Nat.reduceMul, Nat.reduceSub, Int.reduceLE, Int.reduceLT, Int.reduceEq, Int.reduceBEq, Int.reduceBNe, Int.reduceToNat, Int.reduceNeg, Nat.reduceBNe, chA]
  refine c228 l c hl ?_
  intro n h1 h2
  cases hm : hasCh l c with
  | true =>
    have := h1 hm
    simp only [OI, ↓reduceIte, reduceCtorEq, Nat.reduceAdd, Nat.reduceEqDiff, Nat.reduceBEq, Nat.reduceLT, Nat.reduceLeDiff, Nat.reduceMul, Nat.reduceSub, Int.reduceLE, Int.reduceLT, Int.reduceEq, Int.reduceBEq, Int.reduceBNe, Int.reduceToNat, Int.reduceNeg, Nat.reduceBNe, i64A, this]
    rw [hm] at h; exact h
  | false =>
    obtain rfl := h2 hm
    simp only [OI, ↓reduceIte, reduceCtorEq, Nat.reduceAdd, Nat.reduceEqDiff, Nat.reduceBEq, Nat.reduceLT, Nat.reduceLeDiff, Nat.reduceMul, Nat.reduceSub, Int.reduceLE, Int.reduceLT, Int.reduceEq, Int.reduceBEq, Int.reduceBNe, Int.reduceToNat, Int.reduceNeg, Nat.reduceBNe, i64A]
    rw [hm] at h; exact h
end Go.Proofs.YthlehngbadianaaDoor.Ow
