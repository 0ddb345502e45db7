/- What the functions of the program do, each once: contracts of the logic (part d12). -/
import Derived.Test.YthlehngbadianaaTd8
import Derived.Test.YthlehngbadianaaTd11
set_option linter.unusedVariables false
set_option linter.unusedSimpArgs false
set_option linter.unnecessarySimpa false
set_option maxRecDepth 100000
set_option maxHeartbeats 4000000
namespace Go.Proofs.Ythlehngbadianaa.Ow
open Go Go.RowKit Go.Proofs
/- watershed/watershedlaw11.DataBytes -/
def cc6 : CC := (.seq (.region [⟨none, 2, (.box 0), [0], none, []⟩, ⟨none, 4, (.val (.mv (.c (.bool false)))), [4], none, []⟩]) (.seq (.seq (.region [⟨none, 12, (.val (.fa (.s 2) 6)), [], none, []⟩, ⟨none, 13, (.val (.ld (.s 12) none)), [12], none, []⟩, ⟨none, 14, (.val (.lnl (.s 13) 2)), [13], none, []⟩, ⟨none, 15, (.val (.bin .gtr (.s 14) (.c (.int .i64 300)))), [14], none, []⟩, ⟨none, 16, (.val (.mv (.s 15))), [15], none, []⟩, ⟨(some (16, false)), 17, (.val (.mv (.s 1))), [], none, []⟩, ⟨(some (16, false)), 18, (.val (.lns (.s 17))), [17], none, []⟩, ⟨(some (16, false)), 19, (.val (.bin .gtr (.s 18) (.c (.int .i64 5000)))), [18], none, []⟩, ⟨none, 20, (.val (.pick (.s 16) (.c (.bool true)) (.s 19))), [16, 19], none, []⟩]) (.cond (.s 20) (.seq (.region [⟨none, 4, (.val (.mv (.c (.bool true)))), [1, 2, 20], none, []⟩]) .ret) .skip)) (.seq (.region [⟨none, 22, (.val (.ld (.s 2) (some 7))), [20], none, []⟩, ⟨none, 23, (.call 32 [(.s 22)]), [22], none, []⟩, ⟨none, 24, (.call 31 [(.s 23)]), [23], none, []⟩, ⟨none, 21, (.val (.mv (.s 24))), [24], none, []⟩, ⟨none, 25, (.val (.ext (.s 21) 0)), [], none, []⟩, ⟨none, 26, (.val (.ext (.s 21) 1)), [21], none, []⟩, ⟨none, 5, (.val (.mv (.s 25))), [25], none, []⟩, ⟨none, 6, (.val (.mv (.s 26))), [26], none, []⟩]) (.seq (.region [⟨none, 28, (.val (.ld (.s 2) (some 7))), [], none, []⟩, ⟨none, 29, (.call 33 [(.s 28)]), [28], none, []⟩, ⟨none, 27, (.val (.mv (.s 29))), [29], none, []⟩, ⟨none, 30, (.val (.ext (.s 27) 0)), [], none, []⟩, ⟨none, 31, (.val (.ext (.s 27) 1)), [27], none, []⟩, ⟨none, 7, (.val (.mv (.s 30))), [30], none, []⟩, ⟨none, 8, (.val (.mv (.s 31))), [31], none, []⟩]) (.seq (.seq (.drawn (.op ⟨none, 32, (.val (.ld (.s 2) (some 7))), [], none, []⟩ (.alt (.op ⟨none, 33, (.call 32 [(.s 32)]), [], none, []⟩ (.alt (.op ⟨none, 34, (.call 34 [(.s 33)]), [], none, []⟩ (.op ⟨none, 35, (.val (.ld (.s 2) (some 7))), [], none, []⟩ (.op ⟨none, 36, (.call 35 [(.s 35)]), [], none, []⟩ (.op ⟨none, 37, (.val (.bin .neq (.s 34) (.s 36))), [], none, []⟩ (.op ⟨none, 38, (.val (.mv (.s 37))), [], none, []⟩ (.op ⟨(some (38, false)), 39, (.val (.mv (.s 5))), [], none, []⟩ (.op ⟨(some (38, false)), 40, (.val (.mv (.s 7))), [], none, []⟩ (.op ⟨(some (38, false)), 41, (.val (.bin .neq (.s 39) (.s 40))), [], none, []⟩ (.op ⟨none, 42, (.val (.pick (.s 38) (.c (.bool true)) (.s 41))), [], none, []⟩ (.op ⟨none, 43, (.val (.mv (.s 42))), [], none, []⟩ (.op ⟨(some (43, false)), 44, (.val (.mv (.s 6))), [], none, []⟩ (.op ⟨(some (43, false)), 45, (.val (.mv (.s 8))), [], none, []⟩ (.op ⟨(some (43, false)), 46, (.val (.bin .neq (.s 44) (.s 45))), [], none, []⟩ (.op ⟨none, 47, (.val (.pick (.s 43) (.c (.bool true)) (.s 46))), [], none, []⟩ .done)))))))))))))) (.op ⟨none, 35, (.val (.ld (.s 2) (some 7))), [], none, []⟩ (.op ⟨none, 34, (.call 34 [(.s 33)]), [], none, []⟩ (.op ⟨none, 36, (.call 35 [(.s 35)]), [], none, []⟩ (.op ⟨none, 37, (.val (.bin .neq (.s 34) (.s 36))), [], none, []⟩ (.op ⟨none, 38, (.val (.mv (.s 37))), [], none, []⟩ (.op ⟨(some (38, false)), 39, (.val (.mv (.s 5))), [], none, []⟩ (.op ⟨(some (38, false)), 40, (.val (.mv (.s 7))), [], none, []⟩ (.op ⟨(some (38, false)), 41, (.val (.bin .neq (.s 39) (.s 40))), [], none, []⟩ (.op ⟨none, 42, (.val (.pick (.s 38) (.c (.bool true)) (.s 41))), [], none, []⟩ (.op ⟨none, 43, (.val (.mv (.s 42))), [], none, []⟩ (.op ⟨(some (43, false)), 44, (.val (.mv (.s 6))), [], none, []⟩ (.op ⟨(some (43, false)), 45, (.val (.mv (.s 8))), [], none, []⟩ (.op ⟨(some (43, false)), 46, (.val (.bin .neq (.s 44) (.s 45))), [], none, []⟩ (.op ⟨none, 47, (.val (.pick (.s 43) (.c (.bool true)) (.s 46))), [], none, []⟩ .done)))))))))))))))) (.op ⟨none, 35, (.val (.ld (.s 2) (some 7))), [], none, []⟩ (.op ⟨none, 33, (.call 32 [(.s 32)]), [], none, []⟩ (.op ⟨none, 34, (.call 34 [(.s 33)]), [], none, []⟩ (.op ⟨none, 36, (.call 35 [(.s 35)]), [], none, []⟩ (.op ⟨none, 37, (.val (.bin .neq (.s 34) (.s 36))), [], none, []⟩ (.op ⟨none, 38, (.val (.mv (.s 37))), [], none, []⟩ (.op ⟨(some (38, false)), 39, (.val (.mv (.s 5))), [], none, []⟩ (.op ⟨(some (38, false)), 40, (.val (.mv (.s 7))), [], none, []⟩ (.op ⟨(some (38, false)), 41, (.val (.bin .neq (.s 39) (.s 40))), [], none, []⟩ (.op ⟨none, 42, (.val (.pick (.s 38) (.c (.bool true)) (.s 41))), [], none, []⟩ (.op ⟨none, 43, (.val (.mv (.s 42))), [], none, []⟩ (.op ⟨(some (43, false)), 44, (.val (.mv (.s 6))), [], none, []⟩ (.op ⟨(some (43, false)), 45, (.val (.mv (.s 8))), [], none, []⟩ (.op ⟨(some (43, false)), 46, (.val (.bin .neq (.s 44) (.s 45))), [], none, []⟩ (.op ⟨none, 47, (.val (.pick (.s 43) (.c (.bool true)) (.s 46))), [], none, []⟩ .done)))))))))))))))))) (.cond (.s 47) (.seq (.region [⟨none, 4, (.val (.mv (.c (.bool false)))), [1, 2, 5, 6, 7, 8, 32, 33, 34, 35, 36, 37, 38, 39, 40, 41, 42, 43, 44, 45, 46, 47], none, []⟩]) .ret) .skip)) (.seq (.region [⟨none, 48, (.val (.mv (.s 1))), [2, 5, 6, 7, 8, 32, 33, 34, 35, 36, 37, 38, 39, 40, 41, 42, 43, 44, 45, 46, 47], none, []⟩, ⟨none, 49, (.call 36 [(.s 48)]), [48], none, []⟩, ⟨none, 50, (.val (.mv (.s 1))), [1], none, []⟩, ⟨none, 51, (.val (.bld [(.string ⟨#[]⟩), (.int .i64 0), (.int .i64 0)] [(0, (1, (.s 50)))])), [50], none, []⟩, ⟨none, 52, (.box 51), [51], none, []⟩, ⟨none, 9, (.val (.mv (.s 49))), [49], none, []⟩, ⟨none, 10, (.val (.mv (.s 52))), [52], none, []⟩]) (.seq (.seq (.region [⟨none, 11, (.val (.mv (.c (.int .i64 0)))), [], none, []⟩]) (.block 0 (.loop (.seq (.seq (.region [⟨none, 53, (.val (.mv (.s 11))), [], none, []⟩, ⟨none, 54, (.val (.bin .lss (.s 53) (.c (.int .i64 2)))), [53], none, []⟩]) (.cond (.s 54) .skip (.exit 0))) (.seq (.block 1 (.seq (.drawn (.op ⟨none, 57, (.val (.mv (.s 9))), [], none, []⟩ (.op ⟨none, 59, (.val (.mv (.s 10))), [], none, []⟩ (.op ⟨none, 58, (.call 38 [(.s 57)]), [], (some 0), []⟩ (.op ⟨none, 60, (.call 39 [(.s 59)]), [], (some 0), []⟩ (.op ⟨none, 61, (.call 37 [(.s 58), (.s 60)]), [], none, []⟩ (.op ⟨none, 62, (.val (.un .not (.s 61))), [], none, []⟩ (.op ⟨none, 63, (.val (.mv (.s 62))), [], none, []⟩ (.op ⟨(some (63, false)), 64, (.val (.mv (.s 9))), [], none, []⟩ (.op ⟨(some (63, false)), 66, (.val (.mv (.s 10))), [], none, []⟩ (.op ⟨(some (63, false)), 67, (.val (.nc (.s 66))), [], none, []⟩ (.op ⟨(some (63, false)), 68, (.val (.fa (.s 67) 2)), [], none, []⟩ (.alt (.op ⟨(some (63, false)), 65, (.call 40 [(.s 64)]), [], none, []⟩ (.op ⟨(some (63, false)), 69, (.val (.ld (.s 68) none)), [], none, []⟩ (.op ⟨(some (63, false)), 70, (.val (.bin .neq (.s 65) (.s 69))), [], none, []⟩ (.op ⟨none, 71, (.val (.pick (.s 63) (.c (.bool true)) (.s 70))), [], none, []⟩ (.op ⟨none, 72, (.val (.mv (.s 71))), [], none, []⟩ (.op ⟨(some (72, false)), 73, (.val (.mv (.s 9))), [], none, []⟩ (.op ⟨(some (72, false)), 75, (.val (.mv (.s 10))), [], none, []⟩ (.op ⟨(some (72, false)), 74, (.call 41 [(.s 73)]), [], none, []⟩ (.op ⟨(some (72, false)), 76, (.call 42 [(.s 75)]), [], none, []⟩ (.op ⟨(some (72, false)), 77, (.val (.bin .neq (.s 74) (.s 76))), [], none, []⟩ (.op ⟨none, 78, (.val (.pick (.s 72) (.c (.bool true)) (.s 77))), [], none, []⟩ .done))))))))))) (.op ⟨(some (63, false)), 69, (.val (.ld (.s 68) none)), [], none, []⟩ (.op ⟨(some (63, false)), 65, (.call 40 [(.s 64)]), [], none, []⟩ (.op ⟨(some (63, false)), 70, (.val (.bin .neq (.s 65) (.s 69))), [], none, []⟩ (.op ⟨none, 71, (.val (.pick (.s 63) (.c (.bool true)) (.s 70))), [], none, []⟩ (.op ⟨none, 72, (.val (.mv (.s 71))), [], none, []⟩ (.op ⟨(some (72, false)), 73, (.val (.mv (.s 9))), [], none, []⟩ (.op ⟨(some (72, false)), 75, (.val (.mv (.s 10))), [], none, []⟩ (.op ⟨(some (72, false)), 74, (.call 41 [(.s 73)]), [], none, []⟩ (.op ⟨(some (72, false)), 76, (.call 42 [(.s 75)]), [], none, []⟩ (.op ⟨(some (72, false)), 77, (.val (.bin .neq (.s 74) (.s 76))), [], none, []⟩ (.op ⟨none, 78, (.val (.pick (.s 72) (.c (.bool true)) (.s 77))), [], none, []⟩ .done)))))))))))))))))))))))) (.cond (.s 78) (.seq (.region [⟨none, 4, (.val (.mv (.c (.bool false)))), [9, 10, 11, 54, 57, 58, 59, 60, 61, 62, 63, 64, 65, 66, 67, 68, 69, 70, 71, 72, 73, 74, 75, 76, 77, 78], none, []⟩]) .ret) .skip))) (.region [⟨none, 55, (.val (.mv (.s 11))), [11, 54], none, []⟩, ⟨none, 56, (.val (.bin .add (.s 55) (.c (.int .i64 1)))), [55], none, []⟩, ⟨none, 11, (.val (.mv (.s 56))), [56], none, []⟩])))))) (.seq (.region [⟨none, 4, (.val (.mv (.c (.bool true)))), [9, 10, 11, 54, 57, 58, 59, 60, 61, 62, 63, 64, 65, 66, 67, 68, 69, 70, 71, 72, 73, 74, 75, 76, 77, 78], none, []⟩]) .ret))))))))
theorem ok6 : FnOk Try.prog 6 cc6 [(.t 4)] 2 79 := ⟨⟨_, Try.func6, by kernel_rfl, by kernel_rfl, by kernel_rfl⟩, by decide, by decide⟩


def st6 (I : World → Fp → Value → Fp → Prop) (s : List UInt8) : Nat × Nat × Int → St
  | (i, p, e) => ⟨[(11, .v (.int .i64 i)), (10, .ref ⟨1052, [], 0⟩), (9, .ref ⟨1049, [], 0⟩)], [(1052, rfA s p e), (1049, rdA (s.drop p) e), (9999, .ext I)], []⟩
theorem c6 (b : Bt) (c : AV) (s : List UInt8) (hc : roL c b.l) (hlen : b.l.length ≤ 9223372036854775807) (hr : ∀ r ∈ b.l, okR r) {Q : AV → Al → Prop} (h : Q (.v (.bool true)) []) : ACalls Try.prog 6 [] [btA b c, strV s] Q := by
  refine ok6.N hmix rfl ?_
  intro I
  have hcc := roL_cases hc
  by_cases g1 : 300 < b.l.length
  · have g1' : (300 : Int) < b.l.length := by omega
    rcases hcc with ⟨rfl, hl⟩ | rfl
    · rw [hl] at g1; simp at g1
    · simp only [cc6, OI0, OI1, OI2, OI3, OI4, OI5, OI6, OI7, OI8, OI9, OI10, OI11, OI12, reduceIte, reduceCtorEq, Nat.reduceAdd, Nat.reduceEqDiff, Nat.reduceBEq, Nat.reduceLT, Nat.reduceLeDiff, Nat.reduceMul, Nat.reduceSub, Int.reduceLE, Int.reduceLT, Int.reduceEq, Int.reduceBEq, Int.reduceBNe, Int.reduceToNat, Int.reduceNeg, Nat.reduceBNe, forall_eq_or_imp, btA, strV, g1']
      exact h
  have g1' : ¬ (300 : Int) < b.l.length := by omega
  by_cases g2 : 5000 < s.length
  · have g2' : (5000 : Int) < s.length := by omega
    rcases hcc with ⟨rfl, hl⟩ | rfl
    · simp only [cc6, OI0, OI1, OI2, OI3, OI4, OI5, OI6, OI7, OI8, OI9, OI10, OI11, OI12, reduceIte, reduceCtorEq, Nat.reduceAdd, Nat.reduceEqDiff, Nat.reduceBEq, Nat.reduceLT, Nat.reduceLeDiff, Nat.reduceMul, Nat.reduceSub, Int.reduceLE, Int.reduceLT, Int.reduceEq, Int.reduceBEq, Int.reduceBNe, Int.reduceToNat, Int.reduceNeg, Nat.reduceBNe, forall_eq_or_imp, btA, strV, g2', sz_mk]
      exact h
    · simp only [cc6, OI0, OI1, OI2, OI3, OI4, OI5, OI6, OI7, OI8, OI9, OI10, OI11, OI12, reduceIte, reduceCtorEq, Nat.reduceAdd, Nat.reduceEqDiff, Nat.reduceBEq, Nat.reduceLT, Nat.reduceLeDiff, Nat.reduceMul, Nat.reduceSub, Int.reduceLE, Int.reduceLT, Int.reduceEq, Int.reduceBEq, Int.reduceBNe, Int.reduceToNat, Int.reduceNeg, Nat.reduceBNe, forall_eq_or_imp, btA, strV, g1', g2', sz_mk]
      exact h
  have g2' : ¬ (5000 : Int) < s.length := by omega
  rcases hcc with ⟨rfl, hl⟩ | rfl
  · simp only [cc6, OI0, OI1, OI2, OI3, OI4, OI5, OI6, OI7, OI8, OI9, OI10, OI11, OI12, reduceIte, reduceCtorEq, Nat.reduceAdd, Nat.reduceEqDiff, Nat.reduceBEq, Nat.reduceLT, Nat.reduceLeDiff, Nat.reduceMul, Nat.reduceSub, Int.reduceLE, Int.reduceLT, Int.reduceEq, Int.reduceBEq, Int.reduceBNe, Int.reduceToNat, Int.reduceNeg, Nat.reduceBNe, forall_eq_or_imp, btA, strV, g2', sz_mk]
    refine c32 b _ hc (by omega) ?_
    simp only [OI0, OI1, OI2, OI3, OI4, OI5, OI6, OI7, OI8, OI9, OI10, OI11, OI12, reduceIte, reduceCtorEq, Nat.reduceAdd, Nat.reduceEqDiff, Nat.reduceBEq, Nat.reduceLT, Nat.reduceLeDiff, Nat.reduceMul, Nat.reduceSub, Int.reduceLE, Int.reduceLT, Int.reduceEq, Int.reduceBEq, Int.reduceBNe, Int.reduceToNat, Int.reduceNeg, Nat.reduceBNe, forall_eq_or_imp, btA]
    refine c31 b _ (.inr rfl) (by omega) hr ?_
    simp only [OI0, OI1, OI2, OI3, OI4, OI5, OI6, OI7, OI8, OI9, OI10, OI11, OI12, reduceIte, reduceCtorEq, Nat.reduceAdd, Nat.reduceEqDiff, Nat.reduceBEq, Nat.reduceLT, Nat.reduceLeDiff, Nat.reduceMul, Nat.reduceSub, Int.reduceLE, Int.reduceLT, Int.reduceEq, Int.reduceBEq, Int.reduceBNe, Int.reduceToNat, Int.reduceNeg, Nat.reduceBNe, forall_eq_or_imp, btA, strV, i64A]
    refine c33 b _ hc (by omega) hr ?_
    simp only [OI0, OI1, OI2, OI3, OI4, OI5, OI6, OI7, OI8, OI9, OI10, OI11, OI12, reduceIte, reduceCtorEq, Nat.reduceAdd, Nat.reduceEqDiff, Nat.reduceBEq, Nat.reduceLT, Nat.reduceLeDiff, Nat.reduceMul, Nat.reduceSub, Int.reduceLE, Int.reduceLT, Int.reduceEq, Int.reduceBEq, Int.reduceBNe, Int.reduceToNat, Int.reduceNeg, Nat.reduceBNe, forall_eq_or_imp, btA, strV, i64A]
    refine W_drawnCut ok6.small hmix (fun _ : Unit => ⟨[(1, strV s), (47, .v (.bool false))], [(9999, .ext I)], []⟩) (fun _ => True) (fun _ _ => rfl) ?_ ?_
    · apply NT_sound
      simp only [OI0, OI1, OI2, OI3, OI4, OI5, OI6, OI7, OI8, OI9, OI10, OI11, OI12, reduceIte, reduceCtorEq, Nat.reduceAdd, Nat.reduceEqDiff, Nat.reduceBEq, Nat.reduceLT, Nat.reduceLeDiff, Nat.reduceMul, Nat.reduceSub, Int.reduceLE, Int.reduceLT, Int.reduceEq, Int.reduceBEq, Int.reduceBNe, Int.reduceToNat, Int.reduceNeg, Nat.reduceBNe, forall_eq_or_imp]
      refine ⟨?_, ?_⟩
      · refine c32 b _ hc (by omega) ?_
        simp only [OI0, OI1, OI2, OI3, OI4, OI5, OI6, OI7, OI8, OI9, OI10, OI11, OI12, reduceIte, reduceCtorEq, Nat.reduceAdd, Nat.reduceEqDiff, Nat.reduceBEq, Nat.reduceLT, Nat.reduceLeDiff, Nat.reduceMul, Nat.reduceSub, Int.reduceLE, Int.reduceLT, Int.reduceEq, Int.reduceBEq, Int.reduceBNe, Int.reduceToNat, Int.reduceNeg, Nat.reduceBNe, forall_eq_or_imp, btA]
        refine ⟨?_, ?_⟩ <;>
        · refine c34 b _ (.inr rfl) (by omega) ?_
          simp only [OI0, OI1, OI2, OI3, OI4, OI5, OI6, OI7, OI8, OI9, OI10, OI11, OI12, reduceIte, reduceCtorEq, Nat.reduceAdd, Nat.reduceEqDiff, Nat.reduceBEq, Nat.reduceLT, Nat.reduceLeDiff, Nat.reduceMul, Nat.reduceSub, Int.reduceLE, Int.reduceLT, Int.reduceEq, Int.reduceBEq, Int.reduceBNe, Int.reduceToNat, Int.reduceNeg, Nat.reduceBNe, forall_eq_or_imp, btA, i64A]
          refine c35 b _ hc (by omega) ?_
          simp only [OI0, OI1, OI2, OI3, OI4, OI5, OI6, OI7, OI8, OI9, OI10, OI11, OI12, reduceIte, reduceCtorEq, Nat.reduceAdd, Nat.reduceEqDiff, Nat.reduceBEq, Nat.reduceLT, Nat.reduceLeDiff, Nat.reduceMul, Nat.reduceSub, Int.reduceLE, Int.reduceLT, Int.reduceEq, Int.reduceBEq, Int.reduceBNe, Int.reduceToNat, Int.reduceNeg, Nat.reduceBNe, forall_eq_or_imp, i64A, bne_self_eq_false, beq_self_eq_true]
          refine W_of_N ok6.small hmix ?_
          simp only [OI0, OI1, OI2, OI3, OI4, OI5, OI6, OI7, OI8, OI9, OI10, OI11, OI12, reduceIte, reduceCtorEq, Nat.reduceAdd, Nat.reduceEqDiff, Nat.reduceBEq, Nat.reduceLT, Nat.reduceLeDiff, Nat.reduceMul, Nat.reduceSub, Int.reduceLE, Int.reduceLT, Int.reduceEq, Int.reduceBEq, Int.reduceBNe, Int.reduceToNat, Int.reduceNeg, Nat.reduceBNe, forall_eq_or_imp]
          refine ⟨(), trivial, ?_⟩
          simp only [OI0, OI1, OI2, OI3, OI4, OI5, OI6, OI7, OI8, OI9, OI10, OI11, OI12, reduceIte, reduceCtorEq, Nat.reduceAdd, Nat.reduceEqDiff, Nat.reduceBEq, Nat.reduceLT, Nat.reduceLeDiff, Nat.reduceMul, Nat.reduceSub, Int.reduceLE, Int.reduceLT, Int.reduceEq, Int.reduceBEq, Int.reduceBNe, Int.reduceToNat, Int.reduceNeg, Nat.reduceBNe, forall_eq_or_imp, strV]
      · refine c32 b _ hc (by omega) ?_
        simp only [OI0, OI1, OI2, OI3, OI4, OI5, OI6, OI7, OI8, OI9, OI10, OI11, OI12, reduceIte, reduceCtorEq, Nat.reduceAdd, Nat.reduceEqDiff, Nat.reduceBEq, Nat.reduceLT, Nat.reduceLeDiff, Nat.reduceMul, Nat.reduceSub, Int.reduceLE, Int.reduceLT, Int.reduceEq, Int.reduceBEq, Int.reduceBNe, Int.reduceToNat, Int.reduceNeg, Nat.reduceBNe, forall_eq_or_imp, btA]
        refine c34 b _ (.inr rfl) (by omega) ?_
        simp only [OI0, OI1, OI2, OI3, OI4, OI5, OI6, OI7, OI8, OI9, OI10, OI11, OI12, reduceIte, reduceCtorEq, Nat.reduceAdd, Nat.reduceEqDiff, Nat.reduceBEq, Nat.reduceLT, Nat.reduceLeDiff, Nat.reduceMul, Nat.reduceSub, Int.reduceLE, Int.reduceLT, Int.reduceEq, Int.reduceBEq, Int.reduceBNe, Int.reduceToNat, Int.reduceNeg, Nat.reduceBNe, forall_eq_or_imp, btA, i64A]
        refine c35 b _ hc (by omega) ?_
        simp only [OI0, OI1, OI2, OI3, OI4, OI5, OI6, OI7, OI8, OI9, OI10, OI11, OI12, reduceIte, reduceCtorEq, Nat.reduceAdd, Nat.reduceEqDiff, Nat.reduceBEq, Nat.reduceLT, Nat.reduceLeDiff, Nat.reduceMul, Nat.reduceSub, Int.reduceLE, Int.reduceLT, Int.reduceEq, Int.reduceBEq, Int.reduceBNe, Int.reduceToNat, Int.reduceNeg, Nat.reduceBNe, forall_eq_or_imp, i64A, bne_self_eq_false, beq_self_eq_true]
        refine W_of_N ok6.small hmix ?_
        simp only [OI0, OI1, OI2, OI3, OI4, OI5, OI6, OI7, OI8, OI9, OI10, OI11, OI12, reduceIte, reduceCtorEq, Nat.reduceAdd, Nat.reduceEqDiff, Nat.reduceBEq, Nat.reduceLT, Nat.reduceLeDiff, Nat.reduceMul, Nat.reduceSub, Int.reduceLE, Int.reduceLT, Int.reduceEq, Int.reduceBEq, Int.reduceBNe, Int.reduceToNat, Int.reduceNeg, Nat.reduceBNe, forall_eq_or_imp]
        refine ⟨(), trivial, ?_⟩
        simp only [OI0, OI1, OI2, OI3, OI4, OI5, OI6, OI7, OI8, OI9, OI10, OI11, OI12, reduceIte, reduceCtorEq, Nat.reduceAdd, Nat.reduceEqDiff, Nat.reduceBEq, Nat.reduceLT, Nat.reduceLeDiff, Nat.reduceMul, Nat.reduceSub, Int.reduceLE, Int.reduceLT, Int.reduceEq, Int.reduceBEq, Int.reduceBNe, Int.reduceToNat, Int.reduceNeg, Nat.reduceBNe, forall_eq_or_imp, strV]
    · intro _ _
      refine W_of_N ok6.small hmix ?_
      simp only [OI0, OI1, OI2, OI3, OI4, OI5, OI6, OI7, OI8, OI9, OI10, OI11, OI12, reduceIte, reduceCtorEq, Nat.reduceAdd, Nat.reduceEqDiff, Nat.reduceBEq, Nat.reduceLT, Nat.reduceLeDiff, Nat.reduceMul, Nat.reduceSub, Int.reduceLE, Int.reduceLT, Int.reduceEq, Int.reduceBEq, Int.reduceBNe, Int.reduceToNat, Int.reduceNeg, Nat.reduceBNe, forall_eq_or_imp, strV]
      refine c36 s ?_
      simp only [OI0, OI1, OI2, OI3, OI4, OI5, OI6, OI7, OI8, OI9, OI10, OI11, OI12, reduceIte, reduceCtorEq, Nat.reduceAdd, Nat.reduceEqDiff, Nat.reduceBEq, Nat.reduceLT, Nat.reduceLeDiff, Nat.reduceMul, Nat.reduceSub, Int.reduceLE, Int.reduceLT, Int.reduceEq, Int.reduceBEq, Int.reduceBNe, Int.reduceToNat, Int.reduceNeg, Nat.reduceBNe, forall_eq_or_imp, rdA]
      refine W_loop (st6 I s) (fun a => a.1 ≤ 2 ∧ a.2.1 ≤ s.length) (fun a => 2 - a.1) (fun _ _ => rfl) ⟨(0, 0, 0), ⟨by simp, by simp⟩, ?_⟩ ?_
      · simp only [OI0, OI1, OI2, OI3, OI4, OI5, OI6, OI7, OI8, OI9, OI10, OI11, OI12, reduceIte, reduceCtorEq, Nat.reduceAdd, Nat.reduceEqDiff, Nat.reduceBEq, Nat.reduceLT, Nat.reduceLeDiff, Nat.reduceMul, Nat.reduceSub, Int.reduceLE, Int.reduceLT, Int.reduceEq, Int.reduceBEq, Int.reduceBNe, Int.reduceToNat, Int.reduceNeg, Nat.reduceBNe, forall_eq_or_imp, st6, rfA, rdA, List.drop_zero]
        try rfl
      rintro ⟨i, p, e⟩ ⟨h1, h2⟩
      simp only at h1 h2
      refine W_of_N ok6.small hmix ?_
      by_cases hi : i < 2
      · have hi' : (i : Int) < 2 := by omega
        have w1 : IntKind.i64.wrap ((i : Int) + 1) = ((i + 1 : Nat) : Int) := by rw [wrap_i64 (by omega) (by omega)]; omega
        simp only [OI0, OI1, OI2, OI3, OI4, OI5, OI6, OI7, OI8, OI9, OI10, OI11, OI12, reduceIte, reduceCtorEq, Nat.reduceAdd, Nat.reduceEqDiff, Nat.reduceBEq, Nat.reduceLT, Nat.reduceLeDiff, Nat.reduceMul, Nat.reduceSub, Int.reduceLE, Int.reduceLT, Int.reduceEq, Int.reduceBEq, Int.reduceBNe, Int.reduceToNat, Int.reduceNeg, Nat.reduceBNe, forall_eq_or_imp, st6, rfA, rdA, hi']
        refine W_drawn ok6.small hmix (NT_sound _ ?_)
        simp only [OI0, OI1, OI2, OI3, OI4, OI5, OI6, OI7, OI8, OI9, OI10, OI11, OI12, reduceIte, reduceCtorEq, Nat.reduceAdd, Nat.reduceEqDiff, Nat.reduceBEq, Nat.reduceLT, Nat.reduceLeDiff, Nat.reduceMul, Nat.reduceSub, Int.reduceLE, Int.reduceLT, Int.reduceEq, Int.reduceBEq, Int.reduceBNe, Int.reduceToNat, Int.reduceNeg, Nat.reduceBNe, forall_eq_or_imp]
        have hle := batM_le (e := e) h2
        have hl64 := batM_len s p e
        have h38 := fun (Q : AV → Al → Prop) hq => c38 s p e (by omega) h2 (Q := Q) hq
        have h39 := fun (Q : AV → Al → Prop) hq => c39 s p e (by omega) h2 (Q := Q) hq
        generalize batM s p e = R at hle hl64 h38 h39
        obtain ⟨b2, p2, e2⟩ := R
        simp only at hle hl64 h38 h39
        refine h38 _ ?_
        intro d1 hd1
        rcases roL_cases hd1 with ⟨rfl, hd⟩ | rfl <;>
        · simp only [OI0, OI1, OI2, OI3, OI4, OI5, OI6, OI7, OI8, OI9, OI10, OI11, OI12, reduceIte, reduceCtorEq, Nat.reduceAdd, Nat.reduceEqDiff, Nat.reduceBEq, Nat.reduceLT, Nat.reduceLeDiff, Nat.reduceMul, Nat.reduceSub, Int.reduceLE, Int.reduceLT, Int.reduceEq, Int.reduceBEq, Int.reduceBNe, Int.reduceToNat, Int.reduceNeg, Nat.reduceBNe, forall_eq_or_imp, btA, rdA]
          refine h39 _ ?_
          intro d2 hd2
          rcases roL_cases hd2 with ⟨rfl, hd'⟩ | rfl <;>
          · simp only [OI0, OI1, OI2, OI3, OI4, OI5, OI6, OI7, OI8, OI9, OI10, OI11, OI12, reduceIte, reduceCtorEq, Nat.reduceAdd, Nat.reduceEqDiff, Nat.reduceBEq, Nat.reduceLT, Nat.reduceLeDiff, Nat.reduceMul, Nat.reduceSub, Int.reduceLE, Int.reduceLT, Int.reduceEq, Int.reduceBEq, Int.reduceBNe, Int.reduceToNat, Int.reduceNeg, Nat.reduceBNe, forall_eq_or_imp, btA, rfA]
            refine c37 b2 _ _ hd1 hd2 (by omega) ?_
            simp only [OI0, OI1, OI2, OI3, OI4, OI5, OI6, OI7, OI8, OI9, OI10, OI11, OI12, reduceIte, reduceCtorEq, Nat.reduceAdd, Nat.reduceEqDiff, Nat.reduceBEq, Nat.reduceLT, Nat.reduceLeDiff, Nat.reduceMul, Nat.reduceSub, Int.reduceLE, Int.reduceLT, Int.reduceEq, Int.reduceBEq, Int.reduceBNe, Int.reduceToNat, Int.reduceNeg, Nat.reduceBNe, forall_eq_or_imp]
            refine ⟨?_, ?_⟩ <;>
            · refine c40 (s.drop p2) e2 ?_
              simp only [OI0, OI1, OI2, OI3, OI4, OI5, OI6, OI7, OI8, OI9, OI10, OI11, OI12, reduceIte, reduceCtorEq, Nat.reduceAdd, Nat.reduceEqDiff, Nat.reduceBEq, Nat.reduceLT, Nat.reduceLeDiff, Nat.reduceMul, Nat.reduceSub, Int.reduceLE, Int.reduceLT, Int.reduceEq, Int.reduceBEq, Int.reduceBNe, Int.reduceToNat, Int.reduceNeg, Nat.reduceBNe, forall_eq_or_imp, i64A, bne_self_eq_false, rfA, rdA]
              refine c41 (s.drop p2) e2 ?_
              simp only [OI0, OI1, OI2, OI3, OI4, OI5, OI6, OI7, OI8, OI9, OI10, OI11, OI12, reduceIte, reduceCtorEq, Nat.reduceAdd, Nat.reduceEqDiff, Nat.reduceBEq, Nat.reduceLT, Nat.reduceLeDiff, Nat.reduceMul, Nat.reduceSub, Int.reduceLE, Int.reduceLT, Int.reduceEq, Int.reduceBEq, Int.reduceBNe, Int.reduceToNat, Int.reduceNeg, Nat.reduceBNe, forall_eq_or_imp, i64A, bne_self_eq_false, rfA, rdA]
              refine c42 s p2 e2 (by omega) hle ?_
              simp only [OI0, OI1, OI2, OI3, OI4, OI5, OI6, OI7, OI8, OI9, OI10, OI11, OI12, reduceIte, reduceCtorEq, Nat.reduceAdd, Nat.reduceEqDiff, Nat.reduceBEq, Nat.reduceLT, Nat.reduceLeDiff, Nat.reduceMul, Nat.reduceSub, Int.reduceLE, Int.reduceLT, Int.reduceEq, Int.reduceBEq, Int.reduceBNe, Int.reduceToNat, Int.reduceNeg, Nat.reduceBNe, forall_eq_or_imp, i64A, bne_self_eq_false, rfA, rdA]
              refine W_of_N ok6.small hmix ?_
              simp only [OI0, OI1, OI2, OI3, OI4, OI5, OI6, OI7, OI8, OI9, OI10, OI11, OI12, reduceIte, reduceCtorEq, Nat.reduceAdd, Nat.reduceEqDiff, Nat.reduceBEq, Nat.reduceLT, Nat.reduceLeDiff, Nat.reduceMul, Nat.reduceSub, Int.reduceLE, Int.reduceLT, Int.reduceEq, Int.reduceBEq, Int.reduceBNe, Int.reduceToNat, Int.reduceNeg, Nat.reduceBNe, forall_eq_or_imp, w1]
              refine ⟨(i + 1, p2, e2), ⟨⟨hi, hle⟩, by simp only; omega⟩, ?_⟩
              simp only [OI0, OI1, OI2, OI3, OI4, OI5, OI6, OI7, OI8, OI9, OI10, OI11, OI12, reduceIte, reduceCtorEq, Nat.reduceAdd, Nat.reduceEqDiff, Nat.reduceBEq, Nat.reduceLT, Nat.reduceLeDiff, Nat.reduceMul, Nat.reduceSub, Int.reduceLE, Int.reduceLT, Int.reduceEq, Int.reduceBEq, Int.reduceBNe, Int.reduceToNat, Int.reduceNeg, Nat.reduceBNe, forall_eq_or_imp, st6, rfA, rdA]
      · obtain rfl : i = 2 := by omega
        simp only [OI0, OI1, OI2, OI3, OI4, OI5, OI6, OI7, OI8, OI9, OI10, OI11, OI12, reduceIte, reduceCtorEq, Nat.reduceAdd, Nat.reduceEqDiff, Nat.reduceBEq, Nat.reduceLT, Nat.reduceLeDiff, Nat.reduceMul, Nat.reduceSub, Int.reduceLE, Int.reduceLT, Int.reduceEq, Int.reduceBEq, Int.reduceBNe, Int.reduceToNat, Int.reduceNeg, Nat.reduceBNe, forall_eq_or_imp, st6, rfA, rdA, Int.cast_ofNat_Int, Int.lt_irrefl]
        exact h
  · simp only [cc6, OI0, OI1, OI2, OI3, OI4, OI5, OI6, OI7, OI8, OI9, OI10, OI11, OI12, reduceIte, reduceCtorEq, Nat.reduceAdd, Nat.reduceEqDiff, Nat.reduceBEq, Nat.reduceLT, Nat.reduceLeDiff, Nat.reduceMul, Nat.reduceSub, Int.reduceLE, Int.reduceLT, Int.reduceEq, Int.reduceBEq, Int.reduceBNe, Int.reduceToNat, Int.reduceNeg, Nat.reduceBNe, forall_eq_or_imp, btA, strV, g1', g2', sz_mk]
    refine c32 b _ hc (by omega) ?_
    simp only [OI0, OI1, OI2, OI3, OI4, OI5, OI6, OI7, OI8, OI9, OI10, OI11, OI12, reduceIte, reduceCtorEq, Nat.reduceAdd, Nat.reduceEqDiff, Nat.reduceBEq, Nat.reduceLT, Nat.reduceLeDiff, Nat.reduceMul, Nat.reduceSub, Int.reduceLE, Int.reduceLT, Int.reduceEq, Int.reduceBEq, Int.reduceBNe, Int.reduceToNat, Int.reduceNeg, Nat.reduceBNe, forall_eq_or_imp, btA]
    refine c31 b _ (.inr rfl) (by omega) hr ?_
    simp only [OI0, OI1, OI2, OI3, OI4, OI5, OI6, OI7, OI8, OI9, OI10, OI11, OI12, reduceIte, reduceCtorEq, Nat.reduceAdd, Nat.reduceEqDiff, Nat.reduceBEq, Nat.reduceLT, Nat.reduceLeDiff, Nat.reduceMul, Nat.reduceSub, Int.reduceLE, Int.reduceLT, Int.reduceEq, Int.reduceBEq, Int.reduceBNe, Int.reduceToNat, Int.reduceNeg, Nat.reduceBNe, forall_eq_or_imp, btA, strV, i64A]
    refine c33 b _ hc (by omega) hr ?_
    simp only [OI0, OI1, OI2, OI3, OI4, OI5, OI6, OI7, OI8, OI9, OI10, OI11, OI12, reduceIte, reduceCtorEq, Nat.reduceAdd, Nat.reduceEqDiff, Nat.reduceBEq, Nat.reduceLT, Nat.reduceLeDiff, Nat.reduceMul, Nat.reduceSub, Int.reduceLE, Int.reduceLT, Int.reduceEq, Int.reduceBEq, Int.reduceBNe, Int.reduceToNat, Int.reduceNeg, Nat.reduceBNe, forall_eq_or_imp, btA, strV, i64A]
    refine W_drawnCut ok6.small hmix (fun _ : Unit => ⟨[(1, strV s), (47, .v (.bool false))], [(9999, .ext I)], []⟩) (fun _ => True) (fun _ _ => rfl) ?_ ?_
    · apply NT_sound
      simp only [OI0, OI1, OI2, OI3, OI4, OI5, OI6, OI7, OI8, OI9, OI10, OI11, OI12, reduceIte, reduceCtorEq, Nat.reduceAdd, Nat.reduceEqDiff, Nat.reduceBEq, Nat.reduceLT, Nat.reduceLeDiff, Nat.reduceMul, Nat.reduceSub, Int.reduceLE, Int.reduceLT, Int.reduceEq, Int.reduceBEq, Int.reduceBNe, Int.reduceToNat, Int.reduceNeg, Nat.reduceBNe, forall_eq_or_imp]
      refine ⟨?_, ?_⟩
      · refine c32 b _ hc (by omega) ?_
        simp only [OI0, OI1, OI2, OI3, OI4, OI5, OI6, OI7, OI8, OI9, OI10, OI11, OI12, reduceIte, reduceCtorEq, Nat.reduceAdd, Nat.reduceEqDiff, Nat.reduceBEq, Nat.reduceLT, Nat.reduceLeDiff, Nat.reduceMul, Nat.reduceSub, Int.reduceLE, Int.reduceLT, Int.reduceEq, Int.reduceBEq, Int.reduceBNe, Int.reduceToNat, Int.reduceNeg, Nat.reduceBNe, forall_eq_or_imp, btA]
        refine ⟨?_, ?_⟩ <;>
        · refine c34 b _ (.inr rfl) (by omega) ?_
          simp only [OI0, OI1, OI2, OI3, OI4, OI5, OI6, OI7, OI8, OI9, OI10, OI11, OI12, reduceIte, reduceCtorEq, Nat.reduceAdd, Nat.reduceEqDiff, Nat.reduceBEq, Nat.reduceLT, Nat.reduceLeDiff, Nat.reduceMul, Nat.reduceSub, Int.reduceLE, Int.reduceLT, Int.reduceEq, Int.reduceBEq, Int.reduceBNe, Int.reduceToNat, Int.reduceNeg, Nat.reduceBNe, forall_eq_or_imp, btA, i64A]
          refine c35 b _ hc (by omega) ?_
          simp only [OI0, OI1, OI2, OI3, OI4, OI5, OI6, OI7, OI8, OI9, OI10, OI11, OI12, reduceIte, reduceCtorEq, Nat.reduceAdd, Nat.reduceEqDiff, Nat.reduceBEq, Nat.reduceLT, Nat.reduceLeDiff, Nat.reduceMul, Nat.reduceSub, Int.reduceLE, Int.reduceLT, Int.reduceEq, Int.reduceBEq, Int.reduceBNe, Int.reduceToNat, Int.reduceNeg, Nat.reduceBNe, forall_eq_or_imp, i64A, bne_self_eq_false, beq_self_eq_true]
          refine W_of_N ok6.small hmix ?_
          simp only [OI0, OI1, OI2, OI3, OI4, OI5, OI6, OI7, OI8, OI9, OI10, OI11, OI12, reduceIte, reduceCtorEq, Nat.reduceAdd, Nat.reduceEqDiff, Nat.reduceBEq, Nat.reduceLT, Nat.reduceLeDiff, Nat.reduceMul, Nat.reduceSub, Int.reduceLE, Int.reduceLT, Int.reduceEq, Int.reduceBEq, Int.reduceBNe, Int.reduceToNat, Int.reduceNeg, Nat.reduceBNe, forall_eq_or_imp]
          refine ⟨(), trivial, ?_⟩
          simp only [OI0, OI1, OI2, OI3, OI4, OI5, OI6, OI7, OI8, OI9, OI10, OI11, OI12, reduceIte, reduceCtorEq, Nat.reduceAdd, Nat.reduceEqDiff, Nat.reduceBEq, Nat.reduceLT, Nat.reduceLeDiff, Nat.reduceMul, Nat.reduceSub, Int.reduceLE, Int.reduceLT, Int.reduceEq, Int.reduceBEq, Int.reduceBNe, Int.reduceToNat, Int.reduceNeg, Nat.reduceBNe, forall_eq_or_imp, strV]
      · refine c32 b _ hc (by omega) ?_
        simp only [OI0, OI1, OI2, OI3, OI4, OI5, OI6, OI7, OI8, OI9, OI10, OI11, OI12, reduceIte, reduceCtorEq, Nat.reduceAdd, Nat.reduceEqDiff, Nat.reduceBEq, Nat.reduceLT, Nat.reduceLeDiff, Nat.reduceMul, Nat.reduceSub, Int.reduceLE, Int.reduceLT, Int.reduceEq, Int.reduceBEq, Int.reduceBNe, Int.reduceToNat, Int.reduceNeg, Nat.reduceBNe, forall_eq_or_imp, btA]
        refine c34 b _ (.inr rfl) (by omega) ?_
        simp only [OI0, OI1, OI2, OI3, OI4, OI5, OI6, OI7, OI8, OI9, OI10, OI11, OI12, reduceIte, reduceCtorEq, Nat.reduceAdd, Nat.reduceEqDiff, Nat.reduceBEq, Nat.reduceLT, Nat.reduceLeDiff, Nat.reduceMul, Nat.reduceSub, Int.reduceLE, Int.reduceLT, Int.reduceEq, Int.reduceBEq, Int.reduceBNe, Int.reduceToNat, Int.reduceNeg, Nat.reduceBNe, forall_eq_or_imp, btA, i64A]
        refine c35 b _ hc (by omega) ?_
        simp only [OI0, OI1, OI2, OI3, OI4, OI5, OI6, OI7, OI8, OI9, OI10, OI11, OI12, reduceIte, reduceCtorEq, Nat.reduceAdd, Nat.reduceEqDiff, Nat.reduceBEq, Nat.reduceLT, Nat.reduceLeDiff, Nat.reduceMul, Nat.reduceSub, Int.reduceLE, Int.reduceLT, Int.reduceEq, Int.reduceBEq, Int.reduceBNe, Int.reduceToNat, Int.reduceNeg, Nat.reduceBNe, forall_eq_or_imp, i64A, bne_self_eq_false, beq_self_eq_true]
        refine W_of_N ok6.small hmix ?_
        simp only [OI0, OI1, OI2, OI3, OI4, OI5, OI6, OI7, OI8, OI9, OI10, OI11, OI12, reduceIte, reduceCtorEq, Nat.reduceAdd, Nat.reduceEqDiff, Nat.reduceBEq, Nat.reduceLT, Nat.reduceLeDiff, Nat.reduceMul, Nat.reduceSub, Int.reduceLE, Int.reduceLT, Int.reduceEq, Int.reduceBEq, Int.reduceBNe, Int.reduceToNat, Int.reduceNeg, Nat.reduceBNe, forall_eq_or_imp]
        refine ⟨(), trivial, ?_⟩
        simp only [OI0, OI1, OI2, OI3, OI4, OI5, OI6, OI7, OI8, OI9, OI10, OI11, OI12, reduceIte, reduceCtorEq, Nat.reduceAdd, Nat.reduceEqDiff, Nat.reduceBEq, Nat.reduceLT, Nat.reduceLeDiff, Nat.reduceMul, Nat.reduceSub, Int.reduceLE, Int.reduceLT, Int.reduceEq, Int.reduceBEq, Int.reduceBNe, Int.reduceToNat, Int.reduceNeg, Nat.reduceBNe, forall_eq_or_imp, strV]
    · intro _ _
      refine W_of_N ok6.small hmix ?_
      simp only [OI0, OI1, OI2, OI3, OI4, OI5, OI6, OI7, OI8, OI9, OI10, OI11, OI12, reduceIte, reduceCtorEq, Nat.reduceAdd, Nat.reduceEqDiff, Nat.reduceBEq, Nat.reduceLT, Nat.reduceLeDiff, Nat.reduceMul, Nat.reduceSub, Int.reduceLE, Int.reduceLT, Int.reduceEq, Int.reduceBEq, Int.reduceBNe, Int.reduceToNat, Int.reduceNeg, Nat.reduceBNe, forall_eq_or_imp, strV]
      refine c36 s ?_
      simp only [OI0, OI1, OI2, OI3, OI4, OI5, OI6, OI7, OI8, OI9, OI10, OI11, OI12, reduceIte, reduceCtorEq, Nat.reduceAdd, Nat.reduceEqDiff, Nat.reduceBEq, Nat.reduceLT, Nat.reduceLeDiff, Nat.reduceMul, Nat.reduceSub, Int.reduceLE, Int.reduceLT, Int.reduceEq, Int.reduceBEq, Int.reduceBNe, Int.reduceToNat, Int.reduceNeg, Nat.reduceBNe, forall_eq_or_imp, rdA]
      refine W_loop (st6 I s) (fun a => a.1 ≤ 2 ∧ a.2.1 ≤ s.length) (fun a => 2 - a.1) (fun _ _ => rfl) ⟨(0, 0, 0), ⟨by simp, by simp⟩, ?_⟩ ?_
      · simp only [OI0, OI1, OI2, OI3, OI4, OI5, OI6, OI7, OI8, OI9, OI10, OI11, OI12, reduceIte, reduceCtorEq, Nat.reduceAdd, Nat.reduceEqDiff, Nat.reduceBEq, Nat.reduceLT, Nat.reduceLeDiff, Nat.reduceMul, Nat.reduceSub, Int.reduceLE, Int.reduceLT, Int.reduceEq, Int.reduceBEq, Int.reduceBNe, Int.reduceToNat, Int.reduceNeg, Nat.reduceBNe, forall_eq_or_imp, st6, rfA, rdA, List.drop_zero]
        try rfl
      rintro ⟨i, p, e⟩ ⟨h1, h2⟩
      simp only at h1 h2
      refine W_of_N ok6.small hmix ?_
      by_cases hi : i < 2
      · have hi' : (i : Int) < 2 := by omega
        have w1 : IntKind.i64.wrap ((i : Int) + 1) = ((i + 1 : Nat) : Int) := by rw [wrap_i64 (by omega) (by omega)]; omega
        simp only [OI0, OI1, OI2, OI3, OI4, OI5, OI6, OI7, OI8, OI9, OI10, OI11, OI12, reduceIte, reduceCtorEq, Nat.reduceAdd, Nat.reduceEqDiff, Nat.reduceBEq, Nat.reduceLT, Nat.reduceLeDiff, Nat.reduceMul, Nat.reduceSub, Int.reduceLE, Int.reduceLT, Int.reduceEq, Int.reduceBEq, Int.reduceBNe, Int.reduceToNat, Int.reduceNeg, Nat.reduceBNe, forall_eq_or_imp, st6, rfA, rdA, hi']
        refine W_drawn ok6.small hmix (NT_sound _ ?_)
        simp only [OI0, OI1, OI2, OI3, OI4, OI5, OI6, OI7, OI8, OI9, OI10, OI11, OI12, reduceIte, reduceCtorEq, Nat.reduceAdd, Nat.reduceEqDiff, Nat.reduceBEq, Nat.reduceLT, Nat.reduceLeDiff, Nat.reduceMul, Nat.reduceSub, Int.reduceLE, Int.reduceLT, Int.reduceEq, Int.reduceBEq, Int.reduceBNe, Int.reduceToNat, Int.reduceNeg, Nat.reduceBNe, forall_eq_or_imp]
        have hle := batM_le (e := e) h2
        have hl64 := batM_len s p e
        have h38 := fun (Q : AV → Al → Prop) hq => c38 s p e (by omega) h2 (Q := Q) hq
        have h39 := fun (Q : AV → Al → Prop) hq => c39 s p e (by omega) h2 (Q := Q) hq
        generalize batM s p e = R at hle hl64 h38 h39
        obtain ⟨b2, p2, e2⟩ := R
        simp only at hle hl64 h38 h39
        refine h38 _ ?_
        intro d1 hd1
        rcases roL_cases hd1 with ⟨rfl, hd⟩ | rfl <;>
        · simp only [OI0, OI1, OI2, OI3, OI4, OI5, OI6, OI7, OI8, OI9, OI10, OI11, OI12, reduceIte, reduceCtorEq, Nat.reduceAdd, Nat.reduceEqDiff, Nat.reduceBEq, Nat.reduceLT, Nat.reduceLeDiff, Nat.reduceMul, Nat.reduceSub, Int.reduceLE, Int.reduceLT, Int.reduceEq, Int.reduceBEq, Int.reduceBNe, Int.reduceToNat, Int.reduceNeg, Nat.reduceBNe, forall_eq_or_imp, btA, rdA]
          refine h39 _ ?_
          intro d2 hd2
          rcases roL_cases hd2 with ⟨rfl, hd'⟩ | rfl <;>
          · simp only [OI0, OI1, OI2, OI3, OI4, OI5, OI6, OI7, OI8, OI9, OI10, OI11, OI12, reduceIte, reduceCtorEq, Nat.reduceAdd, Nat.reduceEqDiff, Nat.reduceBEq, Nat.reduceLT, Nat.reduceLeDiff, Nat.reduceMul, Nat.reduceSub, Int.reduceLE, Int.reduceLT, Int.reduceEq, Int.reduceBEq, Int.reduceBNe, Int.reduceToNat, Int.reduceNeg, Nat.reduceBNe, forall_eq_or_imp, btA, rfA]
            refine c37 b2 _ _ hd1 hd2 (by omega) ?_
            simp only [OI0, OI1, OI2, OI3, OI4, OI5, OI6, OI7, OI8, OI9, OI10, OI11, OI12, reduceIte, reduceCtorEq, Nat.reduceAdd, Nat.reduceEqDiff, Nat.reduceBEq, Nat.reduceLT, Nat.reduceLeDiff, Nat.reduceMul, Nat.reduceSub, Int.reduceLE, Int.reduceLT, Int.reduceEq, Int.reduceBEq, Int.reduceBNe, Int.reduceToNat, Int.reduceNeg, Nat.reduceBNe, forall_eq_or_imp]
            refine ⟨?_, ?_⟩ <;>
            · refine c40 (s.drop p2) e2 ?_
              simp only [OI0, OI1, OI2, OI3, OI4, OI5, OI6, OI7, OI8, OI9, OI10, OI11, OI12, reduceIte, reduceCtorEq, Nat.reduceAdd, Nat.reduceEqDiff, Nat.reduceBEq, Nat.reduceLT, Nat.reduceLeDiff, Nat.reduceMul, Nat.reduceSub, Int.reduceLE, Int.reduceLT, Int.reduceEq, Int.reduceBEq, Int.reduceBNe, Int.reduceToNat, Int.reduceNeg, Nat.reduceBNe, forall_eq_or_imp, i64A, bne_self_eq_false, rfA, rdA]
              refine c41 (s.drop p2) e2 ?_
              simp only [OI0, OI1, OI2, OI3, OI4, OI5, OI6, OI7, OI8, OI9, OI10, OI11, OI12, reduceIte, reduceCtorEq, Nat.reduceAdd, Nat.reduceEqDiff, Nat.reduceBEq, Nat.reduceLT, Nat.reduceLeDiff, Nat.reduceMul, Nat.reduceSub, Int.reduceLE, Int.reduceLT, Int.reduceEq, Int.reduceBEq, Int.reduceBNe, Int.reduceToNat, Int.reduceNeg, Nat.reduceBNe, forall_eq_or_imp, i64A, bne_self_eq_false, rfA, rdA]
              refine c42 s p2 e2 (by omega) hle ?_
              simp only [OI0, OI1, OI2, OI3, OI4, OI5, OI6, OI7, OI8, OI9, OI10, OI11, OI12, reduceIte, reduceCtorEq, Nat.reduceAdd, Nat.reduceEqDiff, Nat.reduceBEq, Nat.reduceLT, Nat.reduceLeDiff, Nat.reduceMul, Nat.reduceSub, Int.reduceLE, Int.reduceLT, Int.reduceEq, Int.reduceBEq, Int.reduceBNe, Int.reduceToNat, Int.reduceNeg, Nat.reduceBNe, forall_eq_or_imp, i64A, bne_self_eq_false, rfA, rdA]
              refine W_of_N ok6.small hmix ?_
              simp only [OI0, OI1, OI2, OI3, OI4, OI5, OI6, OI7, OI8, OI9, OI10, OI11, OI12, reduceIte, reduceCtorEq, Nat.reduceAdd, Nat.reduceEqDiff, Nat.reduceBEq, Nat.reduceLT, Nat.reduceLeDiff, Nat.reduceMul, Nat.reduceSub, Int.reduceLE, Int.reduceLT, Int.reduceEq, Int.reduceBEq, Int.reduceBNe, Int.reduceToNat, Int.reduceNeg, Nat.reduceBNe, forall_eq_or_imp, w1]
              refine ⟨(i + 1, p2, e2), ⟨⟨hi, hle⟩, by simp only; omega⟩, ?_⟩
              simp only [OI0, OI1, OI2, OI3, OI4, OI5, OI6, OI7, OI8, OI9, OI10, OI11, OI12, reduceIte, reduceCtorEq, Nat.reduceAdd, Nat.reduceEqDiff, Nat.reduceBEq, Nat.reduceLT, Nat.reduceLeDiff, Nat.reduceMul, Nat.reduceSub, Int.reduceLE, Int.reduceLT, Int.reduceEq, Int.reduceBEq, Int.reduceBNe, Int.reduceToNat, Int.reduceNeg, Nat.reduceBNe, forall_eq_or_imp, st6, rfA, rdA]
      · obtain rfl : i = 2 := by omega
        simp only [OI0, OI1, OI2, OI3, OI4, OI5, OI6, OI7, OI8, OI9, OI10, OI11, OI12, reduceIte, reduceCtorEq, Nat.reduceAdd, Nat.reduceEqDiff, Nat.reduceBEq, Nat.reduceLT, Nat.reduceLeDiff, Nat.reduceMul, Nat.reduceSub, Int.reduceLE, Int.reduceLT, Int.reduceEq, Int.reduceBEq, Int.reduceBNe, Int.reduceToNat, Int.reduceNeg, Nat.reduceBNe, forall_eq_or_imp, st6, rfA, rdA, Int.cast_ofNat_Int, Int.lt_irrefl]
        exact h
end Go.Proofs.Ythlehngbadianaa.Ow
