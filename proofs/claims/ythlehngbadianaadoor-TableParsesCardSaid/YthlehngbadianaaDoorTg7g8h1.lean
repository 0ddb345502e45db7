/- What the functions of the program do, each once: contracts of the logic (part g7 g8 h1). -/
import Derived.Test.YthlehngbadianaaDoorTg6
set_option linter.unusedVariables false
set_option linter.unusedSimpArgs false
set_option linter.unnecessarySimpa false
set_option maxRecDepth 100000
set_option maxHeartbeats 4000000
namespace Go.Proofs.YthlehngbadianaaDoor.Ow
open Go Go.RowKit Go.Proofs
/- (watershed/graph.Graph).channels -/
def cc159 : CC := (.seq (.region [⟨none, 1, (.box 0), [0], none, []⟩, ⟨none, 2, (.val (.mv (.c (.int .i64 0)))), [2], none, []⟩]) (.seq (.region [⟨none, 6, (.val (.fnv 70 [(.s 1)])), [], none, []⟩, ⟨none, 3, (.val (.mv (.s 6))), [6], none, []⟩]) (.seq (.seq (.region [⟨none, 7, (.val (.fa (.s 1) 3)), [], none, []⟩, ⟨none, 8, (.val (.ld (.s 7) none)), [7], none, []⟩, ⟨none, 9, (.val (.lnl (.s 8) 2)), [], none, []⟩, ⟨none, 10, (.val (.mv (.c (.int .i64 0)))), [], none, []⟩]) (.block 0 (.loop (.seq (.region [⟨none, 11, (.val (.bin .lss (.s 10) (.s 9))), [], none, []⟩]) (.seq (.cond (.s 11) .skip (.exit 0)) (.seq (.block 1 (.seq (.region [⟨none, 12, (.val (.mv (.s 10))), [11], none, []⟩, ⟨none, 13, (.val (.ia (.s 8) (.s 10) 2)), [], none, []⟩, ⟨none, 14, (.val (.ld (.s 13) (some 2))), [13], none, []⟩, ⟨none, 5, (.alloc (.agg #[(.int .i64 0), (.int .i64 0)])), [], none, []⟩, ⟨none, 4, (.val (.mv (.s 12))), [12], none, []⟩, ⟨none, 0, (.store 2 (.s 5) (.s 14)), [14], none, []⟩]) (.block 2 (.seq (.region [⟨none, 16, (.val (.mv (.s 3))), [], none, []⟩, ⟨none, 17, (.val (.fa (.s 5) 0)), [], none, []⟩, ⟨none, 18, (.val (.ld (.s 17) none)), [17], none, []⟩, ⟨none, 19, (.callC (.s 16) [(.s 18)]), [16, 18], none, []⟩, ⟨none, 20, (.val (.un .not (.s 19))), [19], none, []⟩, ⟨none, 21, (.val (.mv (.s 20))), [20], none, []⟩, ⟨(some (21, false)), 22, (.val (.mv (.s 3))), [], none, []⟩, ⟨(some (21, false)), 23, (.val (.fa (.s 5) 1)), [], none, []⟩, ⟨(some (21, false)), 24, (.val (.ld (.s 23) none)), [], none, []⟩, ⟨(some (21, false)), 25, (.callC (.s 22) [(.s 24)]), [], none, []⟩, ⟨(some (21, false)), 26, (.val (.un .not (.s 25))), [], none, []⟩, ⟨none, 27, (.val (.pick (.s 21) (.c (.bool true)) (.s 26))), [21], none, []⟩, ⟨none, 15, (.val (.mv (.s 27))), [27], none, []⟩]) (.cond (.s 15) (.seq (.region [⟨none, 2, (.val (.mv (.c (.int .i64 1)))), [1, 3, 4, 5, 8, 9, 10, 15, 22, 23, 24, 25, 26, 38, 39, 40, 41, 42, 43, 44, 45], none, []⟩]) .ret) (.seq (.region [⟨none, 29, (.val (.fa (.s 1) 2)), [15], none, []⟩, ⟨none, 30, (.val (.ld (.s 29) none)), [29], none, []⟩, ⟨none, 31, (.val (.fa (.s 5) 0)), [], none, []⟩, ⟨none, 32, (.val (.ld (.s 31) none)), [31], none, []⟩, ⟨none, 33, (.val (.ia (.s 30) (.s 32) 6)), [30, 32], none, []⟩, ⟨none, 34, (.val (.fa (.s 33) 1)), [33], none, []⟩, ⟨none, 35, (.val (.ld (.s 34) none)), [34], none, []⟩, ⟨none, 36, (.val (.bin .eql (.s 35) (.c (.int .i64 2)))), [35], none, []⟩, ⟨none, 37, (.val (.mv (.s 36))), [36], none, []⟩, ⟨(some (37, false)), 38, (.val (.fa (.s 1) 2)), [], none, []⟩, ⟨(some (37, false)), 39, (.val (.ld (.s 38) none)), [], none, []⟩, ⟨(some (37, false)), 40, (.val (.fa (.s 5) 1)), [], none, []⟩, ⟨(some (37, false)), 41, (.val (.ld (.s 40) none)), [], none, []⟩, ⟨(some (37, false)), 42, (.val (.ia (.s 39) (.s 41) 6)), [], none, []⟩, ⟨(some (37, false)), 43, (.val (.fa (.s 42) 1)), [], none, []⟩, ⟨(some (37, false)), 44, (.val (.ld (.s 43) none)), [], none, []⟩, ⟨(some (37, false)), 45, (.val (.bin .eql (.s 44) (.c (.int .i64 1)))), [], none, []⟩, ⟨none, 46, (.val (.pick (.s 37) (.c (.bool true)) (.s 45))), [37], none, []⟩, ⟨none, 28, (.val (.mv (.s 46))), [46], none, []⟩]) (.cond (.s 28) (.seq (.region [⟨none, 2, (.val (.mv (.c (.int .i64 5)))), [1, 3, 4, 5, 8, 9, 10, 22, 23, 24, 25, 26, 28, 38, 39, 40, 41, 42, 43, 44, 45], none, []⟩]) .ret) (.seq (.region [⟨none, 48, (.val (.ld (.s 1) (some 4))), [28], none, []⟩, ⟨none, 49, (.val (.fa (.s 5) 0)), [], none, []⟩, ⟨none, 50, (.val (.ld (.s 49) none)), [49], none, []⟩, ⟨none, 51, (.val (.bin .mul (.c (.int .i64 2)) (.s 50))), [50], none, []⟩, ⟨none, 52, (.val (.bin .add (.s 51) (.c (.int .i64 1)))), [51], none, []⟩, ⟨none, 54, (.val (.ld (.s 1) (some 4))), [], none, []⟩, ⟨none, 55, (.val (.fa (.s 5) 1)), [], none, []⟩, ⟨none, 56, (.val (.ld (.s 55) none)), [55], none, []⟩, ⟨none, 57, (.val (.bin .mul (.c (.int .i64 2)) (.s 56))), [56], none, []⟩, ⟨none, 53, (.callP 71 [(.s 48), (.s 52)]), [48, 52], none, []⟩, ⟨none, 58, (.callP 71 [(.s 54), (.s 57)]), [54, 57], none, []⟩, ⟨none, 59, (.val (.bin .neq (.s 53) (.s 58))), [53, 58], none, []⟩, ⟨none, 47, (.val (.mv (.s 59))), [59], none, []⟩]) (.cond (.s 47) (.seq (.region [⟨none, 2, (.val (.mv (.c (.int .i64 10)))), [1, 3, 4, 5, 8, 9, 10, 22, 23, 24, 25, 26, 38, 39, 40, 41, 42, 43, 44, 45, 47], none, []⟩]) .ret) (.seq (.region [⟨none, 61, (.val (.fa (.s 1) 3)), [47], none, []⟩, ⟨none, 62, (.val (.ld (.s 61) none)), [61], none, []⟩, ⟨none, 63, (.val (.mv (.s 4))), [4], none, []⟩, ⟨none, 64, (.val (.sl (.s 62) none (some (.s 63)) none 2)), [62, 63], none, []⟩, ⟨none, 65, (.val (.ld (.s 5) (some 2))), [5], none, []⟩, ⟨none, 66, (.call 72 [(.s 64), (.s 65)]), [64, 65], none, []⟩, ⟨none, 60, (.val (.mv (.s 66))), [66], none, []⟩]) (.cond (.s 60) (.seq (.region [⟨none, 2, (.val (.mv (.c (.int .i64 4)))), [1, 3, 8, 9, 10, 22, 23, 24, 25, 26, 38, 39, 40, 41, 42, 43, 44, 45, 60], none, []⟩]) .ret) .skip))))))))))) (.region [⟨none, 67, (.val (.bin .add (.s 10) (.c (.int .i64 1)))), [10, 60], none, []⟩, ⟨none, 10, (.val (.mv (.s 67))), [67], none, []⟩]))))))) (.seq (.region [⟨none, 2, (.val (.mv (.c (.int .i64 0)))), [1, 3, 8, 9, 10, 11, 22, 23, 24, 25, 26, 38, 39, 40, 41, 42, 43, 44, 45], none, []⟩]) .ret))))
theorem ok159 : FnOk Tryd.prog 45 cc159 [(.t 2)] 1 68 := ⟨⟨_, Tryd.func45, by kernel_rfl, by kernel_rfl, by kernel_rfl⟩, by decide, by decide⟩
/- watershed/watershedref09.channel -/
def cc162 : CC := (.seq (.region [⟨none, 2, (.box 0), [0], none, []⟩, ⟨none, 4, (.val (.mv (.c (.int .i64 0)))), [4], none, []⟩]) (.seq (.region [⟨none, 7, (.val (.fa (.s 2) 3)), [], none, []⟩, ⟨none, 8, (.val (.ld (.s 7) none)), [7], none, []⟩, ⟨none, 9, (.val (.mv (.s 1))), [], none, []⟩, ⟨none, 10, (.val (.ia (.s 8) (.s 9) 2)), [8, 9], none, []⟩, ⟨none, 11, (.val (.ld (.s 10) (some 2))), [10], none, []⟩, ⟨none, 5, (.alloc (.agg #[(.int .i64 0), (.int .i64 0)])), [], none, []⟩, ⟨none, 0, (.store 2 (.s 5) (.s 11)), [11], none, []⟩]) (.seq (.block 0 (.seq (.region [⟨none, 13, (.val (.fa (.s 5) 0)), [], none, []⟩, ⟨none, 14, (.val (.ld (.s 13) none)), [13], none, []⟩, ⟨none, 15, (.val (.bin .lss (.s 14) (.c (.int .i64 0)))), [14], none, []⟩, ⟨none, 16, (.val (.mv (.s 15))), [15], none, []⟩, ⟨(some (16, false)), 17, (.val (.fa (.s 5) 0)), [], none, []⟩, ⟨(some (16, false)), 18, (.val (.ld (.s 17) none)), [17], none, []⟩, ⟨(some (16, false)), 19, (.val (.fa (.s 2) 2)), [], none, []⟩, ⟨(some (16, false)), 20, (.val (.ld (.s 19) none)), [19], none, []⟩, ⟨(some (16, false)), 21, (.val (.lnl (.s 20) 6)), [20], none, []⟩, ⟨(some (16, false)), 22, (.val (.bin .geq (.s 18) (.s 21))), [18, 21], none, []⟩, ⟨none, 23, (.val (.pick (.s 16) (.c (.bool true)) (.s 22))), [16, 22], none, []⟩, ⟨none, 24, (.val (.mv (.s 23))), [23], none, []⟩, ⟨(some (24, false)), 25, (.val (.fa (.s 5) 1)), [], none, []⟩, ⟨(some (24, false)), 26, (.val (.ld (.s 25) none)), [25], none, []⟩, ⟨(some (24, false)), 27, (.val (.bin .lss (.s 26) (.c (.int .i64 0)))), [26], none, []⟩, ⟨none, 28, (.val (.pick (.s 24) (.c (.bool true)) (.s 27))), [24, 27], none, []⟩, ⟨none, 29, (.val (.mv (.s 28))), [28], none, []⟩, ⟨(some (29, false)), 30, (.val (.fa (.s 5) 1)), [], none, []⟩, ⟨(some (29, false)), 31, (.val (.ld (.s 30) none)), [30], none, []⟩, ⟨(some (29, false)), 32, (.val (.fa (.s 2) 2)), [], none, []⟩, ⟨(some (29, false)), 33, (.val (.ld (.s 32) none)), [32], none, []⟩, ⟨(some (29, false)), 34, (.val (.lnl (.s 33) 6)), [33], none, []⟩, ⟨(some (29, false)), 35, (.val (.bin .geq (.s 31) (.s 34))), [31, 34], none, []⟩, ⟨none, 36, (.val (.pick (.s 29) (.c (.bool true)) (.s 35))), [29, 35], none, []⟩, ⟨none, 12, (.val (.mv (.s 36))), [36], none, []⟩]) (.cond (.s 12) (.seq (.region [⟨none, 4, (.val (.mv (.c (.int .i64 1)))), [1, 2, 5, 12], none, []⟩]) .ret) (.seq (.region [⟨none, 38, (.val (.fa (.s 2) 2)), [12], none, []⟩, ⟨none, 39, (.val (.ld (.s 38) none)), [38], none, []⟩, ⟨none, 40, (.val (.fa (.s 5) 0)), [], none, []⟩, ⟨none, 41, (.val (.ld (.s 40) none)), [40], none, []⟩, ⟨none, 42, (.val (.ia (.s 39) (.s 41) 6)), [39, 41], none, []⟩, ⟨none, 43, (.val (.fa (.s 42) 1)), [42], none, []⟩, ⟨none, 44, (.val (.ld (.s 43) none)), [43], none, []⟩, ⟨none, 45, (.val (.bin .eql (.s 44) (.c (.int .i64 2)))), [44], none, []⟩, ⟨none, 46, (.val (.mv (.s 45))), [45], none, []⟩, ⟨(some (46, false)), 47, (.val (.fa (.s 2) 2)), [], none, []⟩, ⟨(some (46, false)), 48, (.val (.ld (.s 47) none)), [47], none, []⟩, ⟨(some (46, false)), 49, (.val (.fa (.s 5) 1)), [], none, []⟩, ⟨(some (46, false)), 50, (.val (.ld (.s 49) none)), [49], none, []⟩, ⟨(some (46, false)), 51, (.val (.ia (.s 48) (.s 50) 6)), [48, 50], none, []⟩, ⟨(some (46, false)), 52, (.val (.fa (.s 51) 1)), [51], none, []⟩, ⟨(some (46, false)), 53, (.val (.ld (.s 52) none)), [52], none, []⟩, ⟨(some (46, false)), 54, (.val (.bin .eql (.s 53) (.c (.int .i64 1)))), [53], none, []⟩, ⟨none, 55, (.val (.pick (.s 46) (.c (.bool true)) (.s 54))), [46, 54], none, []⟩, ⟨none, 37, (.val (.mv (.s 55))), [55], none, []⟩]) (.cond (.s 37) (.seq (.region [⟨none, 4, (.val (.mv (.c (.int .i64 5)))), [1, 2, 5, 37], none, []⟩]) .ret) (.seq (.region [⟨none, 57, (.val (.ld (.s 2) (some 4))), [37], none, []⟩, ⟨none, 58, (.val (.fa (.s 5) 0)), [], none, []⟩, ⟨none, 59, (.val (.ld (.s 58) none)), [58], none, []⟩, ⟨none, 60, (.val (.bin .mul (.c (.int .i64 2)) (.s 59))), [59], none, []⟩, ⟨none, 61, (.val (.bin .add (.s 60) (.c (.int .i64 1)))), [60], none, []⟩, ⟨none, 63, (.val (.ld (.s 2) (some 4))), [], none, []⟩, ⟨none, 64, (.val (.fa (.s 5) 1)), [], none, []⟩, ⟨none, 65, (.val (.ld (.s 64) none)), [64], none, []⟩, ⟨none, 66, (.val (.bin .mul (.c (.int .i64 2)) (.s 65))), [65], none, []⟩, ⟨none, 62, (.callP 86 [(.s 57), (.s 61)]), [57, 61], none, []⟩, ⟨none, 67, (.callP 86 [(.s 63), (.s 66)]), [63, 66], none, []⟩, ⟨none, 68, (.val (.bin .neq (.s 62) (.s 67))), [62, 67], none, []⟩, ⟨none, 56, (.val (.mv (.s 68))), [68], none, []⟩]) (.cond (.s 56) (.seq (.region [⟨none, 4, (.val (.mv (.c (.int .i64 10)))), [1, 2, 5, 56], none, []⟩]) .ret) .skip))))))) (.seq (.seq (.region [⟨none, 6, (.val (.mv (.c (.int .i64 0)))), [56], none, []⟩]) (.block 1 (.loop (.seq (.seq (.region [⟨none, 69, (.val (.mv (.s 6))), [], none, []⟩, ⟨none, 70, (.val (.mv (.s 1))), [], none, []⟩, ⟨none, 71, (.val (.bin .lss (.s 69) (.s 70))), [69, 70], none, []⟩]) (.cond (.s 71) .skip (.exit 1))) (.seq (.block 2 (.seq (.region [⟨none, 74, (.val (.fa (.s 2) 3)), [71], none, []⟩, ⟨none, 75, (.val (.ld (.s 74) none)), [74], none, []⟩, ⟨none, 76, (.val (.mv (.s 6))), [], none, []⟩, ⟨none, 77, (.val (.ia (.s 75) (.s 76) 2)), [75, 76], none, []⟩, ⟨none, 78, (.val (.ld (.s 77) (some 2))), [77], none, []⟩, ⟨none, 79, (.val (.ld (.s 5) (some 2))), [], none, []⟩, ⟨none, 80, (.val (.eqa false [1, 1] (.s 78) (.s 79))), [78, 79], none, []⟩]) (.cond (.s 80) (.seq (.region [⟨none, 4, (.val (.mv (.c (.int .i64 4)))), [1, 2, 5, 6, 80], none, []⟩]) .ret) .skip))) (.region [⟨none, 72, (.val (.mv (.s 6))), [6, 80], none, []⟩, ⟨none, 73, (.val (.bin .add (.s 72) (.c (.int .i64 1)))), [72], none, []⟩, ⟨none, 6, (.val (.mv (.s 73))), [73], none, []⟩])))))) (.seq (.region [⟨none, 4, (.val (.mv (.c (.int .i64 0)))), [1, 2, 5, 6, 71], none, []⟩]) .ret)))))
theorem ok162 : FnOk Tryd.prog 54 cc162 [(.t 4)] 2 81 := ⟨⟨_, Tryd.func54, by kernel_rfl, by kernel_rfl, by kernel_rfl⟩, by decide, by decide⟩
theorem fnGood202 : fnGood Tryd.prog 70 = true := by kernel_rfl
/-- What is wrong with channel i. -/
def chR (g : Gr) (i : Nat) (c : Ch) : Int :=
  if 0 ≤ c.1 ∧ c.1 < g.op.length ∧ 0 ≤ c.2 ∧ c.2 < g.op.length then
    match g.op[c.1.toNat]?, g.op[c.2.toNat]? with
    | some x, some y => if x.k = 2 ∨ y.k = 1 then 5 else if loopA g x 1 ≠ loopA g y 0 then 10 else if hasCh (g.ch.take i) c = true then 4 else 0
    | _, _ => 0
  else 1
def chE (g : Gr) : Nat → List Ch → Int
  | _, [] => 0
  | i, c :: r => if chR g i c ≠ 0 then chR g i c else chE g (i + 1) r
def LoOks (g : Gr) : Prop := ∀ (m : Nat) o, g.op[m]? = some o → LoOk g o
def st159 (I : World → Fp → Value → Fp → Prop) (g : Gr) (i : Nat) : St :=
  ⟨[(10, .v (.int .i64 i)), (9, .v (.int .i64 g.ch.length)), (8, .lst 2 (g.ch.map chA)), (3, .fn 70 [.ref ⟨1001, [], 0⟩]), (1, .ref ⟨1001, [], 0⟩)], [(1001, gA g), (9999, .ext I)], []⟩
theorem c159 (g : Gr) (hl : g.ch.length ≤ 1000000) (ho : g.op.length ≤ 1000000) (hO : LoOks g) {Q : AV → Al → Prop} (h : Q (i64A (chE g 0 g.ch)) []) : ACalls Tryd.prog 45 [] [gA g] Q := by
  refine ok159.N hmix rfl ?_
  intro I
  simp only [cc159, OI, ↓reduceIte, reduceCtorEq, Nat.reduceAdd, Nat.reduceEqDiff, Nat.reduceBEq, Nat.reduceLT, Nat.reduceLeDiff, Nat.reduceMul, Nat.reduceSub, Int.reduceLE, Int.reduceLT, Int.reduceEq, Int.reduceBEq, Int.reduceBNe, Int.reduceToNat, Int.reduceNeg, Nat.reduceBNe, gA]
  refine W_loop (st159 I g) (fun i => i ≤ g.ch.length ∧ chE g 0 g.ch = chE g i (g.ch.drop i)) (fun i => g.ch.length - i) (fun _ _ => rfl) ⟨0, ⟨by omega, rfl⟩, ?_⟩ ?_
  · simp only [OI, ↓reduceIte, reduceCtorEq, Nat.reduceAdd, Nat.reduceEqDiff, Nat.reduceBEq, Nat.reduceLT, Nat.reduceLeDiff, Nat.reduceMul, Nat.reduceSub, Int.reduceLE, Int.reduceLT, Int.reduceEq, Int.reduceBEq, Int.reduceBNe, Int.reduceToNat, Int.reduceNeg, Nat.reduceBNe, st159, gA]
    try rfl
  rintro i ⟨hi, he⟩
  refine W_of_N ok159.small hmix ?_
  by_cases hil : i < g.ch.length
  · have hil' : (i : Int) < g.ch.length := by omega
    have i0 : (0 : Int) ≤ i := by omega
    have hgi : g.ch[i]? = some g.ch[i] := List.getElem?_eq_getElem hil
    have w1 : IntKind.i64.wrap ((i : Int) + 1) = ((i + 1 : Nat) : Int) := by rw [wrI64 (by omega) (by omega)]; omega
    rw [drop_cons hgi] at he
    generalize hc : g.ch[i] = c at hgi he
    simp only [chE] at he
    have stop : ∀ n : Int, n ≠ 0 → chR g i c = n → Q (.v (.int .i64 n)) [] := by
      intro n hn e
      rw [e, if_pos hn] at he
      rw [he] at h; exact h
    simp only [OI, ↓reduceIte, reduceCtorEq, Nat.reduceAdd, Nat.reduceEqDiff, Nat.reduceBEq, Nat.reduceLT, Nat.reduceLeDiff, Nat.reduceMul, Nat.reduceSub, Int.reduceLE, Int.reduceLT, Int.reduceEq, Int.reduceBEq, Int.reduceBNe, Int.reduceToNat, Int.reduceNeg, Nat.reduceBNe, st159, hil', i0, hgi, w1, chA, gA, fnGood202, capOk]
    refine c202 g c.1 ?_
    by_cases hf : 0 ≤ c.1 ∧ c.1 < g.op.length
    · rw [decide_eq_true hf]
      simp only [OI, ↓reduceIte, reduceCtorEq, Nat.reduceAdd, Nat.reduceEqDiff, Nat.reduceBEq, Nat.reduceLT, Nat.reduceLeDiff, Nat.reduceMul, Nat.reduceSub, Int.reduceLE, Int.reduceLT, Int.reduceEq, Int.reduceBEq, Int.reduceBNe, Int.reduceToNat, Int.reduceNeg, Nat.reduceBNe, fnGood202, capOk]
      refine c202 g c.2 ?_
      by_cases ht : 0 ≤ c.2 ∧ c.2 < g.op.length
      · rw [decide_eq_true ht]
        obtain ⟨x, hx⟩ : ∃ x, g.op[c.1.toNat]? = some x := ⟨_, List.getElem?_eq_getElem (by omega)⟩
        obtain ⟨y, hy⟩ : ∃ y, g.op[c.2.toNat]? = some y := ⟨_, List.getElem?_eq_getElem (by omega)⟩
        have hR : chR g i c = if x.k = 2 ∨ y.k = 1 then 5 else if loopA g x 1 ≠ loopA g y 0 then 10 else if hasCh (g.ch.take i) c = true then 4 else 0 := by
          simp only [chR, hx, hy]
          rw [if_pos ⟨hf.1, hf.2, ht.1, ht.2⟩]
        by_cases k2 : x.k = 2
        · simp only [OI, ↓reduceIte, reduceCtorEq, Nat.reduceAdd, Nat.reduceEqDiff, Nat.reduceBEq, Nat.reduceLT, Nat.reduceLeDiff, Nat.reduceMul, Nat.reduceSub, Int.reduceLE, Int.reduceLT, Int.reduceEq, Int.reduceBEq, Int.reduceBNe, Int.reduceToNat, Int.reduceNeg, Nat.reduceBNe, hx, opA, hf.1, hf.2, beqT k2]
          exact stop _ (by decide) (by rw [hR, if_pos (.inl k2)])
        by_cases k1 : y.k = 1
        · simp only [OI, ↓reduceIte, reduceCtorEq, Nat.reduceAdd, Nat.reduceEqDiff, Nat.reduceBEq, Nat.reduceLT, Nat.reduceLeDiff, Nat.reduceMul, Nat.reduceSub, Int.reduceLE, Int.reduceLT, Int.reduceEq, Int.reduceBEq, Int.reduceBNe, Int.reduceToNat, Int.reduceNeg, Nat.reduceBNe, hx, hy, opA, hf.1, hf.2, ht.1, ht.2, beqF k2, beqT k1]
          exact stop _ (by decide) (by rw [hR, if_pos (.inr k1)])
        simp only [OI, ↓reduceIte, reduceCtorEq, Nat.reduceAdd, Nat.reduceEqDiff, Nat.reduceBEq, Nat.reduceLT, Nat.reduceLeDiff, Nat.reduceMul, Nat.reduceSub, Int.reduceLE, Int.reduceLT, Int.reduceEq, Int.reduceBEq, Int.reduceBNe, Int.reduceToNat, Int.reduceNeg, Nat.reduceBNe, hx, hy, opA, hf.1, hf.2, ht.1, ht.2, beqF k2, beqF k1]
        rw [if_neg (by omega)] at hR
        have m1 : IntKind.i64.wrap (2 * c.1) = 2 * c.1 := wrI64 (by omega) (by omega)
        have m2 : IntKind.i64.wrap (2 * c.1 + 1) = 2 * c.1 + 1 := wrI64 (by omega) (by omega)
        have m3 : IntKind.i64.wrap (2 * c.2) = 2 * c.2 := wrI64 (by omega) (by omega)
        simp only [OI, ↓reduceIte, reduceCtorEq, Nat.reduceAdd, Nat.reduceEqDiff, Nat.reduceBEq, Nat.reduceLT, Nat.reduceLeDiff, Nat.reduceMul, Nat.reduceSub, Int.reduceLE, Int.reduceLT, Int.reduceEq, Int.reduceBEq, Int.reduceBNe, Int.reduceToNat, Int.reduceNeg, Nat.reduceBNe, m1, m2, m3]
        refine c126 g (2 * c.1 + 1) c.1.toNat 1 x (by omega) (by omega) hx (hO _ _ hx) (by omega) ?_
        simp only [OI, ↓reduceIte, reduceCtorEq, Nat.reduceAdd, Nat.reduceEqDiff, Nat.reduceBEq, Nat.reduceLT, Nat.reduceLeDiff, Nat.reduceMul, Nat.reduceSub, Int.reduceLE, Int.reduceLT, Int.reduceEq, Int.reduceBEq, Int.reduceBNe, Int.reduceToNat, Int.reduceNeg, Nat.reduceBNe, i64A, m3]
        refine c126 g (2 * c.2) c.2.toNat 0 y (by omega) (by omega) hy (hO _ _ hy) (by omega) ?_
        by_cases hn : loopA g x 1 = loopA g y 0
        · rw [if_neg (by simpa using hn)] at hR
          simp only [OI, ↓reduceIte, reduceCtorEq, Nat.reduceAdd, Nat.reduceEqDiff, Nat.reduceBEq, Nat.reduceLT, Nat.reduceLeDiff, Nat.reduceMul, Nat.reduceSub, Int.reduceLE, Int.reduceLT, Int.reduceEq, Int.reduceBEq, Int.reduceBNe, Int.reduceToNat, Int.reduceNeg, Nat.reduceBNe, i64A, bneF hn, gA, chA]
          refine ⟨⟨i0, by omega⟩, ?_⟩
          rw [← List.map_take]
          refine c203 (g.ch.take i) c (by rw [List.length_take]; omega) ?_
          cases hh : hasCh (g.ch.take i) c with
          | true =>
            simp only [OI, ↓reduceIte, reduceCtorEq, Nat.reduceAdd, Nat.reduceEqDiff, Nat.reduceBEq, Nat.reduceLT, Nat.reduceLeDiff, Nat.reduceMul, Nat.reduceSub, Int.reduceLE, Int.reduceLT, Int.reduceEq, Int.reduceBEq, Int.reduceBNe, Int.reduceToNat, Int.reduceNeg, Nat.reduceBNe]
            exact stop _ (by decide) (by rw [hR, if_pos hh])
          | false =>
            rw [if_neg (by simp [hh])] at hR
            rw [hR, if_neg (by decide)] at he
            simp only [OI, ↓reduceIte, reduceCtorEq, Nat.reduceAdd, Nat.reduceEqDiff, Nat.reduceBEq, Nat.reduceLT, Nat.reduceLeDiff, Nat.reduceMul, Nat.reduceSub, Int.reduceLE, Int.reduceLT, Int.reduceEq, Int.reduceBEq, Int.reduceBNe, Int.reduceToNat, Int.reduceNeg, Nat.reduceBNe, w1]
            refine ⟨i + 1, ⟨⟨by omega, he⟩, by omega⟩, ?_⟩
            simp only [OI, ↓reduceIte, reduceCtorEq, Nat.reduceAdd, Nat.reduceEqDiff, Nat.reduceBEq, Nat.reduceLT, Nat.reduceLeDiff, Nat.reduceMul, Nat.reduceSub, Int.reduceLE, Int.reduceLT, Int.reduceEq, Int.reduceBEq, Int.reduceBNe, Int.reduceToNat, Int.reduceNeg, Nat.reduceBNe, st159, gA]
        · simp only [OI, ↓reduceIte, reduceCtorEq, Nat.reduceAdd, Nat.reduceEqDiff, Nat.reduceBEq, Nat.reduceLT, Nat.reduceLeDiff, Nat.reduceMul, Nat.reduceSub, Int.reduceLE, Int.reduceLT, Int.reduceEq, Int.reduceBEq, Int.reduceBNe, Int.reduceToNat, Int.reduceNeg, Nat.reduceBNe, i64A, bneT hn]
          exact stop _ (by decide) (by rw [hR, if_pos hn])
      · rw [decide_eq_false ht]
        simp only [OI, ↓reduceIte, reduceCtorEq, Nat.reduceAdd, Nat.reduceEqDiff, Nat.reduceBEq, Nat.reduceLT, Nat.reduceLeDiff, Nat.reduceMul, Nat.reduceSub, Int.reduceLE, Int.reduceLT, Int.reduceEq, Int.reduceBEq, Int.reduceBNe, Int.reduceToNat, Int.reduceNeg, Nat.reduceBNe]
        exact stop _ (by decide) (by simp only [chR]; rw [if_neg (by omega)])
    · rw [decide_eq_false hf]
      simp only [OI, ↓reduceIte, reduceCtorEq, Nat.reduceAdd, Nat.reduceEqDiff, Nat.reduceBEq, Nat.reduceLT, Nat.reduceLeDiff, Nat.reduceMul, Nat.reduceSub, Int.reduceLE, Int.reduceLT, Int.reduceEq, Int.reduceBEq, Int.reduceBNe, Int.reduceToNat, Int.reduceNeg, Nat.reduceBNe]
      exact stop _ (by decide) (by simp only [chR]; rw [if_neg (by omega)])
  · obtain rfl : i = g.ch.length := by omega
    simp only [OI, ↓reduceIte, reduceCtorEq, Nat.reduceAdd, Nat.reduceEqDiff, Nat.reduceBEq, Nat.reduceLT, Nat.reduceLeDiff, Nat.reduceMul, Nat.reduceSub, Int.reduceLE, Int.reduceLT, Int.reduceEq, Int.reduceBEq, Int.reduceBNe, Int.reduceToNat, Int.reduceNeg, Nat.reduceBNe, st159, Int.lt_irrefl]
    rw [List.drop_length] at he
    rw [he] at h; exact h
theorem hasCh_iff {l : List Ch} {c : Ch} : hasCh l c = true ↔ ∃ (j : Nat) (x : Ch), l[j]? = some x ∧ c.1 = x.1 ∧ c.2 = x.2 := by
  rw [hasCh, List.any_eq_true]
  constructor
  · rintro ⟨x, hx, h⟩
    obtain ⟨j, hj⟩ := List.getElem?_of_mem hx
    simp only [Bool.and_eq_true, beq_iff_eq] at h
    exact ⟨j, x, hj, h.1, h.2⟩
  · rintro ⟨j, x, hj, h1, h2⟩
    exact ⟨x, List.mem_of_getElem? hj, by simp [h1, h2]⟩
def st162 (I : World → Fp → Value → Fp → Prop) (g : Gr) (i : Nat) (c : Ch) (k : Nat) : St :=
  ⟨[(6, .v (.int .i64 k)), (1, .v (.int .i64 i)), (5, .ref ⟨1005, [], 0⟩), (2, .ref ⟨1002, [], 0⟩)], [(1005, chA c), (1002, gA g), (9999, .ext I)], []⟩
theorem c162 (g : Gr) (i : Nat) (c : Ch) (hgi : g.ch[i]? = some c) (hl : g.ch.length ≤ 1000000) (ho : g.op.length ≤ 1000000) (hO : LoOks g) {Q : AV → Al → Prop} (h : Q (i64A (chR g i c)) []) : ACalls Tryd.prog 54 [] [gA g, i64A i] Q := by
  refine ok162.N hmix rfl ?_
  intro I
  have hil := (List.getElem?_eq_some_iff.1 hgi).1
  have hil' : (i : Int) < g.ch.length := by omega
  have i0 : (0 : Int) ≤ i := by omega
  have out : ¬ (0 ≤ c.1 ∧ c.1 < g.op.length ∧ 0 ≤ c.2 ∧ c.2 < g.op.length) → Q (.v (.int .i64 1)) [] := by
    intro hn
    have : chR g i c = 1 := by simp only [chR]; rw [if_neg hn]
    rw [this] at h; exact h
  by_cases f1 : c.1 < 0
  · simp only [cc162, OI, ↓reduceIte, reduceCtorEq, Nat.reduceAdd, Nat.reduceEqDiff, Nat.reduceBEq, Nat.reduceLT, Nat.reduceLeDiff, Nat.reduceMul, Nat.reduceSub, Int.reduceLE, Int.reduceLT, Int.reduceEq, Int.reduceBEq, Int.reduceBNe, Int.reduceToNat, Int.reduceNeg, Nat.reduceBNe, gA, i64A, hil', i0, hgi, chA, f1]
    exact out (by omega)
  by_cases f2 : (g.op.length : Int) ≤ c.1
  · simp only [cc162, OI, ↓reduceIte, reduceCtorEq, Nat.reduceAdd, Nat.reduceEqDiff, Nat.reduceBEq, Nat.reduceLT, Nat.reduceLeDiff, Nat.reduceMul, Nat.reduceSub, Int.reduceLE, Int.reduceLT, Int.reduceEq, Int.reduceBEq, Int.reduceBNe, Int.reduceToNat, Int.reduceNeg, Nat.reduceBNe, gA, i64A, hil', i0, hgi, chA, f1, f2]
    exact out (by omega)
  by_cases t1 : c.2 < 0
  · simp only [cc162, OI, ↓reduceIte, reduceCtorEq, Nat.reduceAdd, Nat.reduceEqDiff, Nat.reduceBEq, Nat.reduceLT, Nat.reduceLeDiff, Nat.reduceMul, Nat.reduceSub, Int.reduceLE, Int.reduceLT, Int.reduceEq, Int.reduceBEq, Int.reduceBNe, Int.reduceToNat, Int.reduceNeg, Nat.reduceBNe, gA, i64A, hil', i0, hgi, chA, f1, f2, t1]
    exact out (by omega)
  by_cases t2 : (g.op.length : Int) ≤ c.2
  · simp only [cc162, OI, ↓reduceIte, reduceCtorEq, Nat.reduceAdd, Nat.reduceEqDiff, Nat.reduceBEq, Nat.reduceLT, Nat.reduceLeDiff, Nat.reduceMul, Nat.reduceSub, Int.reduceLE, Int.reduceLT, Int.reduceEq, Int.reduceBEq, Int.reduceBNe, Int.reduceToNat, Int.reduceNeg, Nat.reduceBNe, gA, i64A, hil', i0, hgi, chA, f1, f2, t1, t2]
    exact out (by omega)
  obtain ⟨x, hx⟩ : ∃ x, g.op[c.1.toNat]? = some x := ⟨_, List.getElem?_eq_getElem (by omega)⟩
  obtain ⟨y, hy⟩ : ∃ y, g.op[c.2.toNat]? = some y := ⟨_, List.getElem?_eq_getElem (by omega)⟩
  have hR : chR g i c = if x.k = 2 ∨ y.k = 1 then 5 else if loopA g x 1 ≠ loopA g y 0 then 10 else if hasCh (g.ch.take i) c = true then 4 else 0 := by
    simp only [chR, hx, hy]
    rw [if_pos (by omega)]
  rw [hR] at h
  have u1 : 0 ≤ c.1 := by omega
  have u2 : c.1 < (g.op.length : Int) := by omega
  have u3 : 0 ≤ c.2 := by omega
  have u4 : c.2 < (g.op.length : Int) := by omega
  by_cases k2 : x.k = 2
  · simp only [cc162, OI, ↓reduceIte, reduceCtorEq, Nat.reduceAdd, Nat.reduceEqDiff, Nat.reduceBEq, Nat.reduceLT, Nat.reduceLeDiff, Nat.reduceMul, Nat.reduceSub, Int.reduceLE, Int.reduceLT, Int.reduceEq, Int.reduceBEq, Int.reduceBNe, Int.reduceToNat, Int.reduceNeg, Nat.reduceBNe, gA, i64A, hil', i0, hgi, chA, f1, f2, t1, t2, hx, opA, u1, u2, beqT k2]
    rw [if_pos (.inl k2)] at h; exact h
  by_cases k1 : y.k = 1
  · simp only [cc162, OI, ↓reduceIte, reduceCtorEq, Nat.reduceAdd, Nat.reduceEqDiff, Nat.reduceBEq, Nat.reduceLT, Nat.reduceLeDiff, Nat.reduceMul, Nat.reduceSub, Int.reduceLE, Int.reduceLT, Int.reduceEq, Int.reduceBEq, Int.reduceBNe, Int.reduceToNat, Int.reduceNeg, Nat.reduceBNe, gA, i64A, hil', i0, hgi, chA, f1, f2, t1, t2, hx, hy, opA, u1, u2, u3, u4, beqF k2, beqT k1]
    rw [if_pos (.inr k1)] at h; exact h
  rw [if_neg (by omega)] at h
  simp only [cc162, OI, ↓reduceIte, reduceCtorEq, Nat.reduceAdd, Nat.reduceEqDiff, Nat.reduceBEq, Nat.reduceLT, Nat.reduceLeDiff, Nat.reduceMul, Nat.reduceSub, Int.reduceLE, Int.reduceLT, Int.reduceEq, Int.reduceBEq, Int.reduceBNe, Int.reduceToNat, Int.reduceNeg, Nat.reduceBNe, gA, i64A, hil', i0, hgi, chA, f1, f2, t1, t2, hx, hy, opA, u1, u2, u3, u4, beqF k2, beqF k1]
  have m1 : IntKind.i64.wrap (2 * c.1) = 2 * c.1 := wrI64 (by omega) (by omega)
  have m2 : IntKind.i64.wrap (2 * c.1 + 1) = 2 * c.1 + 1 := wrI64 (by omega) (by omega)
  have m3 : IntKind.i64.wrap (2 * c.2) = 2 * c.2 := wrI64 (by omega) (by omega)
  simp only [OI, ↓reduceIte, reduceCtorEq, Nat.reduceAdd, Nat.reduceEqDiff, Nat.reduceBEq, Nat.reduceLT, Nat.reduceLeDiff, Nat.reduceMul, Nat.reduceSub, Int.reduceLE, Int.reduceLT, Int.reduceEq, Int.reduceBEq, Int.reduceBNe, Int.reduceToNat, Int.reduceNeg, Nat.reduceBNe, m1, m2, m3]
  refine c128 g (2 * c.1 + 1) c.1.toNat 1 x (by omega) (by omega) hx (hO _ _ hx) (by omega) ?_
  simp only [OI, ↓reduceIte, reduceCtorEq, Nat.reduceAdd, Nat.reduceEqDiff, Nat.reduceBEq, Nat.reduceLT, Nat.reduceLeDiff, Nat.reduceMul, Nat.reduceSub, Int.reduceLE, Int.reduceLT, Int.reduceEq, Int.reduceBEq, Int.reduceBNe, Int.reduceToNat, Int.reduceNeg, Nat.reduceBNe, i64A, m3]
  refine c128 g (2 * c.2) c.2.toNat 0 y (by omega) (by omega) hy (hO _ _ hy) (by omega) ?_
  by_cases hn : loopA g x 1 = loopA g y 0
  · rw [if_neg (by simpa using hn)] at h
    simp only [OI, ↓reduceIte, reduceCtorEq, Nat.reduceAdd, Nat.reduceEqDiff, Nat.reduceBEq, Nat.reduceLT, Nat.reduceLeDiff, Nat.reduceMul, Nat.reduceSub, Int.reduceLE, Int.reduceLT, Int.reduceEq, Int.reduceBEq, Int.reduceBNe, Int.reduceToNat, Int.reduceNeg, Nat.reduceBNe, i64A, bneF hn, gA, chA]
    refine W_loop (st162 I g i c) (fun k => k ≤ i ∧ ∀ j z, j < k → g.ch[j]? = some z → ((z.1 == c.1) && (z.2 == c.2)) = false) (fun k => i - k) (fun _ _ => rfl) ⟨0, ⟨by omega, fun j z hj => by omega⟩, ?_⟩ ?_
    · simp only [OI, ↓reduceIte, reduceCtorEq, Nat.reduceAdd, Nat.reduceEqDiff, Nat.reduceBEq, Nat.reduceLT, Nat.reduceLeDiff, Nat.reduceMul, Nat.reduceSub, Int.reduceLE, Int.reduceLT, Int.reduceEq, Int.reduceBEq, Int.reduceBNe, Int.reduceToNat, Int.reduceNeg, Nat.reduceBNe, st162, gA, chA]
      try rfl
    rintro k ⟨hk, hall⟩
    refine W_of_N ok162.small hmix ?_
    by_cases hki : k < i
    · have hki' : (k : Int) < i := by omega
      have k0 : (0 : Int) ≤ k := by omega
      have hkl : (k : Int) < g.ch.length := by omega
      have hgk : g.ch[k]? = some g.ch[k] := List.getElem?_eq_getElem (by omega)
      have w1 : IntKind.i64.wrap ((k : Int) + 1) = ((k + 1 : Nat) : Int) := by rw [wrI64 (by omega) (by omega)]; omega
      cases hz : ((g.ch[k].1 == c.1) && (g.ch[k].2 == c.2)) with
      | true =>
        simp only [OI, ↓reduceIte, reduceCtorEq, Nat.reduceAdd, Nat.reduceEqDiff, Nat.reduceBEq, Nat.reduceLT, Nat.reduceLeDiff, Nat.reduceMul, Nat.reduceSub, Int.reduceLE, Int.reduceLT, Int.reduceEq, Int.reduceBEq, Int.reduceBNe, Int.reduceToNat, Int.reduceNeg, Nat.reduceBNe, st162, hki', k0, hkl, hgk, w1, gA, chA, hz, fit1, fitL, eqL, eq1]
        have hh : hasCh (g.ch.take i) c = true := by
          simp only [Bool.and_eq_true, beq_iff_eq] at hz
          exact hasCh_iff.2 ⟨k, g.ch[k], by rw [List.getElem?_take_of_lt hki]; exact hgk, hz.1.symm, hz.2.symm⟩
        rw [if_pos hh] at h; exact h
      | false =>
        simp only [OI, ↓reduceIte, reduceCtorEq, Nat.reduceAdd, Nat.reduceEqDiff, Nat.reduceBEq, Nat.reduceLT, Nat.reduceLeDiff, Nat.reduceMul, Nat.reduceSub, Int.reduceLE, Int.reduceLT, Int.reduceEq, Int.reduceBEq, Int.reduceBNe, Int.reduceToNat, Int.reduceNeg, Nat.reduceBNe, st162, hki', k0, hkl, hgk, w1, gA, chA, hz, fit1, fitL, eqL, eq1]
        refine ⟨k + 1, ⟨⟨by omega, fun j z hj hg => ?_⟩, by omega⟩, ?_⟩
        · by_cases he : j = k
          · subst he; rw [hgk] at hg; rw [← Option.some.inj hg]; exact hz
          · exact hall j z (by omega) hg
        · simp only [OI, ↓reduceIte, reduceCtorEq, Nat.reduceAdd, Nat.reduceEqDiff, Nat.reduceBEq, Nat.reduceLT, Nat.reduceLeDiff, Nat.reduceMul, Nat.reduceSub, Int.reduceLE, Int.reduceLT, Int.reduceEq, Int.reduceBEq, Int.reduceBNe, Int.reduceToNat, Int.reduceNeg, Nat.reduceBNe, st162, gA, chA]
    · obtain rfl : k = i := by omega
      simp only [OI, ↓reduceIte, reduceCtorEq, Nat.reduceAdd, Nat.reduceEqDiff, Nat.reduceBEq, Nat.reduceLT, Nat.reduceLeDiff, Nat.reduceMul, Nat.reduceSub, Int.reduceLE, Int.reduceLT, Int.reduceEq, Int.reduceBEq, Int.reduceBNe, Int.reduceToNat, Int.reduceNeg, Nat.reduceBNe, st162, Int.lt_irrefl]
      have hh : hasCh (g.ch.take k) c = false := by
        rw [Bool.eq_false_iff]
        intro hc
        obtain ⟨j, z, hj, e1, e2⟩ := hasCh_iff.1 hc
        rw [List.getElem?_take] at hj
        split at hj
        · have := hall j z (by omega) hj
          simp [e1, e2] at this
        · simp at hj
      rw [if_neg (by simp [hh])] at h; exact h
  · rw [if_pos hn] at h
    simp only [OI, ↓reduceIte, reduceCtorEq, Nat.reduceAdd, Nat.reduceEqDiff, Nat.reduceBEq, Nat.reduceLT, Nat.reduceLeDiff, Nat.reduceMul, Nat.reduceSub, Int.reduceLE, Int.reduceLT, Int.reduceEq, Int.reduceBEq, Int.reduceBNe, Int.reduceToNat, Int.reduceNeg, Nat.reduceBNe, i64A, bneT hn]
    exact h
end Go.Proofs.YthlehngbadianaaDoor.Ow
set_option maxRecDepth 100000
set_option maxHeartbeats 4000000
namespace Go.Proofs.YthlehngbadianaaDoor.Ow
open Go Go.RowKit Go.Proofs
/-- What is wrong with a graph. -/
def chk (g : Gr) : Int :=
  if 4 < g.cl.length ∨ 6 < g.lo.length ∨ 24 < g.op.length ∨ 48 < g.ch.length then 7
  else if g.cl.length = 0 ∨ g.op.length = 0 then 3
  else if clE [] g.cl ≠ 0 then clE [] g.cl
  else if loE g.lo [] 0 g.lo ≠ 0 then loE g.lo [] 0 g.lo
  else if opE g [] g.op ≠ 0 then opE g [] g.op
  else chE g 0 g.ch
theorem loE_wf {all : List Lo} : ∀ (l : List Lo) (sn : List ByteArray) (i : Nat), all.drop i = l → WfL all i → loE all sn i l = 0 → WfL all all.length
  | [], sn, i, hd, hW, _ => by
    intro k hk
    have : all.length ≤ i := by
      have h := congrArg List.length hd
      simp only [List.length_drop, List.length_nil] at h; omega
    exact hW k (by omega)
  | x :: r, sn, i, hd, hW, he => by
    have hx : all[i]? = some x := by
      have := congrArg (fun l => l[0]?) hd
      simpa [List.getElem?_drop] using this
    have hr : all.drop (i + 1) = r := by
      have := congrArg List.tail hd
      simpa [List.tail_drop] using this
    simp only [loE] at he
    split at he
    · exact absurd he ‹_›
    · split at he
      · cases he
      · split at he
        · cases he
        · exact loE_wf r _ (i + 1) hr (hW.snoc hx (by omega) (by omega)) he
theorem loE0 {g : Gr} (h : loE g.lo [] 0 g.lo = 0) : WfL g.lo g.lo.length := loE_wf g.lo [] 0 (by simp) (fun k hk => by omega) h
theorem opE_all {g : Gr} : ∀ (l : List O6) (sn : List ByteArray), opE g sn l = 0 → ∀ o ∈ l, opR g o = 0
  | [], sn, _, o, ho => by cases ho
  | x :: r, sn, he, o, ho => by
    simp only [opE] at he
    split at he
    · exact absurd he ‹_›
    · split at he
      · exact absurd he ‹_›
      · rcases List.mem_cons.1 ho with rfl | ho
        · omega
        · exact opE_all r _ he o ho
structure OpFine (g : Gr) (o : O6) : Prop where
  k1 : 1 ≤ o.k
  k2 : o.k ≤ 14
  l1 : -1 ≤ o.lo
  l2 : o.lo < g.lo.length
  a1 : 0 ≤ o.at_
  a2 : o.at_ < g.cl.length
  out : o.k ≤ 2 → o.lo = -1
  inn : 7 ≤ o.k → o.k ≤ 9 → o.lo ≠ -1
  num : numOk o = true
theorem opR0 {g : Gr} {o : O6} (h : opR g o = 0) : OpFine g o := by
  unfold opR at h
  split at h
  · cases h
  split at h
  · cases h
  split at h
  · cases h
  split at h
  · cases h
  rename_i h1 h2 h3 h4
  refine ⟨by omega, by omega, by omega, by omega, by omega, by omega, fun _ => by omega, fun _ _ => by omega, by simpa using h4⟩
theorem opE0 {g : Gr} (h : opE g [] g.op = 0) {m : Nat} {o : O6} (ho : g.op[m]? = some o) : OpFine g o := opR0 (opE_all _ _ h o (List.mem_of_getElem? ho))
theorem OpFine.loOk {g : Gr} {o : O6} (h : OpFine g o) : LoOk g o := by
  intro hk
  have := h.inn (by omega) (by omega)
  have a := h.l1
  have b := h.l2
  exact ⟨_, List.getElem?_eq_getElem (by omega), by omega, h.l2⟩
theorem opE0_oks {g : Gr} (h : opE g [] g.op = 0) : LoOks g := fun _ _ ho => (opE0 h ho).loOk
theorem chE_all {g : Gr} : ∀ (l : List Ch) (i : Nat), chE g i l = 0 → ∀ (j : Nat) (c : Ch), l[j]? = some c → chR g (i + j) c = 0
  | [], i, _, j, c, hj => by simp at hj
  | x :: r, i, he, j, c, hj => by
    simp only [chE] at he
    split at he
    · exact absurd he ‹_›
    · cases j with
      | zero =>
        simp only [List.getElem?_cons_zero, Option.some.injEq] at hj
        subst hj; simpa using ‹¬ chR g i x ≠ 0›
      | succ j =>
        have := chE_all r (i + 1) he j c (by simpa using hj)
        rw [show i + (j + 1) = i + 1 + j from by omega]; exact this
structure Fine (g : Gr) : Prop where
  cl4 : g.cl.length ≤ 4
  lo6 : g.lo.length ≤ 6
  op24 : g.op.length ≤ 24
  ch48 : g.ch.length ≤ 48
  wf : WfL g.lo g.lo.length
  op : ∀ (m : Nat) o, g.op[m]? = some o → OpFine g o
  ch : ∀ (i : Nat) c, g.ch[i]? = some c → ∃ x y, 0 ≤ c.1 ∧ c.1 < g.op.length ∧ 0 ≤ c.2 ∧ c.2 < g.op.length ∧ g.op[c.1.toNat]? = some x ∧ g.op[c.2.toNat]? = some y
theorem chk0 {g : Gr} (h : chk g = 0) : Fine g := by
  unfold chk at h
  split at h
  · cases h
  split at h
  · cases h
  split at h
  · exact absurd h ‹_›
  split at h
  · exact absurd h ‹_›
  split at h
  · exact absurd h ‹_›
  rename_i h1 h2 h3 h4 h5
  have h4' : loE g.lo [] 0 g.lo = 0 := by simpa using h4
  have h5' : opE g [] g.op = 0 := by simpa using h5
  refine ⟨by omega, by omega, by omega, by omega, loE0 h4', fun m o ho => opE0 h5' ho, fun i c hc => ?_⟩
  have hR := chE_all g.ch 0 h i c hc
  unfold chR at hR
  split at hR
  · rename_i hb
    exact ⟨_, _, hb.1, hb.2.1, hb.2.2.1, hb.2.2.2, List.getElem?_eq_getElem (by omega), List.getElem?_eq_getElem (by omega)⟩
  · cases hR
end Go.Proofs.YthlehngbadianaaDoor.Ow
set_option maxRecDepth 100000
set_option maxHeartbeats 4000000
namespace Go.Proofs.YthlehngbadianaaDoor.Ow
open Go Go.RowKit Go.Proofs
/-! A cluster's part of a graph, in plain Lean. -/
structure PM where
  g : Gr
  ops : List Int
  lv : List Int
  ar : List Int
def intsA (l : List Int) : AV := .lst 1 (l.map i64A)
end Go.Proofs.YthlehngbadianaaDoor.Ow
