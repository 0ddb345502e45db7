/- What the functions of the program do, each once: contracts of the logic (part g6). -/
import Derived.Test.YthlehngbadianaaDoorTg5
set_option linter.unusedVariables false
set_option linter.unusedSimpArgs false
set_option linter.unnecessarySimpa false
set_option maxRecDepth 100000
set_option maxHeartbeats 4000000
namespace Go.Proofs.YthlehngbadianaaDoor.Ow
open Go Go.RowKit Go.Proofs
/- (watershed/graph.Graph).ops -/
def cc158 : CC := (.seq (.region [⟨none, 1, (.box 0), [0], none, []⟩, ⟨none, 2, (.val (.mv (.c (.int .i64 0)))), [2], none, []⟩]) (.seq (.region [⟨none, 9, .mkMap, [], none, []⟩, ⟨none, 3, (.val (.mv (.s 9))), [9], none, []⟩]) (.seq (.seq (.region [⟨none, 10, (.val (.fa (.s 1) 2)), [], none, []⟩, ⟨none, 11, (.val (.ld (.s 10) none)), [10], none, []⟩, ⟨none, 12, (.val (.lnl (.s 11) 6)), [], none, []⟩, ⟨none, 13, (.val (.mv (.c (.int .i64 0)))), [], none, []⟩]) (.block 0 (.loop (.seq (.region [⟨none, 14, (.val (.bin .lss (.s 13) (.s 12))), [], none, []⟩]) (.seq (.cond (.s 14) .skip (.exit 0)) (.seq (.block 1 (.seq (.region [⟨none, 15, (.val (.ia (.s 11) (.s 13) 6)), [14], none, []⟩, ⟨none, 16, (.val (.ld (.s 15) (some 6))), [15], none, []⟩, ⟨none, 5, (.alloc (.agg #[(.string ⟨#[]⟩), (.int .i64 0), (.int .i64 0), (.int .i64 0), (.int .i64 0), (.int .i64 0)])), [], none, []⟩, ⟨none, 0, (.store 6 (.s 5) (.s 16)), [16], none, []⟩]) (.seq (.seq (.region [⟨none, 17, (.val (.mv (.s 3))), [], none, []⟩, ⟨none, 18, (.val (.fa (.s 5) 0)), [], none, []⟩, ⟨none, 19, (.val (.ld (.s 18) none)), [18], none, []⟩, ⟨none, 20, (.call 66 [(.s 17), (.s 19)]), [17, 19], (some 0), []⟩, ⟨none, 6, (.val (.mv (.s 20))), [20], none, []⟩]) (.seq (.region [⟨none, 21, (.val (.mv (.s 6))), [], none, []⟩, ⟨none, 22, (.val (.bin .neq (.s 21) (.c (.int .i64 0)))), [21], none, []⟩]) (.cond (.s 22) (.seq (.region [⟨none, 23, (.val (.mv (.s 6))), [1, 3, 5, 6, 11, 12, 13, 22, 38, 39, 40, 41, 42, 43, 46, 47, 48, 51, 52, 53, 54, 55, 56, 62, 63, 64, 69, 70, 71], none, []⟩, ⟨none, 2, (.val (.mv (.s 23))), [23], none, []⟩]) .ret) .skip))) (.seq (.region [⟨none, 25, (.val (.fa (.s 5) 1)), [6, 22], none, []⟩, ⟨none, 26, (.val (.ld (.s 25) none)), [25], none, []⟩, ⟨none, 27, (.callP 68 [(.s 26)]), [26], none, []⟩, ⟨none, 24, (.val (.mv (.s 27))), [27], none, []⟩, ⟨none, 28, (.val (.ext (.s 24) 0)), [], none, []⟩, ⟨none, 29, (.val (.ext (.s 24) 1)), [24], none, []⟩, ⟨none, 7, (.alloc (.agg #[(.string ⟨#[]⟩), (.bool false), (.bool false), (.int .i64 0)])), [], none, []⟩, ⟨none, 0, (.store 4 (.s 7) (.s 28)), [28], none, []⟩, ⟨none, 8, (.val (.mv (.s 29))), [29], none, []⟩]) (.block 2 (.seq (.region [⟨none, 31, (.val (.mv (.s 8))), [8], none, []⟩, ⟨none, 32, (.val (.un .not (.s 31))), [31], none, []⟩, ⟨none, 30, (.val (.mv (.s 32))), [32], none, []⟩]) (.cond (.s 30) (.seq (.region [⟨none, 2, (.val (.mv (.c (.int .i64 70)))), [1, 3, 5, 7, 11, 12, 13, 30, 38, 39, 40, 41, 42, 43, 46, 47, 48, 51, 52, 53, 54, 55, 56, 62, 63, 64, 69, 70, 71], none, []⟩]) .ret) (.seq (.region [⟨none, 34, (.val (.fa (.s 5) 2)), [30], none, []⟩, ⟨none, 35, (.val (.ld (.s 34) none)), [34], none, []⟩, ⟨none, 36, (.val (.bin .lss (.s 35) (.c (.int .i64 (-1))))), [35], none, []⟩, ⟨none, 37, (.val (.mv (.s 36))), [36], none, []⟩, ⟨(some (37, false)), 38, (.val (.fa (.s 5) 2)), [], none, []⟩, ⟨(some (37, false)), 39, (.val (.ld (.s 38) none)), [], none, []⟩, ⟨(some (37, false)), 40, (.val (.fa (.s 1) 1)), [], none, []⟩, ⟨(some (37, false)), 41, (.val (.ld (.s 40) none)), [], none, []⟩, ⟨(some (37, false)), 42, (.val (.lnl (.s 41) 3)), [], none, []⟩, ⟨(some (37, false)), 43, (.val (.bin .geq (.s 39) (.s 42))), [], none, []⟩, ⟨none, 44, (.val (.pick (.s 37) (.c (.bool true)) (.s 43))), [37], none, []⟩, ⟨none, 45, (.val (.mv (.s 44))), [44], none, []⟩, ⟨(some (45, false)), 46, (.val (.fa (.s 5) 3)), [], none, []⟩, ⟨(some (45, false)), 47, (.val (.ld (.s 46) none)), [], none, []⟩, ⟨(some (45, false)), 48, (.val (.bin .lss (.s 47) (.c (.int .i64 0)))), [], none, []⟩, ⟨none, 49, (.val (.pick (.s 45) (.c (.bool true)) (.s 48))), [45], none, []⟩, ⟨none, 50, (.val (.mv (.s 49))), [49], none, []⟩, ⟨(some (50, false)), 51, (.val (.fa (.s 5) 3)), [], none, []⟩, ⟨(some (50, false)), 52, (.val (.ld (.s 51) none)), [], none, []⟩, ⟨(some (50, false)), 53, (.val (.fa (.s 1) 0)), [], none, []⟩, ⟨(some (50, false)), 54, (.val (.ld (.s 53) none)), [], none, []⟩, ⟨(some (50, false)), 55, (.val (.lnl (.s 54) 2)), [], none, []⟩, ⟨(some (50, false)), 56, (.val (.bin .geq (.s 52) (.s 55))), [], none, []⟩, ⟨none, 57, (.val (.pick (.s 50) (.c (.bool true)) (.s 56))), [50], none, []⟩, ⟨none, 33, (.val (.mv (.s 57))), [57], none, []⟩]) (.cond (.s 33) (.seq (.region [⟨none, 2, (.val (.mv (.c (.int .i64 1)))), [1, 3, 5, 7, 11, 12, 13, 33, 38, 39, 40, 41, 42, 43, 46, 47, 48, 51, 52, 53, 54, 55, 56, 62, 63, 64, 69, 70, 71], none, []⟩]) .ret) (.seq (.seq (.region [⟨none, 59, (.val (.fa (.s 7) 2)), [33], none, []⟩, ⟨none, 60, (.val (.ld (.s 59) none)), [59], none, []⟩, ⟨none, 61, (.val (.mv (.s 60))), [60], none, []⟩, ⟨(some (61, true)), 62, (.val (.fa (.s 5) 2)), [], none, []⟩, ⟨(some (61, true)), 63, (.val (.ld (.s 62) none)), [], none, []⟩, ⟨(some (61, true)), 64, (.val (.bin .neq (.s 63) (.c (.int .i64 (-1))))), [], none, []⟩, ⟨none, 65, (.val (.pick (.s 61) (.s 64) (.c (.bool false)))), [61], none, []⟩, ⟨none, 58, (.val (.mv (.s 65))), [65], none, []⟩]) (.cond (.s 58) .skip (.region [⟨none, 66, (.val (.fa (.s 7) 1)), [7, 58], none, []⟩, ⟨none, 67, (.val (.ld (.s 66) none)), [66], none, []⟩, ⟨none, 68, (.val (.mv (.s 67))), [67], none, []⟩, ⟨(some (68, true)), 69, (.val (.fa (.s 5) 2)), [], none, []⟩, ⟨(some (68, true)), 70, (.val (.ld (.s 69) none)), [], none, []⟩, ⟨(some (68, true)), 71, (.val (.bin .eql (.s 70) (.c (.int .i64 (-1))))), [], none, []⟩, ⟨none, 72, (.val (.pick (.s 68) (.s 71) (.c (.bool false)))), [68], none, []⟩, ⟨none, 58, (.val (.mv (.s 72))), [72], none, []⟩]))) (.cond (.s 58) (.seq (.region [⟨none, 2, (.val (.mv (.c (.int .i64 10)))), [1, 3, 5, 7, 11, 12, 13, 38, 39, 40, 41, 42, 43, 46, 47, 48, 51, 52, 53, 54, 55, 56, 58, 62, 63, 64, 69, 70, 71], none, []⟩]) .ret) (.seq (.region [⟨none, 74, (.val (.ld (.s 5) (some 6))), [5, 7, 58], none, []⟩, ⟨none, 75, (.callP 69 [(.s 74)]), [74], none, []⟩, ⟨none, 76, (.val (.un .not (.s 75))), [75], none, []⟩, ⟨none, 73, (.val (.mv (.s 76))), [76], none, []⟩]) (.cond (.s 73) (.seq (.region [⟨none, 2, (.val (.mv (.c (.int .i64 1)))), [1, 3, 11, 12, 13, 38, 39, 40, 41, 42, 43, 46, 47, 48, 51, 52, 53, 54, 55, 56, 62, 63, 64, 69, 70, 71, 73], none, []⟩]) .ret) .skip))))))))))))) (.region [⟨none, 77, (.val (.bin .add (.s 13) (.c (.int .i64 1)))), [13, 73], none, []⟩, ⟨none, 13, (.val (.mv (.s 77))), [77], none, []⟩]))))))) (.seq (.region [⟨none, 2, (.val (.mv (.c (.int .i64 0)))), [1, 3, 11, 12, 13, 14, 38, 39, 40, 41, 42, 43, 46, 47, 48, 51, 52, 53, 54, 55, 56, 62, 63, 64, 69, 70, 71], none, []⟩]) .ret))))
theorem ok158 : FnOk Tryd.prog 44 cc158 [(.t 2)] 1 78 := ⟨⟨_, Tryd.func44, by kernel_rfl, by kernel_rfl, by kernel_rfl⟩, by decide, by decide⟩
/- watershed/watershedref09.op -/
def cc161 : CC := (.seq (.region [⟨none, 2, (.box 0), [0], none, []⟩, ⟨none, 3, (.box 1), [1], none, []⟩, ⟨none, 4, (.val (.mv (.c (.int .i64 0)))), [4], none, []⟩]) (.seq (.block 0 (.seq (.region [⟨none, 6, (.val (.fa (.s 3) 1)), [], none, []⟩, ⟨none, 7, (.val (.ld (.s 6) none)), [6], none, []⟩, ⟨none, 8, (.callP 84 [(.s 7)]), [7], none, []⟩, ⟨none, 9, (.val (.bin .eql (.s 8) (.c (.string ⟨#[]⟩)))), [8], none, []⟩, ⟨none, 5, (.val (.mv (.s 9))), [9], none, []⟩]) (.cond (.s 5) (.seq (.region [⟨none, 4, (.val (.mv (.c (.int .i64 70)))), [2, 3, 5], none, []⟩]) .ret) (.seq (.region [⟨none, 11, (.val (.fa (.s 3) 2)), [5], none, []⟩, ⟨none, 12, (.val (.ld (.s 11) none)), [11], none, []⟩, ⟨none, 13, (.val (.bin .lss (.s 12) (.c (.int .i64 (-1))))), [12], none, []⟩, ⟨none, 14, (.val (.mv (.s 13))), [13], none, []⟩, ⟨(some (14, false)), 15, (.val (.fa (.s 3) 2)), [], none, []⟩, ⟨(some (14, false)), 16, (.val (.ld (.s 15) none)), [15], none, []⟩, ⟨(some (14, false)), 17, (.val (.fa (.s 2) 1)), [], none, []⟩, ⟨(some (14, false)), 18, (.val (.ld (.s 17) none)), [17], none, []⟩, ⟨(some (14, false)), 19, (.val (.lnl (.s 18) 3)), [18], none, []⟩, ⟨(some (14, false)), 20, (.val (.bin .geq (.s 16) (.s 19))), [16, 19], none, []⟩, ⟨none, 21, (.val (.pick (.s 14) (.c (.bool true)) (.s 20))), [14, 20], none, []⟩, ⟨none, 22, (.val (.mv (.s 21))), [21], none, []⟩, ⟨(some (22, false)), 23, (.val (.fa (.s 3) 3)), [], none, []⟩, ⟨(some (22, false)), 24, (.val (.ld (.s 23) none)), [23], none, []⟩, ⟨(some (22, false)), 25, (.val (.bin .lss (.s 24) (.c (.int .i64 0)))), [24], none, []⟩, ⟨none, 26, (.val (.pick (.s 22) (.c (.bool true)) (.s 25))), [22, 25], none, []⟩, ⟨none, 27, (.val (.mv (.s 26))), [26], none, []⟩, ⟨(some (27, false)), 28, (.val (.fa (.s 3) 3)), [], none, []⟩, ⟨(some (27, false)), 29, (.val (.ld (.s 28) none)), [28], none, []⟩, ⟨(some (27, false)), 30, (.val (.fa (.s 2) 0)), [2], none, []⟩, ⟨(some (27, false)), 31, (.val (.ld (.s 30) none)), [30], none, []⟩, ⟨(some (27, false)), 32, (.val (.lnl (.s 31) 2)), [31], none, []⟩, ⟨(some (27, false)), 33, (.val (.bin .geq (.s 29) (.s 32))), [29, 32], none, []⟩, ⟨none, 34, (.val (.pick (.s 27) (.c (.bool true)) (.s 33))), [27, 33], none, []⟩, ⟨none, 10, (.val (.mv (.s 34))), [34], none, []⟩]) (.cond (.s 10) (.seq (.region [⟨none, 4, (.val (.mv (.c (.int .i64 1)))), [3, 10], none, []⟩]) .ret) (.seq (.region [⟨none, 36, (.val (.fa (.s 3) 1)), [10], none, []⟩, ⟨none, 37, (.val (.ld (.s 36) none)), [36], none, []⟩, ⟨none, 38, (.val (.bin .leq (.s 37) (.c (.int .i64 2)))), [37], none, []⟩, ⟨none, 39, (.val (.mv (.s 38))), [38], none, []⟩, ⟨(some (39, true)), 40, (.val (.fa (.s 3) 2)), [], none, []⟩, ⟨(some (39, true)), 41, (.val (.ld (.s 40) none)), [40], none, []⟩, ⟨(some (39, true)), 42, (.val (.bin .neq (.s 41) (.c (.int .i64 (-1))))), [41], none, []⟩, ⟨none, 43, (.val (.pick (.s 39) (.s 42) (.c (.bool false)))), [39, 42], none, []⟩, ⟨none, 44, (.val (.mv (.s 43))), [43], none, []⟩, ⟨(some (44, false)), 45, (.val (.fa (.s 3) 1)), [], none, []⟩, ⟨(some (44, false)), 46, (.val (.ld (.s 45) none)), [45], none, []⟩, ⟨(some (44, false)), 47, (.val (.bin .geq (.s 46) (.c (.int .i64 7)))), [46], none, []⟩, ⟨(some (44, false)), 48, (.val (.mv (.s 47))), [47], none, []⟩, ⟨(some (48, true)), 49, (.val (.fa (.s 3) 1)), [], none, []⟩, ⟨(some (48, true)), 50, (.val (.ld (.s 49) none)), [49], none, []⟩, ⟨(some (48, true)), 51, (.val (.bin .leq (.s 50) (.c (.int .i64 9)))), [50], none, []⟩, ⟨(some (44, false)), 52, (.val (.pick (.s 48) (.s 51) (.c (.bool false)))), [48, 51], none, []⟩, ⟨(some (44, false)), 53, (.val (.mv (.s 52))), [52], none, []⟩, ⟨(some (53, true)), 54, (.val (.fa (.s 3) 2)), [], none, []⟩, ⟨(some (53, true)), 55, (.val (.ld (.s 54) none)), [54], none, []⟩, ⟨(some (53, true)), 56, (.val (.bin .eql (.s 55) (.c (.int .i64 (-1))))), [55], none, []⟩, ⟨(some (44, false)), 57, (.val (.pick (.s 53) (.s 56) (.c (.bool false)))), [53, 56], none, []⟩, ⟨none, 58, (.val (.pick (.s 44) (.c (.bool true)) (.s 57))), [44, 57], none, []⟩, ⟨none, 35, (.val (.mv (.s 58))), [58], none, []⟩]) (.cond (.s 35) (.seq (.region [⟨none, 4, (.val (.mv (.c (.int .i64 10)))), [3, 35], none, []⟩]) .ret) (.seq (.region [⟨none, 60, (.val (.ld (.s 3) (some 6))), [3, 35], none, []⟩, ⟨none, 61, (.callP 85 [(.s 60)]), [60], none, []⟩, ⟨none, 62, (.val (.un .not (.s 61))), [61], none, []⟩, ⟨none, 59, (.val (.mv (.s 62))), [62], none, []⟩]) (.cond (.s 59) (.seq (.region [⟨none, 4, (.val (.mv (.c (.int .i64 1)))), [59], none, []⟩]) .ret) .skip))))))))) (.seq (.region [⟨none, 4, (.val (.mv (.c (.int .i64 0)))), [59], none, []⟩]) .ret)))
theorem ok161 : FnOk Tryd.prog 53 cc161 [(.t 4)] 2 63 := ⟨⟨_, Tryd.func53, by kernel_rfl, by kernel_rfl, by kernel_rfl⟩, by decide, by decide⟩
/-- What is wrong with an operator, but its name. -/
def opR (g : Gr) (o : O6) : Int :=
  if o.k < 1 ∨ 14 < o.k then 70 else if o.lo < -1 ∨ g.lo.length ≤ o.lo ∨ o.at_ < 0 ∨ g.cl.length ≤ o.at_ then 1
  else if (o.k ≤ 2 ∧ o.lo ≠ -1) ∨ (7 ≤ o.k ∧ o.k ≤ 9 ∧ o.lo = -1) then 10 else if numOk o = false then 1 else 0
def opE (g : Gr) : List ByteArray → List O6 → Int
  | _, [] => 0
  | sn, o :: r => if seeR o.nm sn ≠ 0 then seeR o.nm sn else if opR g o ≠ 0 then opR g o else opE g (sn ++ [o.nm]) r
def ons (l : List O6) : List ByteArray := l.map (·.nm)
def st158 (I : World → Fp → Value → Fp → Prop) (g : Gr) (b : Nat) (i : Nat) : St :=
  ⟨[(13, .v (.int .i64 i)), (12, .v (.int .i64 g.op.length)), (11, .lst 6 (g.op.map opA)), (3, .v (.map (some b))), (1, .ref ⟨1001, [], 0⟩)], [(2009, .ext (MapB b (nmE (ons (g.op.take i))))), (1001, gA g), (9999, .ext I)], []⟩
theorem c158 (g : Gr) (hl : g.op.length ≤ 1000000) {Q : AV → Al → Prop} (h : Q (i64A (opE g [] g.op)) []) : ACalls Tryd.prog 44 [] [gA g] Q := by
  refine ok158.N hmix rfl ?_
  intro I
  simp only [cc158, OI, ↓reduceIte, reduceCtorEq, Nat.reduceAdd, Nat.reduceEqDiff, Nat.reduceBEq, Nat.reduceLT, Nat.reduceLeDiff, Nat.reduceMul, Nat.reduceSub, Int.reduceLE, Int.reduceLT, Int.reduceEq, Int.reduceBEq, Int.reduceBNe, Int.reduceToNat, Int.reduceNeg, Nat.reduceBNe, gA]
  intro b
  refine W_loop (st158 I g b) (fun i => i ≤ g.op.length ∧ opE g [] g.op = opE g (ons (g.op.take i)) (g.op.drop i)) (fun i => g.op.length - i) (fun _ _ => rfl) ⟨0, ⟨by omega, rfl⟩, ?_⟩ ?_
  · simp only [OI, ↓reduceIte, reduceCtorEq, Nat.reduceAdd, Nat.reduceEqDiff, Nat.reduceBEq, Nat.reduceLT, Nat.reduceLeDiff, Nat.reduceMul, Nat.reduceSub, Int.reduceLE, Int.reduceLT, Int.reduceEq, Int.reduceBEq, Int.reduceBNe, Int.reduceToNat, Int.reduceNeg, Nat.reduceBNe, st158, gA, ons, nmE_nil]
    try rfl
  rintro i ⟨hi, he⟩
  refine W_of_N ok158.small hmix ?_
  by_cases hil : i < g.op.length
  · have hil' : (i : Int) < g.op.length := by omega
    have i0 : (0 : Int) ≤ i := by omega
    have hgi : g.op[i]? = some g.op[i] := List.getElem?_eq_getElem hil
    have w1 : IntKind.i64.wrap ((i : Int) + 1) = ((i + 1 : Nat) : Int) := by rw [wrI64 (by omega) (by omega)]; omega
    rw [drop_cons hgi] at he
    generalize hc : g.op[i] = c at hgi he
    simp only [OI, ↓reduceIte, reduceCtorEq, Nat.reduceAdd, Nat.reduceEqDiff, Nat.reduceBEq, Nat.reduceLT, Nat.reduceLeDiff, Nat.reduceMul, Nat.reduceSub, Int.reduceLE, Int.reduceLT, Int.reduceEq, Int.reduceBEq, Int.reduceBNe, Int.reduceToNat, Int.reduceNeg, Nat.reduceBNe, st158, hil', i0, hgi, w1, opA]
    refine c200 b _ _ ?_
    simp only [opE] at he
    by_cases hr : seeR c.nm (ons (g.op.take i)) = 0
    · rw [if_neg (by simpa using hr)] at he
      simp only [OI, ↓reduceIte, reduceCtorEq, Nat.reduceAdd, Nat.reduceEqDiff, Nat.reduceBEq, Nat.reduceLT, Nat.reduceLeDiff, Nat.reduceMul, Nat.reduceSub, Int.reduceLE, Int.reduceLT, Int.reduceEq, Int.reduceBEq, Int.reduceBNe, Int.reduceToNat, Int.reduceNeg, Nat.reduceBNe, hr]
      refine c199 c.k ?_
      have stop : ∀ n : Int, n ≠ 0 → opR g c = n → Q (.v (.int .i64 n)) [] := by
        intro n hn e
        rw [e, if_pos hn] at he
        rw [he] at h; exact h
      by_cases hk : 1 ≤ c.k ∧ c.k ≤ 14
      · rw [if_pos hk, decide_eq_true hk]
        have hk1 : ¬ (c.k < 1 ∨ 14 < c.k) := by omega
        by_cases a1 : c.lo < -1
        · simp only [OI, ↓reduceIte, reduceCtorEq, Nat.reduceAdd, Nat.reduceEqDiff, Nat.reduceBEq, Nat.reduceLT, Nat.reduceLeDiff, Nat.reduceMul, Nat.reduceSub, Int.reduceLE, Int.reduceLT, Int.reduceEq, Int.reduceBEq, Int.reduceBNe, Int.reduceToNat, Int.reduceNeg, Nat.reduceBNe, frmA, a1]
          exact stop _ (by decide) (by simp [opR, hk1, a1])
        by_cases a2 : (g.lo.length : Int) ≤ c.lo
        · simp only [OI, ↓reduceIte, reduceCtorEq, Nat.reduceAdd, Nat.reduceEqDiff, Nat.reduceBEq, Nat.reduceLT, Nat.reduceLeDiff, Nat.reduceMul, Nat.reduceSub, Int.reduceLE, Int.reduceLT, Int.reduceEq, Int.reduceBEq, Int.reduceBNe, Int.reduceToNat, Int.reduceNeg, Nat.reduceBNe, frmA, a1, a2, gA]
          exact stop _ (by decide) (by simp [opR, hk1, a2])
        by_cases a3 : c.at_ < 0
        · simp only [OI, ↓reduceIte, reduceCtorEq, Nat.reduceAdd, Nat.reduceEqDiff, Nat.reduceBEq, Nat.reduceLT, Nat.reduceLeDiff, Nat.reduceMul, Nat.reduceSub, Int.reduceLE, Int.reduceLT, Int.reduceEq, Int.reduceBEq, Int.reduceBNe, Int.reduceToNat, Int.reduceNeg, Nat.reduceBNe, frmA, a1, a2, a3, gA]
          exact stop _ (by decide) (by simp [opR, hk1, a3])
        by_cases a4 : (g.cl.length : Int) ≤ c.at_
        · simp only [OI, ↓reduceIte, reduceCtorEq, Nat.reduceAdd, Nat.reduceEqDiff, Nat.reduceBEq, Nat.reduceLT, Nat.reduceLeDiff, Nat.reduceMul, Nat.reduceSub, Int.reduceLE, Int.reduceLT, Int.reduceEq, Int.reduceBEq, Int.reduceBNe, Int.reduceToNat, Int.reduceNeg, Nat.reduceBNe, frmA, a1, a2, a3, a4, gA]
          exact stop _ (by decide) (by simp [opR, hk1, a4])
        have hR : opR g c = if (c.k ≤ 2 ∧ c.lo ≠ -1) ∨ (7 ≤ c.k ∧ c.k ≤ 9 ∧ c.lo = -1) then 10 else if numOk c = false then 1 else 0 := by
          simp only [opR]
          rw [if_neg hk1, if_neg (by omega)]
        have fin : ∀ (hd : ¬ ((c.k ≤ 2 ∧ c.lo ≠ -1) ∨ (7 ≤ c.k ∧ c.k ≤ 9 ∧ c.lo = -1))), numOk c = true → opE g [] g.op = opE g (ons (g.op.take (i + 1))) (g.op.drop (i + 1)) := by
          intro hd hn
          rw [he, hR, if_neg hd, if_neg (by simp [hn] : ¬ numOk c = false), if_neg (by decide)]
          rw [take_snoc hgi]
          simp only [ons, List.map_append, List.map_cons, List.map_nil]
        have hx := seeL0 hr
        simp only [ons] at hx
        by_cases n1 : c.k ≤ 2
        · have d1 : decide (1 ≤ c.k ∧ c.k ≤ 2) = true := decide_eq_true ⟨hk.1, n1⟩
          have d2 : decide (7 ≤ c.k ∧ c.k ≤ 9) = false := decide_eq_false (by omega)
          by_cases a5 : c.lo = -1
          · simp only [OI, ↓reduceIte, reduceCtorEq, Nat.reduceAdd, Nat.reduceEqDiff, Nat.reduceBEq, Nat.reduceLT, Nat.reduceLeDiff, Nat.reduceMul, Nat.reduceSub, Int.reduceLE, Int.reduceLT, Int.reduceEq, Int.reduceBEq, Int.reduceBNe, Int.reduceToNat, Int.reduceNeg, Nat.reduceBNe, frmA, a1, a2, a3, a4, gA, d1, d2, bneF a5]
            refine c201 c ?_
            cases hn : numOk c with
            | true =>
              simp only [OI, ↓reduceIte, reduceCtorEq, Nat.reduceAdd, Nat.reduceEqDiff, Nat.reduceBEq, Nat.reduceLT, Nat.reduceLeDiff, Nat.reduceMul, Nat.reduceSub, Int.reduceLE, Int.reduceLT, Int.reduceEq, Int.reduceBEq, Int.reduceBNe, Int.reduceToNat, Int.reduceNeg, Nat.reduceBNe, w1]
              refine ⟨i + 1, ⟨⟨by omega, fin (by omega) hn⟩, by omega⟩, ?_⟩
              simp only [OI, ↓reduceIte, reduceCtorEq, Nat.reduceAdd, Nat.reduceEqDiff, Nat.reduceBEq, Nat.reduceLT, Nat.reduceLeDiff, Nat.reduceMul, Nat.reduceSub, Int.reduceLE, Int.reduceLT, Int.reduceEq, Int.reduceBEq, Int.reduceBNe, Int.reduceToNat, Int.reduceNeg, Nat.reduceBNe, st158, take_snoc hgi, ons, gA, hx]
            | false =>
              simp only [OI, ↓reduceIte, reduceCtorEq, Nat.reduceAdd, Nat.reduceEqDiff, Nat.reduceBEq, Nat.reduceLT, Nat.reduceLeDiff, Nat.reduceMul, Nat.reduceSub, Int.reduceLE, Int.reduceLT, Int.reduceEq, Int.reduceBEq, Int.reduceBNe, Int.reduceToNat, Int.reduceNeg, Nat.reduceBNe]
              exact stop _ (by decide) (by rw [hR, if_neg (by omega), if_pos hn])
          · simp only [OI, ↓reduceIte, reduceCtorEq, Nat.reduceAdd, Nat.reduceEqDiff, Nat.reduceBEq, Nat.reduceLT, Nat.reduceLeDiff, Nat.reduceMul, Nat.reduceSub, Int.reduceLE, Int.reduceLT, Int.reduceEq, Int.reduceBEq, Int.reduceBNe, Int.reduceToNat, Int.reduceNeg, Nat.reduceBNe, frmA, a1, a2, a3, a4, gA, d1, d2, bneT a5]
            exact stop _ (by decide) (by rw [hR, if_pos (.inl ⟨n1, a5⟩)])
        · have d1 : decide (1 ≤ c.k ∧ c.k ≤ 2) = false := decide_eq_false (by omega)
          by_cases n2 : 7 ≤ c.k ∧ c.k ≤ 9
          · have d2 := decide_eq_true n2
            by_cases a5 : c.lo = -1
            · simp only [OI, ↓reduceIte, reduceCtorEq, Nat.reduceAdd, Nat.reduceEqDiff, Nat.reduceBEq, Nat.reduceLT, Nat.reduceLeDiff, Nat.reduceMul, Nat.reduceSub, Int.reduceLE, Int.reduceLT, Int.reduceEq, Int.reduceBEq, Int.reduceBNe, Int.reduceToNat, Int.reduceNeg, Nat.reduceBNe, frmA, a1, a2, a3, a4, gA, d1, d2, beqT a5]
              exact stop _ (by decide) (by rw [hR, if_pos (.inr ⟨n2.1, n2.2, a5⟩)])
            · simp only [OI, ↓reduceIte, reduceCtorEq, Nat.reduceAdd, Nat.reduceEqDiff, Nat.reduceBEq, Nat.reduceLT, Nat.reduceLeDiff, Nat.reduceMul, Nat.reduceSub, Int.reduceLE, Int.reduceLT, Int.reduceEq, Int.reduceBEq, Int.reduceBNe, Int.reduceToNat, Int.reduceNeg, Nat.reduceBNe, frmA, a1, a2, a3, a4, gA, d1, d2, beqF a5]
              refine c201 c ?_
              cases hn : numOk c with
              | true =>
                simp only [OI, ↓reduceIte, reduceCtorEq, Nat.reduceAdd, Nat.reduceEqDiff, Nat.reduceBEq, Nat.reduceLT, Nat.reduceLeDiff, Nat.reduceMul, Nat.reduceSub, Int.reduceLE, Int.reduceLT, Int.reduceEq, Int.reduceBEq, Int.reduceBNe, Int.reduceToNat, Int.reduceNeg, Nat.reduceBNe, w1]
                refine ⟨i + 1, ⟨⟨by omega, fin (by omega) hn⟩, by omega⟩, ?_⟩
                simp only [OI, ↓reduceIte, reduceCtorEq, Nat.reduceAdd, Nat.reduceEqDiff, Nat.reduceBEq, Nat.reduceLT, Nat.reduceLeDiff, Nat.reduceMul, Nat.reduceSub, Int.reduceLE, Int.reduceLT, Int.reduceEq, Int.reduceBEq, Int.reduceBNe, Int.reduceToNat, Int.reduceNeg, Nat.reduceBNe, st158, take_snoc hgi, ons, gA, hx]
              | false =>
                simp only [OI, ↓reduceIte, reduceCtorEq, Nat.reduceAdd, Nat.reduceEqDiff, Nat.reduceBEq, Nat.reduceLT, Nat.reduceLeDiff, Nat.reduceMul, Nat.reduceSub, Int.reduceLE, Int.reduceLT, Int.reduceEq, Int.reduceBEq, Int.reduceBNe, Int.reduceToNat, Int.reduceNeg, Nat.reduceBNe]
                exact stop _ (by decide) (by rw [hR, if_neg (by omega), if_pos hn])
          · have d2 := decide_eq_false n2
            simp only [OI, ↓reduceIte, reduceCtorEq, Nat.reduceAdd, Nat.reduceEqDiff, Nat.reduceBEq, Nat.reduceLT, Nat.reduceLeDiff, Nat.reduceMul, Nat.reduceSub, Int.reduceLE, Int.reduceLT, Int.reduceEq, Int.reduceBEq, Int.reduceBNe, Int.reduceToNat, Int.reduceNeg, Nat.reduceBNe, frmA, a1, a2, a3, a4, gA, d1, d2]
            refine c201 c ?_
            cases hn : numOk c with
            | true =>
              simp only [OI, ↓reduceIte, reduceCtorEq, Nat.reduceAdd, Nat.reduceEqDiff, Nat.reduceBEq, Nat.reduceLT, Nat.reduceLeDiff, Nat.reduceMul, Nat.reduceSub, Int.reduceLE, Int.reduceLT, Int.reduceEq, Int.reduceBEq, Int.reduceBNe, Int.reduceToNat, Int.reduceNeg, Nat.reduceBNe, w1]
              refine ⟨i + 1, ⟨⟨by omega, fin (by omega) hn⟩, by omega⟩, ?_⟩
              simp only [OI, ↓reduceIte, reduceCtorEq, Nat.reduceAdd, Nat.reduceEqDiff, Nat.reduceBEq, Nat.reduceLT, Nat.reduceLeDiff, Nat.reduceMul, Nat.reduceSub, Int.reduceLE, Int.reduceLT, Int.reduceEq, Int.reduceBEq, Int.reduceBNe, Int.reduceToNat, Int.reduceNeg, Nat.reduceBNe, st158, take_snoc hgi, ons, gA, hx]
            | false =>
              simp only [OI, ↓reduceIte, reduceCtorEq, Nat.reduceAdd, Nat.reduceEqDiff, Nat.reduceBEq, Nat.reduceLT, Nat.reduceLeDiff, Nat.reduceMul, Nat.reduceSub, Int.reduceLE, Int.reduceLT, Int.reduceEq, Int.reduceBEq, Int.reduceBNe, Int.reduceToNat, Int.reduceNeg, Nat.reduceBNe]
              exact stop _ (by decide) (by rw [hR, if_neg (by omega), if_pos hn])
      · rw [if_neg hk, decide_eq_false hk]
        simp only [OI, ↓reduceIte, reduceCtorEq, Nat.reduceAdd, Nat.reduceEqDiff, Nat.reduceBEq, Nat.reduceLT, Nat.reduceLeDiff, Nat.reduceMul, Nat.reduceSub, Int.reduceLE, Int.reduceLT, Int.reduceEq, Int.reduceBEq, Int.reduceBNe, Int.reduceToNat, Int.reduceNeg, Nat.reduceBNe, frmA]
        exact stop _ (by decide) (by simp only [opR]; rw [if_pos (by omega)])
    · rw [if_pos hr] at he
      simp only [OI, ↓reduceIte, reduceCtorEq, Nat.reduceAdd, Nat.reduceEqDiff, Nat.reduceBEq, Nat.reduceLT, Nat.reduceLeDiff, Nat.reduceMul, Nat.reduceSub, Int.reduceLE, Int.reduceLT, Int.reduceEq, Int.reduceBEq, Int.reduceBNe, Int.reduceToNat, Int.reduceNeg, Nat.reduceBNe, bneT hr, hr]
      rw [he] at h; exact h
  · obtain rfl : i = g.op.length := by omega
    simp only [OI, ↓reduceIte, reduceCtorEq, Nat.reduceAdd, Nat.reduceEqDiff, Nat.reduceBEq, Nat.reduceLT, Nat.reduceLeDiff, Nat.reduceMul, Nat.reduceSub, Int.reduceLE, Int.reduceLT, Int.reduceEq, Int.reduceBEq, Int.reduceBNe, Int.reduceToNat, Int.reduceNeg, Nat.reduceBNe, st158, Int.lt_irrefl]
    rw [List.drop_length] at he
    rw [he] at h; exact h
theorem wordOf_nil {k : Int} : ((wordOf k).toList == ByteArray.toList ⟨#[]⟩) = decide (k < 1 ∨ 14 < k) := by
  by_cases h : k < 1 ∨ 14 < k
  · have e : wordOf k = ⟨#[]⟩ := by
      unfold wordOf
      repeat rw [if_neg (by omega)]
    rw [e, decide_eq_true h]; simp
  · rw [decide_eq_false h]
    rcases kinds k (by omega) (by omega) with rfl | rfl | rfl | rfl | rfl | rfl | rfl | rfl | rfl | rfl | rfl | rfl | rfl | rfl <;> (rw [ByteArray.toList_eq, ByteArray.toList_eq]; rfl)
theorem c161 (g : Gr) (o : O6) {Q : AV → Al → Prop} (h : Q (i64A (opR g o)) []) : ACalls Tryd.prog 53 [] [gA g, opA o] Q := by
  refine ok161.N hmix rfl ?_
  intro I
  simp only [cc161, OI, ↓reduceIte, reduceCtorEq, Nat.reduceAdd, Nat.reduceEqDiff, Nat.reduceBEq, Nat.reduceLT, Nat.reduceLeDiff, Nat.reduceMul, Nat.reduceSub, Int.reduceLE, Int.reduceLT, Int.reduceEq, Int.reduceBEq, Int.reduceBNe, Int.reduceToNat, Int.reduceNeg, Nat.reduceBNe, gA, opA]
  refine c154 o.k ?_
  by_cases hk1 : o.k < 1 ∨ 14 < o.k
  · simp only [OI, ↓reduceIte, reduceCtorEq, Nat.reduceAdd, Nat.reduceEqDiff, Nat.reduceBEq, Nat.reduceLT, Nat.reduceLeDiff, Nat.reduceMul, Nat.reduceSub, Int.reduceLE, Int.reduceLT, Int.reduceEq, Int.reduceBEq, Int.reduceBNe, Int.reduceToNat, Int.reduceNeg, Nat.reduceBNe, wordOf_nil, decide_eq_true hk1]
    simpa [opR, hk1, i64A] using h
  have hw := decide_eq_false hk1
  by_cases a1 : o.lo < -1
  · simp only [OI, ↓reduceIte, reduceCtorEq, Nat.reduceAdd, Nat.reduceEqDiff, Nat.reduceBEq, Nat.reduceLT, Nat.reduceLeDiff, Nat.reduceMul, Nat.reduceSub, Int.reduceLE, Int.reduceLT, Int.reduceEq, Int.reduceBEq, Int.reduceBNe, Int.reduceToNat, Int.reduceNeg, Nat.reduceBNe, wordOf_nil, hw, a1]
    simpa [opR, hk1, a1, i64A] using h
  by_cases a2 : (g.lo.length : Int) ≤ o.lo
  · simp only [OI, ↓reduceIte, reduceCtorEq, Nat.reduceAdd, Nat.reduceEqDiff, Nat.reduceBEq, Nat.reduceLT, Nat.reduceLeDiff, Nat.reduceMul, Nat.reduceSub, Int.reduceLE, Int.reduceLT, Int.reduceEq, Int.reduceBEq, Int.reduceBNe, Int.reduceToNat, Int.reduceNeg, Nat.reduceBNe, wordOf_nil, hw, a1, a2]
    simpa [opR, hk1, a2, i64A] using h
  by_cases a3 : o.at_ < 0
  · simp only [OI, ↓reduceIte, reduceCtorEq, Nat.reduceAdd, Nat.reduceEqDiff, Nat.reduceBEq, Nat.reduceLT, Nat.reduceLeDiff, Nat.reduceMul, Nat.reduceSub, Int.reduceLE, Int.reduceLT, Int.reduceEq, Int.reduceBEq, Int.reduceBNe, Int.reduceToNat, Int.reduceNeg, Nat.reduceBNe, wordOf_nil, hw, a1, a2, a3]
    simpa [opR, hk1, a3, i64A] using h
  by_cases a4 : (g.cl.length : Int) ≤ o.at_
  · simp only [OI, ↓reduceIte, reduceCtorEq, Nat.reduceAdd, Nat.reduceEqDiff, Nat.reduceBEq, Nat.reduceLT, Nat.reduceLeDiff, Nat.reduceMul, Nat.reduceSub, Int.reduceLE, Int.reduceLT, Int.reduceEq, Int.reduceBEq, Int.reduceBNe, Int.reduceToNat, Int.reduceNeg, Nat.reduceBNe, wordOf_nil, hw, a1, a2, a3, a4]
    simpa [opR, hk1, a4, i64A] using h
  have hR : opR g o = if (o.k ≤ 2 ∧ o.lo ≠ -1) ∨ (7 ≤ o.k ∧ o.k ≤ 9 ∧ o.lo = -1) then 10 else if numOk o = false then 1 else 0 := by
    simp only [opR]
    rw [if_neg hk1, if_neg (by omega)]
  rw [hR] at h
  by_cases n1 : o.k ≤ 2
  · have n7 : ¬ 7 ≤ o.k := by omega
    by_cases a5 : o.lo = -1
    · rw [if_neg (by omega)] at h
      simp only [OI, ↓reduceIte, reduceCtorEq, Nat.reduceAdd, Nat.reduceEqDiff, Nat.reduceBEq, Nat.reduceLT, Nat.reduceLeDiff, Nat.reduceMul, Nat.reduceSub, Int.reduceLE, Int.reduceLT, Int.reduceEq, Int.reduceBEq, Int.reduceBNe, Int.reduceToNat, Int.reduceNeg, Nat.reduceBNe, wordOf_nil, hw, a1, a2, a3, a4, n1, n7, bneF a5, beqT a5]
      refine c204 o ?_
      cases hn : numOk o <;>
      · simp only [OI, ↓reduceIte, reduceCtorEq, Nat.reduceAdd, Nat.reduceEqDiff, Nat.reduceBEq, Nat.reduceLT, Nat.reduceLeDiff, Nat.reduceMul, Nat.reduceSub, Int.reduceLE, Int.reduceLT, Int.reduceEq, Int.reduceBEq, Int.reduceBNe, Int.reduceToNat, Int.reduceNeg, Nat.reduceBNe]
        simpa [hn, i64A] using h
    · rw [if_pos (.inl ⟨n1, a5⟩)] at h
      simp only [OI, ↓reduceIte, reduceCtorEq, Nat.reduceAdd, Nat.reduceEqDiff, Nat.reduceBEq, Nat.reduceLT, Nat.reduceLeDiff, Nat.reduceMul, Nat.reduceSub, Int.reduceLE, Int.reduceLT, Int.reduceEq, Int.reduceBEq, Int.reduceBNe, Int.reduceToNat, Int.reduceNeg, Nat.reduceBNe, wordOf_nil, hw, a1, a2, a3, a4, n1, n7, bneT a5, beqF a5]
      exact h
  · by_cases n7 : 7 ≤ o.k
    · by_cases n9 : o.k ≤ 9
      · by_cases a5 : o.lo = -1
        · rw [if_pos (.inr ⟨n7, n9, a5⟩)] at h
          simp only [OI, ↓reduceIte, reduceCtorEq, Nat.reduceAdd, Nat.reduceEqDiff, Nat.reduceBEq, Nat.reduceLT, Nat.reduceLeDiff, Nat.reduceMul, Nat.reduceSub, Int.reduceLE, Int.reduceLT, Int.reduceEq, Int.reduceBEq, Int.reduceBNe, Int.reduceToNat, Int.reduceNeg, Nat.reduceBNe, wordOf_nil, hw, a1, a2, a3, a4, n1, n7, n9, beqT a5]
          exact h
        · rw [if_neg (by omega)] at h
          simp only [OI, ↓reduceIte, reduceCtorEq, Nat.reduceAdd, Nat.reduceEqDiff, Nat.reduceBEq, Nat.reduceLT, Nat.reduceLeDiff, Nat.reduceMul, Nat.reduceSub, Int.reduceLE, Int.reduceLT, Int.reduceEq, Int.reduceBEq, Int.reduceBNe, Int.reduceToNat, Int.reduceNeg, Nat.reduceBNe, wordOf_nil, hw, a1, a2, a3, a4, n1, n7, n9, beqF a5]
          refine c204 o ?_
          cases hn : numOk o <;>
          · simp only [OI, ↓reduceIte, reduceCtorEq, Nat.reduceAdd, Nat.reduceEqDiff, Nat.reduceBEq, Nat.reduceLT, Nat.reduceLeDiff, Nat.reduceMul, Nat.reduceSub, Int.reduceLE, Int.reduceLT, Int.reduceEq, Int.reduceBEq, Int.reduceBNe, Int.reduceToNat, Int.reduceNeg, Nat.reduceBNe]
            simpa [hn, i64A] using h
      · rw [if_neg (by omega)] at h
        simp only [OI, ↓reduceIte, reduceCtorEq, Nat.reduceAdd, Nat.reduceEqDiff, Nat.reduceBEq, Nat.reduceLT, Nat.reduceLeDiff, Nat.reduceMul, Nat.reduceSub, Int.reduceLE, Int.reduceLT, Int.reduceEq, Int.reduceBEq, Int.reduceBNe, Int.reduceToNat, Int.reduceNeg, Nat.reduceBNe, wordOf_nil, hw, a1, a2, a3, a4, n1, n7, n9]
        refine c204 o ?_
        cases hn : numOk o <;>
        · simp only [OI, ↓reduceIte, reduceCtorEq, Nat.reduceAdd, Nat.reduceEqDiff, Nat.reduceBEq, Nat.reduceLT, Nat.reduceLeDiff, Nat.reduceMul, Nat.reduceSub, Int.reduceLE, Int.reduceLT, Int.reduceEq, Int.reduceBEq, Int.reduceBNe, Int.reduceToNat, Int.reduceNeg, Nat.reduceBNe]
          simpa [hn, i64A] using h
    · rw [if_neg (by omega)] at h
      simp only [OI, ↓reduceIte, reduceCtorEq, Nat.reduceAdd, Nat.reduceEqDiff, Nat.reduceBEq, Nat.reduceLT, Nat.reduceLeDiff, Nat.reduceMul, Nat.reduceSub, Int.reduceLE, Int.reduceLT, Int.reduceEq, Int.reduceBEq, Int.reduceBNe, Int.reduceToNat, Int.reduceNeg, Nat.reduceBNe, wordOf_nil, hw, a1, a2, a3, a4, n1, n7]
      refine c204 o ?_
      cases hn : numOk o <;>
      · simp only [OI, ↓reduceIte, reduceCtorEq, Nat.reduceAdd, Nat.reduceEqDiff, Nat.reduceBEq, Nat.reduceLT, Nat.reduceLeDiff, Nat.reduceMul, Nat.reduceSub, Int.reduceLE, Int.reduceLT, Int.reduceEq, Int.reduceBEq, Int.reduceBNe, Int.reduceToNat, Int.reduceNeg, Nat.reduceBNe]
        simpa [hn, i64A] using h
end Go.Proofs.YthlehngbadianaaDoor.Ow
