/- The law watershedlaw20.BusAll returns true at every input and leaves its arguments as they read (Rows.BusAllSaid); no condition. -/
import Derived.Test.YthlehngbadianaaAi2
import Derived.Test.YthlehngbadianaaProg
import Derived.Test.YthlehngbadianaaRows
import Derived.WalkKit
import Derived.ProofKit
import Derived.OpenShut
import Derived.ShutString
import Derived.ChangeOld
import Derived.Below
set_option linter.unusedVariables false
set_option linter.unusedSimpArgs false
set_option maxRecDepth 100000
namespace Go.Proofs.Ythlehngbadianaa.Ai
open Go Go.RowKit Go.Proofs
theorem hmix : Try.prog.follows .mixedOrders = true := by kernel_rfl
/- (watershed/bus.Bus).there -/
def cc106 : CC := (.seq (.region [⟨none, 4, (.val (.mv (.c (.bool false)))), [], [4]⟩]) (.seq (.region [⟨none, 5, (.val (.mv (.s 1))), [], []⟩, ⟨none, 6, (.val (.bin .geq (.s 5) (.c (.int .i64 0)))), [], [5]⟩, ⟨none, 7, (.val (.mv (.s 6))), [6], [6]⟩, ⟨(some (7, true)), 8, (.val (.mv (.s 1))), [1], [1]⟩, ⟨(some (7, true)), 9, (.val (.mv (.s 0))), [0], [0]⟩, ⟨(some (7, true)), 10, (.val (.nc (.s 9))), [], [9]⟩, ⟨(some (7, true)), 11, (.val (.fa (.s 10) 0)), [], [10]⟩, ⟨(some (7, true)), 12, (.val (.ld (.s 11) none)), [], [11]⟩, ⟨(some (7, true)), 13, (.val (.lnl (.s 12) 1)), [], [12]⟩, ⟨(some (7, true)), 14, (.val (.bin .lss (.s 8) (.s 13))), [], [8, 13]⟩, ⟨none, 15, (.val (.pick (.s 7) (.s 14) (.c (.bool false)))), [7, 14], [7, 14]⟩, ⟨none, 4, (.val (.mv (.s 15))), [15], [15]⟩]) .ret))
theorem ok106 : FnOk Try.prog 106 cc106 [4] 2 16 := ⟨⟨_, Try.func106, by kernel_rfl, by kernel_rfl, by kernel_rfl⟩, by decide, by decide, by decide⟩


def rowC : Option (List ByteArray) → AV
  | none => .v (.slice none 0 0)
  | some l => .own 1 (l.map fun s => .v (.string s))
abbrev BusM := List (List (Option (List ByteArray)))
def busAV (m : BusM) : AV := .agg [.own 1 (m.map fun l => .own 1 (l.map fun r => .agg [rowC r]))]

def thereB (m : BusM) (i : Int) : Bool := decide (0 ≤ i) && decide (i < m.length)
theorem there_c (F : List Fr) (k : Nat) (b : Base) (path : List Hop) (m : BusM) (hn : nodeAt F k b path = some (busAV m)) (hin : inMem b path = true) (i : Int) :
    ACalls Try.prog 106 [.up (upN k (.ptr ⟨b, path, 0⟩)), .v (.int .i64 i)] F (fun r F' => r = .v (.bool (thereB m i)) ∧ F' = F) := by
  refine ok106.N hmix rfl ?_
  simp only [cc106, AI0, AI1, AI2, AI3, AI4, AI5, AI6, AI7, AI8, AI9, reduceIte, reduceCtorEq, Nat.reduceAdd, Nat.reduceEqDiff, Nat.reduceBEq, Nat.reduceLT, Nat.reduceLeDiff, Nat.reduceMul, Nat.reduceSub, Int.reduceLE, Int.reduceLT, Int.reduceEq, Int.reduceBEq, Int.reduceBNe, Int.reduceToNat, Int.reduceNeg]
  by_cases h : 0 ≤ i
  · simp only [cc106, AI0, AI1, AI2, AI3, AI4, AI5, AI6, AI7, AI8, AI9, reduceIte, reduceCtorEq, Nat.reduceAdd, Nat.reduceEqDiff, Nat.reduceBEq, Nat.reduceLT, Nat.reduceLeDiff, Nat.reduceMul, Nat.reduceSub, Int.reduceLE, Int.reduceLT, Int.reduceEq, Int.reduceBEq, Int.reduceBNe, Int.reduceToNat, Int.reduceNeg, h, hn, hin, busAV, thereB]
  · simp only [cc106, AI0, AI1, AI2, AI3, AI4, AI5, AI6, AI7, AI8, AI9, reduceIte, reduceCtorEq, Nat.reduceAdd, Nat.reduceEqDiff, Nat.reduceBEq, Nat.reduceLT, Nat.reduceLeDiff, Nat.reduceMul, Nat.reduceSub, Int.reduceLE, Int.reduceLT, Int.reduceEq, Int.reduceBEq, Int.reduceBNe, Int.reduceToNat, Int.reduceNeg, h, thereB]
end Go.Proofs.Ythlehngbadianaa.Ai
set_option linter.unusedVariables false
set_option linter.unusedSimpArgs false
set_option maxRecDepth 100000
namespace Go.Proofs.Ythlehngbadianaa.Ai
open Go Go.RowKit Go.Proofs
/- (watershed/bus.Bus).row -/
def cc103 : CC := (.seq (.region [⟨none, 6, (.val (.mv (.c (.pointer none)))), [], [6]⟩]) (.seq (.seq (.region [⟨none, 7, (.val (.mv (.s 0))), [], []⟩, ⟨none, 8, (.val (.mv (.s 1))), [], []⟩, ⟨none, 9, (.call 106 [(.s 7), (.s 8)]), [], [7, 8]⟩, ⟨none, 10, (.val (.un .not (.s 9))), [], [9]⟩, ⟨none, 11, (.val (.mv (.s 10))), [10], [10]⟩, ⟨(some (11, false)), 12, (.val (.mv (.s 0))), [], []⟩, ⟨(some (11, false)), 13, (.val (.mv (.s 2))), [], []⟩, ⟨(some (11, false)), 14, (.call 106 [(.s 12), (.s 13)]), [], [12, 13]⟩, ⟨(some (11, false)), 15, (.val (.un .not (.s 14))), [], [14]⟩, ⟨none, 16, (.val (.pick (.s 11) (.c (.bool true)) (.s 15))), [11, 15], [11, 15]⟩]) (.cond (.s 16) (.seq (.region [⟨none, 6, (.val (.mv (.c (.pointer none)))), [], [0, 1, 2, 16]⟩]) .ret) .skip)) (.seq (.region [⟨none, 17, (.val (.mv (.s 0))), [0], [0, 16]⟩, ⟨none, 18, (.val (.nc (.s 17))), [], [17]⟩, ⟨none, 19, (.val (.fa (.s 18) 0)), [], [18]⟩, ⟨none, 20, (.val (.ld (.s 19) none)), [], [19]⟩, ⟨none, 21, (.val (.mv (.s 1))), [1], [1]⟩, ⟨none, 22, (.val (.ia (.s 20) (.s 21) 1)), [], [20, 21]⟩, ⟨none, 23, (.val (.ld (.s 22) none)), [], [22]⟩, ⟨none, 24, (.val (.mv (.s 2))), [2], [2]⟩, ⟨none, 25, (.val (.ia (.s 23) (.s 24) 1)), [], [23, 24]⟩, ⟨none, 6, (.val (.mv (.s 25))), [25], [25]⟩]) .ret)))
theorem ok103 : FnOk Try.prog 103 cc103 [6] 3 26 := ⟨⟨_, Try.func103, by kernel_rfl, by kernel_rfl, by kernel_rfl⟩, by decide, by decide, by decide⟩

/- (watershed/bus.queue[string]).add -/
def cc104 : CC := (.region [⟨none, 4, (.val (.mv (.s 0))), [], []⟩, ⟨none, 5, (.val (.mv (.s 0))), [0], [0]⟩, ⟨none, 6, (.val (.nc (.s 5))), [], [5]⟩, ⟨none, 7, (.val (.fa (.s 6) 0)), [], [6]⟩, ⟨none, 8, (.val (.ld (.s 7) none)), [], [7]⟩, ⟨none, 9, (.val (.mv (.s 1))), [1], [1]⟩, ⟨none, 10, (.lit 1 [(.s 9)]), [], [9]⟩, ⟨none, 11, (.app 1 16 false (.s 8) (.s 10)), [], [8, 10]⟩, ⟨none, 12, (.val (.nc (.s 4))), [], [4]⟩, ⟨none, 13, (.val (.fa (.s 12) 0)), [], [12]⟩, ⟨none, 0, (.store 1 (.s 13) 11), [], [11, 13]⟩])
theorem ok104 : FnOk Try.prog 104 cc104 [] 2 14 := ⟨⟨_, Try.func104, by kernel_rfl, by kernel_rfl, by kernel_rfl⟩, by decide, by decide, by decide⟩

/- (watershed/bus.queue[string]).take -/
def cc107 : CC := (.region [⟨none, 2, (.val (.mv (.s 0))), [], []⟩, ⟨none, 3, (.val (.mv (.s 0))), [0], [0]⟩, ⟨none, 4, (.val (.nc (.s 3))), [], [3]⟩, ⟨none, 5, (.val (.fa (.s 4) 0)), [], [4]⟩, ⟨none, 6, (.val (.ld (.s 5) none)), [], [5]⟩, ⟨none, 7, (.val (.sl (.s 6) (some (.c (.int .i64 1))) none none 1)), [6], [6]⟩, ⟨none, 8, (.val (.nc (.s 2))), [], [2]⟩, ⟨none, 9, (.val (.fa (.s 8) 0)), [], [8]⟩, ⟨none, 0, (.store 1 (.s 9) 7), [], [7, 9]⟩])
theorem ok107 : FnOk Try.prog 107 cc107 [] 1 10 := ⟨⟨_, Try.func107, by kernel_rfl, by kernel_rfl, by kernel_rfl⟩, by decide, by decide, by decide⟩


def Wf (m : BusM) : Prop := ∀ l ∈ m, l.length = m.length
def inR (m : BusM) (f t : Int) : Bool := thereB m f && thereB m t
theorem thereB_lt {m : BusM} {i : Int} (h : thereB m i = true) : 0 ≤ i ∧ i.toNat < m.length ∧ i < m.length := by
  simp [thereB] at h; omega
def rowsAV (l : List (Option (List ByteArray))) : AV := .own 1 (l.map fun r => .agg [rowC r])
theorem Wf.get {m : BusM} (hw : Wf m) {i : Nat} (h : i < m.length) : m[i].length = m.length := hw _ (List.getElem_mem h)

theorem row_c (F : List Fr) (k : Nat) (b : Base) (path : List Hop) (m : BusM) (hw : Wf m) (hn : nodeAt F k b path = some (busAV m)) (hin : inMem b path = true) (f t : Int) :
    ACalls Try.prog 103 [.up (upN k (.ptr ⟨b, path, 0⟩)), .v (.int .i64 f), .v (.int .i64 t)] F (fun r F' => r = (if inR m f t = true then .up (upN k (.ptr ⟨b, (0, t.toNat) :: (0, f.toNat) :: path, 0⟩)) else .v (.pointer none)) ∧ F' = F) := by
  refine ok103.N hmix rfl ?_
  simp only [cc103, AI0, AI1, AI2, AI3, AI4, AI5, AI6, AI7, AI8, AI9, reduceIte, reduceCtorEq, Nat.reduceAdd, Nat.reduceEqDiff, Nat.reduceBEq, Nat.reduceLT, Nat.reduceLeDiff, Nat.reduceMul, Nat.reduceSub, Int.reduceLE, Int.reduceLT, Int.reduceEq, Int.reduceBEq, Int.reduceBNe, Int.reduceToNat, Int.reduceNeg]
  refine (there_c _ (k + 1) b path m hn hin f).mono ?_
  rintro _ _ - ⟨rfl, rfl⟩
  simp only [AI0, AI1, AI2, AI3, AI4, AI5, AI6, AI7, AI8, AI9, reduceIte, reduceCtorEq, Nat.reduceAdd, Nat.reduceEqDiff, Nat.reduceBEq, Nat.reduceLT, Nat.reduceLeDiff, Nat.reduceMul, Nat.reduceSub, Int.reduceLE, Int.reduceLT, Int.reduceEq, Int.reduceBEq, Int.reduceBNe, Int.reduceToNat, Int.reduceNeg]
  refine W_of_N [6] hmix ?_
  cases h1 : thereB m f with
  | false => simp only [AI0, AI1, AI2, AI3, AI4, AI5, AI6, AI7, AI8, AI9, reduceIte, reduceCtorEq, Nat.reduceAdd, Nat.reduceEqDiff, Nat.reduceBEq, Nat.reduceLT, Nat.reduceLeDiff, Nat.reduceMul, Nat.reduceSub, Int.reduceLE, Int.reduceLT, Int.reduceEq, Int.reduceBEq, Int.reduceBNe, Int.reduceToNat, Int.reduceNeg, h1, inR]
  | true =>
    simp only [AI0, AI1, AI2, AI3, AI4, AI5, AI6, AI7, AI8, AI9, reduceIte, reduceCtorEq, Nat.reduceAdd, Nat.reduceEqDiff, Nat.reduceBEq, Nat.reduceLT, Nat.reduceLeDiff, Nat.reduceMul, Nat.reduceSub, Int.reduceLE, Int.reduceLT, Int.reduceEq, Int.reduceBEq, Int.reduceBNe, Int.reduceToNat, Int.reduceNeg, h1, inR]
    refine (there_c _ (k + 1) b path m hn hin t).mono ?_
    rintro _ _ - ⟨rfl, rfl⟩
    simp only [AI0, AI1, AI2, AI3, AI4, AI5, AI6, AI7, AI8, AI9, reduceIte, reduceCtorEq, Nat.reduceAdd, Nat.reduceEqDiff, Nat.reduceBEq, Nat.reduceLT, Nat.reduceLeDiff, Nat.reduceMul, Nat.reduceSub, Int.reduceLE, Int.reduceLT, Int.reduceEq, Int.reduceBEq, Int.reduceBNe, Int.reduceToNat, Int.reduceNeg]
    refine W_of_N [6] hmix ?_
    cases h2 : thereB m t with
    | false => simp only [AI0, AI1, AI2, AI3, AI4, AI5, AI6, AI7, AI8, AI9, reduceIte, reduceCtorEq, Nat.reduceAdd, Nat.reduceEqDiff, Nat.reduceBEq, Nat.reduceLT, Nat.reduceLeDiff, Nat.reduceMul, Nat.reduceSub, Int.reduceLE, Int.reduceLT, Int.reduceEq, Int.reduceBEq, Int.reduceBNe, Int.reduceToNat, Int.reduceNeg, h2]
    | true =>
      obtain ⟨a1, a2, a3⟩ := thereB_lt h1
      obtain ⟨b1, b2, b3⟩ := thereB_lt h2
      have e1 : m[f.toNat]? = some m[f.toNat] := List.getElem?_eq_getElem a2
      have e2 : m[f.toNat][t.toNat]? = some (m[f.toNat][t.toNat]'(by rw [hw.get a2]; exact b2)) := List.getElem?_eq_getElem (by rw [hw.get a2]; exact b2)
      have b4 : t < m[f.toNat].length := by rw [hw.get a2]; exact b3
      simp only [AI0, AI1, AI2, AI3, AI4, AI5, AI6, AI7, AI8, AI9, reduceIte, reduceCtorEq, Nat.reduceAdd, Nat.reduceEqDiff, Nat.reduceBEq, Nat.reduceLT, Nat.reduceLeDiff, Nat.reduceMul, Nat.reduceSub, Int.reduceLE, Int.reduceLT, Int.reduceEq, Int.reduceBEq, Int.reduceBNe, Int.reduceToNat, Int.reduceNeg, h2, hn, hin, busAV, a1, a3, b1, b3, b4, e1, e2]

theorem add_c (F : List Fr) (k : Nat) (b : Base) (path : List Hop) (r : Option (List ByteArray)) (hn : nodeAt F k b path = some (.agg [rowC r])) (hin : inMem b path = true) (hrw : rwF F k = true) (s : ByteArray) (hlen : (r.getD []).length < 512) :
    ACalls Try.prog 104 [.up (upN k (.ptr ⟨b, path, 0⟩)), .v (.string s)] F (fun x F' => x = .tup [] [] ∧ F' = updN F k b path (.agg [rowC (some ((r.getD []) ++ [s]))])) := by
  refine ok104.W rfl ?_
  refine W_own hn (by cases r <;> rfl) ?_
  refine W_of_N [] hmix ?_
  cases r with
  | none => simp only [cc104, AI0, AI1, AI2, AI3, AI4, AI5, AI6, AI7, AI8, AI9, reduceIte, reduceCtorEq, Nat.reduceAdd, Nat.reduceEqDiff, Nat.reduceBEq, Nat.reduceLT, Nat.reduceLeDiff, Nat.reduceMul, Nat.reduceSub, Int.reduceLE, Int.reduceLT, Int.reduceEq, Int.reduceBEq, Int.reduceBNe, Int.reduceToNat, Int.reduceNeg, upd_rules hn rfl, hin, hrw, rowC]
  | some l =>
    simp only [Option.getD_some] at hlen
    have a1 : (l.length + 1) * 16 ≤ 140737488355328 := by omega
    have a2 : l.length ≤ 9223372036854775806 := by omega
    simp only [cc104, AI0, AI1, AI2, AI3, AI4, AI5, AI6, AI7, AI8, AI9, reduceIte, reduceCtorEq, Nat.reduceAdd, Nat.reduceEqDiff, Nat.reduceBEq, Nat.reduceLT, Nat.reduceLeDiff, Nat.reduceMul, Nat.reduceSub, Int.reduceLE, Int.reduceLT, Int.reduceEq, Int.reduceBEq, Int.reduceBNe, Int.reduceToNat, Int.reduceNeg, upd_rules hn rfl, hin, hrw, rowC, a1, a2, List.map_append]

theorem take_c (F : List Fr) (k : Nat) (b : Base) (path : List Hop) (s : ByteArray) (l : List ByteArray) (hn : nodeAt F k b path = some (.agg [rowC (some (s :: l))])) (hin : inMem b path = true) (hrw : rwF F k = true) :
    ACalls Try.prog 107 [.up (upN k (.ptr ⟨b, path, 0⟩))] F (fun x F' => x = .tup [] [] ∧ F' = updN F k b path (.agg [rowC (some l)])) := by
  refine ok107.W rfl ?_
  refine W_own hn rfl ?_
  refine W_of_N [] hmix ?_
  have a1 : (1 : Int) ≤ ((l.length + 1 : Nat) : Int) := by omega
  have a2 : 1 + (l.length + 1 - 1) ≤ l.length + 1 := by omega
  have a3 : (l.map fun s => AV.v (Value.string s)).take (l.length + 1 - 1) = l.map fun s => AV.v (Value.string s) := List.take_of_length_le (by simp)
  simp only [cc107, AI0, AI1, AI2, AI3, AI4, AI5, AI6, AI7, AI8, AI9, reduceIte, reduceCtorEq, Nat.reduceAdd, Nat.reduceEqDiff, Nat.reduceBEq, Nat.reduceLT, Nat.reduceLeDiff, Nat.reduceMul, Nat.reduceSub, Int.reduceLE, Int.reduceLT, Int.reduceEq, Int.reduceBEq, Int.reduceBNe, Int.reduceToNat, Int.reduceNeg, upd_rules hn rfl, hin, hrw, rowC, a1, a2, a3]
end Go.Proofs.Ythlehngbadianaa.Ai
set_option linter.unusedVariables false
set_option linter.unusedSimpArgs false
set_option maxRecDepth 100000
namespace Go.Proofs.Ythlehngbadianaa.Ai
open Go Go.RowKit Go.Proofs
/- (watershed/bus.Bus).Send -/
def cc16 : CC := (.seq (.region [⟨none, 8, (.val (.mv (.c (.int .i64 0)))), [], [8]⟩]) (.seq (.region [⟨none, 10, (.val (.mv (.s 0))), [0], [0]⟩, ⟨none, 11, (.val (.mv (.s 1))), [1], [1]⟩, ⟨none, 12, (.val (.mv (.s 2))), [2], [2]⟩, ⟨none, 13, (.call 103 [(.s 10), (.s 11), (.s 12)]), [], [10, 11, 12]⟩, ⟨none, 9, (.val (.mv (.s 13))), [13], [13]⟩]) (.seq (.block 0 (.seq (.region [⟨none, 15, (.val (.mv (.s 9))), [], []⟩, ⟨none, 16, (.val (.eqp false (.s 15) (.c (.pointer none)))), [], [15]⟩, ⟨none, 14, (.val (.mv (.s 16))), [16], [16]⟩]) (.cond (.s 14) (.seq (.region [⟨none, 8, (.val (.mv (.c (.int .i64 1)))), [], [3, 9, 14]⟩]) .ret) (.seq (.region [⟨none, 18, (.val (.mv (.s 3))), [], [14]⟩, ⟨none, 19, (.val (.lns (.s 18))), [], [18]⟩, ⟨none, 20, (.val (.bin .gtr (.s 19) (.c (.int .i64 8192)))), [], [19]⟩, ⟨none, 17, (.val (.mv (.s 20))), [20], [20]⟩]) (.cond (.s 17) (.seq (.region [⟨none, 8, (.val (.mv (.c (.int .i64 7)))), [], [3, 9, 17]⟩]) .ret) (.seq (.region [⟨none, 22, (.val (.mv (.s 9))), [], [17]⟩, ⟨none, 23, (.val (.nc (.s 22))), [], [22]⟩, ⟨none, 24, (.val (.fa (.s 23) 0)), [], [23]⟩, ⟨none, 25, (.val (.ld (.s 24) none)), [], [24]⟩, ⟨none, 26, (.val (.lnl (.s 25) 1)), [], [25]⟩, ⟨none, 27, (.val (.bin .geq (.s 26) (.c (.int .i64 512)))), [], [26]⟩, ⟨none, 21, (.val (.mv (.s 27))), [27], [27]⟩]) (.cond (.s 21) (.seq (.region [⟨none, 8, (.val (.mv (.c (.int .i64 2)))), [], [3, 9, 21]⟩]) .ret) .skip))))))) (.seq (.region [⟨none, 28, (.val (.mv (.s 9))), [9], [9, 21]⟩, ⟨none, 29, (.val (.mv (.s 3))), [3], [3]⟩, ⟨none, 30, (.call 104 [(.s 28), (.s 29)]), [], [28, 29, 30]⟩]) (.seq (.region [⟨none, 8, (.val (.mv (.c (.int .i64 0)))), [], []⟩]) .ret)))))
theorem ok16 : FnOk Try.prog 16 cc16 [8] 4 31 := ⟨⟨_, Try.func16, by kernel_rfl, by kernel_rfl, by kernel_rfl⟩, by decide, by decide, by decide⟩

/- (watershed/bus.Bus).Head -/
def cc22 : CC := (.seq (.region [⟨none, 6, (.val (.mv (.c (.string ⟨#[]⟩)))), [], [6]⟩, ⟨none, 7, (.val (.mv (.c (.int .i64 0)))), [], [7]⟩]) (.seq (.region [⟨none, 9, (.val (.mv (.s 0))), [0], [0]⟩, ⟨none, 10, (.val (.mv (.s 1))), [1], [1]⟩, ⟨none, 11, (.val (.mv (.s 2))), [2], [2]⟩, ⟨none, 12, (.call 103 [(.s 9), (.s 10), (.s 11)]), [], [9, 10, 11]⟩, ⟨none, 8, (.val (.mv (.s 12))), [12], [12]⟩]) (.seq (.seq (.region [⟨none, 13, (.val (.mv (.s 8))), [], []⟩, ⟨none, 14, (.val (.eqp false (.s 13) (.c (.pointer none)))), [], [13]⟩]) (.cond (.s 14) (.seq (.region [⟨none, 6, (.val (.mv (.c (.string ⟨#[]⟩)))), [], [8, 14]⟩, ⟨none, 7, (.val (.mv (.c (.int .i64 1)))), [], []⟩]) .ret) .skip)) (.seq (.seq (.region [⟨none, 15, (.val (.mv (.s 8))), [], [14]⟩, ⟨none, 16, (.val (.nc (.s 15))), [], [15]⟩, ⟨none, 17, (.val (.fa (.s 16) 0)), [], [16]⟩, ⟨none, 18, (.val (.ld (.s 17) none)), [], [17]⟩, ⟨none, 19, (.val (.lnl (.s 18) 1)), [], [18]⟩, ⟨none, 20, (.val (.bin .eql (.s 19) (.c (.int .i64 0)))), [], [19]⟩]) (.cond (.s 20) (.seq (.region [⟨none, 6, (.val (.mv (.c (.string ⟨#[]⟩)))), [], [8, 20]⟩, ⟨none, 7, (.val (.mv (.c (.int .i64 3)))), [], []⟩]) .ret) .skip)) (.seq (.region [⟨none, 21, (.val (.mv (.s 8))), [8], [8, 20]⟩, ⟨none, 22, (.val (.nc (.s 21))), [], [21]⟩, ⟨none, 23, (.val (.fa (.s 22) 0)), [], [22]⟩, ⟨none, 24, (.val (.ld (.s 23) none)), [], [23]⟩, ⟨none, 25, (.val (.ia (.s 24) (.c (.int .i64 0)) 1)), [], [24]⟩, ⟨none, 26, (.val (.ld (.s 25) none)), [], [25]⟩, ⟨none, 6, (.val (.mv (.s 26))), [26], [26]⟩, ⟨none, 7, (.val (.mv (.c (.int .i64 0)))), [], []⟩]) .ret)))))
theorem ok22 : FnOk Try.prog 22 cc22 [6, 7] 3 27 := ⟨⟨_, Try.func22, by kernel_rfl, by kernel_rfl, by kernel_rfl⟩, by decide, by decide, by decide⟩

/- (watershed/bus.Bus).Waits -/
def cc24 : CC := (.seq (.region [⟨none, 6, (.val (.mv (.c (.int .i64 0)))), [], [6]⟩]) (.seq (.region [⟨none, 8, (.val (.mv (.s 0))), [0], [0]⟩, ⟨none, 9, (.val (.mv (.s 1))), [1], [1]⟩, ⟨none, 10, (.val (.mv (.s 2))), [2], [2]⟩, ⟨none, 11, (.call 103 [(.s 8), (.s 9), (.s 10)]), [], [8, 9, 10]⟩, ⟨none, 7, (.val (.mv (.s 11))), [11], [11]⟩]) (.seq (.seq (.region [⟨none, 12, (.val (.mv (.s 7))), [], []⟩, ⟨none, 13, (.val (.eqp false (.s 12) (.c (.pointer none)))), [], [12]⟩]) (.cond (.s 13) (.seq (.region [⟨none, 6, (.val (.mv (.c (.int .i64 0)))), [], [7, 13]⟩]) .ret) .skip)) (.seq (.region [⟨none, 14, (.val (.mv (.s 7))), [7], [7, 13]⟩, ⟨none, 15, (.val (.nc (.s 14))), [], [14]⟩, ⟨none, 16, (.val (.fa (.s 15) 0)), [], [15]⟩, ⟨none, 17, (.val (.ld (.s 16) none)), [], [16]⟩, ⟨none, 18, (.val (.lnl (.s 17) 1)), [], [17]⟩, ⟨none, 6, (.val (.mv (.s 18))), [18], [18]⟩]) .ret))))
theorem ok24 : FnOk Try.prog 24 cc24 [6] 3 19 := ⟨⟨_, Try.func24, by kernel_rfl, by kernel_rfl, by kernel_rfl⟩, by decide, by decide, by decide⟩


def getR (m : BusM) (f t : Nat) : Option (List ByteArray) := ((m[f]?.getD [])[t]?).getD none
def getQ (m : BusM) (f t : Nat) : List ByteArray := (getR m f t).getD []
def setQ (m : BusM) (f t : Nat) (q : List ByteArray) : BusM := m.set f ((m[f]?.getD []).set t (some q))
def sendS (m : BusM) (f t : Int) (s : ByteArray) : Int × BusM :=
  if inR m f t = false then (1, m) else if 8192 < s.size then (7, m) else if 512 ≤ (getQ m f.toNat t.toNat).length then (2, m) else (0, setQ m f.toNat t.toNat (getQ m f.toNat t.toNat ++ [s]))
def waitsS (m : BusM) (f t : Int) : Nat := if inR m f t = true then (getQ m f.toNat t.toNat).length else 0
def headS (m : BusM) (f t : Int) : ByteArray × Int :=
  if inR m f t = false then (⟨#[]⟩, 1) else match getQ m f.toNat t.toNat with
  | [] => (⟨#[]⟩, 3)
  | x :: _ => (x, 0)
def takeS (m : BusM) (f t : Int) : BusM :=
  if inR m f t = false then m else match getQ m f.toNat t.toNat with
  | [] => m
  | _ :: l => setQ m f.toNat t.toNat l

theorem inR_get {m : BusM} (hw : Wf m) {f t : Int} (h : inR m f t = true) : ∃ l r, m[f.toNat]? = some l ∧ l[t.toNat]? = some r ∧ getR m f.toNat t.toNat = r ∧ getQ m f.toNat t.toNat = r.getD [] := by
  simp only [inR, Bool.and_eq_true] at h
  obtain ⟨a1, a2, a3⟩ := thereB_lt h.1
  obtain ⟨b1, b2, b3⟩ := thereB_lt h.2
  have e1 : m[f.toNat]? = some m[f.toNat] := List.getElem?_eq_getElem a2
  have e2 : m[f.toNat][t.toNat]? = some (m[f.toNat][t.toNat]'(by rw [hw.get a2]; exact b2)) := List.getElem?_eq_getElem (by rw [hw.get a2]; exact b2)
  have e3 : getR m f.toNat t.toNat = m[f.toNat][t.toNat]'(by rw [hw.get a2]; exact b2) := by simp only [getR, e1, Option.getD_some, e2]
  exact ⟨_, _, e1, e2, e3, by rw [getQ, e3]⟩
theorem busAV_setQ {m : BusM} {f t : Nat} {l : List (Option (List ByteArray))} (h : m[f]? = some l) (q : List ByteArray) : busAV (setQ m f t q) = .agg [.own 1 ((m.map fun l => .own 1 (l.map fun r => .agg [rowC r])).set f (.own 1 ((l.map fun r => .agg [rowC r]).set t (.agg [rowC (some q)]))))] := by
  simp only [busAV, setQ, h, Option.getD_some, List.map_set]

theorem rowC_none : rowC none = .v (.slice none 0 0) := rfl
theorem rowC_some (l : List ByteArray) : rowC (some l) = .own 1 (l.map fun s => .v (.string s)) := rfl
theorem waits_c (F : List Fr) (k : Nat) (b : Base) (path : List Hop) (m : BusM) (hw : Wf m) (hn : nodeAt F k b path = some (busAV m)) (hin : inMem b path = true) (f t : Int) :
    ACalls Try.prog 24 [.up (upN k (.ptr ⟨b, path, 0⟩)), .v (.int .i64 f), .v (.int .i64 t)] F (fun r F' => r = .v (.int .i64 (waitsS m f t)) ∧ F' = F) := by
  refine ok24.N hmix rfl ?_
  simp only [cc24, AI0, AI1, AI2, AI3, AI4, AI5, AI6, AI7, AI8, AI9, reduceIte, reduceCtorEq, Nat.reduceAdd, Nat.reduceEqDiff, Nat.reduceBEq, Nat.reduceLT, Nat.reduceLeDiff, Nat.reduceMul, Nat.reduceSub, Int.reduceLE, Int.reduceLT, Int.reduceEq, Int.reduceBEq, Int.reduceBNe, Int.reduceToNat, Int.reduceNeg]
  refine (row_c _ (k + 1) b path m hw hn hin f t).mono ?_
  rintro _ _ - ⟨rfl, rfl⟩
  simp only [AI0, AI1, AI2, AI3, AI4, AI5, AI6, AI7, AI8, AI9, reduceIte, reduceCtorEq, Nat.reduceAdd, Nat.reduceEqDiff, Nat.reduceBEq, Nat.reduceLT, Nat.reduceLeDiff, Nat.reduceMul, Nat.reduceSub, Int.reduceLE, Int.reduceLT, Int.reduceEq, Int.reduceBEq, Int.reduceBNe, Int.reduceToNat, Int.reduceNeg]
  refine W_of_N [6] hmix ?_
  cases h1 : inR m f t with
  | false => simp only [AI0, AI1, AI2, AI3, AI4, AI5, AI6, AI7, AI8, AI9, reduceIte, reduceCtorEq, Nat.reduceAdd, Nat.reduceEqDiff, Nat.reduceBEq, Nat.reduceLT, Nat.reduceLeDiff, Nat.reduceMul, Nat.reduceSub, Int.reduceLE, Int.reduceLT, Int.reduceEq, Int.reduceBEq, Int.reduceBNe, Int.reduceToNat, Int.reduceNeg, h1, waitsS]
  | true =>
    obtain ⟨l, r, e1, e2, e3, e4⟩ := inR_get hw h1
    cases r with
    | none => simp only [AI0, AI1, AI2, AI3, AI4, AI5, AI6, AI7, AI8, AI9, reduceIte, reduceCtorEq, Nat.reduceAdd, Nat.reduceEqDiff, Nat.reduceBEq, Nat.reduceLT, Nat.reduceLeDiff, Nat.reduceMul, Nat.reduceSub, Int.reduceLE, Int.reduceLT, Int.reduceEq, Int.reduceBEq, Int.reduceBNe, Int.reduceToNat, Int.reduceNeg, h1, hn, hin, busAV, e1, e2, e4, waitsS, rowC_none, rowC_some]
    | some q => simp only [AI0, AI1, AI2, AI3, AI4, AI5, AI6, AI7, AI8, AI9, reduceIte, reduceCtorEq, Nat.reduceAdd, Nat.reduceEqDiff, Nat.reduceBEq, Nat.reduceLT, Nat.reduceLeDiff, Nat.reduceMul, Nat.reduceSub, Int.reduceLE, Int.reduceLT, Int.reduceEq, Int.reduceBEq, Int.reduceBNe, Int.reduceToNat, Int.reduceNeg, h1, hn, hin, busAV, e1, e2, e4, waitsS, rowC_none, rowC_some]

theorem head_c (F : List Fr) (k : Nat) (b : Base) (path : List Hop) (m : BusM) (hw : Wf m) (hn : nodeAt F k b path = some (busAV m)) (hin : inMem b path = true) (f t : Int) :
    ACalls Try.prog 22 [.up (upN k (.ptr ⟨b, path, 0⟩)), .v (.int .i64 f), .v (.int .i64 t)] F (fun r F' => r = .tup [none, none] [.v (.string (headS m f t).1), .v (.int .i64 (headS m f t).2)] ∧ F' = F) := by
  refine ok22.N hmix rfl ?_
  simp only [cc22, AI0, AI1, AI2, AI3, AI4, AI5, AI6, AI7, AI8, AI9, reduceIte, reduceCtorEq, Nat.reduceAdd, Nat.reduceEqDiff, Nat.reduceBEq, Nat.reduceLT, Nat.reduceLeDiff, Nat.reduceMul, Nat.reduceSub, Int.reduceLE, Int.reduceLT, Int.reduceEq, Int.reduceBEq, Int.reduceBNe, Int.reduceToNat, Int.reduceNeg]
  refine (row_c _ (k + 1) b path m hw hn hin f t).mono ?_
  rintro _ _ - ⟨rfl, rfl⟩
  simp only [AI0, AI1, AI2, AI3, AI4, AI5, AI6, AI7, AI8, AI9, reduceIte, reduceCtorEq, Nat.reduceAdd, Nat.reduceEqDiff, Nat.reduceBEq, Nat.reduceLT, Nat.reduceLeDiff, Nat.reduceMul, Nat.reduceSub, Int.reduceLE, Int.reduceLT, Int.reduceEq, Int.reduceBEq, Int.reduceBNe, Int.reduceToNat, Int.reduceNeg]
  refine W_of_N [6, 7] hmix ?_
  cases h1 : inR m f t with
  | false => simp only [AI0, AI1, AI2, AI3, AI4, AI5, AI6, AI7, AI8, AI9, reduceIte, reduceCtorEq, Nat.reduceAdd, Nat.reduceEqDiff, Nat.reduceBEq, Nat.reduceLT, Nat.reduceLeDiff, Nat.reduceMul, Nat.reduceSub, Int.reduceLE, Int.reduceLT, Int.reduceEq, Int.reduceBEq, Int.reduceBNe, Int.reduceToNat, Int.reduceNeg, h1, headS]
  | true =>
    obtain ⟨l, r, e1, e2, e3, e4⟩ := inR_get hw h1
    cases r with
    | none => simp only [AI0, AI1, AI2, AI3, AI4, AI5, AI6, AI7, AI8, AI9, reduceIte, reduceCtorEq, Nat.reduceAdd, Nat.reduceEqDiff, Nat.reduceBEq, Nat.reduceLT, Nat.reduceLeDiff, Nat.reduceMul, Nat.reduceSub, Int.reduceLE, Int.reduceLT, Int.reduceEq, Int.reduceBEq, Int.reduceBNe, Int.reduceToNat, Int.reduceNeg, h1, hn, hin, busAV, e1, e2, e4, headS, rowC_none, rowC_some]
    | some q =>
      cases q with
      | nil => simp only [AI0, AI1, AI2, AI3, AI4, AI5, AI6, AI7, AI8, AI9, reduceIte, reduceCtorEq, Nat.reduceAdd, Nat.reduceEqDiff, Nat.reduceBEq, Nat.reduceLT, Nat.reduceLeDiff, Nat.reduceMul, Nat.reduceSub, Int.reduceLE, Int.reduceLT, Int.reduceEq, Int.reduceBEq, Int.reduceBNe, Int.reduceToNat, Int.reduceNeg, h1, hn, hin, busAV, e1, e2, e4, headS, rowC_none, rowC_some]
      | cons x q => simp only [AI0, AI1, AI2, AI3, AI4, AI5, AI6, AI7, AI8, AI9, reduceIte, reduceCtorEq, Nat.reduceAdd, Nat.reduceEqDiff, Nat.reduceBEq, Nat.reduceLT, Nat.reduceLeDiff, Nat.reduceMul, Nat.reduceSub, Int.reduceLE, Int.reduceLT, Int.reduceEq, Int.reduceBEq, Int.reduceBNe, Int.reduceToNat, Int.reduceNeg, h1, hn, hin, busAV, e1, e2, e4, headS, rowC_none, rowC_some]

theorem send_c (F : List Fr) (k : Nat) (b : Base) (path : List Hop) (m : BusM) (hw : Wf m) (hn : nodeAt F k b path = some (busAV m)) (hin : inMem b path = true) (hrw : rwF F k = true) (f t : Int) (s : ByteArray) :
    ACalls Try.prog 16 [.up (upN k (.ptr ⟨b, path, 0⟩)), .v (.int .i64 f), .v (.int .i64 t), .v (.string s)] F (fun r F' => r = .v (.int .i64 (sendS m f t s).1) ∧ F' = updN F k b path (busAV (sendS m f t s).2)) := by
  refine ok16.W rfl ?_
  refine W_own hn rfl ?_
  refine W_of_N [8] hmix ?_
  simp only [cc16, AI0, AI1, AI2, AI3, AI4, AI5, AI6, AI7, AI8, AI9, reduceIte, reduceCtorEq, Nat.reduceAdd, Nat.reduceEqDiff, Nat.reduceBEq, Nat.reduceLT, Nat.reduceLeDiff, Nat.reduceMul, Nat.reduceSub, Int.reduceLE, Int.reduceLT, Int.reduceEq, Int.reduceBEq, Int.reduceBNe, Int.reduceToNat, Int.reduceNeg, upd_rules hn rfl, hin, hrw]
  refine (row_c _ (k + 1) b path m hw (updN_same hn rfl _) hin f t).mono ?_
  rintro _ _ - ⟨rfl, rfl⟩
  simp only [AI0, AI1, AI2, AI3, AI4, AI5, AI6, AI7, AI8, AI9, reduceIte, reduceCtorEq, Nat.reduceAdd, Nat.reduceEqDiff, Nat.reduceBEq, Nat.reduceLT, Nat.reduceLeDiff, Nat.reduceMul, Nat.reduceSub, Int.reduceLE, Int.reduceLT, Int.reduceEq, Int.reduceBEq, Int.reduceBNe, Int.reduceToNat, Int.reduceNeg]
  refine W_of_N [8] hmix ?_
  cases h1 : inR m f t with
  | false => simp only [AI0, AI1, AI2, AI3, AI4, AI5, AI6, AI7, AI8, AI9, reduceIte, reduceCtorEq, Nat.reduceAdd, Nat.reduceEqDiff, Nat.reduceBEq, Nat.reduceLT, Nat.reduceLeDiff, Nat.reduceMul, Nat.reduceSub, Int.reduceLE, Int.reduceLT, Int.reduceEq, Int.reduceBEq, Int.reduceBNe, Int.reduceToNat, Int.reduceNeg, h1, sendS]
  | true =>
    obtain ⟨l, r, e1, e2, e3, e4⟩ := inR_get hw h1
    by_cases h2 : 8192 < s.size
    · have h2' : (8192 : Int) < s.size := by omega
      simp only [AI0, AI1, AI2, AI3, AI4, AI5, AI6, AI7, AI8, AI9, reduceIte, reduceCtorEq, Nat.reduceAdd, Nat.reduceEqDiff, Nat.reduceBEq, Nat.reduceLT, Nat.reduceLeDiff, Nat.reduceMul, Nat.reduceSub, Int.reduceLE, Int.reduceLT, Int.reduceEq, Int.reduceBEq, Int.reduceBNe, Int.reduceToNat, Int.reduceNeg, h1, h2, h2', upd_rules hn rfl, hin, busAV, e1, e2, e4, sendS]
    · have h2' : ¬ ((8192 : Int) < s.size) := by omega
      cases r with
      | none =>
        simp only [Option.getD_none] at e4
        simp only [AI0, AI1, AI2, AI3, AI4, AI5, AI6, AI7, AI8, AI9, reduceIte, reduceCtorEq, Nat.reduceAdd, Nat.reduceEqDiff, Nat.reduceBEq, Nat.reduceLT, Nat.reduceLeDiff, Nat.reduceMul, Nat.reduceSub, Int.reduceLE, Int.reduceLT, Int.reduceEq, Int.reduceBEq, Int.reduceBNe, Int.reduceToNat, Int.reduceNeg, h1, h2, h2', upd_rules hn rfl, hin, busAV, e1, e2, e4, sendS, rowC_none, rowC_some]
        refine (add_c _ (k + 1) b ((0, t.toNat) :: (0, f.toNat) :: path) none ?_ ?_ ?_ s (by simp)).mono ?_
        · simp only [AI0, AI1, AI2, AI3, AI4, AI5, AI6, AI7, AI8, AI9, reduceIte, reduceCtorEq, Nat.reduceAdd, Nat.reduceEqDiff, Nat.reduceBEq, Nat.reduceLT, Nat.reduceLeDiff, Nat.reduceMul, Nat.reduceSub, Int.reduceLE, Int.reduceLT, Int.reduceEq, Int.reduceBEq, Int.reduceBNe, Int.reduceToNat, Int.reduceNeg, upd_rules hn rfl, e1, e2, rowC_none, rowC_some]
        · exact inMem_cons _ _ _
        · simp only [AI0, AI1, AI2, AI3, AI4, AI5, AI6, AI7, AI8, AI9, reduceIte, reduceCtorEq, Nat.reduceAdd, Nat.reduceEqDiff, Nat.reduceBEq, Nat.reduceLT, Nat.reduceLeDiff, Nat.reduceMul, Nat.reduceSub, Int.reduceLE, Int.reduceLT, Int.reduceEq, Int.reduceBEq, Int.reduceBNe, Int.reduceToNat, Int.reduceNeg, hrw]
        rintro _ _ - ⟨rfl, rfl⟩
        simp only [AI0, AI1, AI2, AI3, AI4, AI5, AI6, AI7, AI8, AI9, reduceIte, reduceCtorEq, Nat.reduceAdd, Nat.reduceEqDiff, Nat.reduceBEq, Nat.reduceLT, Nat.reduceLeDiff, Nat.reduceMul, Nat.reduceSub, Int.reduceLE, Int.reduceLT, Int.reduceEq, Int.reduceBEq, Int.reduceBNe, Int.reduceToNat, Int.reduceNeg, upd_rules hn rfl, e1, e2]
        refine W_of_N [8] hmix ?_
        simp only [AI0, AI1, AI2, AI3, AI4, AI5, AI6, AI7, AI8, AI9, reduceIte, reduceCtorEq, Nat.reduceAdd, Nat.reduceEqDiff, Nat.reduceBEq, Nat.reduceLT, Nat.reduceLeDiff, Nat.reduceMul, Nat.reduceSub, Int.reduceLE, Int.reduceLT, Int.reduceEq, Int.reduceBEq, Int.reduceBNe, Int.reduceToNat, Int.reduceNeg, setQ, e1, e2, List.map_set]
      | some q =>
        simp only [Option.getD_some] at e4
        by_cases h3 : 512 ≤ q.length
        · have h3' : (512 : Int) ≤ q.length := by omega
          simp only [AI0, AI1, AI2, AI3, AI4, AI5, AI6, AI7, AI8, AI9, reduceIte, reduceCtorEq, Nat.reduceAdd, Nat.reduceEqDiff, Nat.reduceBEq, Nat.reduceLT, Nat.reduceLeDiff, Nat.reduceMul, Nat.reduceSub, Int.reduceLE, Int.reduceLT, Int.reduceEq, Int.reduceBEq, Int.reduceBNe, Int.reduceToNat, Int.reduceNeg, h1, h2, h2', h3, h3', upd_rules hn rfl, hin, busAV, e1, e2, e4, sendS, rowC_none, rowC_some]
        · have h3' : ¬ ((512 : Int) ≤ q.length) := by omega
          simp only [AI0, AI1, AI2, AI3, AI4, AI5, AI6, AI7, AI8, AI9, reduceIte, reduceCtorEq, Nat.reduceAdd, Nat.reduceEqDiff, Nat.reduceBEq, Nat.reduceLT, Nat.reduceLeDiff, Nat.reduceMul, Nat.reduceSub, Int.reduceLE, Int.reduceLT, Int.reduceEq, Int.reduceBEq, Int.reduceBNe, Int.reduceToNat, Int.reduceNeg, h1, h2, h2', h3, h3', upd_rules hn rfl, hin, busAV, e1, e2, e4, sendS, rowC_none, rowC_some]
          refine (add_c _ (k + 1) b ((0, t.toNat) :: (0, f.toNat) :: path) (some q) ?_ ?_ ?_ s (by simp; omega)).mono ?_
          · simp only [AI0, AI1, AI2, AI3, AI4, AI5, AI6, AI7, AI8, AI9, reduceIte, reduceCtorEq, Nat.reduceAdd, Nat.reduceEqDiff, Nat.reduceBEq, Nat.reduceLT, Nat.reduceLeDiff, Nat.reduceMul, Nat.reduceSub, Int.reduceLE, Int.reduceLT, Int.reduceEq, Int.reduceBEq, Int.reduceBNe, Int.reduceToNat, Int.reduceNeg, upd_rules hn rfl, e1, e2, rowC_none, rowC_some]
          · exact inMem_cons _ _ _
          · simp only [AI0, AI1, AI2, AI3, AI4, AI5, AI6, AI7, AI8, AI9, reduceIte, reduceCtorEq, Nat.reduceAdd, Nat.reduceEqDiff, Nat.reduceBEq, Nat.reduceLT, Nat.reduceLeDiff, Nat.reduceMul, Nat.reduceSub, Int.reduceLE, Int.reduceLT, Int.reduceEq, Int.reduceBEq, Int.reduceBNe, Int.reduceToNat, Int.reduceNeg, hrw]
          rintro _ _ - ⟨rfl, rfl⟩
          simp only [AI0, AI1, AI2, AI3, AI4, AI5, AI6, AI7, AI8, AI9, reduceIte, reduceCtorEq, Nat.reduceAdd, Nat.reduceEqDiff, Nat.reduceBEq, Nat.reduceLT, Nat.reduceLeDiff, Nat.reduceMul, Nat.reduceSub, Int.reduceLE, Int.reduceLT, Int.reduceEq, Int.reduceBEq, Int.reduceBNe, Int.reduceToNat, Int.reduceNeg, upd_rules hn rfl, e1, e2]
          refine W_of_N [8] hmix ?_
          simp only [AI0, AI1, AI2, AI3, AI4, AI5, AI6, AI7, AI8, AI9, reduceIte, reduceCtorEq, Nat.reduceAdd, Nat.reduceEqDiff, Nat.reduceBEq, Nat.reduceLT, Nat.reduceLeDiff, Nat.reduceMul, Nat.reduceSub, Int.reduceLE, Int.reduceLT, Int.reduceEq, Int.reduceBEq, Int.reduceBNe, Int.reduceToNat, Int.reduceNeg, setQ, e1, e2, List.map_set]
end Go.Proofs.Ythlehngbadianaa.Ai
set_option linter.unusedVariables false
set_option linter.unusedSimpArgs false
set_option maxRecDepth 100000
namespace Go.Proofs.Ythlehngbadianaa.Ai
open Go Go.RowKit Go.Proofs
/- (watershed/bus.Bus).Take -/
def cc20 : CC := (.seq (.region [⟨none, 6, (.val (.mv (.c (.string ⟨#[]⟩)))), [], [6]⟩, ⟨none, 7, (.val (.mv (.c (.int .i64 0)))), [], [7]⟩]) (.seq (.region [⟨none, 11, (.val (.mv (.s 0))), [], []⟩, ⟨none, 12, (.val (.mv (.s 1))), [], []⟩, ⟨none, 13, (.val (.mv (.s 2))), [], []⟩, ⟨none, 14, (.call 22 [(.s 11), (.s 12), (.s 13)]), [], [11, 12, 13]⟩, ⟨none, 10, (.val (.mv (.s 14))), [14], [14]⟩, ⟨none, 15, (.val (.ext (.s 10) 0)), [10], []⟩, ⟨none, 16, (.val (.ext (.s 10) 1)), [10], [10]⟩, ⟨none, 8, (.val (.mv (.s 15))), [15], [15]⟩, ⟨none, 9, (.val (.mv (.s 16))), [16], [16]⟩]) (.seq (.seq (.region [⟨none, 17, (.val (.mv (.s 9))), [], []⟩, ⟨none, 18, (.val (.bin .eql (.s 17) (.c (.int .i64 0)))), [], [17]⟩]) (.cond (.s 18) (.region [⟨none, 19, (.val (.mv (.s 0))), [0], [0, 18]⟩, ⟨none, 20, (.val (.mv (.s 1))), [1], [1]⟩, ⟨none, 21, (.val (.mv (.s 2))), [2], [2]⟩, ⟨none, 22, (.call 103 [(.s 19), (.s 20), (.s 21)]), [], [19, 20, 21]⟩, ⟨none, 23, (.call 107 [(.s 22)]), [], [22, 23]⟩]) .skip)) (.seq (.region [⟨none, 24, (.val (.mv (.s 8))), [8], [0, 1, 2, 8, 18]⟩, ⟨none, 25, (.val (.mv (.s 9))), [9], [9]⟩, ⟨none, 6, (.val (.mv (.s 24))), [24], [24]⟩, ⟨none, 7, (.val (.mv (.s 25))), [25], [25]⟩]) .ret))))
theorem ok20 : FnOk Try.prog 20 cc20 [6, 7] 3 26 := ⟨⟨_, Try.func20, by kernel_rfl, by kernel_rfl, by kernel_rfl⟩, by decide, by decide, by decide⟩

/- (watershed/bus.Bus).Free -/
def cc28 : CC := (.seq (.region [⟨none, 4, (.val (.mv (.c (.int .i64 0)))), [], [4]⟩]) (.seq (.seq (.region [⟨none, 7, (.val (.mv (.s 0))), [], []⟩, ⟨none, 8, (.val (.mv (.s 1))), [], []⟩, ⟨none, 9, (.call 106 [(.s 7), (.s 8)]), [], [7, 8]⟩, ⟨none, 10, (.val (.un .not (.s 9))), [], [9]⟩]) (.cond (.s 10) (.seq (.region [⟨none, 4, (.val (.mv (.c (.int .i64 0)))), [], [0, 1, 10]⟩]) .ret) .skip)) (.seq (.region [⟨none, 5, (.val (.mv (.c (.int .i64 512)))), [], [10]⟩]) (.seq (.seq (.region [⟨none, 11, (.val (.mv (.s 0))), [], []⟩, ⟨none, 12, (.val (.nc (.s 11))), [], [11]⟩, ⟨none, 13, (.val (.fa (.s 12) 0)), [], [12]⟩, ⟨none, 14, (.val (.ld (.s 13) none)), [], [13]⟩, ⟨none, 15, (.val (.lnl (.s 14) 1)), [], [14]⟩, ⟨none, 16, (.val (.mv (.c (.int .i64 0)))), [], []⟩]) (.block 0 (.loop (.seq (.region [⟨none, 17, (.val (.bin .lss (.s 16) (.s 15))), [], []⟩]) (.seq (.cond (.s 17) .skip (.exit 0)) (.seq (.block 1 (.seq (.region [⟨none, 18, (.val (.mv (.s 16))), [], [17]⟩, ⟨none, 6, (.val (.mv (.s 18))), [18], [18]⟩]) (.region [⟨none, 19, (.val (.mv (.s 5))), [5], [5]⟩, ⟨none, 20, (.val (.mv (.s 0))), [], []⟩, ⟨none, 21, (.val (.mv (.s 1))), [], []⟩, ⟨none, 22, (.val (.mv (.s 6))), [6], [6]⟩, ⟨none, 23, (.call 24 [(.s 20), (.s 21), (.s 22)]), [], [20, 21, 22]⟩, ⟨none, 24, (.val (.bin .sub (.c (.int .i64 512)) (.s 23))), [], [23]⟩, ⟨none, 25, (.val (.mn (.s 19) (.s 24))), [], [19, 24]⟩, ⟨none, 5, (.val (.mv (.s 25))), [25], [25]⟩]))) (.region [⟨none, 26, (.val (.bin .add (.s 16) (.c (.int .i64 1)))), [], [16]⟩, ⟨none, 16, (.val (.mv (.s 26))), [26], [26]⟩]))))))) (.seq (.region [⟨none, 27, (.val (.mv (.s 5))), [5], [0, 1, 5, 15, 16, 17]⟩, ⟨none, 4, (.val (.mv (.s 27))), [27], [27]⟩]) .ret)))))
theorem ok28 : FnOk Try.prog 28 cc28 [4] 2 28 := ⟨⟨_, Try.func28, by kernel_rfl, by kernel_rfl, by kernel_rfl⟩, by decide, by decide, by decide⟩

/- (watershed/bus.Bus).Total -/
def cc26 : CC := (.seq (.region [⟨none, 2, (.val (.mv (.c (.int .i64 0)))), [], [2]⟩]) (.seq (.region [⟨none, 3, (.val (.mv (.c (.int .i64 0)))), [], []⟩]) (.seq (.seq (.region [⟨none, 6, (.val (.mv (.s 0))), [], []⟩, ⟨none, 7, (.val (.nc (.s 6))), [], [6]⟩, ⟨none, 8, (.val (.fa (.s 7) 0)), [], [7]⟩, ⟨none, 9, (.val (.ld (.s 8) none)), [], [8]⟩, ⟨none, 10, (.val (.lnl (.s 9) 1)), [], [9]⟩, ⟨none, 11, (.val (.mv (.c (.int .i64 0)))), [], []⟩]) (.block 0 (.loop (.seq (.region [⟨none, 12, (.val (.bin .lss (.s 11) (.s 10))), [], []⟩]) (.seq (.cond (.s 12) .skip (.exit 0)) (.seq (.block 1 (.seq (.region [⟨none, 13, (.val (.mv (.s 11))), [], [12]⟩, ⟨none, 4, (.val (.mv (.s 13))), [13], [13]⟩]) (.seq (.region [⟨none, 14, (.val (.mv (.s 0))), [], []⟩, ⟨none, 15, (.val (.nc (.s 14))), [], [14]⟩, ⟨none, 16, (.val (.fa (.s 15) 0)), [], [15]⟩, ⟨none, 17, (.val (.ld (.s 16) none)), [], [16]⟩, ⟨none, 18, (.val (.lnl (.s 17) 1)), [], [17]⟩, ⟨none, 19, (.val (.mv (.c (.int .i64 0)))), [], []⟩]) (.block 2 (.loop (.seq (.region [⟨none, 20, (.val (.bin .lss (.s 19) (.s 18))), [], []⟩]) (.seq (.cond (.s 20) .skip (.exit 2)) (.seq (.block 3 (.seq (.region [⟨none, 21, (.val (.mv (.s 19))), [], [20]⟩, ⟨none, 5, (.val (.mv (.s 21))), [21], [21]⟩]) (.region [⟨none, 22, (.val (.mv (.s 3))), [3], [3]⟩, ⟨none, 23, (.val (.mv (.s 0))), [], []⟩, ⟨none, 24, (.val (.mv (.s 4))), [], []⟩, ⟨none, 25, (.val (.mv (.s 5))), [5], [5]⟩, ⟨none, 26, (.call 24 [(.s 23), (.s 24), (.s 25)]), [], [23, 24, 25]⟩, ⟨none, 27, (.val (.bin .add (.s 22) (.s 26))), [], [22, 26]⟩, ⟨none, 3, (.val (.mv (.s 27))), [27], [27]⟩]))) (.region [⟨none, 28, (.val (.bin .add (.s 19) (.c (.int .i64 1)))), [], [19]⟩, ⟨none, 19, (.val (.mv (.s 28))), [28], [28]⟩]))))))))) (.region [⟨none, 29, (.val (.bin .add (.s 11) (.c (.int .i64 1)))), [], [4, 11, 18, 19, 20]⟩, ⟨none, 11, (.val (.mv (.s 29))), [29], [29]⟩]))))))) (.seq (.region [⟨none, 30, (.val (.mv (.s 3))), [3], [0, 3, 10, 11, 12]⟩, ⟨none, 2, (.val (.mv (.s 30))), [30], [30]⟩]) .ret))))
theorem ok26 : FnOk Try.prog 26 cc26 [2] 1 31 := ⟨⟨_, Try.func26, by kernel_rfl, by kernel_rfl, by kernel_rfl⟩, by decide, by decide, by decide⟩

/- (watershed/bus.Bus).All -/
def cc18 : CC := (.seq (.region [⟨none, 6, (.val (.mv (.c (.int .i64 0)))), [], [6]⟩]) (.seq (.block 0 (.seq (.region [⟨none, 9, (.val (.mv (.s 0))), [], []⟩, ⟨none, 10, (.val (.mv (.s 1))), [], []⟩, ⟨none, 11, (.call 106 [(.s 9), (.s 10)]), [], [9, 10]⟩, ⟨none, 12, (.val (.un .not (.s 11))), [], [11]⟩, ⟨none, 8, (.val (.mv (.s 12))), [12], [12]⟩]) (.cond (.s 8) (.seq (.region [⟨none, 6, (.val (.mv (.c (.int .i64 1)))), [], [0, 1, 2, 8]⟩]) .ret) (.seq (.region [⟨none, 14, (.val (.mv (.s 2))), [], [8]⟩, ⟨none, 15, (.val (.lns (.s 14))), [], [14]⟩, ⟨none, 16, (.val (.bin .gtr (.s 15) (.c (.int .i64 8192)))), [], [15]⟩, ⟨none, 13, (.val (.mv (.s 16))), [16], [16]⟩]) (.cond (.s 13) (.seq (.region [⟨none, 6, (.val (.mv (.c (.int .i64 7)))), [], [0, 1, 2, 13]⟩]) .ret) (.seq (.region [⟨none, 18, (.val (.mv (.s 0))), [], [13]⟩, ⟨none, 19, (.val (.mv (.s 1))), [], []⟩, ⟨none, 20, (.call 28 [(.s 18), (.s 19)]), [], [18, 19]⟩, ⟨none, 21, (.val (.bin .eql (.s 20) (.c (.int .i64 0)))), [], [20]⟩, ⟨none, 17, (.val (.mv (.s 21))), [21], [21]⟩]) (.cond (.s 17) (.seq (.region [⟨none, 6, (.val (.mv (.c (.int .i64 2)))), [], [0, 1, 2, 17]⟩]) .ret) .skip))))))) (.seq (.seq (.region [⟨none, 22, (.val (.mv (.s 0))), [], [17]⟩, ⟨none, 23, (.val (.nc (.s 22))), [], [22]⟩, ⟨none, 24, (.val (.fa (.s 23) 0)), [], [23]⟩, ⟨none, 25, (.val (.ld (.s 24) none)), [], [24]⟩, ⟨none, 26, (.val (.lnl (.s 25) 1)), [], [25]⟩, ⟨none, 27, (.val (.mv (.c (.int .i64 0)))), [], []⟩]) (.block 1 (.loop (.seq (.region [⟨none, 28, (.val (.bin .lss (.s 27) (.s 26))), [], []⟩]) (.seq (.cond (.s 28) .skip (.exit 1)) (.seq (.block 2 (.seq (.region [⟨none, 29, (.val (.mv (.s 27))), [], [28]⟩, ⟨none, 7, (.val (.mv (.s 29))), [29], [29]⟩]) (.region [⟨none, 30, (.val (.mv (.s 0))), [], []⟩, ⟨none, 31, (.val (.mv (.s 1))), [], []⟩, ⟨none, 32, (.val (.mv (.s 7))), [7], [7]⟩, ⟨none, 33, (.val (.mv (.s 2))), [], []⟩, ⟨none, 34, (.call 16 [(.s 30), (.s 31), (.s 32), (.s 33)]), [], [30, 31, 32, 33, 34]⟩]))) (.region [⟨none, 35, (.val (.bin .add (.s 27) (.c (.int .i64 1)))), [], [27]⟩, ⟨none, 27, (.val (.mv (.s 35))), [35], [35]⟩]))))))) (.seq (.region [⟨none, 6, (.val (.mv (.c (.int .i64 0)))), [], [0, 1, 2, 26, 27, 28]⟩]) .ret))))
theorem ok18 : FnOk Try.prog 18 cc18 [6] 3 36 := ⟨⟨_, Try.func18, by kernel_rfl, by kernel_rfl, by kernel_rfl⟩, by decide, by decide, by decide⟩

/- watershed/bus.New -/
def cc13 : CC := (.seq (.region [⟨none, 2, (.val (.mv (.c (.pointer none)))), [], [2]⟩, ⟨none, 3, (.val (.mv (.c (.int .i64 0)))), [], [3]⟩]) (.seq (.seq (.region [⟨none, 5, (.val (.mv (.s 0))), [], []⟩, ⟨none, 6, (.val (.bin .lss (.s 5) (.c (.int .i64 1)))), [], [5]⟩, ⟨none, 7, (.val (.mv (.s 6))), [6], [6]⟩, ⟨(some (7, false)), 8, (.val (.mv (.s 0))), [], []⟩, ⟨(some (7, false)), 9, (.val (.bin .gtr (.s 8) (.c (.int .i64 8)))), [], [8]⟩, ⟨none, 10, (.val (.pick (.s 7) (.c (.bool true)) (.s 9))), [7, 9], [7, 9]⟩]) (.cond (.s 10) (.seq (.region [⟨none, 2, (.val (.mv (.c (.pointer none)))), [], [0, 10]⟩, ⟨none, 3, (.val (.mv (.c (.int .i64 1)))), [], []⟩]) .ret) .skip)) (.seq (.region [⟨none, 11, (.val (.bld [(.slice none 0 0)] [])), [], [10]⟩, ⟨none, 12, (.box 11), [], [11]⟩, ⟨none, 4, (.val (.mv (.s 12))), [12], [12]⟩]) (.seq (.seq (.region [⟨none, 13, (.val (.mv (.s 0))), [], []⟩, ⟨none, 14, (.val (.mv (.c (.int .i64 0)))), [], []⟩]) (.block 0 (.loop (.seq (.region [⟨none, 15, (.val (.bin .lss (.s 14) (.s 13))), [], []⟩]) (.seq (.cond (.s 15) .skip (.exit 0)) (.seq (.block 1 (.region [⟨none, 16, (.val (.mv (.s 4))), [], [15]⟩, ⟨none, 17, (.val (.mv (.s 4))), [], []⟩, ⟨none, 18, (.val (.nc (.s 17))), [], [17]⟩, ⟨none, 19, (.val (.fa (.s 18) 0)), [], [18]⟩, ⟨none, 20, (.val (.ld (.s 19) none)), [], [19]⟩, ⟨none, 21, (.val (.mv (.s 0))), [], []⟩, ⟨none, 22, (.mk (.s 21) (.s 21) (.agg #[(.slice none 0 0)]) 1 24), [], [21]⟩, ⟨none, 23, (.lit 1 [(.s 22)]), [], [22]⟩, ⟨none, 24, (.app 1 24 false (.s 20) (.s 23)), [], [20, 23]⟩, ⟨none, 25, (.val (.nc (.s 16))), [], [16]⟩, ⟨none, 26, (.val (.fa (.s 25) 0)), [], [25]⟩, ⟨none, 0, (.store 1 (.s 26) 24), [], [24, 26]⟩])) (.region [⟨none, 27, (.val (.bin .add (.s 14) (.c (.int .i64 1)))), [], [14]⟩, ⟨none, 14, (.val (.mv (.s 27))), [27], [27]⟩]))))))) (.seq (.region [⟨none, 28, (.val (.mv (.s 4))), [4], [0, 4, 13, 14, 15]⟩, ⟨none, 2, (.val (.mv (.s 28))), [28], [28]⟩, ⟨none, 3, (.val (.mv (.c (.int .i64 0)))), [], []⟩]) .ret)))))
theorem ok13 : FnOk Try.prog 13 cc13 [2, 3] 1 29 := ⟨⟨_, Try.func13, by kernel_rfl, by kernel_rfl, by kernel_rfl⟩, by decide, by decide, by decide⟩


structure BOk (m : BusM) : Prop where
  wf : Wf m
  n : m.length ≤ 8
  q : ∀ f t, (getQ m f t).length ≤ 512
theorem BOk.waits {m : BusM} (h : BOk m) (f t : Int) : waitsS m f t ≤ 512 := by
  unfold waitsS; split
  · exact h.q _ _
  · omega

theorem take_bus_c (F : List Fr) (k : Nat) (b : Base) (path : List Hop) (m : BusM) (hw : Wf m) (hn : nodeAt F k b path = some (busAV m)) (hin : inMem b path = true) (hrw : rwF F k = true) (f t : Int) :
    ACalls Try.prog 20 [.up (upN k (.ptr ⟨b, path, 0⟩)), .v (.int .i64 f), .v (.int .i64 t)] F (fun r F' => r = .tup [none, none] [.v (.string (headS m f t).1), .v (.int .i64 (headS m f t).2)] ∧ F' = updN F k b path (busAV (takeS m f t))) := by
  refine ok20.W rfl ?_
  refine W_own hn rfl ?_
  refine W_of_N [6, 7] hmix ?_
  simp only [cc20, AI0, AI1, AI2, AI3, AI4, AI5, AI6, AI7, AI8, AI9, reduceIte, reduceCtorEq, Nat.reduceAdd, Nat.reduceEqDiff, Nat.reduceBEq, Nat.reduceLT, Nat.reduceLeDiff, Nat.reduceMul, Nat.reduceSub, Int.reduceLE, Int.reduceLT, Int.reduceEq, Int.reduceBEq, Int.reduceBNe, Int.reduceToNat, Int.reduceNeg, upd_rules hn rfl, hin, hrw]
  refine (head_c _ (k + 1) b path m hw (updN_same hn rfl _) hin f t).mono ?_
  rintro _ _ - ⟨rfl, rfl⟩
  simp only [AI0, AI1, AI2, AI3, AI4, AI5, AI6, AI7, AI8, AI9, reduceIte, reduceCtorEq, Nat.reduceAdd, Nat.reduceEqDiff, Nat.reduceBEq, Nat.reduceLT, Nat.reduceLeDiff, Nat.reduceMul, Nat.reduceSub, Int.reduceLE, Int.reduceLT, Int.reduceEq, Int.reduceBEq, Int.reduceBNe, Int.reduceToNat, Int.reduceNeg]
  refine W_of_N [6, 7] hmix ?_
  cases h1 : inR m f t with
  | false => simp only [AI0, AI1, AI2, AI3, AI4, AI5, AI6, AI7, AI8, AI9, reduceIte, reduceCtorEq, Nat.reduceAdd, Nat.reduceEqDiff, Nat.reduceBEq, Nat.reduceLT, Nat.reduceLeDiff, Nat.reduceMul, Nat.reduceSub, Int.reduceLE, Int.reduceLT, Int.reduceEq, Int.reduceBEq, Int.reduceBNe, Int.reduceToNat, Int.reduceNeg, h1, headS, takeS]
  | true =>
    obtain ⟨l, r, e1, e2, e3, e4⟩ := inR_get hw h1
    cases hq : getQ m f.toNat t.toNat with
    | nil => simp only [AI0, AI1, AI2, AI3, AI4, AI5, AI6, AI7, AI8, AI9, reduceIte, reduceCtorEq, Nat.reduceAdd, Nat.reduceEqDiff, Nat.reduceBEq, Nat.reduceLT, Nat.reduceLeDiff, Nat.reduceMul, Nat.reduceSub, Int.reduceLE, Int.reduceLT, Int.reduceEq, Int.reduceBEq, Int.reduceBNe, Int.reduceToNat, Int.reduceNeg, h1, headS, takeS, hq]
    | cons x q =>
      rw [hq] at e4
      cases r with
      | none => simp at e4
      | some q' =>
      simp only [Option.getD_some] at e4
      subst e4
      simp only [AI0, AI1, AI2, AI3, AI4, AI5, AI6, AI7, AI8, AI9, reduceIte, reduceCtorEq, Nat.reduceAdd, Nat.reduceEqDiff, Nat.reduceBEq, Nat.reduceLT, Nat.reduceLeDiff, Nat.reduceMul, Nat.reduceSub, Int.reduceLE, Int.reduceLT, Int.reduceEq, Int.reduceBEq, Int.reduceBNe, Int.reduceToNat, Int.reduceNeg, h1, headS, takeS, hq]
      refine (row_c _ (k + 1) b path m hw (updN_same hn rfl _) hin f t).mono ?_
      rintro _ _ - ⟨rfl, rfl⟩
      simp only [AI0, AI1, AI2, AI3, AI4, AI5, AI6, AI7, AI8, AI9, reduceIte, reduceCtorEq, Nat.reduceAdd, Nat.reduceEqDiff, Nat.reduceBEq, Nat.reduceLT, Nat.reduceLeDiff, Nat.reduceMul, Nat.reduceSub, Int.reduceLE, Int.reduceLT, Int.reduceEq, Int.reduceBEq, Int.reduceBNe, Int.reduceToNat, Int.reduceNeg, h1]
      refine W_of_N [6, 7] hmix ?_
      simp only [AI0, AI1, AI2, AI3, AI4, AI5, AI6, AI7, AI8, AI9, reduceIte, reduceCtorEq, Nat.reduceAdd, Nat.reduceEqDiff, Nat.reduceBEq, Nat.reduceLT, Nat.reduceLeDiff, Nat.reduceMul, Nat.reduceSub, Int.reduceLE, Int.reduceLT, Int.reduceEq, Int.reduceBEq, Int.reduceBNe, Int.reduceToNat, Int.reduceNeg, h1]
      refine (take_c _ (k + 1) b ((0, t.toNat) :: (0, f.toNat) :: path) x q ?_ ?_ ?_).mono ?_
      · simp only [AI0, AI1, AI2, AI3, AI4, AI5, AI6, AI7, AI8, AI9, reduceIte, reduceCtorEq, Nat.reduceAdd, Nat.reduceEqDiff, Nat.reduceBEq, Nat.reduceLT, Nat.reduceLeDiff, Nat.reduceMul, Nat.reduceSub, Int.reduceLE, Int.reduceLT, Int.reduceEq, Int.reduceBEq, Int.reduceBNe, Int.reduceToNat, Int.reduceNeg, upd_rules hn rfl, busAV, e1, e2]
      · exact inMem_cons _ _ _
      · simp only [AI0, AI1, AI2, AI3, AI4, AI5, AI6, AI7, AI8, AI9, reduceIte, reduceCtorEq, Nat.reduceAdd, Nat.reduceEqDiff, Nat.reduceBEq, Nat.reduceLT, Nat.reduceLeDiff, Nat.reduceMul, Nat.reduceSub, Int.reduceLE, Int.reduceLT, Int.reduceEq, Int.reduceBEq, Int.reduceBNe, Int.reduceToNat, Int.reduceNeg, hrw]
      rintro _ _ - ⟨rfl, rfl⟩
      simp only [AI0, AI1, AI2, AI3, AI4, AI5, AI6, AI7, AI8, AI9, reduceIte, reduceCtorEq, Nat.reduceAdd, Nat.reduceEqDiff, Nat.reduceBEq, Nat.reduceLT, Nat.reduceLeDiff, Nat.reduceMul, Nat.reduceSub, Int.reduceLE, Int.reduceLT, Int.reduceEq, Int.reduceBEq, Int.reduceBNe, Int.reduceToNat, Int.reduceNeg, upd_rules hn rfl, busAV, e1, e2]
      refine W_of_N [6, 7] hmix ?_
      simp only [AI0, AI1, AI2, AI3, AI4, AI5, AI6, AI7, AI8, AI9, reduceIte, reduceCtorEq, Nat.reduceAdd, Nat.reduceEqDiff, Nat.reduceBEq, Nat.reduceLT, Nat.reduceLeDiff, Nat.reduceMul, Nat.reduceSub, Int.reduceLE, Int.reduceLT, Int.reduceEq, Int.reduceBEq, Int.reduceBNe, Int.reduceToNat, Int.reduceNeg, setQ, e1, e2, List.map_set]

def freeF (m : BusM) (f : Int) : Nat → Int
  | 0 => 512
  | i + 1 => if 512 - (waitsS m f i : Int) < freeF m f i then 512 - (waitsS m f i : Int) else freeF m f i
def freeS (m : BusM) (f : Int) : Int := if thereB m f = true then freeF m f m.length else 0

theorem free_c (F : List Fr) (k : Nat) (b : Base) (path : List Hop) (m : BusM) (hm : BOk m) (hn : nodeAt F k b path = some (busAV m)) (hin : inMem b path = true) (f : Int) :
    ACalls Try.prog 28 [.up (upN k (.ptr ⟨b, path, 0⟩)), .v (.int .i64 f)] F (fun r F' => r = .v (.int .i64 (freeS m f)) ∧ F' = F) := by
  have hw := hm.wf
  refine ok28.N hmix rfl ?_
  simp only [cc28, AI0, AI1, AI2, AI3, AI4, AI5, AI6, AI7, AI8, AI9, reduceIte, reduceCtorEq, Nat.reduceAdd, Nat.reduceEqDiff, Nat.reduceBEq, Nat.reduceLT, Nat.reduceLeDiff, Nat.reduceMul, Nat.reduceSub, Int.reduceLE, Int.reduceLT, Int.reduceEq, Int.reduceBEq, Int.reduceBNe, Int.reduceToNat, Int.reduceNeg]
  refine (there_c _ (k + 1) b path m hn hin f).mono ?_
  rintro _ _ - ⟨rfl, rfl⟩
  simp only [AI0, AI1, AI2, AI3, AI4, AI5, AI6, AI7, AI8, AI9, reduceIte, reduceCtorEq, Nat.reduceAdd, Nat.reduceEqDiff, Nat.reduceBEq, Nat.reduceLT, Nat.reduceLeDiff, Nat.reduceMul, Nat.reduceSub, Int.reduceLE, Int.reduceLT, Int.reduceEq, Int.reduceBEq, Int.reduceBNe, Int.reduceToNat, Int.reduceNeg]
  refine W_of_N [4] hmix ?_
  cases h1 : thereB m f with
  | false => simp only [AI0, AI1, AI2, AI3, AI4, AI5, AI6, AI7, AI8, AI9, reduceIte, reduceCtorEq, Nat.reduceAdd, Nat.reduceEqDiff, Nat.reduceBEq, Nat.reduceLT, Nat.reduceLeDiff, Nat.reduceMul, Nat.reduceSub, Int.reduceLE, Int.reduceLT, Int.reduceEq, Int.reduceBEq, Int.reduceBNe, Int.reduceToNat, Int.reduceNeg, h1, freeS]
  | true =>
    simp only [AI0, AI1, AI2, AI3, AI4, AI5, AI6, AI7, AI8, AI9, reduceIte, reduceCtorEq, Nat.reduceAdd, Nat.reduceEqDiff, Nat.reduceBEq, Nat.reduceLT, Nat.reduceLeDiff, Nat.reduceMul, Nat.reduceSub, Int.reduceLE, Int.reduceLT, Int.reduceEq, Int.reduceBEq, Int.reduceBNe, Int.reduceToNat, Int.reduceNeg, h1, hn, hin, busAV, freeS]
    refine W_loop (fun i : Nat => (⟨[(0, .up (upN k (.ptr ⟨b, path, 0⟩))), (1, .v (.int .i64 f)), (5, .v (.int .i64 (freeF m f i))), (15, .v (.int .i64 m.length)), (16, .v (.int .i64 i))], [], true⟩, F)) (fun i => i ≤ m.length) (fun i => m.length - i) ?_ ?_
    · exact Mid_of 0 (Nat.zero_le _) rfl rfl (by simp only [AI0, AI1, AI2, AI3, AI4, AI5, AI6, AI7, AI8, AI9, reduceIte, reduceCtorEq, Nat.reduceAdd, Nat.reduceEqDiff, Nat.reduceBEq, Nat.reduceLT, Nat.reduceLeDiff, Nat.reduceMul, Nat.reduceSub, Int.reduceLE, Int.reduceLT, Int.reduceEq, Int.reduceBEq, Int.reduceBNe, Int.reduceToNat, Int.reduceNeg, freeF]) trivial
    · intro i hi
      have hn8 := hm.n
      refine W_of_N [4] hmix ?_
      by_cases hlt : i < m.length
      · have hlt' : (i : Int) < m.length := by omega
        simp only [AI0, AI1, AI2, AI3, AI4, AI5, AI6, AI7, AI8, AI9, reduceIte, reduceCtorEq, Nat.reduceAdd, Nat.reduceEqDiff, Nat.reduceBEq, Nat.reduceLT, Nat.reduceLeDiff, Nat.reduceMul, Nat.reduceSub, Int.reduceLE, Int.reduceLT, Int.reduceEq, Int.reduceBEq, Int.reduceBNe, Int.reduceToNat, Int.reduceNeg, hlt']
        refine (waits_c _ (k + 1) b path m hw hn hin f i).mono ?_
        rintro _ _ - ⟨rfl, rfl⟩
        simp only [AI0, AI1, AI2, AI3, AI4, AI5, AI6, AI7, AI8, AI9, reduceIte, reduceCtorEq, Nat.reduceAdd, Nat.reduceEqDiff, Nat.reduceBEq, Nat.reduceLT, Nat.reduceLeDiff, Nat.reduceMul, Nat.reduceSub, Int.reduceLE, Int.reduceLT, Int.reduceEq, Int.reduceBEq, Int.reduceBNe, Int.reduceToNat, Int.reduceNeg]
        refine W_of_N [4] hmix ?_
        have hq := hm.waits f i
        simp only [AI0, AI1, AI2, AI3, AI4, AI5, AI6, AI7, AI8, AI9, reduceIte, reduceCtorEq, Nat.reduceAdd, Nat.reduceEqDiff, Nat.reduceBEq, Nat.reduceLT, Nat.reduceLeDiff, Nat.reduceMul, Nat.reduceSub, Int.reduceLE, Int.reduceLT, Int.reduceEq, Int.reduceBEq, Int.reduceBNe, Int.reduceToNat, Int.reduceNeg, wrap_i64 (x := 512 - (waitsS m f i : Int)) (by omega) (by omega), wrap_i64 (x := (i : Int) + 1) (by omega) (by omega)]
        exact Mid_of (i + 1) ⟨by omega, by omega⟩ rfl rfl (by simp only [AI0, AI1, AI2, AI3, AI4, AI5, AI6, AI7, AI8, AI9, reduceIte, reduceCtorEq, Nat.reduceAdd, Nat.reduceEqDiff, Nat.reduceBEq, Nat.reduceLT, Nat.reduceLeDiff, Nat.reduceMul, Nat.reduceSub, Int.reduceLE, Int.reduceLT, Int.reduceEq, Int.reduceBEq, Int.reduceBNe, Int.reduceToNat, Int.reduceNeg, freeF, Int.natCast_add, Int.natCast_one]) trivial
      · have hlt' : ¬ ((i : Int) < m.length) := by omega
        obtain rfl : i = m.length := by omega
        simp only [AI0, AI1, AI2, AI3, AI4, AI5, AI6, AI7, AI8, AI9, reduceIte, reduceCtorEq, Nat.reduceAdd, Nat.reduceEqDiff, Nat.reduceBEq, Nat.reduceLT, Nat.reduceLeDiff, Nat.reduceMul, Nat.reduceSub, Int.reduceLE, Int.reduceLT, Int.reduceEq, Int.reduceBEq, Int.reduceBNe, Int.reduceToNat, Int.reduceNeg, hlt', Int.lt_irrefl]
end Go.Proofs.Ythlehngbadianaa.Ai
set_option linter.unusedVariables false
set_option linter.unusedSimpArgs false
set_option maxRecDepth 100000
namespace Go.Proofs.Ythlehngbadianaa.Ai
open Go Go.RowKit Go.Proofs

def rowSum (m : BusM) (i : Nat) : Nat → Nat
  | 0 => 0
  | j + 1 => rowSum m i j + waitsS m i j
def totF (m : BusM) : Nat → Nat
  | 0 => 0
  | i + 1 => totF m i + rowSum m i m.length
def totalS (m : BusM) : Nat := totF m m.length
theorem BOk.rowSum {m : BusM} (h : BOk m) (i : Nat) : ∀ j, Ai.rowSum m i j ≤ 512 * j
  | 0 => by simp [Ai.rowSum]
  | j + 1 => by have := h.rowSum i j; have := h.waits i j; simp only [Ai.rowSum]; omega
theorem BOk.totF {m : BusM} (h : BOk m) : ∀ i, Ai.totF m i ≤ 4096 * i
  | 0 => by simp [Ai.totF]
  | i + 1 => by have := h.totF i; have := h.rowSum i m.length; have := h.n; simp only [Ai.totF]; omega

theorem total_c (F : List Fr) (k : Nat) (b : Base) (path : List Hop) (m : BusM) (hm : BOk m) (hn : nodeAt F k b path = some (busAV m)) (hin : inMem b path = true) :
    ACalls Try.prog 26 [.up (upN k (.ptr ⟨b, path, 0⟩))] F (fun r F' => r = .v (.int .i64 (totalS m)) ∧ F' = F) := by
  have hw := hm.wf
  have hn8 := hm.n
  refine ok26.N hmix rfl ?_
  simp only [cc26, AI0, AI1, AI2, AI3, AI4, AI5, AI6, AI7, AI8, AI9, reduceIte, reduceCtorEq, Nat.reduceAdd, Nat.reduceEqDiff, Nat.reduceBEq, Nat.reduceLT, Nat.reduceLeDiff, Nat.reduceMul, Nat.reduceSub, Int.reduceLE, Int.reduceLT, Int.reduceEq, Int.reduceBEq, Int.reduceBNe, Int.reduceToNat, Int.reduceNeg, hn, hin, busAV]
  refine W_loop (fun i : Nat => (⟨[(0, .up (upN k (.ptr ⟨b, path, 0⟩))), (3, .v (.int .i64 (totF m i))), (10, .v (.int .i64 m.length)), (11, .v (.int .i64 i))], [], true⟩, F)) (fun i => i ≤ m.length) (fun i => m.length - i) ?_ ?_
  · exact Mid_of 0 (Nat.zero_le _) rfl rfl (by simp only [AI0, AI1, AI2, AI3, AI4, AI5, AI6, AI7, AI8, AI9, reduceIte, reduceCtorEq, Nat.reduceAdd, Nat.reduceEqDiff, Nat.reduceBEq, Nat.reduceLT, Nat.reduceLeDiff, Nat.reduceMul, Nat.reduceSub, Int.reduceLE, Int.reduceLT, Int.reduceEq, Int.reduceBEq, Int.reduceBNe, Int.reduceToNat, Int.reduceNeg, totF]) trivial
  intro i hi
  refine W_of_N [2] hmix ?_
  by_cases hlt : i < m.length
  · have hlt' : (i : Int) < m.length := by omega
    simp only [AI0, AI1, AI2, AI3, AI4, AI5, AI6, AI7, AI8, AI9, reduceIte, reduceCtorEq, Nat.reduceAdd, Nat.reduceEqDiff, Nat.reduceBEq, Nat.reduceLT, Nat.reduceLeDiff, Nat.reduceMul, Nat.reduceSub, Int.reduceLE, Int.reduceLT, Int.reduceEq, Int.reduceBEq, Int.reduceBNe, Int.reduceToNat, Int.reduceNeg, hlt', hn, hin, busAV]
    refine W_loop (fun j : Nat => (⟨[(0, .up (upN k (.ptr ⟨b, path, 0⟩))), (3, .v (.int .i64 ((totF m i + rowSum m i j : Nat) : Int))), (4, .v (.int .i64 i)), (10, .v (.int .i64 m.length)), (11, .v (.int .i64 i)), (18, .v (.int .i64 m.length)), (19, .v (.int .i64 j))], [], true⟩, F)) (fun j => j ≤ m.length) (fun j => m.length - j) ?_ ?_
    · exact Mid_of 0 (Nat.zero_le _) rfl rfl (by simp only [AI0, AI1, AI2, AI3, AI4, AI5, AI6, AI7, AI8, AI9, reduceIte, reduceCtorEq, Nat.reduceAdd, Nat.reduceEqDiff, Nat.reduceBEq, Nat.reduceLT, Nat.reduceLeDiff, Nat.reduceMul, Nat.reduceSub, Int.reduceLE, Int.reduceLT, Int.reduceEq, Int.reduceBEq, Int.reduceBNe, Int.reduceToNat, Int.reduceNeg, rowSum]) trivial
    intro j hj
    refine W_of_N [2] hmix ?_
    have q1 := hm.totF i
    have q2 := hm.rowSum i j
    have q3 := hm.waits i j
    by_cases hjt : j < m.length
    · have hjt' : (j : Int) < m.length := by omega
      simp only [AI0, AI1, AI2, AI3, AI4, AI5, AI6, AI7, AI8, AI9, reduceIte, reduceCtorEq, Nat.reduceAdd, Nat.reduceEqDiff, Nat.reduceBEq, Nat.reduceLT, Nat.reduceLeDiff, Nat.reduceMul, Nat.reduceSub, Int.reduceLE, Int.reduceLT, Int.reduceEq, Int.reduceBEq, Int.reduceBNe, Int.reduceToNat, Int.reduceNeg, hjt']
      refine (waits_c _ (k + 1) b path m hw hn hin i j).mono ?_
      rintro _ _ - ⟨rfl, rfl⟩
      simp only [AI0, AI1, AI2, AI3, AI4, AI5, AI6, AI7, AI8, AI9, reduceIte, reduceCtorEq, Nat.reduceAdd, Nat.reduceEqDiff, Nat.reduceBEq, Nat.reduceLT, Nat.reduceLeDiff, Nat.reduceMul, Nat.reduceSub, Int.reduceLE, Int.reduceLT, Int.reduceEq, Int.reduceBEq, Int.reduceBNe, Int.reduceToNat, Int.reduceNeg]
      refine W_of_N [2] hmix ?_
      simp only [AI0, AI1, AI2, AI3, AI4, AI5, AI6, AI7, AI8, AI9, reduceIte, reduceCtorEq, Nat.reduceAdd, Nat.reduceEqDiff, Nat.reduceBEq, Nat.reduceLT, Nat.reduceLeDiff, Nat.reduceMul, Nat.reduceSub, Int.reduceLE, Int.reduceLT, Int.reduceEq, Int.reduceBEq, Int.reduceBNe, Int.reduceToNat, Int.reduceNeg, wrap_i64 (x := ((totF m i + rowSum m i j : Nat) : Int) + (waitsS m i j : Int)) (by omega) (by omega), wrap_i64 (x := (j : Int) + 1) (by omega) (by omega)]
      exact Mid_of (j + 1) ⟨by omega, by omega⟩ rfl rfl (by simp only [AI0, AI1, AI2, AI3, AI4, AI5, AI6, AI7, AI8, AI9, reduceIte, reduceCtorEq, Nat.reduceAdd, Nat.reduceEqDiff, Nat.reduceBEq, Nat.reduceLT, Nat.reduceLeDiff, Nat.reduceMul, Nat.reduceSub, Int.reduceLE, Int.reduceLT, Int.reduceEq, Int.reduceBEq, Int.reduceBNe, Int.reduceToNat, Int.reduceNeg, rowSum, Int.natCast_add, Int.natCast_one, Int.add_assoc]) trivial
    · have hjt' : ¬ ((j : Int) < m.length) := by omega
      obtain rfl : j = m.length := by omega
      simp only [AI0, AI1, AI2, AI3, AI4, AI5, AI6, AI7, AI8, AI9, reduceIte, reduceCtorEq, Nat.reduceAdd, Nat.reduceEqDiff, Nat.reduceBEq, Nat.reduceLT, Nat.reduceLeDiff, Nat.reduceMul, Nat.reduceSub, Int.reduceLE, Int.reduceLT, Int.reduceEq, Int.reduceBEq, Int.reduceBNe, Int.reduceToNat, Int.reduceNeg, hjt', Int.lt_irrefl, wrap_i64 (x := (i : Int) + 1) (by omega) (by omega)]
      exact Mid_of (i + 1) ⟨by omega, by omega⟩ rfl rfl (by simp only [AI0, AI1, AI2, AI3, AI4, AI5, AI6, AI7, AI8, AI9, reduceIte, reduceCtorEq, Nat.reduceAdd, Nat.reduceEqDiff, Nat.reduceBEq, Nat.reduceLT, Nat.reduceLeDiff, Nat.reduceMul, Nat.reduceSub, Int.reduceLE, Int.reduceLT, Int.reduceEq, Int.reduceBEq, Int.reduceBNe, Int.reduceToNat, Int.reduceNeg, totF, Int.natCast_add, Int.natCast_one]) trivial
  · have hlt' : ¬ ((i : Int) < m.length) := by omega
    obtain rfl : i = m.length := by omega
    simp only [AI0, AI1, AI2, AI3, AI4, AI5, AI6, AI7, AI8, AI9, reduceIte, reduceCtorEq, Nat.reduceAdd, Nat.reduceEqDiff, Nat.reduceBEq, Nat.reduceLT, Nat.reduceLeDiff, Nat.reduceMul, Nat.reduceSub, Int.reduceLE, Int.reduceLT, Int.reduceEq, Int.reduceBEq, Int.reduceBNe, Int.reduceToNat, Int.reduceNeg, hlt', Int.lt_irrefl, totalS]

/-- All -/
def allF (m : BusM) (f : Int) (s : ByteArray) : Nat → BusM
  | 0 => m
  | i + 1 => (sendS (allF m f s i) f i s).2
def allS (m : BusM) (f : Int) (s : ByteArray) : Int × BusM :=
  if thereB m f = false then (1, m) else if 8192 < s.size then (7, m) else if freeS m f = 0 then (2, m) else (0, allF m f s m.length)

theorem setQ_length (m : BusM) (f t : Nat) (q : List ByteArray) : (setQ m f t q).length = m.length := by simp [setQ]
theorem getQ_setQ {m : BusM} {f t : Nat} {l : List (Option (List ByteArray))} (h : m[f]? = some l) (ht : t < l.length) (q : List ByteArray) (f' t' : Nat) : getQ (setQ m f t q) f' t' = if f' = f ∧ t' = t then q else getQ m f' t' := by
  have hf : f < m.length := (List.getElem?_eq_some_iff.1 h).1
  simp only [getQ, getR, setQ, h, Option.getD_some]
  by_cases e1 : f' = f
  · subst e1
    simp only [List.getElem?_set_self hf, Option.getD_some, h, true_and]
    by_cases e2 : t' = t
    · subst e2; simp [List.getElem?_set_self ht]
    · simp [List.getElem?_set_ne (Ne.symm e2), e2]
  · simp [List.getElem?_set_ne (Ne.symm e1), e1]
theorem Wf.setQ {m : BusM} (h : Wf m) {f t : Nat} (hf : f < m.length) (q : List ByteArray) : Wf (setQ m f t q) := by
  intro l hl
  rw [setQ_length]
  have e : m[f]? = some m[f] := List.getElem?_eq_getElem hf
  simp only [Ai.setQ, e, Option.getD_some] at hl
  rcases List.mem_or_eq_of_mem_set hl with h1 | h1
  · exact h _ h1
  · rw [h1, List.length_set]; exact h.get hf
theorem BOk.setQ {m : BusM} (h : BOk m) {f t : Int} (hr : inR m f t = true) {q : List ByteArray} (hq : q.length ≤ 512) : BOk (Ai.setQ m f.toNat t.toNat q) := by
  obtain ⟨l, r, e1, e2, e3, e4⟩ := inR_get h.wf hr
  refine ⟨h.wf.setQ (List.getElem?_eq_some_iff.1 e1).1 q, by rw [setQ_length]; exact h.n, ?_⟩
  intro f' t'
  rw [getQ_setQ e1 (List.getElem?_eq_some_iff.1 e2).1]
  split
  · exact hq
  · exact h.q _ _
theorem BOk.send {m : BusM} (h : BOk m) (f t : Int) (s : ByteArray) : BOk (sendS m f t s).2 := by
  unfold sendS
  split
  · exact h
  · rename_i h1
    split
    · exact h
    · split
      · exact h
      · exact h.setQ (by simpa using h1) (by simp; omega)
theorem sendS_length (m : BusM) (f t : Int) (s : ByteArray) : (sendS m f t s).2.length = m.length := by
  unfold sendS
  repeat' split
  all_goals first | rfl | exact setQ_length _ _ _ _
theorem allF_ok {m : BusM} (h : BOk m) (f : Int) (s : ByteArray) : ∀ i, BOk (allF m f s i) ∧ (allF m f s i).length = m.length
  | 0 => ⟨h, rfl⟩
  | i + 1 => ⟨(allF_ok h f s i).1.send _ _ _, by rw [allF, sendS_length]; exact (allF_ok h f s i).2⟩

theorem all_c (F : List Fr) (k : Nat) (b : Base) (path : List Hop) (m : BusM) (hm : BOk m) (hn : nodeAt F k b path = some (busAV m)) (hin : inMem b path = true) (hrw : rwF F k = true) (f : Int) (s : ByteArray) :
    ACalls Try.prog 18 [.up (upN k (.ptr ⟨b, path, 0⟩)), .v (.int .i64 f), .v (.string s)] F (fun r F' => r = .v (.int .i64 (allS m f s).1) ∧ F' = updN F k b path (busAV (allS m f s).2)) := by
  have hw := hm.wf
  have hn8 := hm.n
  refine ok18.W rfl ?_
  refine W_own hn rfl ?_
  refine W_of_N [6] hmix ?_
  simp only [cc18, AI0, AI1, AI2, AI3, AI4, AI5, AI6, AI7, AI8, AI9, reduceIte, reduceCtorEq, Nat.reduceAdd, Nat.reduceEqDiff, Nat.reduceBEq, Nat.reduceLT, Nat.reduceLeDiff, Nat.reduceMul, Nat.reduceSub, Int.reduceLE, Int.reduceLT, Int.reduceEq, Int.reduceBEq, Int.reduceBNe, Int.reduceToNat, Int.reduceNeg, upd_rules hn rfl, hin, hrw]
  refine (there_c _ (k + 1) b path m (updN_same hn rfl _) hin f).mono ?_
  rintro _ _ - ⟨rfl, rfl⟩
  simp only [AI0, AI1, AI2, AI3, AI4, AI5, AI6, AI7, AI8, AI9, reduceIte, reduceCtorEq, Nat.reduceAdd, Nat.reduceEqDiff, Nat.reduceBEq, Nat.reduceLT, Nat.reduceLeDiff, Nat.reduceMul, Nat.reduceSub, Int.reduceLE, Int.reduceLT, Int.reduceEq, Int.reduceBEq, Int.reduceBNe, Int.reduceToNat, Int.reduceNeg]
  refine W_of_N [6] hmix ?_
  cases h1 : thereB m f with
  | false => simp only [AI0, AI1, AI2, AI3, AI4, AI5, AI6, AI7, AI8, AI9, reduceIte, reduceCtorEq, Nat.reduceAdd, Nat.reduceEqDiff, Nat.reduceBEq, Nat.reduceLT, Nat.reduceLeDiff, Nat.reduceMul, Nat.reduceSub, Int.reduceLE, Int.reduceLT, Int.reduceEq, Int.reduceBEq, Int.reduceBNe, Int.reduceToNat, Int.reduceNeg, h1, allS]
  | true =>
    by_cases h2 : 8192 < s.size
    · have h2' : (8192 : Int) < s.size := by omega
      simp only [AI0, AI1, AI2, AI3, AI4, AI5, AI6, AI7, AI8, AI9, reduceIte, reduceCtorEq, Nat.reduceAdd, Nat.reduceEqDiff, Nat.reduceBEq, Nat.reduceLT, Nat.reduceLeDiff, Nat.reduceMul, Nat.reduceSub, Int.reduceLE, Int.reduceLT, Int.reduceEq, Int.reduceBEq, Int.reduceBNe, Int.reduceToNat, Int.reduceNeg, h1, h2, h2', allS]
    have h2' : ¬ ((8192 : Int) < s.size) := by omega
    simp only [AI0, AI1, AI2, AI3, AI4, AI5, AI6, AI7, AI8, AI9, reduceIte, reduceCtorEq, Nat.reduceAdd, Nat.reduceEqDiff, Nat.reduceBEq, Nat.reduceLT, Nat.reduceLeDiff, Nat.reduceMul, Nat.reduceSub, Int.reduceLE, Int.reduceLT, Int.reduceEq, Int.reduceBEq, Int.reduceBNe, Int.reduceToNat, Int.reduceNeg, h1, h2, h2', allS]
    refine (free_c _ (k + 1) b path m hm (updN_same hn rfl _) hin f).mono ?_
    rintro _ _ - ⟨rfl, rfl⟩
    simp only [AI0, AI1, AI2, AI3, AI4, AI5, AI6, AI7, AI8, AI9, reduceIte, reduceCtorEq, Nat.reduceAdd, Nat.reduceEqDiff, Nat.reduceBEq, Nat.reduceLT, Nat.reduceLeDiff, Nat.reduceMul, Nat.reduceSub, Int.reduceLE, Int.reduceLT, Int.reduceEq, Int.reduceBEq, Int.reduceBNe, Int.reduceToNat, Int.reduceNeg]
    refine W_of_N [6] hmix ?_
    by_cases h3 : freeS m f = 0
    · simp only [AI0, AI1, AI2, AI3, AI4, AI5, AI6, AI7, AI8, AI9, reduceIte, reduceCtorEq, Nat.reduceAdd, Nat.reduceEqDiff, Nat.reduceBEq, Nat.reduceLT, Nat.reduceLeDiff, Nat.reduceMul, Nat.reduceSub, Int.reduceLE, Int.reduceLT, Int.reduceEq, Int.reduceBEq, Int.reduceBNe, Int.reduceToNat, Int.reduceNeg, h3]
    have h3' : (freeS m f == 0) = false := by simpa using h3
    simp only [AI0, AI1, AI2, AI3, AI4, AI5, AI6, AI7, AI8, AI9, reduceIte, reduceCtorEq, Nat.reduceAdd, Nat.reduceEqDiff, Nat.reduceBEq, Nat.reduceLT, Nat.reduceLeDiff, Nat.reduceMul, Nat.reduceSub, Int.reduceLE, Int.reduceLT, Int.reduceEq, Int.reduceBEq, Int.reduceBNe, Int.reduceToNat, Int.reduceNeg, h3, h3', upd_rules hn rfl, hin, busAV]
    refine W_loop (fun i : Nat => (⟨[(0, .up (upN k (.ptr ⟨b, path, 0⟩))), (1, .v (.int .i64 f)), (2, .v (.string s)), (26, .v (.int .i64 m.length)), (27, .v (.int .i64 i))], [], true⟩, updN F k b path (busAV (allF m f s i)))) (fun i => i ≤ m.length) (fun i => m.length - i) ?_ ?_
    · exact Mid_of 0 (Nat.zero_le _) rfl rfl (by simp only [AI0, AI1, AI2, AI3, AI4, AI5, AI6, AI7, AI8, AI9, reduceIte, reduceCtorEq, Nat.reduceAdd, Nat.reduceEqDiff, Nat.reduceBEq, Nat.reduceLT, Nat.reduceLeDiff, Nat.reduceMul, Nat.reduceSub, Int.reduceLE, Int.reduceLT, Int.reduceEq, Int.reduceBEq, Int.reduceBNe, Int.reduceToNat, Int.reduceNeg, freeF]) trivial
    intro i hi
    obtain ⟨k1, k2⟩ := allF_ok hm f s i
    refine W_of_N [6] hmix ?_
    by_cases hlt : i < m.length
    · have hlt' : (i : Int) < m.length := by omega
      simp only [AI0, AI1, AI2, AI3, AI4, AI5, AI6, AI7, AI8, AI9, reduceIte, reduceCtorEq, Nat.reduceAdd, Nat.reduceEqDiff, Nat.reduceBEq, Nat.reduceLT, Nat.reduceLeDiff, Nat.reduceMul, Nat.reduceSub, Int.reduceLE, Int.reduceLT, Int.reduceEq, Int.reduceBEq, Int.reduceBNe, Int.reduceToNat, Int.reduceNeg, hlt']
      refine (send_c _ (k + 1) b path (allF m f s i) k1.wf (updN_same hn rfl _) hin (by simp only [AI0, AI1, AI2, AI3, AI4, AI5, AI6, AI7, AI8, AI9, reduceIte, reduceCtorEq, Nat.reduceAdd, Nat.reduceEqDiff, Nat.reduceBEq, Nat.reduceLT, Nat.reduceLeDiff, Nat.reduceMul, Nat.reduceSub, Int.reduceLE, Int.reduceLT, Int.reduceEq, Int.reduceBEq, Int.reduceBNe, Int.reduceToNat, Int.reduceNeg, hrw]) f i s).mono ?_
      rintro _ _ - ⟨rfl, rfl⟩
      simp only [AI0, AI1, AI2, AI3, AI4, AI5, AI6, AI7, AI8, AI9, reduceIte, reduceCtorEq, Nat.reduceAdd, Nat.reduceEqDiff, Nat.reduceBEq, Nat.reduceLT, Nat.reduceLeDiff, Nat.reduceMul, Nat.reduceSub, Int.reduceLE, Int.reduceLT, Int.reduceEq, Int.reduceBEq, Int.reduceBNe, Int.reduceToNat, Int.reduceNeg, upd_rules hn rfl, busAV]
      refine W_of_N [6] hmix ?_
      simp only [AI0, AI1, AI2, AI3, AI4, AI5, AI6, AI7, AI8, AI9, reduceIte, reduceCtorEq, Nat.reduceAdd, Nat.reduceEqDiff, Nat.reduceBEq, Nat.reduceLT, Nat.reduceLeDiff, Nat.reduceMul, Nat.reduceSub, Int.reduceLE, Int.reduceLT, Int.reduceEq, Int.reduceBEq, Int.reduceBNe, Int.reduceToNat, Int.reduceNeg, wrap_i64 (x := (i : Int) + 1) (by omega) (by omega)]
      exact Mid_of (i + 1) ⟨by omega, by omega⟩ rfl rfl (by simp only [AI0, AI1, AI2, AI3, AI4, AI5, AI6, AI7, AI8, AI9, reduceIte, reduceCtorEq, Nat.reduceAdd, Nat.reduceEqDiff, Nat.reduceBEq, Nat.reduceLT, Nat.reduceLeDiff, Nat.reduceMul, Nat.reduceSub, Int.reduceLE, Int.reduceLT, Int.reduceEq, Int.reduceBEq, Int.reduceBNe, Int.reduceToNat, Int.reduceNeg, Int.natCast_add, Int.natCast_one]) trivial
    · have hlt' : ¬ ((i : Int) < m.length) := by omega
      obtain rfl : i = m.length := by omega
      simp only [AI0, AI1, AI2, AI3, AI4, AI5, AI6, AI7, AI8, AI9, reduceIte, reduceCtorEq, Nat.reduceAdd, Nat.reduceEqDiff, Nat.reduceBEq, Nat.reduceLT, Nat.reduceLeDiff, Nat.reduceMul, Nat.reduceSub, Int.reduceLE, Int.reduceLT, Int.reduceEq, Int.reduceBEq, Int.reduceBNe, Int.reduceToNat, Int.reduceNeg, hlt', Int.lt_irrefl, busAV]
end Go.Proofs.Ythlehngbadianaa.Ai
set_option linter.unusedVariables false
set_option linter.unusedSimpArgs false
set_option maxRecDepth 100000
namespace Go.Proofs.Ythlehngbadianaa.Ai
open Go Go.RowKit Go.Proofs

def newM (n i : Nat) : BusM := List.replicate i (List.replicate n none)
def rowsC (n : Nat) : Nat → AV
  | 0 => .v (.slice none 0 0)
  | i + 1 => .own 1 ((newM n (i + 1)).map fun l => .own 1 (l.map fun r => .agg [rowC r]))
theorem rowsC_zero (n : Nat) : rowsC n 0 = .v (.slice none 0 0) := rfl
theorem rowsC_succ (n i : Nat) : rowsC n (i + 1) = .own 1 ((newM n (i + 1)).map fun l => .own 1 (l.map fun r => .agg [rowC r])) := rfl
theorem new_c (F : List Fr) (n : Int) :
    ACalls Try.prog 13 [.v (.int .i64 n)] F (fun r F' => r = (if 1 ≤ n ∧ n ≤ 8 then .tup [none, none] [.obj (busAV (newM n.toNat n.toNat)), .v (.int .i64 0)] else .tup [none, none] [.v (.pointer none), .v (.int .i64 1)]) ∧ F' = F) := by
  refine ok13.N hmix rfl ?_
  simp only [cc13, AI0, AI1, AI2, AI3, AI4, AI5, AI6, AI7, AI8, AI9, reduceIte, reduceCtorEq, Nat.reduceAdd, Nat.reduceEqDiff, Nat.reduceBEq, Nat.reduceLT, Nat.reduceLeDiff, Nat.reduceMul, Nat.reduceSub, Int.reduceLE, Int.reduceLT, Int.reduceEq, Int.reduceBEq, Int.reduceBNe, Int.reduceToNat, Int.reduceNeg]
  by_cases h1 : n < 1
  · have h1' : ¬ (1 ≤ n) := by omega
    simp only [AI0, AI1, AI2, AI3, AI4, AI5, AI6, AI7, AI8, AI9, reduceIte, reduceCtorEq, Nat.reduceAdd, Nat.reduceEqDiff, Nat.reduceBEq, Nat.reduceLT, Nat.reduceLeDiff, Nat.reduceMul, Nat.reduceSub, Int.reduceLE, Int.reduceLT, Int.reduceEq, Int.reduceBEq, Int.reduceBNe, Int.reduceToNat, Int.reduceNeg, h1, h1']
  have h1' : 1 ≤ n := by omega
  by_cases h2 : 8 < n
  · have h2' : ¬ (n ≤ 8) := by omega
    simp only [AI0, AI1, AI2, AI3, AI4, AI5, AI6, AI7, AI8, AI9, reduceIte, reduceCtorEq, Nat.reduceAdd, Nat.reduceEqDiff, Nat.reduceBEq, Nat.reduceLT, Nat.reduceLeDiff, Nat.reduceMul, Nat.reduceSub, Int.reduceLE, Int.reduceLT, Int.reduceEq, Int.reduceBEq, Int.reduceBNe, Int.reduceToNat, Int.reduceNeg, h1, h1', h2, h2']
  have h2' : n ≤ 8 := by omega
  obtain ⟨k, rfl⟩ : ∃ k : Nat, n = k := ⟨n.toNat, by omega⟩
  simp only [AI0, AI1, AI2, AI3, AI4, AI5, AI6, AI7, AI8, AI9, reduceIte, reduceCtorEq, Nat.reduceAdd, Nat.reduceEqDiff, Nat.reduceBEq, Nat.reduceLT, Nat.reduceLeDiff, Nat.reduceMul, Nat.reduceSub, Int.reduceLE, Int.reduceLT, Int.reduceEq, Int.reduceBEq, Int.reduceBNe, Int.reduceToNat, Int.reduceNeg, h1, h1', h2, h2']
  refine W_loop (fun i : Nat => (⟨[(0, .v (.int .i64 k)), (4, .obj (.agg [rowsC k i])), (13, .v (.int .i64 k)), (14, .v (.int .i64 i))], [], true⟩, F)) (fun i => i ≤ k) (fun i => k - i) ?_ ?_
  · exact Mid_of 0 (Nat.zero_le _) rfl rfl (by simp only [AI0, AI1, AI2, AI3, AI4, AI5, AI6, AI7, AI8, AI9, reduceIte, reduceCtorEq, Nat.reduceAdd, Nat.reduceEqDiff, Nat.reduceBEq, Nat.reduceLT, Nat.reduceLeDiff, Nat.reduceMul, Nat.reduceSub, Int.reduceLE, Int.reduceLT, Int.reduceEq, Int.reduceBEq, Int.reduceBNe, Int.reduceToNat, Int.reduceNeg, rowsC]) trivial
  intro i hi
  refine W_of_N [2, 3] hmix ?_
  by_cases hlt : i < k
  · have hlt' : (i : Int) < k := by omega
    have a1 : (0 : Int) ≤ k := by omega
    have a0 : (0 : Int) < k := by omega
    have a2 : (24 : Int) * k ≤ 281474976710656 := by omega
    have a3 : (k : Int) ≤ 9223372036854775807 := by omega
    cases i with
    | zero =>
      simp only [AI0, AI1, AI2, AI3, AI4, AI5, AI6, AI7, AI8, AI9, reduceIte, reduceCtorEq, Nat.reduceAdd, Nat.reduceEqDiff, Nat.reduceBEq, Nat.reduceLT, Nat.reduceLeDiff, Nat.reduceMul, Nat.reduceSub, Int.reduceLE, Int.reduceLT, Int.reduceEq, Int.reduceBEq, Int.reduceBNe, Int.reduceToNat, Int.reduceNeg, hlt', rowsC_zero, rowsC_succ, a0, a1, a2, a3, wrap_i64 (x := 0 + 1) (by omega) (by omega)]
      refine Mid_of 1 ⟨by omega, by omega⟩ rfl rfl ?_ trivial
      simp only [AI0, AI1, AI2, AI3, AI4, AI5, AI6, AI7, AI8, AI9, reduceIte, reduceCtorEq, Nat.reduceAdd, Nat.reduceEqDiff, Nat.reduceBEq, Nat.reduceLT, Nat.reduceLeDiff, Nat.reduceMul, Nat.reduceSub, Int.reduceLE, Int.reduceLT, Int.reduceEq, Int.reduceBEq, Int.reduceBNe, Int.reduceToNat, Int.reduceNeg, rowsC_succ, newM, List.replicate_succ, List.replicate_zero, List.map_replicate, rowC]
      simp
    | succ i =>
      have a4 : ((newM k (i + 1)).length + 1) * 24 ≤ 140737488355328 := by simp [newM]; omega
      have a5 : (newM k (i + 1)).length ≤ 9223372036854775806 := by simp [newM]; omega
      simp only [AI0, AI1, AI2, AI3, AI4, AI5, AI6, AI7, AI8, AI9, reduceIte, reduceCtorEq, Nat.reduceAdd, Nat.reduceEqDiff, Nat.reduceBEq, Nat.reduceLT, Nat.reduceLeDiff, Nat.reduceMul, Nat.reduceSub, Int.reduceLE, Int.reduceLT, Int.reduceEq, Int.reduceBEq, Int.reduceBNe, Int.reduceToNat, Int.reduceNeg, hlt', rowsC_zero, rowsC_succ, a0, a1, a2, a3, a4, a5, wrap_i64 (x := ((i + 1 : Nat) : Int) + 1) (by omega) (by omega)]
      refine Mid_of (i + 2) ⟨by omega, by omega⟩ rfl rfl ?_ trivial
      have e : newM k (i + 2) = newM k (i + 1) ++ [List.replicate k none] := by simp only [newM]; rw [List.replicate_succ']
      simp only [AI0, AI1, AI2, AI3, AI4, AI5, AI6, AI7, AI8, AI9, reduceIte, reduceCtorEq, Nat.reduceAdd, Nat.reduceEqDiff, Nat.reduceBEq, Nat.reduceLT, Nat.reduceLeDiff, Nat.reduceMul, Nat.reduceSub, Int.reduceLE, Int.reduceLT, Int.reduceEq, Int.reduceBEq, Int.reduceBNe, Int.reduceToNat, Int.reduceNeg, rowsC_succ, e, List.map_append, List.map_replicate, rowC]
      simp
      omega
  · have hlt' : ¬ ((i : Int) < k) := by omega
    obtain rfl : i = k := by omega
    simp only [AI0, AI1, AI2, AI3, AI4, AI5, AI6, AI7, AI8, AI9, reduceIte, reduceCtorEq, Nat.reduceAdd, Nat.reduceEqDiff, Nat.reduceBEq, Nat.reduceLT, Nat.reduceLeDiff, Nat.reduceMul, Nat.reduceSub, Int.reduceLE, Int.reduceLT, Int.reduceEq, Int.reduceBEq, Int.reduceBNe, Int.reduceToNat, Int.reduceNeg, hlt', Int.lt_irrefl]
    cases i with
    | zero => omega
    | succ i => rfl
end Go.Proofs.Ythlehngbadianaa.Ai
set_option linter.unusedVariables false
set_option linter.unusedSimpArgs false
set_option maxRecDepth 100000
namespace Go.Proofs.Ythlehngbadianaa.Ai
open Go Go.RowKit Go.Proofs
/- watershed/watershedlaw20.works -/
def cc30 : CC := (.seq (.region [⟨none, 0, (.val (.mv (.c (.bool false)))), [], [0]⟩]) (.seq (.region [⟨none, 12, (.call 13 [(.c (.int .i64 2))]), [], []⟩, ⟨none, 11, (.val (.mv (.s 12))), [12], [12]⟩, ⟨none, 13, (.val (.ext (.s 11) 0)), [11], []⟩, ⟨none, 14, (.val (.ext (.s 11) 1)), [11], [11]⟩, ⟨none, 1, (.val (.mv (.s 13))), [13], [13]⟩, ⟨none, 2, (.val (.mv (.s 14))), [14], [14]⟩]) (.seq (.seq (.region [⟨none, 15, (.val (.mv (.s 2))), [2], [2]⟩, ⟨none, 16, (.val (.bin .neq (.s 15) (.c (.int .i64 0)))), [], [15]⟩, ⟨none, 17, (.val (.mv (.s 16))), [16], [16]⟩, ⟨(some (17, false)), 18, (.val (.mv (.s 1))), [], []⟩, ⟨(some (17, false)), 19, (.val (.eqp false (.s 18) (.c (.pointer none)))), [], [18]⟩, ⟨none, 20, (.val (.pick (.s 17) (.c (.bool true)) (.s 19))), [17, 19], [17, 19]⟩, ⟨none, 21, (.val (.mv (.s 20))), [20], [20]⟩, ⟨(some (21, false)), 22, (.val (.mv (.s 1))), [], []⟩, ⟨(some (21, false)), 23, (.call 18 [(.s 22), (.c (.int .i64 0)), (.c (.string ⟨#[97]⟩))]), [], [22]⟩, ⟨(some (21, false)), 24, (.val (.bin .neq (.s 23) (.c (.int .i64 0)))), [], [23]⟩, ⟨none, 25, (.val (.pick (.s 21) (.c (.bool true)) (.s 24))), [21, 24], [21, 24]⟩, ⟨none, 26, (.val (.mv (.s 25))), [25], [25]⟩, ⟨(some (26, false)), 27, (.val (.mv (.s 1))), [], []⟩, ⟨(some (26, false)), 28, (.call 16 [(.s 27), (.c (.int .i64 0)), (.c (.int .i64 1)), (.c (.string ⟨#[98]⟩))]), [], [27]⟩, ⟨(some (26, false)), 29, (.val (.bin .neq (.s 28) (.c (.int .i64 0)))), [], [28]⟩, ⟨none, 30, (.val (.pick (.s 26) (.c (.bool true)) (.s 29))), [26, 29], [26, 29]⟩, ⟨none, 31, (.val (.mv (.s 30))), [30], [30]⟩, ⟨(some (31, false)), 32, (.val (.mv (.s 1))), [], []⟩, ⟨(some (31, false)), 33, (.call 26 [(.s 32)]), [], [32]⟩, ⟨(some (31, false)), 34, (.val (.bin .neq (.s 33) (.c (.int .i64 3)))), [], [33]⟩, ⟨none, 35, (.val (.pick (.s 31) (.c (.bool true)) (.s 34))), [31, 34], [31, 34]⟩]) (.cond (.s 35) (.seq (.region [⟨none, 0, (.val (.mv (.c (.bool false)))), [], [1, 35]⟩]) .ret) .skip)) (.seq (.region [⟨none, 37, (.val (.mv (.s 1))), [], [35]⟩, ⟨none, 38, (.call 20 [(.s 37), (.c (.int .i64 0)), (.c (.int .i64 1))]), [], [37]⟩, ⟨none, 36, (.val (.mv (.s 38))), [38], [38]⟩, ⟨none, 39, (.val (.ext (.s 36) 0)), [36], []⟩, ⟨none, 40, (.val (.ext (.s 36) 1)), [36], [36]⟩, ⟨none, 3, (.val (.mv (.s 39))), [39], [39]⟩, ⟨none, 4, (.val (.mv (.s 40))), [40], [40]⟩]) (.seq (.region [⟨none, 42, (.val (.mv (.s 1))), [], []⟩, ⟨none, 43, (.call 20 [(.s 42), (.c (.int .i64 0)), (.c (.int .i64 1))]), [], [42]⟩, ⟨none, 41, (.val (.mv (.s 43))), [43], [43]⟩, ⟨none, 44, (.val (.ext (.s 41) 0)), [41], []⟩, ⟨none, 45, (.val (.ext (.s 41) 1)), [41], [41]⟩, ⟨none, 5, (.val (.mv (.s 44))), [44], [44]⟩, ⟨none, 6, (.val (.mv (.s 45))), [45], [45]⟩]) (.seq (.region [⟨none, 47, (.val (.mv (.s 1))), [], []⟩, ⟨none, 48, (.call 20 [(.s 47), (.c (.int .i64 0)), (.c (.int .i64 1))]), [], [47]⟩, ⟨none, 46, (.val (.mv (.s 48))), [48], [48]⟩, ⟨none, 49, (.val (.ext (.s 46) 0)), [46], []⟩, ⟨none, 50, (.val (.ext (.s 46) 1)), [46], [46]⟩, ⟨none, 7, (.val (.mv (.s 49))), [49], [7, 49]⟩, ⟨none, 8, (.val (.mv (.s 50))), [50], [50]⟩]) (.seq (.region [⟨none, 52, (.val (.mv (.s 1))), [], []⟩, ⟨none, 53, (.call 22 [(.s 52), (.c (.int .i64 0)), (.c (.int .i64 0))]), [], [52]⟩, ⟨none, 51, (.val (.mv (.s 53))), [53], [53]⟩, ⟨none, 54, (.val (.ext (.s 51) 0)), [51], []⟩, ⟨none, 55, (.val (.ext (.s 51) 1)), [51], [51]⟩, ⟨none, 9, (.val (.mv (.s 54))), [54], [54]⟩, ⟨none, 10, (.val (.mv (.s 55))), [55], [55]⟩]) (.seq (.region [⟨none, 56, (.val (.mv (.s 3))), [3], [3]⟩, ⟨none, 57, (.val (.bin .eql (.s 56) (.c (.string ⟨#[97]⟩)))), [], [56]⟩, ⟨none, 58, (.val (.mv (.s 57))), [57], [57]⟩, ⟨(some (58, true)), 59, (.val (.mv (.s 4))), [4], [4]⟩, ⟨(some (58, true)), 60, (.val (.bin .eql (.s 59) (.c (.int .i64 0)))), [], [59]⟩, ⟨none, 61, (.val (.pick (.s 58) (.s 60) (.c (.bool false)))), [58, 60], [58, 60]⟩, ⟨none, 62, (.val (.mv (.s 61))), [61], [61]⟩, ⟨(some (62, true)), 63, (.val (.mv (.s 5))), [5], [5]⟩, ⟨(some (62, true)), 64, (.val (.bin .eql (.s 63) (.c (.string ⟨#[98]⟩)))), [], [63]⟩, ⟨none, 65, (.val (.pick (.s 62) (.s 64) (.c (.bool false)))), [62, 64], [62, 64]⟩, ⟨none, 66, (.val (.mv (.s 65))), [65], [65]⟩, ⟨(some (66, true)), 67, (.val (.mv (.s 6))), [6], [6]⟩, ⟨(some (66, true)), 68, (.val (.bin .eql (.s 67) (.c (.int .i64 0)))), [], [67]⟩, ⟨none, 69, (.val (.pick (.s 66) (.s 68) (.c (.bool false)))), [66, 68], [66, 68]⟩, ⟨none, 70, (.val (.mv (.s 69))), [69], [69]⟩, ⟨(some (70, true)), 71, (.val (.mv (.s 8))), [8], [8]⟩, ⟨(some (70, true)), 72, (.val (.bin .eql (.s 71) (.c (.int .i64 3)))), [], [71]⟩, ⟨none, 73, (.val (.pick (.s 70) (.s 72) (.c (.bool false)))), [70, 72], [70, 72]⟩, ⟨none, 74, (.val (.mv (.s 73))), [73], [73]⟩, ⟨(some (74, true)), 75, (.val (.mv (.s 9))), [9], [9]⟩, ⟨(some (74, true)), 76, (.val (.bin .eql (.s 75) (.c (.string ⟨#[97]⟩)))), [], [75]⟩, ⟨none, 77, (.val (.pick (.s 74) (.s 76) (.c (.bool false)))), [74, 76], [74, 76]⟩, ⟨none, 78, (.val (.mv (.s 77))), [77], [77]⟩, ⟨(some (78, true)), 79, (.val (.mv (.s 10))), [10], [10]⟩, ⟨(some (78, true)), 80, (.val (.bin .eql (.s 79) (.c (.int .i64 0)))), [], [79]⟩, ⟨none, 81, (.val (.pick (.s 78) (.s 80) (.c (.bool false)))), [78, 80], [78, 80]⟩, ⟨none, 82, (.val (.mv (.s 81))), [81], [81]⟩, ⟨(some (82, true)), 83, (.val (.mv (.s 1))), [], []⟩, ⟨(some (82, true)), 84, (.call 16 [(.s 83), (.c (.int .i64 2)), (.c (.int .i64 0)), (.c (.string ⟨#[]⟩))]), [], [83]⟩, ⟨(some (82, true)), 85, (.val (.bin .eql (.s 84) (.c (.int .i64 1)))), [], [84]⟩, ⟨none, 86, (.val (.pick (.s 82) (.s 85) (.c (.bool false)))), [82, 85], [82, 85]⟩, ⟨none, 87, (.val (.mv (.s 86))), [86], [86]⟩, ⟨(some (87, true)), 88, (.val (.mv (.s 1))), [], []⟩, ⟨(some (87, true)), 89, (.call 28 [(.s 88), (.c (.int .i64 0))]), [], [88]⟩, ⟨(some (87, true)), 90, (.val (.bin .eql (.s 89) (.c (.int .i64 511)))), [], [89]⟩, ⟨none, 91, (.val (.pick (.s 87) (.s 90) (.c (.bool false)))), [87, 90], [87, 90]⟩, ⟨none, 92, (.val (.mv (.s 91))), [91], [91]⟩, ⟨(some (92, true)), 93, (.val (.mv (.s 1))), [1], [1]⟩, ⟨(some (92, true)), 94, (.call 24 [(.s 93), (.c (.int .i64 0)), (.c (.int .i64 0))]), [], [93]⟩, ⟨(some (92, true)), 95, (.val (.bin .eql (.s 94) (.c (.int .i64 1)))), [], [94]⟩, ⟨none, 96, (.val (.pick (.s 92) (.s 95) (.c (.bool false)))), [92, 95], [92, 95]⟩, ⟨none, 0, (.val (.mv (.s 96))), [96], [96]⟩]) .ret))))))))
theorem ok30 : FnOk Try.prog 30 cc30 [0] 0 97 := ⟨⟨_, Try.func30, by kernel_rfl, by kernel_rfl, by kernel_rfl⟩, by decide, by decide, by decide⟩


theorem getQ_newM (n i f t : Nat) : getQ (newM n i) f t = [] := by
  simp only [getQ, getR, newM, List.getElem?_replicate]
  split
  · simp only [Option.getD_some, List.getElem?_replicate]
    split <;> rfl
  · rfl
theorem BOk.new {n : Nat} (h : n ≤ 8) : BOk (newM n n) := ⟨fun l hl => by simp [newM] at hl ⊢; rw [hl.2]; simp, by simp [newM, h], fun f t => by rw [getQ_newM]; simp⟩
theorem BOk.take {m : BusM} (h : BOk m) (f t : Int) : BOk (takeS m f t) := by
  unfold takeS
  split
  · exact h
  · rename_i h1
    split
    · exact h
    · rename_i x l hq
      refine h.setQ (by simpa using h1) ?_
      have := h.q f.toNat t.toNat
      rw [hq] at this
      simp at this
      omega
theorem BOk.all {m : BusM} (h : BOk m) (f : Int) (s : ByteArray) : BOk (allS m f s).2 := by
  unfold allS
  repeat' split
  all_goals first | exact h | exact (allF_ok h f s _).1

theorem works_c (F : List Fr) : ACalls Try.prog 30 [] F (fun r F' => r = .v (.bool true) ∧ F' = F) := by
  have f1 : allS (newM 2 2) 0 ⟨#[97]⟩ = (0, [[some [⟨#[97]⟩], some [⟨#[97]⟩]], [none, none]]) := by rfl
  have f2 : sendS [[some [⟨#[97]⟩], some [⟨#[97]⟩]], [none, none]] 0 1 ⟨#[98]⟩ = (0, [[some [⟨#[97]⟩], some [⟨#[97]⟩, ⟨#[98]⟩]], [none, none]]) := by rfl
  have f3 : totalS [[some [⟨#[97]⟩], some [⟨#[97]⟩, ⟨#[98]⟩]], [none, none]] = 3 := by rfl
  have f4 : headS [[some [⟨#[97]⟩], some [⟨#[97]⟩, ⟨#[98]⟩]], [none, none]] 0 1 = (⟨#[97]⟩, 0) := by rfl
  have f5 : takeS [[some [⟨#[97]⟩], some [⟨#[97]⟩, ⟨#[98]⟩]], [none, none]] 0 1 = [[some [⟨#[97]⟩], some [⟨#[98]⟩]], [none, none]] := by rfl
  have f6 : headS [[some [⟨#[97]⟩], some [⟨#[98]⟩]], [none, none]] 0 1 = (⟨#[98]⟩, 0) := by rfl
  have f7 : takeS [[some [⟨#[97]⟩], some [⟨#[98]⟩]], [none, none]] 0 1 = [[some [⟨#[97]⟩], some []], [none, none]] := by rfl
  have f8 : headS [[some [⟨#[97]⟩], some []], [none, none]] 0 1 = (⟨#[]⟩, 3) := by rfl
  have f9 : takeS [[some [⟨#[97]⟩], some []], [none, none]] 0 1 = [[some [⟨#[97]⟩], some []], [none, none]] := by rfl
  have f10 : headS [[some [⟨#[97]⟩], some []], [none, none]] 0 0 = (⟨#[97]⟩, 0) := by rfl
  have f11 : sendS [[some [⟨#[97]⟩], some []], [none, none]] 2 0 ⟨#[]⟩ = (1, [[some [⟨#[97]⟩], some []], [none, none]]) := by rfl
  have f12 : freeS [[some [⟨#[97]⟩], some []], [none, none]] 0 = 511 := by rfl
  have f13 : waitsS [[some [⟨#[97]⟩], some []], [none, none]] 0 0 = 1 := by rfl
  have b0 : BOk (newM 2 2) := BOk.new (by omega)
  have b1 : BOk [[some [⟨#[97]⟩], some [⟨#[97]⟩]], [none, none]] := by have := b0.all 0 ⟨#[97]⟩; rw [f1] at this; exact this
  have b2 : BOk [[some [⟨#[97]⟩], some [⟨#[97]⟩, ⟨#[98]⟩]], [none, none]] := by have := b1.send 0 1 ⟨#[98]⟩; rw [f2] at this; exact this
  have b3 : BOk [[some [⟨#[97]⟩], some [⟨#[98]⟩]], [none, none]] := by have := b2.take 0 1; rw [f5] at this; exact this
  have b4 : BOk [[some [⟨#[97]⟩], some []], [none, none]] := by have := b3.take 0 1; rw [f7] at this; exact this
  refine ok30.N hmix rfl ?_
  simp only [cc30, AI0, AI1, AI2, AI3, AI4, AI5, AI6, AI7, AI8, AI9, reduceIte, reduceCtorEq, Nat.reduceAdd, Nat.reduceEqDiff, Nat.reduceBEq, Nat.reduceLT, Nat.reduceLeDiff, Nat.reduceMul, Nat.reduceSub, Int.reduceLE, Int.reduceLT, Int.reduceEq, Int.reduceBEq, Int.reduceBNe, Int.reduceToNat, Int.reduceNeg]
  refine (new_c _ 2).mono ?_
  rintro _ _ - ⟨rfl, rfl⟩
  simp only [AI0, AI1, AI2, AI3, AI4, AI5, AI6, AI7, AI8, AI9, reduceIte, reduceCtorEq, Nat.reduceAdd, Nat.reduceEqDiff, Nat.reduceBEq, Nat.reduceLT, Nat.reduceLeDiff, Nat.reduceMul, Nat.reduceSub, Int.reduceLE, Int.reduceLT, Int.reduceEq, Int.reduceBEq, Int.reduceBNe, Int.reduceToNat, Int.reduceNeg, f1, f2, f3, f4, f5, f6, f7, f8, f9, f10, f11, f12, f13, busAV, show ((2 : Int).toNat) = 2 from rfl]
  refine W_of_N [0] hmix ?_
  simp only [AI0, AI1, AI2, AI3, AI4, AI5, AI6, AI7, AI8, AI9, reduceIte, reduceCtorEq, Nat.reduceAdd, Nat.reduceEqDiff, Nat.reduceBEq, Nat.reduceLT, Nat.reduceLeDiff, Nat.reduceMul, Nat.reduceSub, Int.reduceLE, Int.reduceLT, Int.reduceEq, Int.reduceBEq, Int.reduceBNe, Int.reduceToNat, Int.reduceNeg, f1, f2, f3, f4, f5, f6, f7, f8, f9, f10, f11, f12, f13, busAV, show ((2 : Int).toNat) = 2 from rfl]
  refine (all_c _ 0 (.sl 1) [(0, 0)] _ b0 ?_ rfl ?_ 0 ⟨#[97]⟩).mono ?_
  · simp only [AI0, AI1, AI2, AI3, AI4, AI5, AI6, AI7, AI8, AI9, reduceIte, reduceCtorEq, Nat.reduceAdd, Nat.reduceEqDiff, Nat.reduceBEq, Nat.reduceLT, Nat.reduceLeDiff, Nat.reduceMul, Nat.reduceSub, Int.reduceLE, Int.reduceLT, Int.reduceEq, Int.reduceBEq, Int.reduceBNe, Int.reduceToNat, Int.reduceNeg, f1, f2, f3, f4, f5, f6, f7, f8, f9, f10, f11, f12, f13, busAV, show ((2 : Int).toNat) = 2 from rfl]
  · simp only [AI0, AI1, AI2, AI3, AI4, AI5, AI6, AI7, AI8, AI9, reduceIte, reduceCtorEq, Nat.reduceAdd, Nat.reduceEqDiff, Nat.reduceBEq, Nat.reduceLT, Nat.reduceLeDiff, Nat.reduceMul, Nat.reduceSub, Int.reduceLE, Int.reduceLT, Int.reduceEq, Int.reduceBEq, Int.reduceBNe, Int.reduceToNat, Int.reduceNeg, f1, f2, f3, f4, f5, f6, f7, f8, f9, f10, f11, f12, f13, busAV, show ((2 : Int).toNat) = 2 from rfl]
  rintro _ _ - ⟨rfl, rfl⟩
  simp only [AI0, AI1, AI2, AI3, AI4, AI5, AI6, AI7, AI8, AI9, reduceIte, reduceCtorEq, Nat.reduceAdd, Nat.reduceEqDiff, Nat.reduceBEq, Nat.reduceLT, Nat.reduceLeDiff, Nat.reduceMul, Nat.reduceSub, Int.reduceLE, Int.reduceLT, Int.reduceEq, Int.reduceBEq, Int.reduceBNe, Int.reduceToNat, Int.reduceNeg, f1, f2, f3, f4, f5, f6, f7, f8, f9, f10, f11, f12, f13, busAV, show ((2 : Int).toNat) = 2 from rfl]
  refine W_of_N [0] hmix ?_
  simp only [AI0, AI1, AI2, AI3, AI4, AI5, AI6, AI7, AI8, AI9, reduceIte, reduceCtorEq, Nat.reduceAdd, Nat.reduceEqDiff, Nat.reduceBEq, Nat.reduceLT, Nat.reduceLeDiff, Nat.reduceMul, Nat.reduceSub, Int.reduceLE, Int.reduceLT, Int.reduceEq, Int.reduceBEq, Int.reduceBNe, Int.reduceToNat, Int.reduceNeg, f1, f2, f3, f4, f5, f6, f7, f8, f9, f10, f11, f12, f13, busAV, show ((2 : Int).toNat) = 2 from rfl]
  refine (send_c _ 0 (.sl 1) [(0, 0)] _ b1.wf ?_ rfl ?_ 0 1 ⟨#[98]⟩).mono ?_
  · simp only [AI0, AI1, AI2, AI3, AI4, AI5, AI6, AI7, AI8, AI9, reduceIte, reduceCtorEq, Nat.reduceAdd, Nat.reduceEqDiff, Nat.reduceBEq, Nat.reduceLT, Nat.reduceLeDiff, Nat.reduceMul, Nat.reduceSub, Int.reduceLE, Int.reduceLT, Int.reduceEq, Int.reduceBEq, Int.reduceBNe, Int.reduceToNat, Int.reduceNeg, f1, f2, f3, f4, f5, f6, f7, f8, f9, f10, f11, f12, f13, busAV, show ((2 : Int).toNat) = 2 from rfl]
  · simp only [AI0, AI1, AI2, AI3, AI4, AI5, AI6, AI7, AI8, AI9, reduceIte, reduceCtorEq, Nat.reduceAdd, Nat.reduceEqDiff, Nat.reduceBEq, Nat.reduceLT, Nat.reduceLeDiff, Nat.reduceMul, Nat.reduceSub, Int.reduceLE, Int.reduceLT, Int.reduceEq, Int.reduceBEq, Int.reduceBNe, Int.reduceToNat, Int.reduceNeg, f1, f2, f3, f4, f5, f6, f7, f8, f9, f10, f11, f12, f13, busAV, show ((2 : Int).toNat) = 2 from rfl]
  rintro _ _ - ⟨rfl, rfl⟩
  simp only [AI0, AI1, AI2, AI3, AI4, AI5, AI6, AI7, AI8, AI9, reduceIte, reduceCtorEq, Nat.reduceAdd, Nat.reduceEqDiff, Nat.reduceBEq, Nat.reduceLT, Nat.reduceLeDiff, Nat.reduceMul, Nat.reduceSub, Int.reduceLE, Int.reduceLT, Int.reduceEq, Int.reduceBEq, Int.reduceBNe, Int.reduceToNat, Int.reduceNeg, f1, f2, f3, f4, f5, f6, f7, f8, f9, f10, f11, f12, f13, busAV, show ((2 : Int).toNat) = 2 from rfl]
  refine W_of_N [0] hmix ?_
  simp only [AI0, AI1, AI2, AI3, AI4, AI5, AI6, AI7, AI8, AI9, reduceIte, reduceCtorEq, Nat.reduceAdd, Nat.reduceEqDiff, Nat.reduceBEq, Nat.reduceLT, Nat.reduceLeDiff, Nat.reduceMul, Nat.reduceSub, Int.reduceLE, Int.reduceLT, Int.reduceEq, Int.reduceBEq, Int.reduceBNe, Int.reduceToNat, Int.reduceNeg, f1, f2, f3, f4, f5, f6, f7, f8, f9, f10, f11, f12, f13, busAV, show ((2 : Int).toNat) = 2 from rfl]
  refine (total_c _ 0 (.sl 1) [(0, 0)] _ b2 ?_ rfl).mono ?_
  · simp only [AI0, AI1, AI2, AI3, AI4, AI5, AI6, AI7, AI8, AI9, reduceIte, reduceCtorEq, Nat.reduceAdd, Nat.reduceEqDiff, Nat.reduceBEq, Nat.reduceLT, Nat.reduceLeDiff, Nat.reduceMul, Nat.reduceSub, Int.reduceLE, Int.reduceLT, Int.reduceEq, Int.reduceBEq, Int.reduceBNe, Int.reduceToNat, Int.reduceNeg, f1, f2, f3, f4, f5, f6, f7, f8, f9, f10, f11, f12, f13, busAV, show ((2 : Int).toNat) = 2 from rfl]
  rintro _ _ - ⟨rfl, rfl⟩
  simp only [AI0, AI1, AI2, AI3, AI4, AI5, AI6, AI7, AI8, AI9, reduceIte, reduceCtorEq, Nat.reduceAdd, Nat.reduceEqDiff, Nat.reduceBEq, Nat.reduceLT, Nat.reduceLeDiff, Nat.reduceMul, Nat.reduceSub, Int.reduceLE, Int.reduceLT, Int.reduceEq, Int.reduceBEq, Int.reduceBNe, Int.reduceToNat, Int.reduceNeg, f1, f2, f3, f4, f5, f6, f7, f8, f9, f10, f11, f12, f13, busAV, show ((2 : Int).toNat) = 2 from rfl]
  refine W_of_N [0] hmix ?_
  simp only [AI0, AI1, AI2, AI3, AI4, AI5, AI6, AI7, AI8, AI9, reduceIte, reduceCtorEq, Nat.reduceAdd, Nat.reduceEqDiff, Nat.reduceBEq, Nat.reduceLT, Nat.reduceLeDiff, Nat.reduceMul, Nat.reduceSub, Int.reduceLE, Int.reduceLT, Int.reduceEq, Int.reduceBEq, Int.reduceBNe, Int.reduceToNat, Int.reduceNeg, f1, f2, f3, f4, f5, f6, f7, f8, f9, f10, f11, f12, f13, busAV, show ((2 : Int).toNat) = 2 from rfl]
  refine (take_bus_c _ 0 (.sl 1) [(0, 0)] _ b2.wf ?_ rfl ?_ 0 1).mono ?_
  · simp only [AI0, AI1, AI2, AI3, AI4, AI5, AI6, AI7, AI8, AI9, reduceIte, reduceCtorEq, Nat.reduceAdd, Nat.reduceEqDiff, Nat.reduceBEq, Nat.reduceLT, Nat.reduceLeDiff, Nat.reduceMul, Nat.reduceSub, Int.reduceLE, Int.reduceLT, Int.reduceEq, Int.reduceBEq, Int.reduceBNe, Int.reduceToNat, Int.reduceNeg, f1, f2, f3, f4, f5, f6, f7, f8, f9, f10, f11, f12, f13, busAV, show ((2 : Int).toNat) = 2 from rfl]
  · simp only [AI0, AI1, AI2, AI3, AI4, AI5, AI6, AI7, AI8, AI9, reduceIte, reduceCtorEq, Nat.reduceAdd, Nat.reduceEqDiff, Nat.reduceBEq, Nat.reduceLT, Nat.reduceLeDiff, Nat.reduceMul, Nat.reduceSub, Int.reduceLE, Int.reduceLT, Int.reduceEq, Int.reduceBEq, Int.reduceBNe, Int.reduceToNat, Int.reduceNeg, f1, f2, f3, f4, f5, f6, f7, f8, f9, f10, f11, f12, f13, busAV, show ((2 : Int).toNat) = 2 from rfl]
  rintro _ _ - ⟨rfl, rfl⟩
  simp only [AI0, AI1, AI2, AI3, AI4, AI5, AI6, AI7, AI8, AI9, reduceIte, reduceCtorEq, Nat.reduceAdd, Nat.reduceEqDiff, Nat.reduceBEq, Nat.reduceLT, Nat.reduceLeDiff, Nat.reduceMul, Nat.reduceSub, Int.reduceLE, Int.reduceLT, Int.reduceEq, Int.reduceBEq, Int.reduceBNe, Int.reduceToNat, Int.reduceNeg, f1, f2, f3, f4, f5, f6, f7, f8, f9, f10, f11, f12, f13, busAV, show ((2 : Int).toNat) = 2 from rfl]
  refine W_of_N [0] hmix ?_
  simp only [AI0, AI1, AI2, AI3, AI4, AI5, AI6, AI7, AI8, AI9, reduceIte, reduceCtorEq, Nat.reduceAdd, Nat.reduceEqDiff, Nat.reduceBEq, Nat.reduceLT, Nat.reduceLeDiff, Nat.reduceMul, Nat.reduceSub, Int.reduceLE, Int.reduceLT, Int.reduceEq, Int.reduceBEq, Int.reduceBNe, Int.reduceToNat, Int.reduceNeg, f1, f2, f3, f4, f5, f6, f7, f8, f9, f10, f11, f12, f13, busAV, show ((2 : Int).toNat) = 2 from rfl]
  refine (take_bus_c _ 0 (.sl 1) [(0, 0)] _ b3.wf ?_ rfl ?_ 0 1).mono ?_
  · simp only [AI0, AI1, AI2, AI3, AI4, AI5, AI6, AI7, AI8, AI9, reduceIte, reduceCtorEq, Nat.reduceAdd, Nat.reduceEqDiff, Nat.reduceBEq, Nat.reduceLT, Nat.reduceLeDiff, Nat.reduceMul, Nat.reduceSub, Int.reduceLE, Int.reduceLT, Int.reduceEq, Int.reduceBEq, Int.reduceBNe, Int.reduceToNat, Int.reduceNeg, f1, f2, f3, f4, f5, f6, f7, f8, f9, f10, f11, f12, f13, busAV, show ((2 : Int).toNat) = 2 from rfl]
  · simp only [AI0, AI1, AI2, AI3, AI4, AI5, AI6, AI7, AI8, AI9, reduceIte, reduceCtorEq, Nat.reduceAdd, Nat.reduceEqDiff, Nat.reduceBEq, Nat.reduceLT, Nat.reduceLeDiff, Nat.reduceMul, Nat.reduceSub, Int.reduceLE, Int.reduceLT, Int.reduceEq, Int.reduceBEq, Int.reduceBNe, Int.reduceToNat, Int.reduceNeg, f1, f2, f3, f4, f5, f6, f7, f8, f9, f10, f11, f12, f13, busAV, show ((2 : Int).toNat) = 2 from rfl]
  rintro _ _ - ⟨rfl, rfl⟩
  simp only [AI0, AI1, AI2, AI3, AI4, AI5, AI6, AI7, AI8, AI9, reduceIte, reduceCtorEq, Nat.reduceAdd, Nat.reduceEqDiff, Nat.reduceBEq, Nat.reduceLT, Nat.reduceLeDiff, Nat.reduceMul, Nat.reduceSub, Int.reduceLE, Int.reduceLT, Int.reduceEq, Int.reduceBEq, Int.reduceBNe, Int.reduceToNat, Int.reduceNeg, f1, f2, f3, f4, f5, f6, f7, f8, f9, f10, f11, f12, f13, busAV, show ((2 : Int).toNat) = 2 from rfl]
  refine W_of_N [0] hmix ?_
  simp only [AI0, AI1, AI2, AI3, AI4, AI5, AI6, AI7, AI8, AI9, reduceIte, reduceCtorEq, Nat.reduceAdd, Nat.reduceEqDiff, Nat.reduceBEq, Nat.reduceLT, Nat.reduceLeDiff, Nat.reduceMul, Nat.reduceSub, Int.reduceLE, Int.reduceLT, Int.reduceEq, Int.reduceBEq, Int.reduceBNe, Int.reduceToNat, Int.reduceNeg, f1, f2, f3, f4, f5, f6, f7, f8, f9, f10, f11, f12, f13, busAV, show ((2 : Int).toNat) = 2 from rfl]
  refine (take_bus_c _ 0 (.sl 1) [(0, 0)] _ b4.wf ?_ rfl ?_ 0 1).mono ?_
  · simp only [AI0, AI1, AI2, AI3, AI4, AI5, AI6, AI7, AI8, AI9, reduceIte, reduceCtorEq, Nat.reduceAdd, Nat.reduceEqDiff, Nat.reduceBEq, Nat.reduceLT, Nat.reduceLeDiff, Nat.reduceMul, Nat.reduceSub, Int.reduceLE, Int.reduceLT, Int.reduceEq, Int.reduceBEq, Int.reduceBNe, Int.reduceToNat, Int.reduceNeg, f1, f2, f3, f4, f5, f6, f7, f8, f9, f10, f11, f12, f13, busAV, show ((2 : Int).toNat) = 2 from rfl]
  · simp only [AI0, AI1, AI2, AI3, AI4, AI5, AI6, AI7, AI8, AI9, reduceIte, reduceCtorEq, Nat.reduceAdd, Nat.reduceEqDiff, Nat.reduceBEq, Nat.reduceLT, Nat.reduceLeDiff, Nat.reduceMul, Nat.reduceSub, Int.reduceLE, Int.reduceLT, Int.reduceEq, Int.reduceBEq, Int.reduceBNe, Int.reduceToNat, Int.reduceNeg, f1, f2, f3, f4, f5, f6, f7, f8, f9, f10, f11, f12, f13, busAV, show ((2 : Int).toNat) = 2 from rfl]
  rintro _ _ - ⟨rfl, rfl⟩
  simp only [AI0, AI1, AI2, AI3, AI4, AI5, AI6, AI7, AI8, AI9, reduceIte, reduceCtorEq, Nat.reduceAdd, Nat.reduceEqDiff, Nat.reduceBEq, Nat.reduceLT, Nat.reduceLeDiff, Nat.reduceMul, Nat.reduceSub, Int.reduceLE, Int.reduceLT, Int.reduceEq, Int.reduceBEq, Int.reduceBNe, Int.reduceToNat, Int.reduceNeg, f1, f2, f3, f4, f5, f6, f7, f8, f9, f10, f11, f12, f13, busAV, show ((2 : Int).toNat) = 2 from rfl]
  refine W_of_N [0] hmix ?_
  simp only [AI0, AI1, AI2, AI3, AI4, AI5, AI6, AI7, AI8, AI9, reduceIte, reduceCtorEq, Nat.reduceAdd, Nat.reduceEqDiff, Nat.reduceBEq, Nat.reduceLT, Nat.reduceLeDiff, Nat.reduceMul, Nat.reduceSub, Int.reduceLE, Int.reduceLT, Int.reduceEq, Int.reduceBEq, Int.reduceBNe, Int.reduceToNat, Int.reduceNeg, f1, f2, f3, f4, f5, f6, f7, f8, f9, f10, f11, f12, f13, busAV, show ((2 : Int).toNat) = 2 from rfl]
  refine (head_c _ 0 (.sl 1) [(0, 0)] _ b4.wf ?_ rfl 0 0).mono ?_
  · simp only [AI0, AI1, AI2, AI3, AI4, AI5, AI6, AI7, AI8, AI9, reduceIte, reduceCtorEq, Nat.reduceAdd, Nat.reduceEqDiff, Nat.reduceBEq, Nat.reduceLT, Nat.reduceLeDiff, Nat.reduceMul, Nat.reduceSub, Int.reduceLE, Int.reduceLT, Int.reduceEq, Int.reduceBEq, Int.reduceBNe, Int.reduceToNat, Int.reduceNeg, f1, f2, f3, f4, f5, f6, f7, f8, f9, f10, f11, f12, f13, busAV, show ((2 : Int).toNat) = 2 from rfl]
  rintro _ _ - ⟨rfl, rfl⟩
  simp only [AI0, AI1, AI2, AI3, AI4, AI5, AI6, AI7, AI8, AI9, reduceIte, reduceCtorEq, Nat.reduceAdd, Nat.reduceEqDiff, Nat.reduceBEq, Nat.reduceLT, Nat.reduceLeDiff, Nat.reduceMul, Nat.reduceSub, Int.reduceLE, Int.reduceLT, Int.reduceEq, Int.reduceBEq, Int.reduceBNe, Int.reduceToNat, Int.reduceNeg, f1, f2, f3, f4, f5, f6, f7, f8, f9, f10, f11, f12, f13, busAV, show ((2 : Int).toNat) = 2 from rfl]
  refine W_of_N [0] hmix ?_
  simp only [AI0, AI1, AI2, AI3, AI4, AI5, AI6, AI7, AI8, AI9, reduceIte, reduceCtorEq, Nat.reduceAdd, Nat.reduceEqDiff, Nat.reduceBEq, Nat.reduceLT, Nat.reduceLeDiff, Nat.reduceMul, Nat.reduceSub, Int.reduceLE, Int.reduceLT, Int.reduceEq, Int.reduceBEq, Int.reduceBNe, Int.reduceToNat, Int.reduceNeg, f1, f2, f3, f4, f5, f6, f7, f8, f9, f10, f11, f12, f13, busAV, show ((2 : Int).toNat) = 2 from rfl]
  refine (send_c _ 0 (.sl 1) [(0, 0)] _ b4.wf ?_ rfl ?_ 2 0 ⟨#[]⟩).mono ?_
  · simp only [AI0, AI1, AI2, AI3, AI4, AI5, AI6, AI7, AI8, AI9, reduceIte, reduceCtorEq, Nat.reduceAdd, Nat.reduceEqDiff, Nat.reduceBEq, Nat.reduceLT, Nat.reduceLeDiff, Nat.reduceMul, Nat.reduceSub, Int.reduceLE, Int.reduceLT, Int.reduceEq, Int.reduceBEq, Int.reduceBNe, Int.reduceToNat, Int.reduceNeg, f1, f2, f3, f4, f5, f6, f7, f8, f9, f10, f11, f12, f13, busAV, show ((2 : Int).toNat) = 2 from rfl]
  · simp only [AI0, AI1, AI2, AI3, AI4, AI5, AI6, AI7, AI8, AI9, reduceIte, reduceCtorEq, Nat.reduceAdd, Nat.reduceEqDiff, Nat.reduceBEq, Nat.reduceLT, Nat.reduceLeDiff, Nat.reduceMul, Nat.reduceSub, Int.reduceLE, Int.reduceLT, Int.reduceEq, Int.reduceBEq, Int.reduceBNe, Int.reduceToNat, Int.reduceNeg, f1, f2, f3, f4, f5, f6, f7, f8, f9, f10, f11, f12, f13, busAV, show ((2 : Int).toNat) = 2 from rfl]
  rintro _ _ - ⟨rfl, rfl⟩
  simp only [AI0, AI1, AI2, AI3, AI4, AI5, AI6, AI7, AI8, AI9, reduceIte, reduceCtorEq, Nat.reduceAdd, Nat.reduceEqDiff, Nat.reduceBEq, Nat.reduceLT, Nat.reduceLeDiff, Nat.reduceMul, Nat.reduceSub, Int.reduceLE, Int.reduceLT, Int.reduceEq, Int.reduceBEq, Int.reduceBNe, Int.reduceToNat, Int.reduceNeg, f1, f2, f3, f4, f5, f6, f7, f8, f9, f10, f11, f12, f13, busAV, show ((2 : Int).toNat) = 2 from rfl]
  refine W_of_N [0] hmix ?_
  simp only [AI0, AI1, AI2, AI3, AI4, AI5, AI6, AI7, AI8, AI9, reduceIte, reduceCtorEq, Nat.reduceAdd, Nat.reduceEqDiff, Nat.reduceBEq, Nat.reduceLT, Nat.reduceLeDiff, Nat.reduceMul, Nat.reduceSub, Int.reduceLE, Int.reduceLT, Int.reduceEq, Int.reduceBEq, Int.reduceBNe, Int.reduceToNat, Int.reduceNeg, f1, f2, f3, f4, f5, f6, f7, f8, f9, f10, f11, f12, f13, busAV, show ((2 : Int).toNat) = 2 from rfl]
  refine (free_c _ 0 (.sl 1) [(0, 0)] _ b4 ?_ rfl 0).mono ?_
  · simp only [AI0, AI1, AI2, AI3, AI4, AI5, AI6, AI7, AI8, AI9, reduceIte, reduceCtorEq, Nat.reduceAdd, Nat.reduceEqDiff, Nat.reduceBEq, Nat.reduceLT, Nat.reduceLeDiff, Nat.reduceMul, Nat.reduceSub, Int.reduceLE, Int.reduceLT, Int.reduceEq, Int.reduceBEq, Int.reduceBNe, Int.reduceToNat, Int.reduceNeg, f1, f2, f3, f4, f5, f6, f7, f8, f9, f10, f11, f12, f13, busAV, show ((2 : Int).toNat) = 2 from rfl]
  rintro _ _ - ⟨rfl, rfl⟩
  simp only [AI0, AI1, AI2, AI3, AI4, AI5, AI6, AI7, AI8, AI9, reduceIte, reduceCtorEq, Nat.reduceAdd, Nat.reduceEqDiff, Nat.reduceBEq, Nat.reduceLT, Nat.reduceLeDiff, Nat.reduceMul, Nat.reduceSub, Int.reduceLE, Int.reduceLT, Int.reduceEq, Int.reduceBEq, Int.reduceBNe, Int.reduceToNat, Int.reduceNeg, f1, f2, f3, f4, f5, f6, f7, f8, f9, f10, f11, f12, f13, busAV, show ((2 : Int).toNat) = 2 from rfl]
  refine W_of_N [0] hmix ?_
  simp only [AI0, AI1, AI2, AI3, AI4, AI5, AI6, AI7, AI8, AI9, reduceIte, reduceCtorEq, Nat.reduceAdd, Nat.reduceEqDiff, Nat.reduceBEq, Nat.reduceLT, Nat.reduceLeDiff, Nat.reduceMul, Nat.reduceSub, Int.reduceLE, Int.reduceLT, Int.reduceEq, Int.reduceBEq, Int.reduceBNe, Int.reduceToNat, Int.reduceNeg, f1, f2, f3, f4, f5, f6, f7, f8, f9, f10, f11, f12, f13, busAV, show ((2 : Int).toNat) = 2 from rfl]
  refine (waits_c _ 0 (.sl 93) [(0, 0)] _ b4.wf ?_ rfl 0 0).mono ?_
  · simp only [AI0, AI1, AI2, AI3, AI4, AI5, AI6, AI7, AI8, AI9, reduceIte, reduceCtorEq, Nat.reduceAdd, Nat.reduceEqDiff, Nat.reduceBEq, Nat.reduceLT, Nat.reduceLeDiff, Nat.reduceMul, Nat.reduceSub, Int.reduceLE, Int.reduceLT, Int.reduceEq, Int.reduceBEq, Int.reduceBNe, Int.reduceToNat, Int.reduceNeg, f1, f2, f3, f4, f5, f6, f7, f8, f9, f10, f11, f12, f13, busAV, show ((2 : Int).toNat) = 2 from rfl]
  rintro _ _ - ⟨rfl, rfl⟩
  simp only [AI0, AI1, AI2, AI3, AI4, AI5, AI6, AI7, AI8, AI9, reduceIte, reduceCtorEq, Nat.reduceAdd, Nat.reduceEqDiff, Nat.reduceBEq, Nat.reduceLT, Nat.reduceLeDiff, Nat.reduceMul, Nat.reduceSub, Int.reduceLE, Int.reduceLT, Int.reduceEq, Int.reduceBEq, Int.reduceBNe, Int.reduceToNat, Int.reduceNeg, f1, f2, f3, f4, f5, f6, f7, f8, f9, f10, f11, f12, f13, busAV, show ((2 : Int).toNat) = 2 from rfl]
  refine W_of_N [0] hmix ?_
  simp only [AI0, AI1, AI2, AI3, AI4, AI5, AI6, AI7, AI8, AI9, reduceIte, reduceCtorEq, Nat.reduceAdd, Nat.reduceEqDiff, Nat.reduceBEq, Nat.reduceLT, Nat.reduceLeDiff, Nat.reduceMul, Nat.reduceSub, Int.reduceLE, Int.reduceLT, Int.reduceEq, Int.reduceBEq, Int.reduceBNe, Int.reduceToNat, Int.reduceNeg, f1, f2, f3, f4, f5, f6, f7, f8, f9, f10, f11, f12, f13, busAV, show ((2 : Int).toNat) = 2 from rfl]
end Go.Proofs.Ythlehngbadianaa.Ai
set_option linter.unusedVariables false
set_option linter.unusedSimpArgs false
set_option maxRecDepth 100000
namespace Go.Proofs.Ythlehngbadianaa.Ai
open Go Go.RowKit Go.Proofs

/-- One sender's rows are L; nobody else has sent. -/
structure OneS (m : BusM) (n f : Nat) (L : Nat → List ByteArray) : Prop where
  ok : BOk m
  ln : m.length = n
  fl : f < n
  own : ∀ t, t < n → getQ m f t = L t
  oth : ∀ g t, g < n → t < n → g ≠ f → getQ m g t = []

theorem OneS.congr {m : BusM} {n f : Nat} {L L' : Nat → List ByteArray} (h : OneS m n f L) (e : ∀ t, t < n → L t = L' t) : OneS m n f L' := ⟨h.ok, h.ln, h.fl, fun t ht => by rw [h.own t ht, e t ht], h.oth⟩
theorem thereB_nat {m : BusM} {i : Nat} (h : i < m.length) : thereB m (i : Int) = true := by simp [thereB]; omega
theorem inR_nat {m : BusM} {i j : Nat} (h : i < m.length) (h2 : j < m.length) : inR m (i : Int) (j : Int) = true := by simp [inR, thereB_nat h, thereB_nat h2]
theorem OneS.len {m : BusM} {n f : Nat} {L : Nat → List ByteArray} (h : OneS m n f L) (t : Nat) (ht : t < n) : (L t).length ≤ 512 := by rw [← h.own t ht]; exact h.ok.q _ _
theorem OneS.waits {m : BusM} {n f : Nat} {L : Nat → List ByteArray} (h : OneS m n f L) (t : Nat) (ht : t < n) : waitsS m (f : Int) (t : Int) = (L t).length := by
  simp only [waitsS, inR_nat (by rw [h.ln]; exact h.fl) (by rw [h.ln]; exact ht), if_true, Int.toNat_natCast, h.own t ht]
theorem OneS.waits0 {m : BusM} {n f : Nat} {L : Nat → List ByteArray} (h : OneS m n f L) (g t : Nat) (hg : g < n) (ht : t < n) (e : g ≠ f) : waitsS m (g : Int) (t : Int) = 0 := by
  simp only [waitsS, inR_nat (by rw [h.ln]; exact hg) (by rw [h.ln]; exact ht), if_true, Int.toNat_natCast, h.oth g t hg ht e, List.length_nil]
theorem OneS.new {n f : Nat} (hn : n ≤ 8) (hf : f < n) : OneS (newM n n) n f (fun _ => []) := ⟨BOk.new hn, by simp [newM], hf, fun t _ => getQ_newM _ _ _ _, fun g t _ _ _ => getQ_newM _ _ _ _⟩

theorem OneS.send {m : BusM} {n f : Nat} {L : Nat → List ByteArray} (h : OneS m n f L) {t : Nat} (ht : t < n) (hl : (L t).length < 512) {s : ByteArray} (hs : s.size ≤ 8192) :
    (sendS m f t s).1 = 0 ∧ OneS (sendS m f t s).2 n f (fun u => if u = t then L u ++ [s] else L u) := by
  have h1 : inR m (f : Int) (t : Int) = true := inR_nat (by rw [h.ln]; exact h.fl) (by rw [h.ln]; exact ht)
  obtain ⟨l, r, e1, e2, e3, e4⟩ := inR_get h.ok.wf h1
  have h2 : ¬ (8192 < s.size) := by omega
  have h3 : ¬ (512 ≤ (L t).length) := by omega
  have e : sendS m f t s = (0, setQ m f t (L t ++ [s])) := by
    simp [sendS, h1, h2, h.own t ht, h3]
  rw [e]
  simp only [Int.toNat_natCast] at e1 e2
  have htl := (List.getElem?_eq_some_iff.1 e2).1
  refine ⟨rfl, h.ok.setQ h1 (by simp; omega), by rw [setQ_length, h.ln], h.fl, ?_, ?_⟩
  · intro u hu
    rw [getQ_setQ e1 htl]
    by_cases e : u = t
    · subst e; simp
    · simp [e, h.own u hu]
  · intro g u hg hu hne
    rw [getQ_setQ e1 htl, if_neg (fun e => hne e.1)]
    exact h.oth g u hg hu hne
theorem OneS.full {m : BusM} {n f : Nat} {L : Nat → List ByteArray} (h : OneS m n f L) {t : Nat} (ht : t < n) (hl : (L t).length = 512) {s : ByteArray} (hs : s.size ≤ 8192) : sendS m f t s = (2, m) := by
  have h1 : inR m (f : Int) (t : Int) = true := inR_nat (by rw [h.ln]; exact h.fl) (by rw [h.ln]; exact ht)
  have h2 : ¬ (8192 < s.size) := by omega
  simp [sendS, h1, h2, h.own t ht, hl]
theorem OneS.take {m : BusM} {n f : Nat} {L : Nat → List ByteArray} (h : OneS m n f L) {t : Nat} (ht : t < n) {x : ByteArray} {l : List ByteArray} (hl : L t = x :: l) :
    headS m f t = (x, 0) ∧ OneS (takeS m f t) n f (fun u => if u = t then l else L u) := by
  have h1 : inR m (f : Int) (t : Int) = true := inR_nat (by rw [h.ln]; exact h.fl) (by rw [h.ln]; exact ht)
  obtain ⟨l', r, e1, e2, e3, e4⟩ := inR_get h.ok.wf h1
  have hq : getQ m f t = x :: l := by rw [h.own t ht, hl]
  refine ⟨by simp [headS, h1, hq], ?_⟩
  have e : takeS m f t = setQ m f t l := by simp [takeS, h1, hq]
  rw [e]
  simp only [Int.toNat_natCast] at e1 e2
  have htl := (List.getElem?_eq_some_iff.1 e2).1
  have hq5 := h.ok.q f t
  rw [hq] at hq5
  refine ⟨h.ok.setQ h1 (by simp at hq5; omega), by rw [setQ_length, h.ln], h.fl, ?_, ?_⟩
  · intro u hu
    rw [getQ_setQ e1 htl]
    by_cases e : u = t
    · subst e; simp
    · simp [e, h.own u hu]
  · intro g u hg hu hne
    rw [getQ_setQ e1 htl, if_neg (fun e => hne e.1)]
    exact h.oth g u hg hu hne

theorem OneS.freeF_le {m : BusM} {n f : Nat} {L : Nat → List ByteArray} (h : OneS m n f L) {t : Nat} (ht : t < n) : ∀ i, t < i → freeF m f i ≤ 512 - (L t).length
  | 0, hi => by omega
  | i + 1, hi => by
    simp only [freeF]
    by_cases e : t = i
    · subst e
      rw [h.waits t ht]
      split <;> omega
    · have := h.freeF_le ht i (by omega)
      split <;> omega
theorem OneS.freeF_ge {m : BusM} {n f : Nat} {L : Nat → List ByteArray} (h : OneS m n f L) (c : Nat) (hc : ∀ t, t < n → (L t).length ≤ c) : ∀ i, i ≤ n → (512 : Int) - c ≤ freeF m f i
  | 0, hi => by simp only [freeF]; omega
  | i + 1, hi => by
    have h1 := h.freeF_ge c hc i (by omega)
    have h2 := hc i (by omega)
    simp only [freeF]
    rw [h.waits i (by omega)]
    split <;> omega
theorem OneS.free {m : BusM} {n f : Nat} {L : Nat → List ByteArray} (h : OneS m n f L) (c : Nat) (hc : ∀ t, t < n → (L t).length ≤ c) {t0 : Nat} (h0 : t0 < n) (hc0 : (L t0).length = c) : freeS m f = 512 - c := by
  simp only [freeS, thereB_nat (show f < m.length by rw [h.ln]; exact h.fl), if_true, h.ln]
  have h1 := h.freeF_le h0 n h0
  have h2 := h.freeF_ge c hc n (Nat.le_refl _)
  omega

def sumL (L : Nat → List ByteArray) : Nat → Nat
  | 0 => 0
  | i + 1 => sumL L i + (L i).length
theorem sumL_same {L : Nat → List ByteArray} {c : Nat} : ∀ (n : Nat), (∀ t, t < n → (L t).length = c) → sumL L n = n * c
  | 0, _ => by simp [sumL]
  | n + 1, h => by rw [sumL, sumL_same n (fun t ht => h t (by omega)), h n (by omega), Nat.add_one_mul]
theorem sumL_le {L : Nat → List ByteArray} {c : Nat} : ∀ (n : Nat), (∀ t, t < n → (L t).length ≤ c) → sumL L n ≤ n * c
  | 0, _ => by simp [sumL]
  | n + 1, h => by have := sumL_le n (fun t ht => h t (by omega)); have := h n (by omega); rw [sumL, Nat.add_one_mul]; omega
theorem OneS.rowSum {m : BusM} {n f : Nat} {L : Nat → List ByteArray} (h : OneS m n f L) : ∀ i, i ≤ n → Ai.rowSum m f i = sumL L i
  | 0, _ => rfl
  | i + 1, hi => by rw [Ai.rowSum, sumL, h.rowSum i (by omega), h.waits i (by omega)]
theorem OneS.rowSum0 {m : BusM} {n f : Nat} {L : Nat → List ByteArray} (h : OneS m n f L) {g : Nat} (hg : g < n) (hne : g ≠ f) : ∀ i, i ≤ n → Ai.rowSum m g i = 0
  | 0, _ => rfl
  | i + 1, hi => by rw [Ai.rowSum, h.rowSum0 hg hne i (by omega), h.waits0 g i hg (by omega) hne]
theorem OneS.totF {m : BusM} {n f : Nat} {L : Nat → List ByteArray} (h : OneS m n f L) : ∀ i, i ≤ n → Ai.totF m i = if f < i then sumL L n else 0
  | 0, _ => by simp [Ai.totF]
  | i + 1, hi => by
    rw [Ai.totF, h.totF i (by omega), h.ln]
    by_cases e : i = f
    · subst e; rw [h.rowSum n (Nat.le_refl _)]; simp
    · rw [h.rowSum0 (by omega) e n (Nat.le_refl _)]
      by_cases h2 : f < i
      · simp [h2, show f < i + 1 by omega]
      · simp [h2, show ¬ f < i + 1 by omega]
theorem OneS.total {m : BusM} {n f : Nat} {L : Nat → List ByteArray} (h : OneS m n f L) : totalS m = sumL L n := by
  rw [totalS, h.ln, h.totF n (Nat.le_refl _), if_pos h.fl]

theorem OneS.allF {m : BusM} {n f : Nat} {L : Nat → List ByteArray} (h : OneS m n f L) (hl : ∀ t, t < n → (L t).length < 512) {s : ByteArray} (hs : s.size ≤ 8192) : ∀ i, i ≤ n → OneS (Ai.allF m f s i) n f (fun u => if u < i then L u ++ [s] else L u)
  | 0, _ => h.congr fun t _ => by simp
  | i + 1, hi => by
    have h1 := h.allF hl hs i (by omega)
    have h2 := (h1.send (t := i) (by omega) (by simp; exact hl i (by omega)) hs).2
    rw [Ai.allF]
    refine h2.congr fun t ht => ?_
    by_cases e : t = i
    · subst e; simp
    · by_cases e2 : t < i
      · simp [e, e2, show t < i + 1 by omega]
      · simp [e, e2, show ¬ t < i + 1 by omega]
theorem OneS.all {m : BusM} {n f : Nat} {L : Nat → List ByteArray} (h : OneS m n f L) (c : Nat) (hc : ∀ t, t < n → (L t).length = c) (h5 : c < 512) {s : ByteArray} (hs : s.size ≤ 8192) :
    (allS m f s).1 = 0 ∧ OneS (allS m f s).2 n f (fun u => L u ++ [s]) := by
  have hfree := h.free c (fun t ht => by rw [hc t ht]; omega) h.fl (hc f h.fl)
  have e : allS m f s = (0, Ai.allF m f s m.length) := by
    simp only [allS, thereB_nat (show f < m.length by rw [h.ln]; exact h.fl), Bool.true_eq_false, if_false, show ¬ (8192 < s.size) by omega, hfree]
    rw [if_neg (by omega)]
  rw [e]
  refine ⟨rfl, ?_⟩
  rw [show (0, Ai.allF m f s m.length).2 = Ai.allF m f s m.length from rfl, h.ln]
  exact (h.allF (fun t ht => by rw [hc t ht]; exact h5) hs n (Nat.le_refl _)).congr fun t ht => by simp [ht]
theorem OneS.allFull {m : BusM} {n f : Nat} {L : Nat → List ByteArray} (h : OneS m n f L) (hf : freeS m f = 0) {s : ByteArray} (hs : s.size ≤ 8192) : allS m f s = (2, m) := by
  simp only [allS, thereB_nat (show f < m.length by rw [h.ln]; exact h.fl), Bool.true_eq_false, if_false, show ¬ (8192 < s.size) by omega, hf, if_true]
end Go.Proofs.Ythlehngbadianaa.Ai
set_option linter.unusedVariables false
set_option linter.unusedSimpArgs false
set_option maxRecDepth 100000
set_option maxHeartbeats 1000000
namespace Go.Proofs.Ythlehngbadianaa.Ai
open Go Go.RowKit Go.Proofs
/- watershed/watershedlaw20.BusAll -/
def cc5 : CC := (.seq (.region [⟨none, 8, (.val (.mv (.c (.bool false)))), [], [8]⟩]) (.seq (.seq (.region [⟨none, 17, (.call 30 []), [], []⟩, ⟨none, 18, (.val (.un .not (.s 17))), [], [17]⟩]) (.cond (.s 18) (.seq (.region [⟨none, 8, (.val (.mv (.c (.bool false)))), [], [0, 1, 2, 3, 18]⟩]) .ret) .skip)) (.seq (.region [⟨none, 19, (.val (.mv (.s 0))), [0], [0, 18]⟩, ⟨none, 20, (.val (.cvi .u64 (.s 19))), [], [19]⟩, ⟨none, 21, (.val (.bin .rem (.s 20) (.c (.int .u64 8)))), [], [20]⟩, ⟨none, 22, (.val (.cvi .i64 (.s 21))), [], [21]⟩, ⟨none, 23, (.val (.bin .add (.c (.int .i64 1)) (.s 22))), [], [22]⟩, ⟨none, 0, (.val (.mv (.s 23))), [23], [23]⟩]) (.seq (.region [⟨none, 24, (.val (.mv (.s 1))), [1], [1]⟩, ⟨none, 25, (.val (.cvi .u64 (.s 24))), [], [24]⟩, ⟨none, 26, (.val (.mv (.s 0))), [], []⟩, ⟨none, 27, (.val (.cvi .u64 (.s 26))), [], [26]⟩, ⟨none, 28, (.val (.bin .rem (.s 25) (.s 27))), [], [25, 27]⟩, ⟨none, 29, (.val (.cvi .i64 (.s 28))), [], [28]⟩, ⟨none, 30, (.val (.mv (.s 3))), [3], [3]⟩, ⟨none, 31, (.val (.cvi .u64 (.s 30))), [], [30]⟩, ⟨none, 32, (.val (.mv (.s 0))), [], []⟩, ⟨none, 33, (.val (.cvi .u64 (.s 32))), [], [32]⟩, ⟨none, 34, (.val (.bin .rem (.s 31) (.s 33))), [], [31, 33]⟩, ⟨none, 35, (.val (.cvi .i64 (.s 34))), [], [34]⟩, ⟨none, 1, (.val (.mv (.s 29))), [29], [29]⟩, ⟨none, 3, (.val (.mv (.s 35))), [35], [35]⟩]) (.seq (.region [⟨none, 37, (.val (.mv (.s 0))), [], []⟩, ⟨none, 38, (.call 13 [(.s 37)]), [], [37]⟩, ⟨none, 36, (.val (.mv (.s 38))), [38], [38]⟩, ⟨none, 39, (.val (.ext (.s 36) 0)), [36], []⟩, ⟨none, 40, (.val (.ext (.s 36) 1)), [36], [36]⟩, ⟨none, 9, (.val (.mv (.s 39))), [39], [39]⟩, ⟨none, 10, (.val (.mv (.s 40))), [40], [40]⟩]) (.seq (.seq (.region [⟨none, 41, (.val (.mv (.s 10))), [10], [10]⟩, ⟨none, 42, (.val (.bin .neq (.s 41) (.c (.int .i64 0)))), [], [41]⟩, ⟨none, 43, (.val (.mv (.s 42))), [42], [42]⟩, ⟨(some (43, false)), 44, (.val (.mv (.s 9))), [], []⟩, ⟨(some (43, false)), 45, (.val (.eqp false (.s 44) (.c (.pointer none)))), [], [44]⟩, ⟨none, 46, (.val (.pick (.s 43) (.c (.bool true)) (.s 45))), [43, 45], [43, 45]⟩]) (.cond (.s 46) (.seq (.region [⟨none, 8, (.val (.mv (.c (.bool false)))), [], [0, 1, 2, 3, 9, 46]⟩]) .ret) .skip)) (.seq (.seq (.region [⟨none, 11, (.val (.mv (.c (.int .i64 0)))), [], [46]⟩]) (.block 0 (.loop (.seq (.seq (.region [⟨none, 47, (.val (.mv (.s 11))), [], []⟩, ⟨none, 48, (.val (.mv (.s 2))), [], []⟩, ⟨none, 49, (.val (.lnl (.s 48) 1)), [], [48]⟩, ⟨none, 50, (.val (.bin .lss (.s 47) (.s 49))), [], [47, 49]⟩, ⟨none, 51, (.val (.mv (.s 50))), [50], [50]⟩, ⟨(some (51, true)), 52, (.val (.mv (.s 11))), [], []⟩, ⟨(some (51, true)), 53, (.val (.bin .lss (.s 52) (.c (.int .i64 40)))), [], []⟩, ⟨none, 54, (.val (.pick (.s 51) (.s 53) (.c (.bool false)))), [51], [51]⟩]) (.cond (.s 54) .skip (.exit 0))) (.seq (.block 1 (.seq (.seq (.region [⟨none, 57, (.val (.mv (.s 2))), [], [54]⟩, ⟨none, 58, (.val (.mv (.s 11))), [], []⟩, ⟨none, 59, (.val (.ia (.s 57) (.s 58) 1)), [], [57, 58]⟩, ⟨none, 60, (.val (.ld (.s 59) none)), [], [59]⟩, ⟨none, 61, (.val (.lns (.s 60))), [], [60]⟩, ⟨none, 62, (.val (.bin .gtr (.s 61) (.c (.int .i64 8192)))), [], [61]⟩]) (.cond (.s 62) (.seq (.region [⟨none, 8, (.val (.mv (.c (.bool true)))), [], [0, 1, 2, 3, 9, 11, 52, 53, 62, 72, 73, 74, 75, 76, 77, 78, 81, 82, 83, 84, 85, 86, 87]⟩]) .ret) .skip)) (.seq (.region [⟨none, 63, (.val (.mv (.s 9))), [], [62]⟩, ⟨none, 64, (.val (.mv (.s 1))), [], []⟩, ⟨none, 65, (.val (.mv (.s 2))), [], []⟩, ⟨none, 66, (.val (.mv (.s 11))), [], []⟩, ⟨none, 67, (.val (.ia (.s 65) (.s 66) 1)), [], [65, 66]⟩, ⟨none, 68, (.val (.ld (.s 67) none)), [], [67]⟩, ⟨none, 69, (.call 18 [(.s 63), (.s 64), (.s 68)]), [], [63, 64, 68]⟩, ⟨none, 70, (.val (.bin .neq (.s 69) (.c (.int .i64 0)))), [], [69]⟩, ⟨none, 71, (.val (.mv (.s 70))), [70], [70]⟩, ⟨(some (71, false)), 72, (.val (.mv (.s 9))), [], []⟩, ⟨(some (71, false)), 73, (.call 26 [(.s 72)]), [], []⟩, ⟨(some (71, false)), 74, (.val (.mv (.s 0))), [], []⟩, ⟨(some (71, false)), 75, (.val (.mv (.s 11))), [], []⟩, ⟨(some (71, false)), 76, (.val (.bin .add (.s 75) (.c (.int .i64 1)))), [], []⟩, ⟨(some (71, false)), 77, (.val (.bin .mul (.s 74) (.s 76))), [], []⟩, ⟨(some (71, false)), 78, (.val (.bin .neq (.s 73) (.s 77))), [], []⟩, ⟨none, 79, (.val (.pick (.s 71) (.c (.bool true)) (.s 78))), [71], [71]⟩, ⟨none, 80, (.val (.mv (.s 79))), [79], [79]⟩, ⟨(some (80, false)), 81, (.val (.mv (.s 9))), [], []⟩, ⟨(some (80, false)), 82, (.val (.mv (.s 1))), [], []⟩, ⟨(some (80, false)), 83, (.call 28 [(.s 81), (.s 82)]), [], []⟩, ⟨(some (80, false)), 84, (.val (.mv (.s 11))), [], []⟩, ⟨(some (80, false)), 85, (.val (.bin .sub (.c (.int .i64 512)) (.s 84))), [], []⟩, ⟨(some (80, false)), 86, (.val (.bin .sub (.s 85) (.c (.int .i64 1)))), [], []⟩, ⟨(some (80, false)), 87, (.val (.bin .neq (.s 83) (.s 86))), [], []⟩, ⟨none, 88, (.val (.pick (.s 80) (.c (.bool true)) (.s 87))), [80], [80]⟩]) (.cond (.s 88) (.seq (.region [⟨none, 8, (.val (.mv (.c (.bool false)))), [], [0, 1, 2, 3, 9, 11, 52, 53, 72, 73, 74, 75, 76, 77, 78, 81, 82, 83, 84, 85, 86, 87, 88]⟩]) .ret) .skip)))) (.region [⟨none, 55, (.val (.mv (.s 11))), [11], [11, 88]⟩, ⟨none, 56, (.val (.bin .add (.s 55) (.c (.int .i64 1)))), [], [55]⟩, ⟨none, 11, (.val (.mv (.s 56))), [56], [56]⟩])))))) (.seq (.block 2 (.loop (.seq (.seq (.region [⟨none, 89, (.val (.mv (.s 9))), [], [11, 52, 53, 54, 72, 73, 74, 75, 76, 77, 78, 81, 82, 83, 84, 85, 86, 87, 98]⟩, ⟨none, 90, (.val (.mv (.s 1))), [], []⟩, ⟨none, 91, (.val (.mv (.s 3))), [], []⟩, ⟨none, 92, (.call 16 [(.s 89), (.s 90), (.s 91), (.c (.string ⟨#[120]⟩))]), [], [89, 90, 91]⟩, ⟨none, 93, (.val (.bin .eql (.s 92) (.c (.int .i64 0)))), [], [92]⟩, ⟨none, 94, (.val (.mv (.s 93))), [93], [93]⟩, ⟨(some (94, true)), 95, (.val (.mv (.s 9))), [], []⟩, ⟨(some (94, true)), 96, (.call 26 [(.s 95)]), [], []⟩, ⟨(some (94, true)), 97, (.val (.bin .lss (.s 96) (.c (.int .i64 5000)))), [], []⟩, ⟨none, 98, (.val (.pick (.s 94) (.s 97) (.c (.bool false)))), [94], [94]⟩]) (.cond (.s 98) .skip (.exit 2))) (.block 3 .skip)))) (.seq (.region [⟨none, 99, (.val (.mv (.s 9))), [], [3, 95, 96, 97, 98]⟩, ⟨none, 100, (.call 26 [(.s 99)]), [], [99]⟩, ⟨none, 12, (.val (.mv (.s 100))), [100], [100]⟩]) (.seq (.seq (.region [⟨none, 101, (.val (.mv (.s 9))), [], []⟩, ⟨none, 102, (.val (.mv (.s 1))), [], []⟩, ⟨none, 103, (.call 18 [(.s 101), (.s 102), (.c (.string ⟨#[121]⟩))]), [], [101, 102]⟩, ⟨none, 104, (.val (.bin .neq (.s 103) (.c (.int .i64 2)))), [], [103]⟩, ⟨none, 105, (.val (.mv (.s 104))), [104], [104]⟩, ⟨(some (105, false)), 106, (.val (.mv (.s 9))), [], []⟩, ⟨(some (105, false)), 107, (.call 26 [(.s 106)]), [], [106]⟩, ⟨(some (105, false)), 108, (.val (.mv (.s 12))), [12], [12]⟩, ⟨(some (105, false)), 109, (.val (.bin .neq (.s 107) (.s 108))), [], [107, 108]⟩, ⟨none, 110, (.val (.pick (.s 105) (.c (.bool true)) (.s 109))), [105, 109], [105, 109]⟩, ⟨none, 111, (.val (.mv (.s 110))), [110], [110]⟩, ⟨(some (111, false)), 112, (.val (.mv (.s 9))), [], []⟩, ⟨(some (111, false)), 113, (.val (.mv (.s 1))), [], []⟩, ⟨(some (111, false)), 114, (.call 28 [(.s 112), (.s 113)]), [], [112, 113]⟩, ⟨(some (111, false)), 115, (.val (.bin .neq (.s 114) (.c (.int .i64 0)))), [], [114]⟩, ⟨none, 116, (.val (.pick (.s 111) (.c (.bool true)) (.s 115))), [111, 115], [111, 115]⟩]) (.cond (.s 116) (.seq (.region [⟨none, 8, (.val (.mv (.c (.bool false)))), [], [0, 1, 2, 9, 116]⟩]) .ret) .skip)) (.seq (.seq (.region [⟨none, 13, (.val (.mv (.c (.int .i64 0)))), [], [116]⟩]) (.block 4 (.loop (.seq (.seq (.region [⟨none, 117, (.val (.mv (.s 13))), [], []⟩, ⟨none, 118, (.val (.mv (.s 0))), [], []⟩, ⟨none, 119, (.val (.bin .lss (.s 117) (.s 118))), [], [117, 118]⟩]) (.cond (.s 119) .skip (.exit 4))) (.seq (.block 5 (.seq (.region [⟨none, 14, (.val (.mv (.c (.int .i64 0)))), [], [119]⟩]) (.block 6 (.loop (.seq (.seq (.region [⟨none, 122, (.val (.mv (.s 14))), [], []⟩, ⟨none, 123, (.val (.mv (.s 2))), [], []⟩, ⟨none, 124, (.val (.lnl (.s 123) 1)), [], [123]⟩, ⟨none, 125, (.val (.bin .lss (.s 122) (.s 124))), [], [122, 124]⟩, ⟨none, 126, (.val (.mv (.s 125))), [125], [125]⟩, ⟨(some (126, true)), 127, (.val (.mv (.s 14))), [], []⟩, ⟨(some (126, true)), 128, (.val (.bin .lss (.s 127) (.c (.int .i64 40)))), [], []⟩, ⟨none, 129, (.val (.pick (.s 126) (.s 128) (.c (.bool false)))), [126], [126]⟩]) (.cond (.s 129) .skip (.exit 6))) (.seq (.block 7 (.seq (.region [⟨none, 133, (.val (.mv (.s 9))), [], [129]⟩, ⟨none, 134, (.val (.mv (.s 1))), [], []⟩, ⟨none, 135, (.val (.mv (.s 13))), [], []⟩, ⟨none, 136, (.call 20 [(.s 133), (.s 134), (.s 135)]), [], [133, 134, 135]⟩, ⟨none, 132, (.val (.mv (.s 136))), [136], [136]⟩, ⟨none, 137, (.val (.ext (.s 132) 0)), [132], []⟩, ⟨none, 138, (.val (.ext (.s 132) 1)), [132], [132]⟩, ⟨none, 15, (.val (.mv (.s 137))), [137], [137]⟩, ⟨none, 16, (.val (.mv (.s 138))), [138], [138]⟩]) (.seq (.region [⟨none, 139, (.val (.mv (.s 16))), [16], [16]⟩, ⟨none, 140, (.val (.bin .neq (.s 139) (.c (.int .i64 0)))), [], [139]⟩, ⟨none, 141, (.val (.mv (.s 140))), [140], [140]⟩, ⟨(some (141, false)), 142, (.val (.mv (.s 15))), [15], [15]⟩, ⟨(some (141, false)), 143, (.val (.mv (.s 2))), [], []⟩, ⟨(some (141, false)), 144, (.val (.mv (.s 14))), [], []⟩, ⟨(some (141, false)), 145, (.val (.ia (.s 143) (.s 144) 1)), [], []⟩, ⟨(some (141, false)), 146, (.val (.ld (.s 145) none)), [], []⟩, ⟨(some (141, false)), 147, (.val (.bin .neq (.s 142) (.s 146))), [], []⟩, ⟨none, 148, (.val (.pick (.s 141) (.c (.bool true)) (.s 147))), [141], [141]⟩]) (.cond (.s 148) (.seq (.region [⟨none, 8, (.val (.mv (.c (.bool false)))), [], [0, 1, 2, 9, 13, 14, 127, 128, 142, 143, 144, 145, 146, 147, 148]⟩]) .ret) .skip)))) (.region [⟨none, 130, (.val (.mv (.s 14))), [14], [14, 148]⟩, ⟨none, 131, (.val (.bin .add (.s 130) (.c (.int .i64 1)))), [], [130]⟩, ⟨none, 14, (.val (.mv (.s 131))), [131], [131]⟩]))))))) (.region [⟨none, 120, (.val (.mv (.s 13))), [13], [13, 14, 129]⟩, ⟨none, 121, (.val (.bin .add (.s 120) (.c (.int .i64 1)))), [], [120]⟩, ⟨none, 13, (.val (.mv (.s 121))), [121], [121]⟩])))))) (.seq (.region [⟨none, 8, (.val (.mv (.c (.bool true)))), [], [0, 1, 2, 9, 13, 119, 127, 128, 142, 143, 144, 145, 146, 147]⟩]) .ret))))))))))))
theorem ok5 : FnOk Try.prog 5 cc5 [8] 4 149 := ⟨⟨_, Try.func5, by kernel_rfl, by kernel_rfl, by kernel_rfl⟩, by decide, by decide, by decide⟩


theorem mod_nat (a b : Int) (hb : 0 < b) (ha : 0 ≤ a) : ∃ c : Nat, a.tmod b = c ∧ (c : Int) < b := by
  refine ⟨(a.tmod b).toNat, ?_, ?_⟩
  · rw [Int.toNat_of_nonneg (Int.tmod_nonneg b ha)]
  · rw [Int.toNat_of_nonneg (Int.tmod_nonneg b ha)]; exact Int.tmod_lt_of_pos a hb
theorem u64_nonneg (a : Int) : 0 ≤ IntKind.u64.wrap a := by
  unfold IntKind.wrap
  have e1 : IntKind.u64.signed = false := rfl
  have e2 : IntKind.u64.bits = 64 := rfl
  rw [e1, e2]
  simp only [Bool.false_and, Bool.false_eq_true, if_false]
  omega
def strsAV (ss : List ByteArray) : List AV := ss.map fun s => .v (.string s)
def xFill (f : Nat) (j : Nat) (u : Nat) : List ByteArray := if u = f then List.replicate j ⟨#[120]⟩ else []

theorem busAll_own (ss : List ByteArray) (hss : 0 ≤ ss.length ∧ ss.length ≤ 9223372036854775807) (n0 f0 l0 : Int) (F : List Fr) (hF : F = [botFr [.v (.int .i64 n0), .v (.int .i64 f0), .own 1 (strsAV ss), .v (.int .i64 l0)]]) :
    ACalls Try.prog 5 [.v (.int .i64 n0), .v (.int .i64 f0), .up (.sl ⟨.sl 2, [], 0⟩ 1 0 ss.length), .v (.int .i64 l0)] F (fun r F' => r = .v (.bool true)) := by
  have hF0 : nodeAt F 0 (.sl 2) [] = some (.own 1 (strsAV ss)) := by rw [hF]; rfl
  refine ok5.N hmix rfl ?_
  simp only [cc5, AI0, AI1, AI2, AI3, AI4, AI5, AI6, AI7, AI8, AI9, reduceIte, reduceCtorEq, Nat.reduceAdd, Nat.reduceEqDiff, Nat.reduceBEq, Nat.reduceLT, Nat.reduceLeDiff, Nat.reduceMul, Nat.reduceSub, Int.reduceLE, Int.reduceLT, Int.reduceEq, Int.reduceBEq, Int.reduceBNe, Int.reduceToNat, Int.reduceNeg]
  refine (works_c _).mono ?_
  rintro _ _ - ⟨rfl, rfl⟩
  simp only [AI0, AI1, AI2, AI3, AI4, AI5, AI6, AI7, AI8, AI9, reduceIte, reduceCtorEq, Nat.reduceAdd, Nat.reduceEqDiff, Nat.reduceBEq, Nat.reduceLT, Nat.reduceLeDiff, Nat.reduceMul, Nat.reduceSub, Int.reduceLE, Int.reduceLT, Int.reduceEq, Int.reduceBEq, Int.reduceBNe, Int.reduceToNat, Int.reduceNeg]
  refine W_of_N [8] hmix ?_
  obtain ⟨c, hc, hc8⟩ := mod_nat (IntKind.u64.wrap n0) 8 (by omega) (u64_nonneg _)
  obtain ⟨f, hf, hfn⟩ := mod_nat (IntKind.u64.wrap f0) ((c + 1 : Nat) : Int) (by omega) (u64_nonneg _)
  obtain ⟨l, hl, hln⟩ := mod_nat (IntKind.u64.wrap l0) ((c + 1 : Nat) : Int) (by omega) (u64_nonneg _)
  have k1 : IntKind.i64.wrap (c : Int) = c := wrap_i64 (by omega) (by omega)
  have k2 : IntKind.i64.wrap (1 + (c : Int)) = ((c + 1 : Nat) : Int) := by rw [wrap_i64 (by omega) (by omega)]; omega
  have k3 : IntKind.u64.wrap ((c + 1 : Nat) : Int) = ((c + 1 : Nat) : Int) := wrap_u64 (by omega) (by omega)
  have k4 : (((c + 1 : Nat) : Int) = 0) = False := by simp; omega
  have k5 : IntKind.i64.wrap (f : Int) = f := wrap_i64 (by omega) (by omega)
  have k6 : IntKind.i64.wrap (l : Int) = l := wrap_i64 (by omega) (by omega)
  simp only [AI0, AI1, AI2, AI3, AI4, AI5, AI6, AI7, AI8, AI9, reduceIte, reduceCtorEq, Nat.reduceAdd, Nat.reduceEqDiff, Nat.reduceBEq, Nat.reduceLT, Nat.reduceLeDiff, Nat.reduceMul, Nat.reduceSub, Int.reduceLE, Int.reduceLT, Int.reduceEq, Int.reduceBEq, Int.reduceBNe, Int.reduceToNat, Int.reduceNeg, hc, hf, hl, k1, k2, k3, k4, k5, k6]
  clear hc hf hl k1 k2 k3 k4 k5 k6
  obtain ⟨n, hn⟩ : ∃ n, n = c + 1 := ⟨_, rfl⟩
  rw [← hn] at hfn hln ⊢
  have hn1 : (1 : Int) ≤ n := by omega
  have hn8 : (n : Int) ≤ 8 := by omega
  have hfn' : f < n := by omega
  have hln' : l < n := by omega
  clear hc8 hn c
  refine (new_c _ n).mono ?_
  rintro _ _ - ⟨rfl, rfl⟩
  simp only [AI0, AI1, AI2, AI3, AI4, AI5, AI6, AI7, AI8, AI9, reduceIte, reduceCtorEq, Nat.reduceAdd, Nat.reduceEqDiff, Nat.reduceBEq, Nat.reduceLT, Nat.reduceLeDiff, Nat.reduceMul, Nat.reduceSub, Int.reduceLE, Int.reduceLT, Int.reduceEq, Int.reduceBEq, Int.reduceBNe, Int.reduceToNat, Int.reduceNeg, hn1, hn8]
  refine W_of_N [8] hmix ?_
  simp only [AI0, AI1, AI2, AI3, AI4, AI5, AI6, AI7, AI8, AI9, reduceIte, reduceCtorEq, Nat.reduceAdd, Nat.reduceEqDiff, Nat.reduceBEq, Nat.reduceLT, Nat.reduceLeDiff, Nat.reduceMul, Nat.reduceSub, Int.reduceLE, Int.reduceLT, Int.reduceEq, Int.reduceBEq, Int.reduceBNe, Int.reduceToNat, Int.reduceNeg, hn1, hn8, busAV]
  -- all notes, to all
  refine W_loop (fun a : Nat × BusM => (⟨[(0, .v (.int .i64 n)), (1, .v (.int .i64 f)), (2, .up (.sl ⟨.sl 2, [], 0⟩ 1 0 ss.length)), (3, .v (.int .i64 l)), (9, .obj (busAV a.2)), (11, .v (.int .i64 a.1))], [], true⟩, F)) (fun a => a.1 ≤ ss.length ∧ a.1 ≤ 40 ∧ OneS a.2 n f (fun _ => ss.take a.1)) (fun a => 40 - a.1) ?_ ?_
  · exact Mid_of (0, newM n n) ⟨Nat.zero_le _, Nat.zero_le _, OneS.new (by omega) hfn'⟩ rfl rfl (by simp only [AI0, AI1, AI2, AI3, AI4, AI5, AI6, AI7, AI8, AI9, reduceIte, reduceCtorEq, Nat.reduceAdd, Nat.reduceEqDiff, Nat.reduceBEq, Nat.reduceLT, Nat.reduceLeDiff, Nat.reduceMul, Nat.reduceSub, Int.reduceLE, Int.reduceLT, Int.reduceEq, Int.reduceBEq, Int.reduceBNe, Int.reduceToNat, Int.reduceNeg, busAV]) trivial
  rintro ⟨i, m⟩ ⟨hi1, hi2, hm⟩
  simp only at hi1 hi2 hm
  refine W_of_N [8] hmix ?_
  by_cases hlt : i < ss.length
  · have hlt' : (i : Int) < ss.length := by omega
    by_cases h40 : i < 40
    · have h40' : (i : Int) < 40 := by omega
      have hs : ss[i]? = some ss[i] := List.getElem?_eq_getElem hlt
      have r0 : (0 : Int) ≤ i := by omega
      by_cases hsz : 8192 < ss[i].size
      · have hsz' : (8192 : Int) < ss[i].size := by omega
        simp only [AI0, AI1, AI2, AI3, AI4, AI5, AI6, AI7, AI8, AI9, reduceIte, reduceCtorEq, Nat.reduceAdd, Nat.reduceEqDiff, Nat.reduceBEq, Nat.reduceLT, Nat.reduceLeDiff, Nat.reduceMul, Nat.reduceSub, Int.reduceLE, Int.reduceLT, Int.reduceEq, Int.reduceBEq, Int.reduceBNe, Int.reduceToNat, Int.reduceNeg, hlt', h40', hF0, strsAV, hs, r0, hsz']
      have hsz' : ¬ ((8192 : Int) < ss[i].size) := by omega
      simp only [AI0, AI1, AI2, AI3, AI4, AI5, AI6, AI7, AI8, AI9, reduceIte, reduceCtorEq, Nat.reduceAdd, Nat.reduceEqDiff, Nat.reduceBEq, Nat.reduceLT, Nat.reduceLeDiff, Nat.reduceMul, Nat.reduceSub, Int.reduceLE, Int.reduceLT, Int.reduceEq, Int.reduceBEq, Int.reduceBNe, Int.reduceToNat, Int.reduceNeg, hlt', h40', hF0, strsAV, hs, r0, hsz']
      have hlen : ∀ t, t < n → ((fun _ => ss.take i) t : List ByteArray).length = i := fun t _ => by simp; omega
      obtain ⟨q1, q2⟩ := hm.all i hlen (by omega) (s := ss[i]) (by omega)
      have q3 : OneS (allS m f ss[i]).2 n f (fun _ => ss.take (i + 1)) := q2.congr fun t _ => by rw [List.take_add_one, hs]; rfl
      refine (all_c _ 0 (.sl 9) [(0, 0)] m hm.ok ?_ rfl ?_ f ss[i]).mono ?_
      · simp only [AI0, AI1, AI2, AI3, AI4, AI5, AI6, AI7, AI8, AI9, reduceIte, reduceCtorEq, Nat.reduceAdd, Nat.reduceEqDiff, Nat.reduceBEq, Nat.reduceLT, Nat.reduceLeDiff, Nat.reduceMul, Nat.reduceSub, Int.reduceLE, Int.reduceLT, Int.reduceEq, Int.reduceBEq, Int.reduceBNe, Int.reduceToNat, Int.reduceNeg, busAV]
      · simp only [AI0, AI1, AI2, AI3, AI4, AI5, AI6, AI7, AI8, AI9, reduceIte, reduceCtorEq, Nat.reduceAdd, Nat.reduceEqDiff, Nat.reduceBEq, Nat.reduceLT, Nat.reduceLeDiff, Nat.reduceMul, Nat.reduceSub, Int.reduceLE, Int.reduceLT, Int.reduceEq, Int.reduceBEq, Int.reduceBNe, Int.reduceToNat, Int.reduceNeg]
      rintro _ _ - ⟨rfl, rfl⟩
      rw [q1]
      simp only [AI0, AI1, AI2, AI3, AI4, AI5, AI6, AI7, AI8, AI9, reduceIte, reduceCtorEq, Nat.reduceAdd, Nat.reduceEqDiff, Nat.reduceBEq, Nat.reduceLT, Nat.reduceLeDiff, Nat.reduceMul, Nat.reduceSub, Int.reduceLE, Int.reduceLT, Int.reduceEq, Int.reduceBEq, Int.reduceBNe, Int.reduceToNat, Int.reduceNeg]
      refine W_of_N [8] hmix ?_
      simp only [AI0, AI1, AI2, AI3, AI4, AI5, AI6, AI7, AI8, AI9, reduceIte, reduceCtorEq, Nat.reduceAdd, Nat.reduceEqDiff, Nat.reduceBEq, Nat.reduceLT, Nat.reduceLeDiff, Nat.reduceMul, Nat.reduceSub, Int.reduceLE, Int.reduceLT, Int.reduceEq, Int.reduceBEq, Int.reduceBNe, Int.reduceToNat, Int.reduceNeg]
      have hlen2 : ∀ t, t < n → ((fun _ => ss.take (i + 1)) t : List ByteArray).length = i + 1 := fun t _ => by simp; omega
      refine (total_c _ 0 (.sl 9) [(0, 0)] _ q3.ok ?_ rfl).mono ?_
      · simp only [AI0, AI1, AI2, AI3, AI4, AI5, AI6, AI7, AI8, AI9, reduceIte, reduceCtorEq, Nat.reduceAdd, Nat.reduceEqDiff, Nat.reduceBEq, Nat.reduceLT, Nat.reduceLeDiff, Nat.reduceMul, Nat.reduceSub, Int.reduceLE, Int.reduceLT, Int.reduceEq, Int.reduceBEq, Int.reduceBNe, Int.reduceToNat, Int.reduceNeg]
      rintro _ _ - ⟨rfl, rfl⟩
      have q4 : ((totalS (allS m f ss[i]).2 : Nat) : Int) = (n : Int) * ((i : Int) + 1) := by rw [q3.total, sumL_same n hlen2]; simp
      have q5 : freeS (allS m f ss[i]).2 f = 512 - (i : Int) - 1 := by rw [q3.free (i + 1) (fun t ht => by rw [hlen2 t ht]; omega) hfn' (hlen2 f hfn')]; simp; omega
      have w1 : IntKind.i64.wrap ((i : Int) + 1) = (i : Int) + 1 := wrap_i64 (by omega) (by omega)
      have w0 : 0 ≤ (n : Int) * ((i : Int) + 1) ∧ (n : Int) * ((i : Int) + 1) ≤ 328 := by
        constructor
        · exact Int.mul_nonneg (by omega) (by omega)
        · have := Int.mul_le_mul hn8 (show (i : Int) + 1 ≤ 41 by omega) (by omega) (by omega)
          omega
      have w2 : IntKind.i64.wrap ((n : Int) * ((i : Int) + 1)) = (n : Int) * ((i : Int) + 1) := wrap_i64 (by omega) (by omega)
      have w3 : IntKind.i64.wrap (512 - (i : Int)) = 512 - (i : Int) := wrap_i64 (by omega) (by omega)
      have w4 : IntKind.i64.wrap (512 - (i : Int) - 1) = 512 - (i : Int) - 1 := wrap_i64 (by omega) (by omega)
      simp only [AI0, AI1, AI2, AI3, AI4, AI5, AI6, AI7, AI8, AI9, reduceIte, reduceCtorEq, Nat.reduceAdd, Nat.reduceEqDiff, Nat.reduceBEq, Nat.reduceLT, Nat.reduceLeDiff, Nat.reduceMul, Nat.reduceSub, Int.reduceLE, Int.reduceLT, Int.reduceEq, Int.reduceBEq, Int.reduceBNe, Int.reduceToNat, Int.reduceNeg, q4]
      refine W_of_N [8] hmix ?_
      simp only [AI0, AI1, AI2, AI3, AI4, AI5, AI6, AI7, AI8, AI9, reduceIte, reduceCtorEq, Nat.reduceAdd, Nat.reduceEqDiff, Nat.reduceBEq, Nat.reduceLT, Nat.reduceLeDiff, Nat.reduceMul, Nat.reduceSub, Int.reduceLE, Int.reduceLT, Int.reduceEq, Int.reduceBEq, Int.reduceBNe, Int.reduceToNat, Int.reduceNeg, w1, w2]
      refine (free_c _ 0 (.sl 9) [(0, 0)] _ q3.ok ?_ rfl f).mono ?_
      · simp only [AI0, AI1, AI2, AI3, AI4, AI5, AI6, AI7, AI8, AI9, reduceIte, reduceCtorEq, Nat.reduceAdd, Nat.reduceEqDiff, Nat.reduceBEq, Nat.reduceLT, Nat.reduceLeDiff, Nat.reduceMul, Nat.reduceSub, Int.reduceLE, Int.reduceLT, Int.reduceEq, Int.reduceBEq, Int.reduceBNe, Int.reduceToNat, Int.reduceNeg]
      rintro _ _ - ⟨rfl, rfl⟩
      simp only [AI0, AI1, AI2, AI3, AI4, AI5, AI6, AI7, AI8, AI9, reduceIte, reduceCtorEq, Nat.reduceAdd, Nat.reduceEqDiff, Nat.reduceBEq, Nat.reduceLT, Nat.reduceLeDiff, Nat.reduceMul, Nat.reduceSub, Int.reduceLE, Int.reduceLT, Int.reduceEq, Int.reduceBEq, Int.reduceBNe, Int.reduceToNat, Int.reduceNeg, q5]
      refine W_of_N [8] hmix ?_
      simp only [AI0, AI1, AI2, AI3, AI4, AI5, AI6, AI7, AI8, AI9, reduceIte, reduceCtorEq, Nat.reduceAdd, Nat.reduceEqDiff, Nat.reduceBEq, Nat.reduceLT, Nat.reduceLeDiff, Nat.reduceMul, Nat.reduceSub, Int.reduceLE, Int.reduceLT, Int.reduceEq, Int.reduceBEq, Int.reduceBNe, Int.reduceToNat, Int.reduceNeg, w1, w3, w4]
      exact Mid_of (i + 1, (allS m f ss[i]).2) ⟨⟨by omega, by omega, q3⟩, by simp only; omega⟩ rfl rfl (by simp only [AI0, AI1, AI2, AI3, AI4, AI5, AI6, AI7, AI8, AI9, reduceIte, reduceCtorEq, Nat.reduceAdd, Nat.reduceEqDiff, Nat.reduceBEq, Nat.reduceLT, Nat.reduceLeDiff, Nat.reduceMul, Nat.reduceSub, Int.reduceLE, Int.reduceLT, Int.reduceEq, Int.reduceBEq, Int.reduceBNe, Int.reduceToNat, Int.reduceNeg, busAV, Int.natCast_add, Int.natCast_one]) trivial
    · have h40' : ¬ ((i : Int) < 40) := by omega
      simp only [AI0, AI1, AI2, AI3, AI4, AI5, AI6, AI7, AI8, AI9, reduceIte, reduceCtorEq, Nat.reduceAdd, Nat.reduceEqDiff, Nat.reduceBEq, Nat.reduceLT, Nat.reduceLeDiff, Nat.reduceMul, Nat.reduceSub, Int.reduceLE, Int.reduceLT, Int.reduceEq, Int.reduceBEq, Int.reduceBNe, Int.reduceToNat, Int.reduceNeg, hlt', h40', hF0, strsAV]
      -- the rest: K notes are in each row
      refine W_loop (fun a : Nat × BusM => (⟨[(0, .v (.int .i64 n)), (1, .v (.int .i64 f)), (2, .up (.sl ⟨.sl 2, [], 0⟩ 1 0 ss.length)), (3, .v (.int .i64 l)), (9, .obj (busAV a.2))], [], true⟩, F)) (fun a => i + a.1 ≤ 512 ∧ OneS a.2 n f (fun u => ss.take i ++ xFill l a.1 u)) (fun a => 512 - a.1) ?_ ?_
      · exact Mid_of (0, m) ⟨by omega, hm.congr fun t _ => by simp [xFill]⟩ rfl rfl (by simp only [AI0, AI1, AI2, AI3, AI4, AI5, AI6, AI7, AI8, AI9, reduceIte, reduceCtorEq, Nat.reduceAdd, Nat.reduceEqDiff, Nat.reduceBEq, Nat.reduceLT, Nat.reduceLeDiff, Nat.reduceMul, Nat.reduceSub, Int.reduceLE, Int.reduceLT, Int.reduceEq, Int.reduceBEq, Int.reduceBNe, Int.reduceToNat, Int.reduceNeg, busAV]) trivial
      clear hm m
      rintro ⟨j, m⟩ ⟨hj1, hm⟩
      simp only at hj1 hm
      refine W_of_N [8] hmix ?_
      simp only [AI0, AI1, AI2, AI3, AI4, AI5, AI6, AI7, AI8, AI9, reduceIte, reduceCtorEq, Nat.reduceAdd, Nat.reduceEqDiff, Nat.reduceBEq, Nat.reduceLT, Nat.reduceLeDiff, Nat.reduceMul, Nat.reduceSub, Int.reduceLE, Int.reduceLT, Int.reduceEq, Int.reduceBEq, Int.reduceBNe, Int.reduceToNat, Int.reduceNeg, busAV]
      have hll : (ss.take i ++ xFill l j l).length = i + j := by simp [xFill]; omega
      refine (send_c _ 0 (.sl 9) [(0, 0)] m hm.ok.wf ?_ rfl ?_ f l ⟨#[120]⟩).mono ?_
      · simp only [AI0, AI1, AI2, AI3, AI4, AI5, AI6, AI7, AI8, AI9, reduceIte, reduceCtorEq, Nat.reduceAdd, Nat.reduceEqDiff, Nat.reduceBEq, Nat.reduceLT, Nat.reduceLeDiff, Nat.reduceMul, Nat.reduceSub, Int.reduceLE, Int.reduceLT, Int.reduceEq, Int.reduceBEq, Int.reduceBNe, Int.reduceToNat, Int.reduceNeg, busAV]
      · simp only [AI0, AI1, AI2, AI3, AI4, AI5, AI6, AI7, AI8, AI9, reduceIte, reduceCtorEq, Nat.reduceAdd, Nat.reduceEqDiff, Nat.reduceBEq, Nat.reduceLT, Nat.reduceLeDiff, Nat.reduceMul, Nat.reduceSub, Int.reduceLE, Int.reduceLT, Int.reduceEq, Int.reduceBEq, Int.reduceBNe, Int.reduceToNat, Int.reduceNeg]
      rintro _ _ - ⟨rfl, rfl⟩
      by_cases hfull : i + j < 512
      · obtain ⟨q1, q2⟩ := hm.send (t := l) hln' (by rw [hll]; exact hfull) (s := ⟨#[120]⟩) (by decide)
        have q3 : OneS (sendS m f l ⟨#[120]⟩).2 n f (fun u => ss.take i ++ xFill l (j + 1) u) := q2.congr fun u hu => by
          by_cases e : u = l
          · subst e; simp [xFill, List.replicate_succ']
          · simp [xFill, e]
        rw [q1]
        simp only [AI0, AI1, AI2, AI3, AI4, AI5, AI6, AI7, AI8, AI9, reduceIte, reduceCtorEq, Nat.reduceAdd, Nat.reduceEqDiff, Nat.reduceBEq, Nat.reduceLT, Nat.reduceLeDiff, Nat.reduceMul, Nat.reduceSub, Int.reduceLE, Int.reduceLT, Int.reduceEq, Int.reduceBEq, Int.reduceBNe, Int.reduceToNat, Int.reduceNeg]
        refine W_of_N [8] hmix ?_
        simp only [AI0, AI1, AI2, AI3, AI4, AI5, AI6, AI7, AI8, AI9, reduceIte, reduceCtorEq, Nat.reduceAdd, Nat.reduceEqDiff, Nat.reduceBEq, Nat.reduceLT, Nat.reduceLeDiff, Nat.reduceMul, Nat.reduceSub, Int.reduceLE, Int.reduceLT, Int.reduceEq, Int.reduceBEq, Int.reduceBNe, Int.reduceToNat, Int.reduceNeg]
        refine (total_c _ 0 (.sl 9) [(0, 0)] _ q3.ok ?_ rfl).mono ?_
        · simp only [AI0, AI1, AI2, AI3, AI4, AI5, AI6, AI7, AI8, AI9, reduceIte, reduceCtorEq, Nat.reduceAdd, Nat.reduceEqDiff, Nat.reduceBEq, Nat.reduceLT, Nat.reduceLeDiff, Nat.reduceMul, Nat.reduceSub, Int.reduceLE, Int.reduceLT, Int.reduceEq, Int.reduceBEq, Int.reduceBNe, Int.reduceToNat, Int.reduceNeg]
        rintro _ _ - ⟨rfl, rfl⟩
        have q4 : ((totalS (sendS m f l ⟨#[120]⟩).2 : Nat) : Int) < 5000 := by
          have h1 := sumL_le (c := 512) n (fun t ht => q3.len t ht)
          rw [q3.total]; omega
        simp only [AI0, AI1, AI2, AI3, AI4, AI5, AI6, AI7, AI8, AI9, reduceIte, reduceCtorEq, Nat.reduceAdd, Nat.reduceEqDiff, Nat.reduceBEq, Nat.reduceLT, Nat.reduceLeDiff, Nat.reduceMul, Nat.reduceSub, Int.reduceLE, Int.reduceLT, Int.reduceEq, Int.reduceBEq, Int.reduceBNe, Int.reduceToNat, Int.reduceNeg, q4]
        refine W_of_N [8] hmix ?_
        simp only [AI0, AI1, AI2, AI3, AI4, AI5, AI6, AI7, AI8, AI9, reduceIte, reduceCtorEq, Nat.reduceAdd, Nat.reduceEqDiff, Nat.reduceBEq, Nat.reduceLT, Nat.reduceLeDiff, Nat.reduceMul, Nat.reduceSub, Int.reduceLE, Int.reduceLT, Int.reduceEq, Int.reduceBEq, Int.reduceBNe, Int.reduceToNat, Int.reduceNeg, q4]
        exact Mid_of (j + 1, (sendS m f l ⟨#[120]⟩).2) ⟨⟨by omega, q3⟩, by simp only; omega⟩ rfl rfl (by simp only [AI0, AI1, AI2, AI3, AI4, AI5, AI6, AI7, AI8, AI9, reduceIte, reduceCtorEq, Nat.reduceAdd, Nat.reduceEqDiff, Nat.reduceBEq, Nat.reduceLT, Nat.reduceLeDiff, Nat.reduceMul, Nat.reduceSub, Int.reduceLE, Int.reduceLT, Int.reduceEq, Int.reduceBEq, Int.reduceBNe, Int.reduceToNat, Int.reduceNeg, busAV]) trivial
      have hJ : i + j = 512 := by omega
      rw [hm.full (t := l) hln' (by rw [hll]; exact hJ) (s := ⟨#[120]⟩) (by decide)]
      simp only [AI0, AI1, AI2, AI3, AI4, AI5, AI6, AI7, AI8, AI9, reduceIte, reduceCtorEq, Nat.reduceAdd, Nat.reduceEqDiff, Nat.reduceBEq, Nat.reduceLT, Nat.reduceLeDiff, Nat.reduceMul, Nat.reduceSub, Int.reduceLE, Int.reduceLT, Int.reduceEq, Int.reduceBEq, Int.reduceBNe, Int.reduceToNat, Int.reduceNeg]
      refine W_of_N [8] hmix ?_
      simp only [AI0, AI1, AI2, AI3, AI4, AI5, AI6, AI7, AI8, AI9, reduceIte, reduceCtorEq, Nat.reduceAdd, Nat.reduceEqDiff, Nat.reduceBEq, Nat.reduceLT, Nat.reduceLeDiff, Nat.reduceMul, Nat.reduceSub, Int.reduceLE, Int.reduceLT, Int.reduceEq, Int.reduceBEq, Int.reduceBNe, Int.reduceToNat, Int.reduceNeg]
      refine (total_c _ 0 (.sl 9) [(0, 0)] _ hm.ok ?_ rfl).mono ?_
      · simp only [AI0, AI1, AI2, AI3, AI4, AI5, AI6, AI7, AI8, AI9, reduceIte, reduceCtorEq, Nat.reduceAdd, Nat.reduceEqDiff, Nat.reduceBEq, Nat.reduceLT, Nat.reduceLeDiff, Nat.reduceMul, Nat.reduceSub, Int.reduceLE, Int.reduceLT, Int.reduceEq, Int.reduceBEq, Int.reduceBNe, Int.reduceToNat, Int.reduceNeg]
      rintro _ _ - ⟨rfl, rfl⟩
      simp only [AI0, AI1, AI2, AI3, AI4, AI5, AI6, AI7, AI8, AI9, reduceIte, reduceCtorEq, Nat.reduceAdd, Nat.reduceEqDiff, Nat.reduceBEq, Nat.reduceLT, Nat.reduceLeDiff, Nat.reduceMul, Nat.reduceSub, Int.reduceLE, Int.reduceLT, Int.reduceEq, Int.reduceBEq, Int.reduceBNe, Int.reduceToNat, Int.reduceNeg]
      refine W_of_N [8] hmix ?_
      simp only [AI0, AI1, AI2, AI3, AI4, AI5, AI6, AI7, AI8, AI9, reduceIte, reduceCtorEq, Nat.reduceAdd, Nat.reduceEqDiff, Nat.reduceBEq, Nat.reduceLT, Nat.reduceLeDiff, Nat.reduceMul, Nat.reduceSub, Int.reduceLE, Int.reduceLT, Int.reduceEq, Int.reduceBEq, Int.reduceBNe, Int.reduceToNat, Int.reduceNeg]
      have hfree : freeS m f = 0 := by
        rw [hm.free 512 (fun t ht => hm.len t ht) hln' (by rw [hll]; exact hJ)]; rfl
      refine (all_c _ 0 (.sl 9) [(0, 0)] m hm.ok ?_ rfl ?_ f ⟨#[121]⟩).mono ?_
      · simp only [AI0, AI1, AI2, AI3, AI4, AI5, AI6, AI7, AI8, AI9, reduceIte, reduceCtorEq, Nat.reduceAdd, Nat.reduceEqDiff, Nat.reduceBEq, Nat.reduceLT, Nat.reduceLeDiff, Nat.reduceMul, Nat.reduceSub, Int.reduceLE, Int.reduceLT, Int.reduceEq, Int.reduceBEq, Int.reduceBNe, Int.reduceToNat, Int.reduceNeg]
      · simp only [AI0, AI1, AI2, AI3, AI4, AI5, AI6, AI7, AI8, AI9, reduceIte, reduceCtorEq, Nat.reduceAdd, Nat.reduceEqDiff, Nat.reduceBEq, Nat.reduceLT, Nat.reduceLeDiff, Nat.reduceMul, Nat.reduceSub, Int.reduceLE, Int.reduceLT, Int.reduceEq, Int.reduceBEq, Int.reduceBNe, Int.reduceToNat, Int.reduceNeg]
      rintro _ _ - ⟨rfl, rfl⟩
      rw [hm.allFull hfree (s := ⟨#[121]⟩) (by decide)]
      simp only [AI0, AI1, AI2, AI3, AI4, AI5, AI6, AI7, AI8, AI9, reduceIte, reduceCtorEq, Nat.reduceAdd, Nat.reduceEqDiff, Nat.reduceBEq, Nat.reduceLT, Nat.reduceLeDiff, Nat.reduceMul, Nat.reduceSub, Int.reduceLE, Int.reduceLT, Int.reduceEq, Int.reduceBEq, Int.reduceBNe, Int.reduceToNat, Int.reduceNeg]
      refine W_of_N [8] hmix ?_
      simp only [AI0, AI1, AI2, AI3, AI4, AI5, AI6, AI7, AI8, AI9, reduceIte, reduceCtorEq, Nat.reduceAdd, Nat.reduceEqDiff, Nat.reduceBEq, Nat.reduceLT, Nat.reduceLeDiff, Nat.reduceMul, Nat.reduceSub, Int.reduceLE, Int.reduceLT, Int.reduceEq, Int.reduceBEq, Int.reduceBNe, Int.reduceToNat, Int.reduceNeg]
      refine (total_c _ 0 (.sl 9) [(0, 0)] _ hm.ok ?_ rfl).mono ?_
      · simp only [AI0, AI1, AI2, AI3, AI4, AI5, AI6, AI7, AI8, AI9, reduceIte, reduceCtorEq, Nat.reduceAdd, Nat.reduceEqDiff, Nat.reduceBEq, Nat.reduceLT, Nat.reduceLeDiff, Nat.reduceMul, Nat.reduceSub, Int.reduceLE, Int.reduceLT, Int.reduceEq, Int.reduceBEq, Int.reduceBNe, Int.reduceToNat, Int.reduceNeg]
      rintro _ _ - ⟨rfl, rfl⟩
      simp only [AI0, AI1, AI2, AI3, AI4, AI5, AI6, AI7, AI8, AI9, reduceIte, reduceCtorEq, Nat.reduceAdd, Nat.reduceEqDiff, Nat.reduceBEq, Nat.reduceLT, Nat.reduceLeDiff, Nat.reduceMul, Nat.reduceSub, Int.reduceLE, Int.reduceLT, Int.reduceEq, Int.reduceBEq, Int.reduceBNe, Int.reduceToNat, Int.reduceNeg]
      refine W_of_N [8] hmix ?_
      simp only [AI0, AI1, AI2, AI3, AI4, AI5, AI6, AI7, AI8, AI9, reduceIte, reduceCtorEq, Nat.reduceAdd, Nat.reduceEqDiff, Nat.reduceBEq, Nat.reduceLT, Nat.reduceLeDiff, Nat.reduceMul, Nat.reduceSub, Int.reduceLE, Int.reduceLT, Int.reduceEq, Int.reduceBEq, Int.reduceBNe, Int.reduceToNat, Int.reduceNeg]
      refine (free_c _ 0 (.sl 9) [(0, 0)] _ hm.ok ?_ rfl f).mono ?_
      · simp only [AI0, AI1, AI2, AI3, AI4, AI5, AI6, AI7, AI8, AI9, reduceIte, reduceCtorEq, Nat.reduceAdd, Nat.reduceEqDiff, Nat.reduceBEq, Nat.reduceLT, Nat.reduceLeDiff, Nat.reduceMul, Nat.reduceSub, Int.reduceLE, Int.reduceLT, Int.reduceEq, Int.reduceBEq, Int.reduceBNe, Int.reduceToNat, Int.reduceNeg]
      rintro _ _ - ⟨rfl, rfl⟩
      simp only [AI0, AI1, AI2, AI3, AI4, AI5, AI6, AI7, AI8, AI9, reduceIte, reduceCtorEq, Nat.reduceAdd, Nat.reduceEqDiff, Nat.reduceBEq, Nat.reduceLT, Nat.reduceLeDiff, Nat.reduceMul, Nat.reduceSub, Int.reduceLE, Int.reduceLT, Int.reduceEq, Int.reduceBEq, Int.reduceBNe, Int.reduceToNat, Int.reduceNeg, hfree]
      refine W_of_N [8] hmix ?_
      simp only [AI0, AI1, AI2, AI3, AI4, AI5, AI6, AI7, AI8, AI9, reduceIte, reduceCtorEq, Nat.reduceAdd, Nat.reduceEqDiff, Nat.reduceBEq, Nat.reduceLT, Nat.reduceLeDiff, Nat.reduceMul, Nat.reduceSub, Int.reduceLE, Int.reduceLT, Int.reduceEq, Int.reduceBEq, Int.reduceBNe, Int.reduceToNat, Int.reduceNeg]
      -- each note is taken
      refine W_loop (fun a : Nat × BusM => (⟨[(0, .v (.int .i64 n)), (1, .v (.int .i64 f)), (2, .up (.sl ⟨.sl 2, [], 0⟩ 1 0 ss.length)), (9, .obj (busAV a.2)), (13, .v (.int .i64 a.1))], [], true⟩, F)) (fun a => a.1 ≤ n ∧ OneS a.2 n f (fun u => if u < a.1 then xFill l j u else ss.take i ++ xFill l j u)) (fun a => n - a.1) ?_ ?_
      · exact Mid_of (0, m) ⟨Nat.zero_le _, hm.congr fun t _ => by simp⟩ rfl rfl (by simp only [AI0, AI1, AI2, AI3, AI4, AI5, AI6, AI7, AI8, AI9, reduceIte, reduceCtorEq, Nat.reduceAdd, Nat.reduceEqDiff, Nat.reduceBEq, Nat.reduceLT, Nat.reduceLeDiff, Nat.reduceMul, Nat.reduceSub, Int.reduceLE, Int.reduceLT, Int.reduceEq, Int.reduceBEq, Int.reduceBNe, Int.reduceToNat, Int.reduceNeg, busAV]) trivial
      clear hm hfree m
      rintro ⟨t, m⟩ ⟨ht1, hm⟩
      simp only at ht1 hm
      refine W_of_N [8] hmix ?_
      by_cases htn : t < n
      · have htn' : (t : Int) < n := by omega
        simp only [AI0, AI1, AI2, AI3, AI4, AI5, AI6, AI7, AI8, AI9, reduceIte, reduceCtorEq, Nat.reduceAdd, Nat.reduceEqDiff, Nat.reduceBEq, Nat.reduceLT, Nat.reduceLeDiff, Nat.reduceMul, Nat.reduceSub, Int.reduceLE, Int.reduceLT, Int.reduceEq, Int.reduceBEq, Int.reduceBNe, Int.reduceToNat, Int.reduceNeg, htn']
        refine W_loop (fun a : Nat × BusM => (⟨[(0, .v (.int .i64 n)), (1, .v (.int .i64 f)), (2, .up (.sl ⟨.sl 2, [], 0⟩ 1 0 ss.length)), (9, .obj (busAV a.2)), (13, .v (.int .i64 t)), (14, .v (.int .i64 a.1))], [], true⟩, F)) (fun a => a.1 ≤ i ∧ OneS a.2 n f (fun u => if u = t then (ss.take i).drop a.1 ++ xFill l j u else if u < t then xFill l j u else ss.take i ++ xFill l j u)) (fun a => i - a.1) ?_ ?_
        · refine Mid_of (0, m) ⟨Nat.zero_le _, hm.congr fun u _ => ?_⟩ rfl rfl (by simp only [AI0, AI1, AI2, AI3, AI4, AI5, AI6, AI7, AI8, AI9, reduceIte, reduceCtorEq, Nat.reduceAdd, Nat.reduceEqDiff, Nat.reduceBEq, Nat.reduceLT, Nat.reduceLeDiff, Nat.reduceMul, Nat.reduceSub, Int.reduceLE, Int.reduceLT, Int.reduceEq, Int.reduceBEq, Int.reduceBNe, Int.reduceToNat, Int.reduceNeg, busAV]) trivial
          by_cases e : u = t
          · subst e; simp
          · simp [e]
        clear hm m
        rintro ⟨g, m⟩ ⟨hg1, hm⟩
        simp only at hg1 hm
        refine W_of_N [8] hmix ?_
        by_cases hgi : g < i
        · have hg2 : (g : Int) < ss.length := by omega
          have hg3 : (g : Int) < 40 := by omega
          have hgl : g < ss.length := by omega
          have r0 : (0 : Int) ≤ g := by omega
          have hs : ss[g]? = some ss[g] := List.getElem?_eq_getElem hgl
          have hd : (ss.take i).drop g = ss[g] :: (ss.take i).drop (g + 1) := by
            rw [List.drop_eq_getElem_cons (by simp; omega)]; simp
          obtain ⟨q1, q2⟩ := hm.take (t := t) htn (x := ss[g]) (l := (ss.take i).drop (g + 1) ++ xFill l j t) (by simp [hd])
          have q3 : OneS (takeS m f t) n f (fun u => if u = t then (ss.take i).drop (g + 1) ++ xFill l j u else if u < t then xFill l j u else ss.take i ++ xFill l j u) := q2.congr fun u _ => by
            by_cases e : u = t
            · subst e; simp
            · simp [e]
          simp only [AI0, AI1, AI2, AI3, AI4, AI5, AI6, AI7, AI8, AI9, reduceIte, reduceCtorEq, Nat.reduceAdd, Nat.reduceEqDiff, Nat.reduceBEq, Nat.reduceLT, Nat.reduceLeDiff, Nat.reduceMul, Nat.reduceSub, Int.reduceLE, Int.reduceLT, Int.reduceEq, Int.reduceBEq, Int.reduceBNe, Int.reduceToNat, Int.reduceNeg, hg2, hg3, hF0, strsAV, busAV]
          refine (take_bus_c _ 0 (.sl 9) [(0, 0)] m hm.ok.wf ?_ rfl ?_ f t).mono ?_
          · simp only [AI0, AI1, AI2, AI3, AI4, AI5, AI6, AI7, AI8, AI9, reduceIte, reduceCtorEq, Nat.reduceAdd, Nat.reduceEqDiff, Nat.reduceBEq, Nat.reduceLT, Nat.reduceLeDiff, Nat.reduceMul, Nat.reduceSub, Int.reduceLE, Int.reduceLT, Int.reduceEq, Int.reduceBEq, Int.reduceBNe, Int.reduceToNat, Int.reduceNeg, busAV]
          · simp only [AI0, AI1, AI2, AI3, AI4, AI5, AI6, AI7, AI8, AI9, reduceIte, reduceCtorEq, Nat.reduceAdd, Nat.reduceEqDiff, Nat.reduceBEq, Nat.reduceLT, Nat.reduceLeDiff, Nat.reduceMul, Nat.reduceSub, Int.reduceLE, Int.reduceLT, Int.reduceEq, Int.reduceBEq, Int.reduceBNe, Int.reduceToNat, Int.reduceNeg]
          rintro _ _ - ⟨rfl, rfl⟩
          rw [q1]
          simp only [AI0, AI1, AI2, AI3, AI4, AI5, AI6, AI7, AI8, AI9, reduceIte, reduceCtorEq, Nat.reduceAdd, Nat.reduceEqDiff, Nat.reduceBEq, Nat.reduceLT, Nat.reduceLeDiff, Nat.reduceMul, Nat.reduceSub, Int.reduceLE, Int.reduceLT, Int.reduceEq, Int.reduceBEq, Int.reduceBNe, Int.reduceToNat, Int.reduceNeg]
          refine W_of_N [8] hmix ?_
          simp only [AI0, AI1, AI2, AI3, AI4, AI5, AI6, AI7, AI8, AI9, reduceIte, reduceCtorEq, Nat.reduceAdd, Nat.reduceEqDiff, Nat.reduceBEq, Nat.reduceLT, Nat.reduceLeDiff, Nat.reduceMul, Nat.reduceSub, Int.reduceLE, Int.reduceLT, Int.reduceEq, Int.reduceBEq, Int.reduceBNe, Int.reduceToNat, Int.reduceNeg, hF0, strsAV, hs, r0, hg2, wrap_i64 (x := (g : Int) + 1) (by omega) (by omega)]
          exact Mid_of (g + 1, takeS m f t) ⟨⟨by omega, q3⟩, by simp only; omega⟩ rfl rfl (by simp only [AI0, AI1, AI2, AI3, AI4, AI5, AI6, AI7, AI8, AI9, reduceIte, reduceCtorEq, Nat.reduceAdd, Nat.reduceEqDiff, Nat.reduceBEq, Nat.reduceLT, Nat.reduceLeDiff, Nat.reduceMul, Nat.reduceSub, Int.reduceLE, Int.reduceLT, Int.reduceEq, Int.reduceBEq, Int.reduceBNe, Int.reduceToNat, Int.reduceNeg, busAV, Int.natCast_add, Int.natCast_one]) trivial
        · obtain rfl : g = i := by omega
          have hnext : OneS m n f (fun u => if u < t + 1 then xFill l j u else ss.take g ++ xFill l j u) := hm.congr fun u _ => by
            have e1 : (ss.take g).drop g = [] := List.drop_eq_nil_of_le (by simp; omega)
            by_cases e : u = t
            · subst e; simp [e1]
            · by_cases e2 : u < t
              · simp [e, e2, show u < t + 1 by omega]
              · simp [e, e2, show ¬ u < t + 1 by omega]
          simp only [AI0, AI1, AI2, AI3, AI4, AI5, AI6, AI7, AI8, AI9, reduceIte, reduceCtorEq, Nat.reduceAdd, Nat.reduceEqDiff, Nat.reduceBEq, Nat.reduceLT, Nat.reduceLeDiff, Nat.reduceMul, Nat.reduceSub, Int.reduceLE, Int.reduceLT, Int.reduceEq, Int.reduceBEq, Int.reduceBNe, Int.reduceToNat, Int.reduceNeg, hlt', h40', hF0, strsAV, wrap_i64 (x := (t : Int) + 1) (by omega) (by omega)]
          exact Mid_of (t + 1, m) ⟨⟨by omega, hnext⟩, by simp only; omega⟩ rfl rfl (by simp only [AI0, AI1, AI2, AI3, AI4, AI5, AI6, AI7, AI8, AI9, reduceIte, reduceCtorEq, Nat.reduceAdd, Nat.reduceEqDiff, Nat.reduceBEq, Nat.reduceLT, Nat.reduceLeDiff, Nat.reduceMul, Nat.reduceSub, Int.reduceLE, Int.reduceLT, Int.reduceEq, Int.reduceBEq, Int.reduceBNe, Int.reduceToNat, Int.reduceNeg, busAV, Int.natCast_add, Int.natCast_one]) trivial
      · have htn' : ¬ ((t : Int) < n) := by omega
        simp only [AI0, AI1, AI2, AI3, AI4, AI5, AI6, AI7, AI8, AI9, reduceIte, reduceCtorEq, Nat.reduceAdd, Nat.reduceEqDiff, Nat.reduceBEq, Nat.reduceLT, Nat.reduceLeDiff, Nat.reduceMul, Nat.reduceSub, Int.reduceLE, Int.reduceLT, Int.reduceEq, Int.reduceBEq, Int.reduceBNe, Int.reduceToNat, Int.reduceNeg, htn']
  · have hlt' : ¬ ((i : Int) < ss.length) := by omega
    simp only [AI0, AI1, AI2, AI3, AI4, AI5, AI6, AI7, AI8, AI9, reduceIte, reduceCtorEq, Nat.reduceAdd, Nat.reduceEqDiff, Nat.reduceBEq, Nat.reduceLT, Nat.reduceLeDiff, Nat.reduceMul, Nat.reduceSub, Int.reduceLE, Int.reduceLT, Int.reduceEq, Int.reduceBEq, Int.reduceBNe, Int.reduceToNat, Int.reduceNeg, hlt', hF0, strsAV]
    -- the rest: K notes are in each row
    refine W_loop (fun a : Nat × BusM => (⟨[(0, .v (.int .i64 n)), (1, .v (.int .i64 f)), (2, .up (.sl ⟨.sl 2, [], 0⟩ 1 0 ss.length)), (3, .v (.int .i64 l)), (9, .obj (busAV a.2))], [], true⟩, F)) (fun a => i + a.1 ≤ 512 ∧ OneS a.2 n f (fun u => ss.take i ++ xFill l a.1 u)) (fun a => 512 - a.1) ?_ ?_
    · exact Mid_of (0, m) ⟨by omega, hm.congr fun t _ => by simp [xFill]⟩ rfl rfl (by simp only [AI0, AI1, AI2, AI3, AI4, AI5, AI6, AI7, AI8, AI9, reduceIte, reduceCtorEq, Nat.reduceAdd, Nat.reduceEqDiff, Nat.reduceBEq, Nat.reduceLT, Nat.reduceLeDiff, Nat.reduceMul, Nat.reduceSub, Int.reduceLE, Int.reduceLT, Int.reduceEq, Int.reduceBEq, Int.reduceBNe, Int.reduceToNat, Int.reduceNeg, busAV]) trivial
    clear hm m
    rintro ⟨j, m⟩ ⟨hj1, hm⟩
    simp only at hj1 hm
    refine W_of_N [8] hmix ?_
    simp only [AI0, AI1, AI2, AI3, AI4, AI5, AI6, AI7, AI8, AI9, reduceIte, reduceCtorEq, Nat.reduceAdd, Nat.reduceEqDiff, Nat.reduceBEq, Nat.reduceLT, Nat.reduceLeDiff, Nat.reduceMul, Nat.reduceSub, Int.reduceLE, Int.reduceLT, Int.reduceEq, Int.reduceBEq, Int.reduceBNe, Int.reduceToNat, Int.reduceNeg, busAV]
    have hll : (ss.take i ++ xFill l j l).length = i + j := by simp [xFill]; omega
    refine (send_c _ 0 (.sl 9) [(0, 0)] m hm.ok.wf ?_ rfl ?_ f l ⟨#[120]⟩).mono ?_
    · simp only [AI0, AI1, AI2, AI3, AI4, AI5, AI6, AI7, AI8, AI9, reduceIte, reduceCtorEq, Nat.reduceAdd, Nat.reduceEqDiff, Nat.reduceBEq, Nat.reduceLT, Nat.reduceLeDiff, Nat.reduceMul, Nat.reduceSub, Int.reduceLE, Int.reduceLT, Int.reduceEq, Int.reduceBEq, Int.reduceBNe, Int.reduceToNat, Int.reduceNeg, busAV]
    · simp only [AI0, AI1, AI2, AI3, AI4, AI5, AI6, AI7, AI8, AI9, reduceIte, reduceCtorEq, Nat.reduceAdd, Nat.reduceEqDiff, Nat.reduceBEq, Nat.reduceLT, Nat.reduceLeDiff, Nat.reduceMul, Nat.reduceSub, Int.reduceLE, Int.reduceLT, Int.reduceEq, Int.reduceBEq, Int.reduceBNe, Int.reduceToNat, Int.reduceNeg]
    rintro _ _ - ⟨rfl, rfl⟩
    by_cases hfull : i + j < 512
    · obtain ⟨q1, q2⟩ := hm.send (t := l) hln' (by rw [hll]; exact hfull) (s := ⟨#[120]⟩) (by decide)
      have q3 : OneS (sendS m f l ⟨#[120]⟩).2 n f (fun u => ss.take i ++ xFill l (j + 1) u) := q2.congr fun u hu => by
        by_cases e : u = l
        · subst e; simp [xFill, List.replicate_succ']
        · simp [xFill, e]
      rw [q1]
      simp only [AI0, AI1, AI2, AI3, AI4, AI5, AI6, AI7, AI8, AI9, reduceIte, reduceCtorEq, Nat.reduceAdd, Nat.reduceEqDiff, Nat.reduceBEq, Nat.reduceLT, Nat.reduceLeDiff, Nat.reduceMul, Nat.reduceSub, Int.reduceLE, Int.reduceLT, Int.reduceEq, Int.reduceBEq, Int.reduceBNe, Int.reduceToNat, Int.reduceNeg]
      refine W_of_N [8] hmix ?_
      simp only [AI0, AI1, AI2, AI3, AI4, AI5, AI6, AI7, AI8, AI9, reduceIte, reduceCtorEq, Nat.reduceAdd, Nat.reduceEqDiff, Nat.reduceBEq, Nat.reduceLT, Nat.reduceLeDiff, Nat.reduceMul, Nat.reduceSub, Int.reduceLE, Int.reduceLT, Int.reduceEq, Int.reduceBEq, Int.reduceBNe, Int.reduceToNat, Int.reduceNeg]
      refine (total_c _ 0 (.sl 9) [(0, 0)] _ q3.ok ?_ rfl).mono ?_
      · simp only [AI0, AI1, AI2, AI3, AI4, AI5, AI6, AI7, AI8, AI9, reduceIte, reduceCtorEq, Nat.reduceAdd, Nat.reduceEqDiff, Nat.reduceBEq, Nat.reduceLT, Nat.reduceLeDiff, Nat.reduceMul, Nat.reduceSub, Int.reduceLE, Int.reduceLT, Int.reduceEq, Int.reduceBEq, Int.reduceBNe, Int.reduceToNat, Int.reduceNeg]
      rintro _ _ - ⟨rfl, rfl⟩
      have q4 : ((totalS (sendS m f l ⟨#[120]⟩).2 : Nat) : Int) < 5000 := by
        have h1 := sumL_le (c := 512) n (fun t ht => q3.len t ht)
        rw [q3.total]; omega
      simp only [AI0, AI1, AI2, AI3, AI4, AI5, AI6, AI7, AI8, AI9, reduceIte, reduceCtorEq, Nat.reduceAdd, Nat.reduceEqDiff, Nat.reduceBEq, Nat.reduceLT, Nat.reduceLeDiff, Nat.reduceMul, Nat.reduceSub, Int.reduceLE, Int.reduceLT, Int.reduceEq, Int.reduceBEq, Int.reduceBNe, Int.reduceToNat, Int.reduceNeg, q4]
      refine W_of_N [8] hmix ?_
      simp only [AI0, AI1, AI2, AI3, AI4, AI5, AI6, AI7, AI8, AI9, reduceIte, reduceCtorEq, Nat.reduceAdd, Nat.reduceEqDiff, Nat.reduceBEq, Nat.reduceLT, Nat.reduceLeDiff, Nat.reduceMul, Nat.reduceSub, Int.reduceLE, Int.reduceLT, Int.reduceEq, Int.reduceBEq, Int.reduceBNe, Int.reduceToNat, Int.reduceNeg, q4]
      exact Mid_of (j + 1, (sendS m f l ⟨#[120]⟩).2) ⟨⟨by omega, q3⟩, by simp only; omega⟩ rfl rfl (by simp only [AI0, AI1, AI2, AI3, AI4, AI5, AI6, AI7, AI8, AI9, reduceIte, reduceCtorEq, Nat.reduceAdd, Nat.reduceEqDiff, Nat.reduceBEq, Nat.reduceLT, Nat.reduceLeDiff, Nat.reduceMul, Nat.reduceSub, Int.reduceLE, Int.reduceLT, Int.reduceEq, Int.reduceBEq, Int.reduceBNe, Int.reduceToNat, Int.reduceNeg, busAV]) trivial
    have hJ : i + j = 512 := by omega
    rw [hm.full (t := l) hln' (by rw [hll]; exact hJ) (s := ⟨#[120]⟩) (by decide)]
    simp only [AI0, AI1, AI2, AI3, AI4, AI5, AI6, AI7, AI8, AI9, reduceIte, reduceCtorEq, Nat.reduceAdd, Nat.reduceEqDiff, Nat.reduceBEq, Nat.reduceLT, Nat.reduceLeDiff, Nat.reduceMul, Nat.reduceSub, Int.reduceLE, Int.reduceLT, Int.reduceEq, Int.reduceBEq, Int.reduceBNe, Int.reduceToNat, Int.reduceNeg]
    refine W_of_N [8] hmix ?_
    simp only [AI0, AI1, AI2, AI3, AI4, AI5, AI6, AI7, AI8, AI9, reduceIte, reduceCtorEq, Nat.reduceAdd, Nat.reduceEqDiff, Nat.reduceBEq, Nat.reduceLT, Nat.reduceLeDiff, Nat.reduceMul, Nat.reduceSub, Int.reduceLE, Int.reduceLT, Int.reduceEq, Int.reduceBEq, Int.reduceBNe, Int.reduceToNat, Int.reduceNeg]
    refine (total_c _ 0 (.sl 9) [(0, 0)] _ hm.ok ?_ rfl).mono ?_
    · simp only [AI0, AI1, AI2, AI3, AI4, AI5, AI6, AI7, AI8, AI9, reduceIte, reduceCtorEq, Nat.reduceAdd, Nat.reduceEqDiff, Nat.reduceBEq, Nat.reduceLT, Nat.reduceLeDiff, Nat.reduceMul, Nat.reduceSub, Int.reduceLE, Int.reduceLT, Int.reduceEq, Int.reduceBEq, Int.reduceBNe, Int.reduceToNat, Int.reduceNeg]
    rintro _ _ - ⟨rfl, rfl⟩
    simp only [AI0, AI1, AI2, AI3, AI4, AI5, AI6, AI7, AI8, AI9, reduceIte, reduceCtorEq, Nat.reduceAdd, Nat.reduceEqDiff, Nat.reduceBEq, Nat.reduceLT, Nat.reduceLeDiff, Nat.reduceMul, Nat.reduceSub, Int.reduceLE, Int.reduceLT, Int.reduceEq, Int.reduceBEq, Int.reduceBNe, Int.reduceToNat, Int.reduceNeg]
    refine W_of_N [8] hmix ?_
    simp only [AI0, AI1, AI2, AI3, AI4, AI5, AI6, AI7, AI8, AI9, reduceIte, reduceCtorEq, Nat.reduceAdd, Nat.reduceEqDiff, Nat.reduceBEq, Nat.reduceLT, Nat.reduceLeDiff, Nat.reduceMul, Nat.reduceSub, Int.reduceLE, Int.reduceLT, Int.reduceEq, Int.reduceBEq, Int.reduceBNe, Int.reduceToNat, Int.reduceNeg]
    have hfree : freeS m f = 0 := by
      rw [hm.free 512 (fun t ht => hm.len t ht) hln' (by rw [hll]; exact hJ)]; rfl
    refine (all_c _ 0 (.sl 9) [(0, 0)] m hm.ok ?_ rfl ?_ f ⟨#[121]⟩).mono ?_
    · simp only [AI0, AI1, AI2, AI3, AI4, AI5, AI6, AI7, AI8, AI9, reduceIte, reduceCtorEq, Nat.reduceAdd, Nat.reduceEqDiff, Nat.reduceBEq, Nat.reduceLT, Nat.reduceLeDiff, Nat.reduceMul, Nat.reduceSub, Int.reduceLE, Int.reduceLT, Int.reduceEq, Int.reduceBEq, Int.reduceBNe, Int.reduceToNat, Int.reduceNeg]
    · simp only [AI0, AI1, AI2, AI3, AI4, AI5, AI6, AI7, AI8, AI9, reduceIte, reduceCtorEq, Nat.reduceAdd, Nat.reduceEqDiff, Nat.reduceBEq, Nat.reduceLT, Nat.reduceLeDiff, Nat.reduceMul, Nat.reduceSub, Int.reduceLE, Int.reduceLT, Int.reduceEq, Int.reduceBEq, Int.reduceBNe, Int.reduceToNat, Int.reduceNeg]
    rintro _ _ - ⟨rfl, rfl⟩
    rw [hm.allFull hfree (s := ⟨#[121]⟩) (by decide)]
    simp only [AI0, AI1, AI2, AI3, AI4, AI5, AI6, AI7, AI8, AI9, reduceIte, reduceCtorEq, Nat.reduceAdd, Nat.reduceEqDiff, Nat.reduceBEq, Nat.reduceLT, Nat.reduceLeDiff, Nat.reduceMul, Nat.reduceSub, Int.reduceLE, Int.reduceLT, Int.reduceEq, Int.reduceBEq, Int.reduceBNe, Int.reduceToNat, Int.reduceNeg]
    refine W_of_N [8] hmix ?_
    simp only [AI0, AI1, AI2, AI3, AI4, AI5, AI6, AI7, AI8, AI9, reduceIte, reduceCtorEq, Nat.reduceAdd, Nat.reduceEqDiff, Nat.reduceBEq, Nat.reduceLT, Nat.reduceLeDiff, Nat.reduceMul, Nat.reduceSub, Int.reduceLE, Int.reduceLT, Int.reduceEq, Int.reduceBEq, Int.reduceBNe, Int.reduceToNat, Int.reduceNeg]
    refine (total_c _ 0 (.sl 9) [(0, 0)] _ hm.ok ?_ rfl).mono ?_
    · simp only [AI0, AI1, AI2, AI3, AI4, AI5, AI6, AI7, AI8, AI9, reduceIte, reduceCtorEq, Nat.reduceAdd, Nat.reduceEqDiff, Nat.reduceBEq, Nat.reduceLT, Nat.reduceLeDiff, Nat.reduceMul, Nat.reduceSub, Int.reduceLE, Int.reduceLT, Int.reduceEq, Int.reduceBEq, Int.reduceBNe, Int.reduceToNat, Int.reduceNeg]
    rintro _ _ - ⟨rfl, rfl⟩
    simp only [AI0, AI1, AI2, AI3, AI4, AI5, AI6, AI7, AI8, AI9, reduceIte, reduceCtorEq, Nat.reduceAdd, Nat.reduceEqDiff, Nat.reduceBEq, Nat.reduceLT, Nat.reduceLeDiff, Nat.reduceMul, Nat.reduceSub, Int.reduceLE, Int.reduceLT, Int.reduceEq, Int.reduceBEq, Int.reduceBNe, Int.reduceToNat, Int.reduceNeg]
    refine W_of_N [8] hmix ?_
    simp only [AI0, AI1, AI2, AI3, AI4, AI5, AI6, AI7, AI8, AI9, reduceIte, reduceCtorEq, Nat.reduceAdd, Nat.reduceEqDiff, Nat.reduceBEq, Nat.reduceLT, Nat.reduceLeDiff, Nat.reduceMul, Nat.reduceSub, Int.reduceLE, Int.reduceLT, Int.reduceEq, Int.reduceBEq, Int.reduceBNe, Int.reduceToNat, Int.reduceNeg]
    refine (free_c _ 0 (.sl 9) [(0, 0)] _ hm.ok ?_ rfl f).mono ?_
    · simp only [AI0, AI1, AI2, AI3, AI4, AI5, AI6, AI7, AI8, AI9, reduceIte, reduceCtorEq, Nat.reduceAdd, Nat.reduceEqDiff, Nat.reduceBEq, Nat.reduceLT, Nat.reduceLeDiff, Nat.reduceMul, Nat.reduceSub, Int.reduceLE, Int.reduceLT, Int.reduceEq, Int.reduceBEq, Int.reduceBNe, Int.reduceToNat, Int.reduceNeg]
    rintro _ _ - ⟨rfl, rfl⟩
    simp only [AI0, AI1, AI2, AI3, AI4, AI5, AI6, AI7, AI8, AI9, reduceIte, reduceCtorEq, Nat.reduceAdd, Nat.reduceEqDiff, Nat.reduceBEq, Nat.reduceLT, Nat.reduceLeDiff, Nat.reduceMul, Nat.reduceSub, Int.reduceLE, Int.reduceLT, Int.reduceEq, Int.reduceBEq, Int.reduceBNe, Int.reduceToNat, Int.reduceNeg, hfree]
    refine W_of_N [8] hmix ?_
    simp only [AI0, AI1, AI2, AI3, AI4, AI5, AI6, AI7, AI8, AI9, reduceIte, reduceCtorEq, Nat.reduceAdd, Nat.reduceEqDiff, Nat.reduceBEq, Nat.reduceLT, Nat.reduceLeDiff, Nat.reduceMul, Nat.reduceSub, Int.reduceLE, Int.reduceLT, Int.reduceEq, Int.reduceBEq, Int.reduceBNe, Int.reduceToNat, Int.reduceNeg]
    -- each note is taken
    refine W_loop (fun a : Nat × BusM => (⟨[(0, .v (.int .i64 n)), (1, .v (.int .i64 f)), (2, .up (.sl ⟨.sl 2, [], 0⟩ 1 0 ss.length)), (9, .obj (busAV a.2)), (13, .v (.int .i64 a.1))], [], true⟩, F)) (fun a => a.1 ≤ n ∧ OneS a.2 n f (fun u => if u < a.1 then xFill l j u else ss.take i ++ xFill l j u)) (fun a => n - a.1) ?_ ?_
    · exact Mid_of (0, m) ⟨Nat.zero_le _, hm.congr fun t _ => by simp⟩ rfl rfl (by simp only [AI0, AI1, AI2, AI3, AI4, AI5, AI6, AI7, AI8, AI9, reduceIte, reduceCtorEq, Nat.reduceAdd, Nat.reduceEqDiff, Nat.reduceBEq, Nat.reduceLT, Nat.reduceLeDiff, Nat.reduceMul, Nat.reduceSub, Int.reduceLE, Int.reduceLT, Int.reduceEq, Int.reduceBEq, Int.reduceBNe, Int.reduceToNat, Int.reduceNeg, busAV]) trivial
    clear hm hfree m
    rintro ⟨t, m⟩ ⟨ht1, hm⟩
    simp only at ht1 hm
    refine W_of_N [8] hmix ?_
    by_cases htn : t < n
    · have htn' : (t : Int) < n := by omega
      simp only [AI0, AI1, AI2, AI3, AI4, AI5, AI6, AI7, AI8, AI9, reduceIte, reduceCtorEq, Nat.reduceAdd, Nat.reduceEqDiff, Nat.reduceBEq, Nat.reduceLT, Nat.reduceLeDiff, Nat.reduceMul, Nat.reduceSub, Int.reduceLE, Int.reduceLT, Int.reduceEq, Int.reduceBEq, Int.reduceBNe, Int.reduceToNat, Int.reduceNeg, htn']
      refine W_loop (fun a : Nat × BusM => (⟨[(0, .v (.int .i64 n)), (1, .v (.int .i64 f)), (2, .up (.sl ⟨.sl 2, [], 0⟩ 1 0 ss.length)), (9, .obj (busAV a.2)), (13, .v (.int .i64 t)), (14, .v (.int .i64 a.1))], [], true⟩, F)) (fun a => a.1 ≤ i ∧ OneS a.2 n f (fun u => if u = t then (ss.take i).drop a.1 ++ xFill l j u else if u < t then xFill l j u else ss.take i ++ xFill l j u)) (fun a => i - a.1) ?_ ?_
      · refine Mid_of (0, m) ⟨Nat.zero_le _, hm.congr fun u _ => ?_⟩ rfl rfl (by simp only [AI0, AI1, AI2, AI3, AI4, AI5, AI6, AI7, AI8, AI9, reduceIte, reduceCtorEq, Nat.reduceAdd, Nat.reduceEqDiff, Nat.reduceBEq, Nat.reduceLT, Nat.reduceLeDiff, Nat.reduceMul, Nat.reduceSub, Int.reduceLE, Int.reduceLT, Int.reduceEq, Int.reduceBEq, Int.reduceBNe, Int.reduceToNat, Int.reduceNeg, busAV]) trivial
        by_cases e : u = t
        · subst e; simp
        · simp [e]
      clear hm m
      rintro ⟨g, m⟩ ⟨hg1, hm⟩
      simp only at hg1 hm
      refine W_of_N [8] hmix ?_
      by_cases hgi : g < i
      · have hg2 : (g : Int) < ss.length := by omega
        have hg3 : (g : Int) < 40 := by omega
        have hgl : g < ss.length := by omega
        have r0 : (0 : Int) ≤ g := by omega
        have hs : ss[g]? = some ss[g] := List.getElem?_eq_getElem hgl
        have hd : (ss.take i).drop g = ss[g] :: (ss.take i).drop (g + 1) := by
          rw [List.drop_eq_getElem_cons (by simp; omega)]; simp
        obtain ⟨q1, q2⟩ := hm.take (t := t) htn (x := ss[g]) (l := (ss.take i).drop (g + 1) ++ xFill l j t) (by simp [hd])
        have q3 : OneS (takeS m f t) n f (fun u => if u = t then (ss.take i).drop (g + 1) ++ xFill l j u else if u < t then xFill l j u else ss.take i ++ xFill l j u) := q2.congr fun u _ => by
          by_cases e : u = t
          · subst e; simp
          · simp [e]
        simp only [AI0, AI1, AI2, AI3, AI4, AI5, AI6, AI7, AI8, AI9, reduceIte, reduceCtorEq, Nat.reduceAdd, Nat.reduceEqDiff, Nat.reduceBEq, Nat.reduceLT, Nat.reduceLeDiff, Nat.reduceMul, Nat.reduceSub, Int.reduceLE, Int.reduceLT, Int.reduceEq, Int.reduceBEq, Int.reduceBNe, Int.reduceToNat, Int.reduceNeg, hg2, hg3, hF0, strsAV, busAV]
        refine (take_bus_c _ 0 (.sl 9) [(0, 0)] m hm.ok.wf ?_ rfl ?_ f t).mono ?_
        · simp only [AI0, AI1, AI2, AI3, AI4, AI5, AI6, AI7, AI8, AI9, reduceIte, reduceCtorEq, Nat.reduceAdd, Nat.reduceEqDiff, Nat.reduceBEq, Nat.reduceLT, Nat.reduceLeDiff, Nat.reduceMul, Nat.reduceSub, Int.reduceLE, Int.reduceLT, Int.reduceEq, Int.reduceBEq, Int.reduceBNe, Int.reduceToNat, Int.reduceNeg, busAV]
        · simp only [AI0, AI1, AI2, AI3, AI4, AI5, AI6, AI7, AI8, AI9, reduceIte, reduceCtorEq, Nat.reduceAdd, Nat.reduceEqDiff, Nat.reduceBEq, Nat.reduceLT, Nat.reduceLeDiff, Nat.reduceMul, Nat.reduceSub, Int.reduceLE, Int.reduceLT, Int.reduceEq, Int.reduceBEq, Int.reduceBNe, Int.reduceToNat, Int.reduceNeg]
        rintro _ _ - ⟨rfl, rfl⟩
        rw [q1]
        simp only [AI0, AI1, AI2, AI3, AI4, AI5, AI6, AI7, AI8, AI9, reduceIte, reduceCtorEq, Nat.reduceAdd, Nat.reduceEqDiff, Nat.reduceBEq, Nat.reduceLT, Nat.reduceLeDiff, Nat.reduceMul, Nat.reduceSub, Int.reduceLE, Int.reduceLT, Int.reduceEq, Int.reduceBEq, Int.reduceBNe, Int.reduceToNat, Int.reduceNeg]
        refine W_of_N [8] hmix ?_
        simp only [AI0, AI1, AI2, AI3, AI4, AI5, AI6, AI7, AI8, AI9, reduceIte, reduceCtorEq, Nat.reduceAdd, Nat.reduceEqDiff, Nat.reduceBEq, Nat.reduceLT, Nat.reduceLeDiff, Nat.reduceMul, Nat.reduceSub, Int.reduceLE, Int.reduceLT, Int.reduceEq, Int.reduceBEq, Int.reduceBNe, Int.reduceToNat, Int.reduceNeg, hF0, strsAV, hs, r0, hg2, wrap_i64 (x := (g : Int) + 1) (by omega) (by omega)]
        exact Mid_of (g + 1, takeS m f t) ⟨⟨by omega, q3⟩, by simp only; omega⟩ rfl rfl (by simp only [AI0, AI1, AI2, AI3, AI4, AI5, AI6, AI7, AI8, AI9, reduceIte, reduceCtorEq, Nat.reduceAdd, Nat.reduceEqDiff, Nat.reduceBEq, Nat.reduceLT, Nat.reduceLeDiff, Nat.reduceMul, Nat.reduceSub, Int.reduceLE, Int.reduceLT, Int.reduceEq, Int.reduceBEq, Int.reduceBNe, Int.reduceToNat, Int.reduceNeg, busAV, Int.natCast_add, Int.natCast_one]) trivial
      · obtain rfl : g = i := by omega
        have hnext : OneS m n f (fun u => if u < t + 1 then xFill l j u else ss.take g ++ xFill l j u) := hm.congr fun u _ => by
          have e1 : (ss.take g).drop g = [] := List.drop_eq_nil_of_le (by simp; omega)
          by_cases e : u = t
          · subst e; simp [e1]
          · by_cases e2 : u < t
            · simp [e, e2, show u < t + 1 by omega]
            · simp [e, e2, show ¬ u < t + 1 by omega]
        simp only [AI0, AI1, AI2, AI3, AI4, AI5, AI6, AI7, AI8, AI9, reduceIte, reduceCtorEq, Nat.reduceAdd, Nat.reduceEqDiff, Nat.reduceBEq, Nat.reduceLT, Nat.reduceLeDiff, Nat.reduceMul, Nat.reduceSub, Int.reduceLE, Int.reduceLT, Int.reduceEq, Int.reduceBEq, Int.reduceBNe, Int.reduceToNat, Int.reduceNeg, hlt', hF0, strsAV, wrap_i64 (x := (t : Int) + 1) (by omega) (by omega)]
        exact Mid_of (t + 1, m) ⟨⟨by omega, hnext⟩, by simp only; omega⟩ rfl rfl (by simp only [AI0, AI1, AI2, AI3, AI4, AI5, AI6, AI7, AI8, AI9, reduceIte, reduceCtorEq, Nat.reduceAdd, Nat.reduceEqDiff, Nat.reduceBEq, Nat.reduceLT, Nat.reduceLeDiff, Nat.reduceMul, Nat.reduceSub, Int.reduceLE, Int.reduceLT, Int.reduceEq, Int.reduceBEq, Int.reduceBNe, Int.reduceToNat, Int.reduceNeg, busAV, Int.natCast_add, Int.natCast_one]) trivial
    · have htn' : ¬ ((t : Int) < n) := by omega
      simp only [AI0, AI1, AI2, AI3, AI4, AI5, AI6, AI7, AI8, AI9, reduceIte, reduceCtorEq, Nat.reduceAdd, Nat.reduceEqDiff, Nat.reduceBEq, Nat.reduceLT, Nat.reduceLeDiff, Nat.reduceMul, Nat.reduceSub, Int.reduceLE, Int.reduceLT, Int.reduceEq, Int.reduceBEq, Int.reduceBNe, Int.reduceToNat, Int.reduceNeg, htn']

theorem busAll_nil (ss : List ByteArray) (hss : ss = []) (n0 f0 l0 : Int) (F : List Fr) (hF : F = [botFr [.v (.int .i64 n0), .v (.int .i64 f0), .v (.slice none 0 0), .v (.int .i64 l0)]]) :
    ACalls Try.prog 5 [.v (.int .i64 n0), .v (.int .i64 f0), .v (.slice none 0 0), .v (.int .i64 l0)] F (fun r F' => r = .v (.bool true)) := by
  skip
  refine ok5.N hmix rfl ?_
  simp only [cc5, AI0, AI1, AI2, AI3, AI4, AI5, AI6, AI7, AI8, AI9, reduceIte, reduceCtorEq, Nat.reduceAdd, Nat.reduceEqDiff, Nat.reduceBEq, Nat.reduceLT, Nat.reduceLeDiff, Nat.reduceMul, Nat.reduceSub, Int.reduceLE, Int.reduceLT, Int.reduceEq, Int.reduceBEq, Int.reduceBNe, Int.reduceToNat, Int.reduceNeg]
  refine (works_c _).mono ?_
  rintro _ _ - ⟨rfl, rfl⟩
  simp only [AI0, AI1, AI2, AI3, AI4, AI5, AI6, AI7, AI8, AI9, reduceIte, reduceCtorEq, Nat.reduceAdd, Nat.reduceEqDiff, Nat.reduceBEq, Nat.reduceLT, Nat.reduceLeDiff, Nat.reduceMul, Nat.reduceSub, Int.reduceLE, Int.reduceLT, Int.reduceEq, Int.reduceBEq, Int.reduceBNe, Int.reduceToNat, Int.reduceNeg]
  refine W_of_N [8] hmix ?_
  obtain ⟨c, hc, hc8⟩ := mod_nat (IntKind.u64.wrap n0) 8 (by omega) (u64_nonneg _)
  obtain ⟨f, hf, hfn⟩ := mod_nat (IntKind.u64.wrap f0) ((c + 1 : Nat) : Int) (by omega) (u64_nonneg _)
  obtain ⟨l, hl, hln⟩ := mod_nat (IntKind.u64.wrap l0) ((c + 1 : Nat) : Int) (by omega) (u64_nonneg _)
  have k1 : IntKind.i64.wrap (c : Int) = c := wrap_i64 (by omega) (by omega)
  have k2 : IntKind.i64.wrap (1 + (c : Int)) = ((c + 1 : Nat) : Int) := by rw [wrap_i64 (by omega) (by omega)]; omega
  have k3 : IntKind.u64.wrap ((c + 1 : Nat) : Int) = ((c + 1 : Nat) : Int) := wrap_u64 (by omega) (by omega)
  have k4 : (((c + 1 : Nat) : Int) = 0) = False := by simp; omega
  have k5 : IntKind.i64.wrap (f : Int) = f := wrap_i64 (by omega) (by omega)
  have k6 : IntKind.i64.wrap (l : Int) = l := wrap_i64 (by omega) (by omega)
  simp only [AI0, AI1, AI2, AI3, AI4, AI5, AI6, AI7, AI8, AI9, reduceIte, reduceCtorEq, Nat.reduceAdd, Nat.reduceEqDiff, Nat.reduceBEq, Nat.reduceLT, Nat.reduceLeDiff, Nat.reduceMul, Nat.reduceSub, Int.reduceLE, Int.reduceLT, Int.reduceEq, Int.reduceBEq, Int.reduceBNe, Int.reduceToNat, Int.reduceNeg, hc, hf, hl, k1, k2, k3, k4, k5, k6]
  clear hc hf hl k1 k2 k3 k4 k5 k6
  obtain ⟨n, hn⟩ : ∃ n, n = c + 1 := ⟨_, rfl⟩
  rw [← hn] at hfn hln ⊢
  have hn1 : (1 : Int) ≤ n := by omega
  have hn8 : (n : Int) ≤ 8 := by omega
  have hfn' : f < n := by omega
  have hln' : l < n := by omega
  clear hc8 hn c
  refine (new_c _ n).mono ?_
  rintro _ _ - ⟨rfl, rfl⟩
  simp only [AI0, AI1, AI2, AI3, AI4, AI5, AI6, AI7, AI8, AI9, reduceIte, reduceCtorEq, Nat.reduceAdd, Nat.reduceEqDiff, Nat.reduceBEq, Nat.reduceLT, Nat.reduceLeDiff, Nat.reduceMul, Nat.reduceSub, Int.reduceLE, Int.reduceLT, Int.reduceEq, Int.reduceBEq, Int.reduceBNe, Int.reduceToNat, Int.reduceNeg, hn1, hn8]
  refine W_of_N [8] hmix ?_
  simp only [AI0, AI1, AI2, AI3, AI4, AI5, AI6, AI7, AI8, AI9, reduceIte, reduceCtorEq, Nat.reduceAdd, Nat.reduceEqDiff, Nat.reduceBEq, Nat.reduceLT, Nat.reduceLeDiff, Nat.reduceMul, Nat.reduceSub, Int.reduceLE, Int.reduceLT, Int.reduceEq, Int.reduceBEq, Int.reduceBNe, Int.reduceToNat, Int.reduceNeg, hn1, hn8, busAV]
  -- all notes, to all
  refine W_loop (fun a : Nat × BusM => (⟨[(0, .v (.int .i64 n)), (1, .v (.int .i64 f)), (2, .v (.slice none 0 0)), (3, .v (.int .i64 l)), (9, .obj (busAV a.2)), (11, .v (.int .i64 a.1))], [], true⟩, F)) (fun a => a.1 ≤ ss.length ∧ a.1 ≤ 40 ∧ OneS a.2 n f (fun _ => ss.take a.1)) (fun a => 40 - a.1) ?_ ?_
  · exact Mid_of (0, newM n n) ⟨Nat.zero_le _, Nat.zero_le _, OneS.new (by omega) hfn'⟩ rfl rfl (by simp only [AI0, AI1, AI2, AI3, AI4, AI5, AI6, AI7, AI8, AI9, reduceIte, reduceCtorEq, Nat.reduceAdd, Nat.reduceEqDiff, Nat.reduceBEq, Nat.reduceLT, Nat.reduceLeDiff, Nat.reduceMul, Nat.reduceSub, Int.reduceLE, Int.reduceLT, Int.reduceEq, Int.reduceBEq, Int.reduceBNe, Int.reduceToNat, Int.reduceNeg, busAV]) trivial
  rintro ⟨i, m⟩ ⟨hi1, hi2, hm⟩
  simp only at hi1 hi2 hm
  refine W_of_N [8] hmix ?_
  by_cases hlt : i < ss.length
  · exact absurd hlt (by rw [hss]; simp)
  · have hlt' : ¬ ((i : Int) < 0) := by omega
    simp only [AI0, AI1, AI2, AI3, AI4, AI5, AI6, AI7, AI8, AI9, reduceIte, reduceCtorEq, Nat.reduceAdd, Nat.reduceEqDiff, Nat.reduceBEq, Nat.reduceLT, Nat.reduceLeDiff, Nat.reduceMul, Nat.reduceSub, Int.reduceLE, Int.reduceLT, Int.reduceEq, Int.reduceBEq, Int.reduceBNe, Int.reduceToNat, Int.reduceNeg, hlt', rdS_nil]
    -- the rest: K notes are in each row
    refine W_loop (fun a : Nat × BusM => (⟨[(0, .v (.int .i64 n)), (1, .v (.int .i64 f)), (2, .v (.slice none 0 0)), (3, .v (.int .i64 l)), (9, .obj (busAV a.2))], [], true⟩, F)) (fun a => i + a.1 ≤ 512 ∧ OneS a.2 n f (fun u => ss.take i ++ xFill l a.1 u)) (fun a => 512 - a.1) ?_ ?_
    · exact Mid_of (0, m) ⟨by omega, hm.congr fun t _ => by simp [xFill]⟩ rfl rfl (by simp only [AI0, AI1, AI2, AI3, AI4, AI5, AI6, AI7, AI8, AI9, reduceIte, reduceCtorEq, Nat.reduceAdd, Nat.reduceEqDiff, Nat.reduceBEq, Nat.reduceLT, Nat.reduceLeDiff, Nat.reduceMul, Nat.reduceSub, Int.reduceLE, Int.reduceLT, Int.reduceEq, Int.reduceBEq, Int.reduceBNe, Int.reduceToNat, Int.reduceNeg, busAV]) trivial
    clear hm m
    rintro ⟨j, m⟩ ⟨hj1, hm⟩
    simp only at hj1 hm
    refine W_of_N [8] hmix ?_
    simp only [AI0, AI1, AI2, AI3, AI4, AI5, AI6, AI7, AI8, AI9, reduceIte, reduceCtorEq, Nat.reduceAdd, Nat.reduceEqDiff, Nat.reduceBEq, Nat.reduceLT, Nat.reduceLeDiff, Nat.reduceMul, Nat.reduceSub, Int.reduceLE, Int.reduceLT, Int.reduceEq, Int.reduceBEq, Int.reduceBNe, Int.reduceToNat, Int.reduceNeg, busAV]
    have hll : (ss.take i ++ xFill l j l).length = i + j := by simp [xFill]; omega
    refine (send_c _ 0 (.sl 9) [(0, 0)] m hm.ok.wf ?_ rfl ?_ f l ⟨#[120]⟩).mono ?_
    · simp only [AI0, AI1, AI2, AI3, AI4, AI5, AI6, AI7, AI8, AI9, reduceIte, reduceCtorEq, Nat.reduceAdd, Nat.reduceEqDiff, Nat.reduceBEq, Nat.reduceLT, Nat.reduceLeDiff, Nat.reduceMul, Nat.reduceSub, Int.reduceLE, Int.reduceLT, Int.reduceEq, Int.reduceBEq, Int.reduceBNe, Int.reduceToNat, Int.reduceNeg, busAV]
    · simp only [AI0, AI1, AI2, AI3, AI4, AI5, AI6, AI7, AI8, AI9, reduceIte, reduceCtorEq, Nat.reduceAdd, Nat.reduceEqDiff, Nat.reduceBEq, Nat.reduceLT, Nat.reduceLeDiff, Nat.reduceMul, Nat.reduceSub, Int.reduceLE, Int.reduceLT, Int.reduceEq, Int.reduceBEq, Int.reduceBNe, Int.reduceToNat, Int.reduceNeg]
    rintro _ _ - ⟨rfl, rfl⟩
    by_cases hfull : i + j < 512
    · obtain ⟨q1, q2⟩ := hm.send (t := l) hln' (by rw [hll]; exact hfull) (s := ⟨#[120]⟩) (by decide)
      have q3 : OneS (sendS m f l ⟨#[120]⟩).2 n f (fun u => ss.take i ++ xFill l (j + 1) u) := q2.congr fun u hu => by
        by_cases e : u = l
        · subst e; simp [xFill, List.replicate_succ']
        · simp [xFill, e]
      rw [q1]
      simp only [AI0, AI1, AI2, AI3, AI4, AI5, AI6, AI7, AI8, AI9, reduceIte, reduceCtorEq, Nat.reduceAdd, Nat.reduceEqDiff, Nat.reduceBEq, Nat.reduceLT, Nat.reduceLeDiff, Nat.reduceMul, Nat.reduceSub, Int.reduceLE, Int.reduceLT, Int.reduceEq, Int.reduceBEq, Int.reduceBNe, Int.reduceToNat, Int.reduceNeg]
      refine W_of_N [8] hmix ?_
      simp only [AI0, AI1, AI2, AI3, AI4, AI5, AI6, AI7, AI8, AI9, reduceIte, reduceCtorEq, Nat.reduceAdd, Nat.reduceEqDiff, Nat.reduceBEq, Nat.reduceLT, Nat.reduceLeDiff, Nat.reduceMul, Nat.reduceSub, Int.reduceLE, Int.reduceLT, Int.reduceEq, Int.reduceBEq, Int.reduceBNe, Int.reduceToNat, Int.reduceNeg]
      refine (total_c _ 0 (.sl 9) [(0, 0)] _ q3.ok ?_ rfl).mono ?_
      · simp only [AI0, AI1, AI2, AI3, AI4, AI5, AI6, AI7, AI8, AI9, reduceIte, reduceCtorEq, Nat.reduceAdd, Nat.reduceEqDiff, Nat.reduceBEq, Nat.reduceLT, Nat.reduceLeDiff, Nat.reduceMul, Nat.reduceSub, Int.reduceLE, Int.reduceLT, Int.reduceEq, Int.reduceBEq, Int.reduceBNe, Int.reduceToNat, Int.reduceNeg]
      rintro _ _ - ⟨rfl, rfl⟩
      have q4 : ((totalS (sendS m f l ⟨#[120]⟩).2 : Nat) : Int) < 5000 := by
        have h1 := sumL_le (c := 512) n (fun t ht => q3.len t ht)
        rw [q3.total]; omega
      simp only [AI0, AI1, AI2, AI3, AI4, AI5, AI6, AI7, AI8, AI9, reduceIte, reduceCtorEq, Nat.reduceAdd, Nat.reduceEqDiff, Nat.reduceBEq, Nat.reduceLT, Nat.reduceLeDiff, Nat.reduceMul, Nat.reduceSub, Int.reduceLE, Int.reduceLT, Int.reduceEq, Int.reduceBEq, Int.reduceBNe, Int.reduceToNat, Int.reduceNeg, q4]
      refine W_of_N [8] hmix ?_
      simp only [AI0, AI1, AI2, AI3, AI4, AI5, AI6, AI7, AI8, AI9, reduceIte, reduceCtorEq, Nat.reduceAdd, Nat.reduceEqDiff, Nat.reduceBEq, Nat.reduceLT, Nat.reduceLeDiff, Nat.reduceMul, Nat.reduceSub, Int.reduceLE, Int.reduceLT, Int.reduceEq, Int.reduceBEq, Int.reduceBNe, Int.reduceToNat, Int.reduceNeg, q4]
      exact Mid_of (j + 1, (sendS m f l ⟨#[120]⟩).2) ⟨⟨by omega, q3⟩, by simp only; omega⟩ rfl rfl (by simp only [AI0, AI1, AI2, AI3, AI4, AI5, AI6, AI7, AI8, AI9, reduceIte, reduceCtorEq, Nat.reduceAdd, Nat.reduceEqDiff, Nat.reduceBEq, Nat.reduceLT, Nat.reduceLeDiff, Nat.reduceMul, Nat.reduceSub, Int.reduceLE, Int.reduceLT, Int.reduceEq, Int.reduceBEq, Int.reduceBNe, Int.reduceToNat, Int.reduceNeg, busAV]) trivial
    have hJ : i + j = 512 := by omega
    rw [hm.full (t := l) hln' (by rw [hll]; exact hJ) (s := ⟨#[120]⟩) (by decide)]
    simp only [AI0, AI1, AI2, AI3, AI4, AI5, AI6, AI7, AI8, AI9, reduceIte, reduceCtorEq, Nat.reduceAdd, Nat.reduceEqDiff, Nat.reduceBEq, Nat.reduceLT, Nat.reduceLeDiff, Nat.reduceMul, Nat.reduceSub, Int.reduceLE, Int.reduceLT, Int.reduceEq, Int.reduceBEq, Int.reduceBNe, Int.reduceToNat, Int.reduceNeg]
    refine W_of_N [8] hmix ?_
    simp only [AI0, AI1, AI2, AI3, AI4, AI5, AI6, AI7, AI8, AI9, reduceIte, reduceCtorEq, Nat.reduceAdd, Nat.reduceEqDiff, Nat.reduceBEq, Nat.reduceLT, Nat.reduceLeDiff, Nat.reduceMul, Nat.reduceSub, Int.reduceLE, Int.reduceLT, Int.reduceEq, Int.reduceBEq, Int.reduceBNe, Int.reduceToNat, Int.reduceNeg]
    refine (total_c _ 0 (.sl 9) [(0, 0)] _ hm.ok ?_ rfl).mono ?_
    · simp only [AI0, AI1, AI2, AI3, AI4, AI5, AI6, AI7, AI8, AI9, reduceIte, reduceCtorEq, Nat.reduceAdd, Nat.reduceEqDiff, Nat.reduceBEq, Nat.reduceLT, Nat.reduceLeDiff, Nat.reduceMul, Nat.reduceSub, Int.reduceLE, Int.reduceLT, Int.reduceEq, Int.reduceBEq, Int.reduceBNe, Int.reduceToNat, Int.reduceNeg]
    rintro _ _ - ⟨rfl, rfl⟩
    simp only [AI0, AI1, AI2, AI3, AI4, AI5, AI6, AI7, AI8, AI9, reduceIte, reduceCtorEq, Nat.reduceAdd, Nat.reduceEqDiff, Nat.reduceBEq, Nat.reduceLT, Nat.reduceLeDiff, Nat.reduceMul, Nat.reduceSub, Int.reduceLE, Int.reduceLT, Int.reduceEq, Int.reduceBEq, Int.reduceBNe, Int.reduceToNat, Int.reduceNeg]
    refine W_of_N [8] hmix ?_
    simp only [AI0, AI1, AI2, AI3, AI4, AI5, AI6, AI7, AI8, AI9, reduceIte, reduceCtorEq, Nat.reduceAdd, Nat.reduceEqDiff, Nat.reduceBEq, Nat.reduceLT, Nat.reduceLeDiff, Nat.reduceMul, Nat.reduceSub, Int.reduceLE, Int.reduceLT, Int.reduceEq, Int.reduceBEq, Int.reduceBNe, Int.reduceToNat, Int.reduceNeg]
    have hfree : freeS m f = 0 := by
      rw [hm.free 512 (fun t ht => hm.len t ht) hln' (by rw [hll]; exact hJ)]; rfl
    refine (all_c _ 0 (.sl 9) [(0, 0)] m hm.ok ?_ rfl ?_ f ⟨#[121]⟩).mono ?_
    · simp only [AI0, AI1, AI2, AI3, AI4, AI5, AI6, AI7, AI8, AI9, reduceIte, reduceCtorEq, Nat.reduceAdd, Nat.reduceEqDiff, Nat.reduceBEq, Nat.reduceLT, Nat.reduceLeDiff, Nat.reduceMul, Nat.reduceSub, Int.reduceLE, Int.reduceLT, Int.reduceEq, Int.reduceBEq, Int.reduceBNe, Int.reduceToNat, Int.reduceNeg]
    · simp only [AI0, AI1, AI2, AI3, AI4, AI5, AI6, AI7, AI8, AI9, reduceIte, reduceCtorEq, Nat.reduceAdd, Nat.reduceEqDiff, Nat.reduceBEq, Nat.reduceLT, Nat.reduceLeDiff, Nat.reduceMul, Nat.reduceSub, Int.reduceLE, Int.reduceLT, Int.reduceEq, Int.reduceBEq, Int.reduceBNe, Int.reduceToNat, Int.reduceNeg]
    rintro _ _ - ⟨rfl, rfl⟩
    rw [hm.allFull hfree (s := ⟨#[121]⟩) (by decide)]
    simp only [AI0, AI1, AI2, AI3, AI4, AI5, AI6, AI7, AI8, AI9, reduceIte, reduceCtorEq, Nat.reduceAdd, Nat.reduceEqDiff, Nat.reduceBEq, Nat.reduceLT, Nat.reduceLeDiff, Nat.reduceMul, Nat.reduceSub, Int.reduceLE, Int.reduceLT, Int.reduceEq, Int.reduceBEq, Int.reduceBNe, Int.reduceToNat, Int.reduceNeg]
    refine W_of_N [8] hmix ?_
    simp only [AI0, AI1, AI2, AI3, AI4, AI5, AI6, AI7, AI8, AI9, reduceIte, reduceCtorEq, Nat.reduceAdd, Nat.reduceEqDiff, Nat.reduceBEq, Nat.reduceLT, Nat.reduceLeDiff, Nat.reduceMul, Nat.reduceSub, Int.reduceLE, Int.reduceLT, Int.reduceEq, Int.reduceBEq, Int.reduceBNe, Int.reduceToNat, Int.reduceNeg]
    refine (total_c _ 0 (.sl 9) [(0, 0)] _ hm.ok ?_ rfl).mono ?_
    · simp only [AI0, AI1, AI2, AI3, AI4, AI5, AI6, AI7, AI8, AI9, reduceIte, reduceCtorEq, Nat.reduceAdd, Nat.reduceEqDiff, Nat.reduceBEq, Nat.reduceLT, Nat.reduceLeDiff, Nat.reduceMul, Nat.reduceSub, Int.reduceLE, Int.reduceLT, Int.reduceEq, Int.reduceBEq, Int.reduceBNe, Int.reduceToNat, Int.reduceNeg]
    rintro _ _ - ⟨rfl, rfl⟩
    simp only [AI0, AI1, AI2, AI3, AI4, AI5, AI6, AI7, AI8, AI9, reduceIte, reduceCtorEq, Nat.reduceAdd, Nat.reduceEqDiff, Nat.reduceBEq, Nat.reduceLT, Nat.reduceLeDiff, Nat.reduceMul, Nat.reduceSub, Int.reduceLE, Int.reduceLT, Int.reduceEq, Int.reduceBEq, Int.reduceBNe, Int.reduceToNat, Int.reduceNeg]
    refine W_of_N [8] hmix ?_
    simp only [AI0, AI1, AI2, AI3, AI4, AI5, AI6, AI7, AI8, AI9, reduceIte, reduceCtorEq, Nat.reduceAdd, Nat.reduceEqDiff, Nat.reduceBEq, Nat.reduceLT, Nat.reduceLeDiff, Nat.reduceMul, Nat.reduceSub, Int.reduceLE, Int.reduceLT, Int.reduceEq, Int.reduceBEq, Int.reduceBNe, Int.reduceToNat, Int.reduceNeg]
    refine (free_c _ 0 (.sl 9) [(0, 0)] _ hm.ok ?_ rfl f).mono ?_
    · simp only [AI0, AI1, AI2, AI3, AI4, AI5, AI6, AI7, AI8, AI9, reduceIte, reduceCtorEq, Nat.reduceAdd, Nat.reduceEqDiff, Nat.reduceBEq, Nat.reduceLT, Nat.reduceLeDiff, Nat.reduceMul, Nat.reduceSub, Int.reduceLE, Int.reduceLT, Int.reduceEq, Int.reduceBEq, Int.reduceBNe, Int.reduceToNat, Int.reduceNeg]
    rintro _ _ - ⟨rfl, rfl⟩
    simp only [AI0, AI1, AI2, AI3, AI4, AI5, AI6, AI7, AI8, AI9, reduceIte, reduceCtorEq, Nat.reduceAdd, Nat.reduceEqDiff, Nat.reduceBEq, Nat.reduceLT, Nat.reduceLeDiff, Nat.reduceMul, Nat.reduceSub, Int.reduceLE, Int.reduceLT, Int.reduceEq, Int.reduceBEq, Int.reduceBNe, Int.reduceToNat, Int.reduceNeg, hfree]
    refine W_of_N [8] hmix ?_
    simp only [AI0, AI1, AI2, AI3, AI4, AI5, AI6, AI7, AI8, AI9, reduceIte, reduceCtorEq, Nat.reduceAdd, Nat.reduceEqDiff, Nat.reduceBEq, Nat.reduceLT, Nat.reduceLeDiff, Nat.reduceMul, Nat.reduceSub, Int.reduceLE, Int.reduceLT, Int.reduceEq, Int.reduceBEq, Int.reduceBNe, Int.reduceToNat, Int.reduceNeg]
    -- each note is taken
    refine W_loop (fun a : Nat × BusM => (⟨[(0, .v (.int .i64 n)), (1, .v (.int .i64 f)), (2, .v (.slice none 0 0)), (9, .obj (busAV a.2)), (13, .v (.int .i64 a.1))], [], true⟩, F)) (fun a => a.1 ≤ n ∧ OneS a.2 n f (fun u => if u < a.1 then xFill l j u else ss.take i ++ xFill l j u)) (fun a => n - a.1) ?_ ?_
    · exact Mid_of (0, m) ⟨Nat.zero_le _, hm.congr fun t _ => by simp⟩ rfl rfl (by simp only [AI0, AI1, AI2, AI3, AI4, AI5, AI6, AI7, AI8, AI9, reduceIte, reduceCtorEq, Nat.reduceAdd, Nat.reduceEqDiff, Nat.reduceBEq, Nat.reduceLT, Nat.reduceLeDiff, Nat.reduceMul, Nat.reduceSub, Int.reduceLE, Int.reduceLT, Int.reduceEq, Int.reduceBEq, Int.reduceBNe, Int.reduceToNat, Int.reduceNeg, busAV]) trivial
    clear hm hfree m
    rintro ⟨t, m⟩ ⟨ht1, hm⟩
    simp only at ht1 hm
    refine W_of_N [8] hmix ?_
    by_cases htn : t < n
    · have htn' : (t : Int) < n := by omega
      simp only [AI0, AI1, AI2, AI3, AI4, AI5, AI6, AI7, AI8, AI9, reduceIte, reduceCtorEq, Nat.reduceAdd, Nat.reduceEqDiff, Nat.reduceBEq, Nat.reduceLT, Nat.reduceLeDiff, Nat.reduceMul, Nat.reduceSub, Int.reduceLE, Int.reduceLT, Int.reduceEq, Int.reduceBEq, Int.reduceBNe, Int.reduceToNat, Int.reduceNeg, htn']
      refine W_loop (fun a : Nat × BusM => (⟨[(0, .v (.int .i64 n)), (1, .v (.int .i64 f)), (2, .v (.slice none 0 0)), (9, .obj (busAV a.2)), (13, .v (.int .i64 t)), (14, .v (.int .i64 a.1))], [], true⟩, F)) (fun a => a.1 ≤ i ∧ OneS a.2 n f (fun u => if u = t then (ss.take i).drop a.1 ++ xFill l j u else if u < t then xFill l j u else ss.take i ++ xFill l j u)) (fun a => i - a.1) ?_ ?_
      · refine Mid_of (0, m) ⟨Nat.zero_le _, hm.congr fun u _ => ?_⟩ rfl rfl (by simp only [AI0, AI1, AI2, AI3, AI4, AI5, AI6, AI7, AI8, AI9, reduceIte, reduceCtorEq, Nat.reduceAdd, Nat.reduceEqDiff, Nat.reduceBEq, Nat.reduceLT, Nat.reduceLeDiff, Nat.reduceMul, Nat.reduceSub, Int.reduceLE, Int.reduceLT, Int.reduceEq, Int.reduceBEq, Int.reduceBNe, Int.reduceToNat, Int.reduceNeg, busAV]) trivial
        by_cases e : u = t
        · subst e; simp
        · simp [e]
      clear hm m
      rintro ⟨g, m⟩ ⟨hg1, hm⟩
      simp only at hg1 hm
      refine W_of_N [8] hmix ?_
      by_cases hgi : g < i
      · exact absurd hgi (by rw [hss] at hi1; simp at hi1; omega)
      · obtain rfl : g = i := by omega
        have hnext : OneS m n f (fun u => if u < t + 1 then xFill l j u else ss.take g ++ xFill l j u) := hm.congr fun u _ => by
          have e1 : (ss.take g).drop g = [] := List.drop_eq_nil_of_le (by simp; omega)
          by_cases e : u = t
          · subst e; simp [e1]
          · by_cases e2 : u < t
            · simp [e, e2, show u < t + 1 by omega]
            · simp [e, e2, show ¬ u < t + 1 by omega]
        simp only [AI0, AI1, AI2, AI3, AI4, AI5, AI6, AI7, AI8, AI9, reduceIte, reduceCtorEq, Nat.reduceAdd, Nat.reduceEqDiff, Nat.reduceBEq, Nat.reduceLT, Nat.reduceLeDiff, Nat.reduceMul, Nat.reduceSub, Int.reduceLE, Int.reduceLT, Int.reduceEq, Int.reduceBEq, Int.reduceBNe, Int.reduceToNat, Int.reduceNeg, hlt', rdS_nil, wrap_i64 (x := (t : Int) + 1) (by omega) (by omega)]
        exact Mid_of (t + 1, m) ⟨⟨by omega, hnext⟩, by simp only; omega⟩ rfl rfl (by simp only [AI0, AI1, AI2, AI3, AI4, AI5, AI6, AI7, AI8, AI9, reduceIte, reduceCtorEq, Nat.reduceAdd, Nat.reduceEqDiff, Nat.reduceBEq, Nat.reduceLT, Nat.reduceLeDiff, Nat.reduceMul, Nat.reduceSub, Int.reduceLE, Int.reduceLT, Int.reduceEq, Int.reduceBEq, Int.reduceBNe, Int.reduceToNat, Int.reduceNeg, busAV, Int.natCast_add, Int.natCast_one]) trivial
    · have htn' : ¬ ((t : Int) < n) := by omega
      simp only [AI0, AI1, AI2, AI3, AI4, AI5, AI6, AI7, AI8, AI9, reduceIte, reduceCtorEq, Nat.reduceAdd, Nat.reduceEqDiff, Nat.reduceBEq, Nat.reduceLT, Nat.reduceLeDiff, Nat.reduceMul, Nat.reduceSub, Int.reduceLE, Int.reduceLT, Int.reduceEq, Int.reduceBEq, Int.reduceBNe, Int.reduceToNat, Int.reduceNeg, htn']
end Go.Proofs.Ythlehngbadianaa.Ai
set_option linter.unusedVariables false
namespace Go.Proofs.Ythlehngbadianaa.Ai
open Go Go.RowKit Go.Proofs
theorem strs_arg {w : World} {v : Value} (h : v = .slice none 0 0 ∨ ∃ (B o cap : Nat) (css : List (List Value)), v = .slice (some ⟨B, o, none⟩) css.length cap ∧ css.length ≤ cap ∧ cap ≤ maxLen ∧ blockOk w false B (o + cap * 1) ∧ (∀ cs ∈ css, cs.length = 1 ∧ ∃ s : ByteArray, cs = [.string s]) ∧
      (∀ (i : Nat) (cs : List Value), css[i]? = some cs → ∀ (j : Nat) (u : Value), cs[j]? = some u → w.cell? ⟨B, o + i * 1 + j, none⟩ = some u)) :
    v = .slice none 0 0 ∨ ∃ ss : List ByteArray, ss.length ≤ 9223372036854775807 ∧ InMem w 1 (strsAV ss) v := by
  rcases h with h | ⟨B, o, cap, css, rfl, h1, h2, h3, h4, h5⟩
  · exact Or.inl h
  right
  have key : ∃ ss : List ByteArray, css = ss.map fun s => [Value.string s] := by
    clear h1 h3 h5
    induction css with
    | nil => exact ⟨[], rfl⟩
    | cons cs css ih =>
      obtain ⟨_, s, rfl⟩ := h4 _ (List.mem_cons_self ..)
      obtain ⟨ss, rfl⟩ := ih fun c hc => h4 c (List.mem_cons_of_mem _ hc)
      exact ⟨s :: ss, rfl⟩
  obtain ⟨ss, rfl⟩ := key
  refine ⟨ss, ?_, Nat.one_pos, B, o, cap, by simp [strsAV], by simpa [strsAV] using h1, h3, ?_, ?_⟩
  · simp only [List.length_map] at h1
    have : maxLen = 9223372036854775807 := rfl
    omega
  · intro x hx
    simp only [strsAV, List.mem_map] at hx
    obtain ⟨s, _, rfl⟩ := hx
    exact ⟨rfl, rfl⟩
  · intro i x hx j c hc
    simp only [strsAV, List.getElem?_map, Option.map_eq_some_iff] at hx
    obtain ⟨s, hs, rfl⟩ := hx
    cases j with
    | succ j => simp [AV.cells] at hc
    | zero =>
      simp [AV.cells] at hc
      subst hc
      exact ⟨_, rfl, rfl, h5 i [.string s] (by simp [hs]) 0 _ rfl⟩

theorem busAll_walk (w : World) (n f l : Int) (v : Value) (h : v = .slice none 0 0 ∨ ∃ ss : List ByteArray, ss.length ≤ 9223372036854775807 ∧ InMem w 1 (strsAV ss) v) :
    Calls Try.prog 5 #[.int .i64 n, .int .i64 f, v, .int .i64 l] w fun e w' => e = .returned (.bool true) ∧ Below w.heap.size w w' := by
  rcases h with rfl | ⟨ss, hl, hin⟩
  · refine entry [.v (.int .i64 n), .v (.int .i64 f), .v (.slice none 0 0), .v (.int .i64 l)] _ rfl ?_ (busAll_nil [] rfl n f l _ rfl)
    intro i x u hx hu
    match i with
    | 0 => simp at hx hu; subst hx hu; exact Or.inl ⟨rfl, rfl⟩
    | 1 => simp at hx hu; subst hx hu; exact Or.inl ⟨rfl, rfl⟩
    | 2 => simp at hx hu; subst hx hu; exact Or.inl ⟨rfl, rfl⟩
    | 3 => simp at hx hu; subst hx hu; exact Or.inl ⟨rfl, rfl⟩
    | i + 4 => simp at hx
  · have hlen : (strsAV ss).length = ss.length := by simp [strsAV]
    refine entry [.v (.int .i64 n), .v (.int .i64 f), .own 1 (strsAV ss), .v (.int .i64 l)] _ rfl ?_ (by
      have := busAll_own ss ⟨Nat.zero_le _, hl⟩ n f l _ rfl
      simpa only [argAVs, argAV, hlen] using this)
    intro i x u hx hu
    match i with
    | 0 => simp at hx hu; subst hx hu; exact Or.inl ⟨rfl, rfl⟩
    | 1 => simp at hx hu; subst hx hu; exact Or.inl ⟨rfl, rfl⟩
    | 2 => simp at hx hu; subst hx hu; exact Or.inr ⟨1, _, rfl, hin⟩
    | 3 => simp at hx hu; subst hx hu; exact Or.inl ⟨rfl, rfl⟩
    | i + 4 => simp at hx
end Go.Proofs.Ythlehngbadianaa.Ai
namespace Go.Proofs.Ythlehngbadianaa
open Go.ChangeShapes Go.WideShapes Go.ChangeAt Go.RowKit
theorem own : ownKnob Try.prog.godebug = none := by kernel_rfl
theorem laidOut : laidOutB Try.prog = true := by kernel_rfl
set_option maxRecDepth 100000 in
theorem busAll_lifted (os : Os) (started : os.Started) (H : Type) (enc : TypeId × Value → H) :
    ReturnsInHanded {} Try.checked os 5 .any (Rows.busAllSpec.pre6 enc Try.prog Try.f5 Rows.busAllRow.domain false) (Rows.busAllSpec.post enc Try.prog Try.f5 false true false false) := by
  refine returnsInHanded_of_change (C := Try.checked) own started (by kernel_rfl) Try.func5
    (ChangeSpec.witness6 (enc := enc) (C := Try.checked) false ⟨#[], #[.int .i64 0, .int .i64 0, .slice none 0 0, .int .i64 0], []⟩ 8 (by kernel_rfl) (by kernel_rfl) (by kernel_rfl) (by kernel_rfl)) ?_
  intro W base args ds gs before hval0 hW hcnd _
  have hval : ∀ (j : Nat) t v, Try.f5.params[j]? = some t → args[j]? = some v → Value.okWide Try.prog W .any base t v := hval0
  have hW' := hW
  obtain ⟨p, q, hA0, hV, rfl, hfz, hnd⟩ := hW
  have hA : DataW.TrodAll enc Try.prog W 0 (fun _ => true) true Try.f5.params.toList args.toList ds p := hA0
  rw [Try.params5] at hA hval
  obtain ⟨v0, vs0, d0, ds0, p0, q0, hargs, rfl, rfl, h0, r0⟩ := trodAll_cons hA
  obtain ⟨v1, vs1, d1, ds1, p1, q1, rfl, rfl, rfl, h1, r1⟩ := trodAll_cons r0
  obtain ⟨v2, vs2, d2, ds2, p2, q2, rfl, rfl, rfl, h2, r2⟩ := trodAll_cons r1
  obtain ⟨v3, vs3, d3, ds3, p3, q3, rfl, rfl, rfl, h3, r3⟩ := trodAll_cons r2
  obtain ⟨rfl, rfl, rfl⟩ := trodAll_nil r3
  obtain rfl : args = #[v0, v1, v2, v3] := by cases args; simp_all
  obtain ⟨rfl, rfl⟩ := trodVars_none hV
  obtain ⟨a0, rfl, rfl, rfl, w0⟩ := open_int Try.underlying3 (hval 0 3 v0 rfl rfl) h0
  obtain ⟨a1, rfl, rfl, rfl, w1⟩ := open_int Try.underlying3 (hval 1 3 v1 rfl rfl) h1
  have k2 := h2
  have lt2 : ∀ x ∈ p2, x.block < W.heap.size := by obtain ⟨m, hm⟩ := k2; exact DataW.trod_lt m _ _ _ hm
  have hs := Ai.strs_arg (Ai.slice_arg (es := 1) Try.underlying43 (by kernel_rfl) (hval 2 43 v2 rfl rfl) h2 (fun cs => ∃ s : ByteArray, cs = [.string s]) (fun n cs y hy => by
    obtain ⟨s, hs, _⟩ := DataW.trod_string Try.underlying9 hy
    exact ⟨s, hs⟩))
  obtain ⟨a3, rfl, rfl, rfl, w3⟩ := open_int Try.underlying3 (hval 3 3 v3 rfl rfl) h3
  clear hA0 hval0
  refine (Ai.busAll_walk W a0 a1 a3 v2 hs).mono fun e W' ⟨he, bel⟩ => ?_
  subst he
  exact ⟨_, rfl, _, _, _, [], _, [], hW', trodAll_mk1 (shut_bool Try.underlying4 _), (trodAll_cons_mk (shut_int Try.underlying3 w0) (trodAll_cons_mk (shut_int Try.underlying3 w1) (trodAll_cons_mk (Below.trod laidOut (by kernel_rfl) (of_decide_eq_true (by kernel_rfl)) k2 bel lt2) (trodAll_cons_mk (shut_int Try.underlying3 w3) trodAll_mk0)))), rfl, bel.frame _, fun h => by cases h⟩
theorem busAll_holds : Rows.BusAllSaid :=
  OpenClaim.holds_of_wide 5 Try.f5 rfl rfl rfl rfl rfl rfl rfl ⟨rfl, rfl, rfl, rfl, rfl⟩ rfl rfl rfl rfl rfl (by kernel_rfl) Try.func5 (by kernel_rfl)
    (of_decide_eq_true (by kernel_rfl)) (by unfold Func.isWrapper; first | (rw [if_pos (by decide +kernel)]; kernel_rfl) | (rw [if_neg (by decide +kernel)]; exact ⟨rfl, rfl⟩))
    (fun os started H enc _ => busAll_lifted os started H enc)
#print axioms busAll_holds
end Go.Proofs.Ythlehngbadianaa
