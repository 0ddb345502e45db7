/- The law watershedlaw20.BusDoes returns true at every input and leaves its arguments as they read (Rows.BusDoesSaid); no condition. -/
import Derived.Test.YthlehngbadianaaAi2
import Derived.Test.YthlehngbadianaaProg
import Derived.Test.YthlehngbadianaaRows
import Derived.WalkKit
import Derived.ProofKit
import Derived.OpenShut
import Derived.ShutString
import Derived.ChangeOld
import Derived.Below
set_option linter.unusedVariables false
set_option linter.unusedSimpArgs false
set_option maxRecDepth 100000
namespace Go.Proofs.Ythlehngbadianaa.Ai
open Go Go.RowKit Go.Proofs
theorem hmix : Try.prog.follows .mixedOrders = true := by kernel_rfl
/- (watershed/bus.Bus).there -/
def cc106 : CC := (.seq (.region [⟨none, 4, (.val (.mv (.c (.bool false)))), [], [4]⟩]) (.seq (.region [⟨none, 5, (.val (.mv (.s 1))), [], []⟩, ⟨none, 6, (.val (.bin .geq (.s 5) (.c (.int .i64 0)))), [], [5]⟩, ⟨none, 7, (.val (.mv (.s 6))), [6], [6]⟩, ⟨(some (7, true)), 8, (.val (.mv (.s 1))), [1], [1]⟩, ⟨(some (7, true)), 9, (.val (.mv (.s 0))), [0], [0]⟩, ⟨(some (7, true)), 10, (.val (.nc (.s 9))), [], [9]⟩, ⟨(some (7, true)), 11, (.val (.fa (.s 10) 0)), [], [10]⟩, ⟨(some (7, true)), 12, (.val (.ld (.s 11) none)), [], [11]⟩, ⟨(some (7, true)), 13, (.val (.lnl (.s 12) 1)), [], [12]⟩, ⟨(some (7, true)), 14, (.val (.bin .lss (.s 8) (.s 13))), [], [8, 13]⟩, ⟨none, 15, (.val (.pick (.s 7) (.s 14) (.c (.bool false)))), [7, 14], [7, 14]⟩, ⟨none, 4, (.val (.mv (.s 15))), [15], [15]⟩]) .ret))
theorem ok106 : FnOk Try.prog 106 cc106 [4] 2 16 := ⟨⟨_, Try.func106, by kernel_rfl, by kernel_rfl, by kernel_rfl⟩, by decide, by decide, by decide⟩


def rowC : Option (List ByteArray) → AV
  | none => .v (.slice none 0 0)
  | some l => .own 1 (l.map fun s => .v (.string s))
abbrev BusM := List (List (Option (List ByteArray)))
def busAV (m : BusM) : AV := .agg [.own 1 (m.map fun l => .own 1 (l.map fun r => .agg [rowC r]))]

def thereB (m : BusM) (i : Int) : Bool := decide (0 ≤ i) && decide (i < m.length)
theorem there_c (F : List Fr) (k : Nat) (b : Base) (path : List Hop) (m : BusM) (hn : nodeAt F k b path = some (busAV m)) (hin : inMem b path = true) (i : Int) :
    ACalls Try.prog 106 [.up (upN k (.ptr ⟨b, path, 0⟩)), .v (.int .i64 i)] F (fun r F' => r = .v (.bool (thereB m i)) ∧ F' = F) := by
  refine ok106.N hmix rfl ?_
  simp only [cc106, AI0, AI1, AI2, AI3, AI4, AI5, AI6, AI7, AI8, AI9, reduceIte, reduceCtorEq, Nat.reduceAdd, Nat.reduceEqDiff, Nat.reduceBEq, Nat.reduceLT, Nat.reduceLeDiff, Nat.reduceMul, Nat.reduceSub, Int.reduceLE, Int.reduceLT, Int.reduceEq, Int.reduceBEq, Int.reduceBNe, Int.reduceToNat, Int.reduceNeg]
  by_cases h : 0 ≤ i
  · simp only [cc106, AI0, AI1, AI2, AI3, AI4, AI5, AI6, AI7, AI8, AI9, reduceIte, reduceCtorEq, Nat.reduceAdd, Nat.reduceEqDiff, Nat.reduceBEq, Nat.reduceLT, Nat.reduceLeDiff, Nat.reduceMul, Nat.reduceSub, Int.reduceLE, Int.reduceLT, Int.reduceEq, Int.reduceBEq, Int.reduceBNe, Int.reduceToNat, Int.reduceNeg, h, hn, hin, busAV, thereB]
  · simp only [cc106, AI0, AI1, AI2, AI3, AI4, AI5, AI6, AI7, AI8, AI9, reduceIte, reduceCtorEq, Nat.reduceAdd, Nat.reduceEqDiff, Nat.reduceBEq, Nat.reduceLT, Nat.reduceLeDiff, Nat.reduceMul, Nat.reduceSub, Int.reduceLE, Int.reduceLT, Int.reduceEq, Int.reduceBEq, Int.reduceBNe, Int.reduceToNat, Int.reduceNeg, h, thereB]
end Go.Proofs.Ythlehngbadianaa.Ai
set_option linter.unusedVariables false
set_option linter.unusedSimpArgs false
set_option maxRecDepth 100000
namespace Go.Proofs.Ythlehngbadianaa.Ai
open Go Go.RowKit Go.Proofs
/- (watershed/bus.Bus).row -/
def cc103 : CC := (.seq (.region [⟨none, 6, (.val (.mv (.c (.pointer none)))), [], [6]⟩]) (.seq (.seq (.region [⟨none, 7, (.val (.mv (.s 0))), [], []⟩, ⟨none, 8, (.val (.mv (.s 1))), [], []⟩, ⟨none, 9, (.call 106 [(.s 7), (.s 8)]), [], [7, 8]⟩, ⟨none, 10, (.val (.un .not (.s 9))), [], [9]⟩, ⟨none, 11, (.val (.mv (.s 10))), [10], [10]⟩, ⟨(some (11, false)), 12, (.val (.mv (.s 0))), [], []⟩, ⟨(some (11, false)), 13, (.val (.mv (.s 2))), [], []⟩, ⟨(some (11, false)), 14, (.call 106 [(.s 12), (.s 13)]), [], [12, 13]⟩, ⟨(some (11, false)), 15, (.val (.un .not (.s 14))), [], [14]⟩, ⟨none, 16, (.val (.pick (.s 11) (.c (.bool true)) (.s 15))), [11, 15], [11, 15]⟩]) (.cond (.s 16) (.seq (.region [⟨none, 6, (.val (.mv (.c (.pointer none)))), [], [0, 1, 2, 16]⟩]) .ret) .skip)) (.seq (.region [⟨none, 17, (.val (.mv (.s 0))), [0], [0, 16]⟩, ⟨none, 18, (.val (.nc (.s 17))), [], [17]⟩, ⟨none, 19, (.val (.fa (.s 18) 0)), [], [18]⟩, ⟨none, 20, (.val (.ld (.s 19) none)), [], [19]⟩, ⟨none, 21, (.val (.mv (.s 1))), [1], [1]⟩, ⟨none, 22, (.val (.ia (.s 20) (.s 21) 1)), [], [20, 21]⟩, ⟨none, 23, (.val (.ld (.s 22) none)), [], [22]⟩, ⟨none, 24, (.val (.mv (.s 2))), [2], [2]⟩, ⟨none, 25, (.val (.ia (.s 23) (.s 24) 1)), [], [23, 24]⟩, ⟨none, 6, (.val (.mv (.s 25))), [25], [25]⟩]) .ret)))
theorem ok103 : FnOk Try.prog 103 cc103 [6] 3 26 := ⟨⟨_, Try.func103, by kernel_rfl, by kernel_rfl, by kernel_rfl⟩, by decide, by decide, by decide⟩

/- (watershed/bus.queue[string]).add -/
def cc104 : CC := (.region [⟨none, 4, (.val (.mv (.s 0))), [], []⟩, ⟨none, 5, (.val (.mv (.s 0))), [0], [0]⟩, ⟨none, 6, (.val (.nc (.s 5))), [], [5]⟩, ⟨none, 7, (.val (.fa (.s 6) 0)), [], [6]⟩, ⟨none, 8, (.val (.ld (.s 7) none)), [], [7]⟩, ⟨none, 9, (.val (.mv (.s 1))), [1], [1]⟩, ⟨none, 10, (.lit 1 [(.s 9)]), [], [9]⟩, ⟨none, 11, (.app 1 16 false (.s 8) (.s 10)), [], [8, 10]⟩, ⟨none, 12, (.val (.nc (.s 4))), [], [4]⟩, ⟨none, 13, (.val (.fa (.s 12) 0)), [], [12]⟩, ⟨none, 0, (.store 1 (.s 13) 11), [], [11, 13]⟩])
theorem ok104 : FnOk Try.prog 104 cc104 [] 2 14 := ⟨⟨_, Try.func104, by kernel_rfl, by kernel_rfl, by kernel_rfl⟩, by decide, by decide, by decide⟩

/- (watershed/bus.queue[string]).take -/
def cc107 : CC := (.region [⟨none, 2, (.val (.mv (.s 0))), [], []⟩, ⟨none, 3, (.val (.mv (.s 0))), [0], [0]⟩, ⟨none, 4, (.val (.nc (.s 3))), [], [3]⟩, ⟨none, 5, (.val (.fa (.s 4) 0)), [], [4]⟩, ⟨none, 6, (.val (.ld (.s 5) none)), [], [5]⟩, ⟨none, 7, (.val (.sl (.s 6) (some (.c (.int .i64 1))) none none 1)), [6], [6]⟩, ⟨none, 8, (.val (.nc (.s 2))), [], [2]⟩, ⟨none, 9, (.val (.fa (.s 8) 0)), [], [8]⟩, ⟨none, 0, (.store 1 (.s 9) 7), [], [7, 9]⟩])
theorem ok107 : FnOk Try.prog 107 cc107 [] 1 10 := ⟨⟨_, Try.func107, by kernel_rfl, by kernel_rfl, by kernel_rfl⟩, by decide, by decide, by decide⟩


def Wf (m : BusM) : Prop := ∀ l ∈ m, l.length = m.length
def inR (m : BusM) (f t : Int) : Bool := thereB m f && thereB m t
theorem thereB_lt {m : BusM} {i : Int} (h : thereB m i = true) : 0 ≤ i ∧ i.toNat < m.length ∧ i < m.length := by
  simp [thereB] at h; omega
def rowsAV (l : List (Option (List ByteArray))) : AV := .own 1 (l.map fun r => .agg [rowC r])
theorem Wf.get {m : BusM} (hw : Wf m) {i : Nat} (h : i < m.length) : m[i].length = m.length := hw _ (List.getElem_mem h)

theorem row_c (F : List Fr) (k : Nat) (b : Base) (path : List Hop) (m : BusM) (hw : Wf m) (hn : nodeAt F k b path = some (busAV m)) (hin : inMem b path = true) (f t : Int) :
    ACalls Try.prog 103 [.up (upN k (.ptr ⟨b, path, 0⟩)), .v (.int .i64 f), .v (.int .i64 t)] F (fun r F' => r = (if inR m f t = true then .up (upN k (.ptr ⟨b, (0, t.toNat) :: (0, f.toNat) :: path, 0⟩)) else .v (.pointer none)) ∧ F' = F) := by
  refine ok103.N hmix rfl ?_
  simp only [cc103, AI0, AI1, AI2, AI3, AI4, AI5, AI6, AI7, AI8, AI9, reduceIte, reduceCtorEq, Nat.reduceAdd, Nat.reduceEqDiff, Nat.reduceBEq, Nat.reduceLT, Nat.reduceLeDiff, Nat.reduceMul, Nat.reduceSub, Int.reduceLE, Int.reduceLT, Int.reduceEq, Int.reduceBEq, Int.reduceBNe, Int.reduceToNat, Int.reduceNeg]
  refine (there_c _ (k + 1) b path m hn hin f).mono ?_
  rintro _ _ - ⟨rfl, rfl⟩
  simp only [AI0, AI1, AI2, AI3, AI4, AI5, AI6, AI7, AI8, AI9, reduceIte, reduceCtorEq, Nat.reduceAdd, Nat.reduceEqDiff, Nat.reduceBEq, Nat.reduceLT, Nat.reduceLeDiff, Nat.reduceMul, Nat.reduceSub, Int.reduceLE, Int.reduceLT, Int.reduceEq, Int.reduceBEq, Int.reduceBNe, Int.reduceToNat, Int.reduceNeg]
  refine W_of_N [6] hmix ?_
  cases h1 : thereB m f with
  | false => simp only [AI0, AI1, AI2, AI3, AI4, AI5, AI6, AI7, AI8, AI9, reduceIte, reduceCtorEq, Nat.reduceAdd, Nat.reduceEqDiff, Nat.reduceBEq, Nat.reduceLT, Nat.reduceLeDiff, Nat.reduceMul, Nat.reduceSub, Int.reduceLE, Int.reduceLT, Int.reduceEq, Int.reduceBEq, Int.reduceBNe, Int.reduceToNat, Int.reduceNeg, h1, inR]
  | true =>
    simp only [AI0, AI1, AI2, AI3, AI4, AI5, AI6, AI7, AI8, AI9, reduceIte, reduceCtorEq, Nat.reduceAdd, Nat.reduceEqDiff, Nat.reduceBEq, Nat.reduceLT, Nat.reduceLeDiff, Nat.reduceMul, Nat.reduceSub, Int.reduceLE, Int.reduceLT, Int.reduceEq, Int.reduceBEq, Int.reduceBNe, Int.reduceToNat, Int.reduceNeg, h1, inR]
    refine (there_c _ (k + 1) b path m hn hin t).mono ?_
    rintro _ _ - ⟨rfl, rfl⟩
    simp only [AI0, AI1, AI2, AI3, AI4, AI5, AI6, AI7, AI8, AI9, reduceIte, reduceCtorEq, Nat.reduceAdd, Nat.reduceEqDiff, Nat.reduceBEq, Nat.reduceLT, Nat.reduceLeDiff, Nat.reduceMul, Nat.reduceSub, Int.reduceLE, Int.reduceLT, Int.reduceEq, Int.reduceBEq, Int.reduceBNe, Int.reduceToNat, Int.reduceNeg]
    refine W_of_N [6] hmix ?_
    cases h2 : thereB m t with
    | false => simp only [AI0, AI1, AI2, AI3, AI4, AI5, AI6, AI7, AI8, AI9, reduceIte, reduceCtorEq, Nat.reduceAdd, Nat.reduceEqDiff, Nat.reduceBEq, Nat.reduceLT, Nat.reduceLeDiff, Nat.reduceMul, Nat.reduceSub, Int.reduceLE, Int.reduceLT, Int.reduceEq, Int.reduceBEq, Int.reduceBNe, Int.reduceToNat, Int.reduceNeg, h2]
    | true =>
      obtain ⟨a1, a2, a3⟩ := thereB_lt h1
      obtain ⟨b1, b2, b3⟩ := thereB_lt h2
      have e1 : m[f.toNat]? = some m[f.toNat] := List.getElem?_eq_getElem a2
      have e2 : m[f.toNat][t.toNat]? = some (m[f.toNat][t.toNat]'(by rw [hw.get a2]; exact b2)) := List.getElem?_eq_getElem (by rw [hw.get a2]; exact b2)
      have b4 : t < m[f.toNat].length := by rw [hw.get a2]; exact b3
      simp only [AI0, AI1, AI2, AI3, AI4, AI5, AI6, AI7, AI8, AI9, reduceIte, reduceCtorEq, Nat.reduceAdd, Nat.reduceEqDiff, Nat.reduceBEq, Nat.reduceLT, Nat.reduceLeDiff, Nat.reduceMul, Nat.reduceSub, Int.reduceLE, Int.reduceLT, Int.reduceEq, Int.reduceBEq, Int.reduceBNe, Int.reduceToNat, Int.reduceNeg, h2, hn, hin, busAV, a1, a3, b1, b3, b4, e1, e2]

theorem add_c (F : List Fr) (k : Nat) (b : Base) (path : List Hop) (r : Option (List ByteArray)) (hn : nodeAt F k b path = some (.agg [rowC r])) (hin : inMem b path = true) (hrw : rwF F k = true) (s : ByteArray) (hlen : (r.getD []).length < 512) :
    ACalls Try.prog 104 [.up (upN k (.ptr ⟨b, path, 0⟩)), .v (.string s)] F (fun x F' => x = .tup [] [] ∧ F' = updN F k b path (.agg [rowC (some ((r.getD []) ++ [s]))])) := by
  refine ok104.W rfl ?_
  refine W_own hn (by cases r <;> rfl) ?_
  refine W_of_N [] hmix ?_
  cases r with
  | none => simp only [cc104, AI0, AI1, AI2, AI3, AI4, AI5, AI6, AI7, AI8, AI9, reduceIte, reduceCtorEq, Nat.reduceAdd, Nat.reduceEqDiff, Nat.reduceBEq, Nat.reduceLT, Nat.reduceLeDiff, Nat.reduceMul, Nat.reduceSub, Int.reduceLE, Int.reduceLT, Int.reduceEq, Int.reduceBEq, Int.reduceBNe, Int.reduceToNat, Int.reduceNeg, upd_rules hn rfl, hin, hrw, rowC]
  | some l =>
    simp only [Option.getD_some] at hlen
    have a1 : (l.length + 1) * 16 ≤ 140737488355328 := by omega
    have a2 : l.length ≤ 9223372036854775806 := by omega
    simp only [cc104, AI0, AI1, AI2, AI3, AI4, AI5, AI6, AI7, AI8, AI9, reduceIte, reduceCtorEq, Nat.reduceAdd, Nat.reduceEqDiff, Nat.reduceBEq, Nat.reduceLT, Nat.reduceLeDiff, Nat.reduceMul, Nat.reduceSub, Int.reduceLE, Int.reduceLT, Int.reduceEq, Int.reduceBEq, Int.reduceBNe, Int.reduceToNat, Int.reduceNeg, upd_rules hn rfl, hin, hrw, rowC, a1, a2, List.map_append]

theorem take_c (F : List Fr) (k : Nat) (b : Base) (path : List Hop) (s : ByteArray) (l : List ByteArray) (hn : nodeAt F k b path = some (.agg [rowC (some (s :: l))])) (hin : inMem b path = true) (hrw : rwF F k = true) :
    ACalls Try.prog 107 [.up (upN k (.ptr ⟨b, path, 0⟩))] F (fun x F' => x = .tup [] [] ∧ F' = updN F k b path (.agg [rowC (some l)])) := by
  refine ok107.W rfl ?_
  refine W_own hn rfl ?_
  refine W_of_N [] hmix ?_
  have a1 : (1 : Int) ≤ ((l.length + 1 : Nat) : Int) := by omega
  have a2 : 1 + (l.length + 1 - 1) ≤ l.length + 1 := by omega
  have a3 : (l.map fun s => AV.v (Value.string s)).take (l.length + 1 - 1) = l.map fun s => AV.v (Value.string s) := List.take_of_length_le (by simp)
  simp only [cc107, AI0, AI1, AI2, AI3, AI4, AI5, AI6, AI7, AI8, AI9, reduceIte, reduceCtorEq, Nat.reduceAdd, Nat.reduceEqDiff, Nat.reduceBEq, Nat.reduceLT, Nat.reduceLeDiff, Nat.reduceMul, Nat.reduceSub, Int.reduceLE, Int.reduceLT, Int.reduceEq, Int.reduceBEq, Int.reduceBNe, Int.reduceToNat, Int.reduceNeg, upd_rules hn rfl, hin, hrw, rowC, a1, a2, a3]
end Go.Proofs.Ythlehngbadianaa.Ai
set_option linter.unusedVariables false
set_option linter.unusedSimpArgs false
set_option maxRecDepth 100000
namespace Go.Proofs.Ythlehngbadianaa.Ai
open Go Go.RowKit Go.Proofs
/- (watershed/bus.Bus).Send -/
def cc16 : CC := (.seq (.region [⟨none, 8, (.val (.mv (.c (.int .i64 0)))), [], [8]⟩]) (.seq (.region [⟨none, 10, (.val (.mv (.s 0))), [0], [0]⟩, ⟨none, 11, (.val (.mv (.s 1))), [1], [1]⟩, ⟨none, 12, (.val (.mv (.s 2))), [2], [2]⟩, ⟨none, 13, (.call 103 [(.s 10), (.s 11), (.s 12)]), [], [10, 11, 12]⟩, ⟨none, 9, (.val (.mv (.s 13))), [13], [13]⟩]) (.seq (.block 0 (.seq (.region [⟨none, 15, (.val (.mv (.s 9))), [], []⟩, ⟨none, 16, (.val (.eqp false (.s 15) (.c (.pointer none)))), [], [15]⟩, ⟨none, 14, (.val (.mv (.s 16))), [16], [16]⟩]) (.cond (.s 14) (.seq (.region [⟨none, 8, (.val (.mv (.c (.int .i64 1)))), [], [3, 9, 14]⟩]) .ret) (.seq (.region [⟨none, 18, (.val (.mv (.s 3))), [], [14]⟩, ⟨none, 19, (.val (.lns (.s 18))), [], [18]⟩, ⟨none, 20, (.val (.bin .gtr (.s 19) (.c (.int .i64 8192)))), [], [19]⟩, ⟨none, 17, (.val (.mv (.s 20))), [20], [20]⟩]) (.cond (.s 17) (.seq (.region [⟨none, 8, (.val (.mv (.c (.int .i64 7)))), [], [3, 9, 17]⟩]) .ret) (.seq (.region [⟨none, 22, (.val (.mv (.s 9))), [], [17]⟩, ⟨none, 23, (.val (.nc (.s 22))), [], [22]⟩, ⟨none, 24, (.val (.fa (.s 23) 0)), [], [23]⟩, ⟨none, 25, (.val (.ld (.s 24) none)), [], [24]⟩, ⟨none, 26, (.val (.lnl (.s 25) 1)), [], [25]⟩, ⟨none, 27, (.val (.bin .geq (.s 26) (.c (.int .i64 512)))), [], [26]⟩, ⟨none, 21, (.val (.mv (.s 27))), [27], [27]⟩]) (.cond (.s 21) (.seq (.region [⟨none, 8, (.val (.mv (.c (.int .i64 2)))), [], [3, 9, 21]⟩]) .ret) .skip))))))) (.seq (.region [⟨none, 28, (.val (.mv (.s 9))), [9], [9, 21]⟩, ⟨none, 29, (.val (.mv (.s 3))), [3], [3]⟩, ⟨none, 30, (.call 104 [(.s 28), (.s 29)]), [], [28, 29, 30]⟩]) (.seq (.region [⟨none, 8, (.val (.mv (.c (.int .i64 0)))), [], []⟩]) .ret)))))
theorem ok16 : FnOk Try.prog 16 cc16 [8] 4 31 := ⟨⟨_, Try.func16, by kernel_rfl, by kernel_rfl, by kernel_rfl⟩, by decide, by decide, by decide⟩

/- (watershed/bus.Bus).Head -/
def cc22 : CC := (.seq (.region [⟨none, 6, (.val (.mv (.c (.string ⟨#[]⟩)))), [], [6]⟩, ⟨none, 7, (.val (.mv (.c (.int .i64 0)))), [], [7]⟩]) (.seq (.region [⟨none, 9, (.val (.mv (.s 0))), [0], [0]⟩, ⟨none, 10, (.val (.mv (.s 1))), [1], [1]⟩, ⟨none, 11, (.val (.mv (.s 2))), [2], [2]⟩, ⟨none, 12, (.call 103 [(.s 9), (.s 10), (.s 11)]), [], [9, 10, 11]⟩, ⟨none, 8, (.val (.mv (.s 12))), [12], [12]⟩]) (.seq (.seq (.region [⟨none, 13, (.val (.mv (.s 8))), [], []⟩, ⟨none, 14, (.val (.eqp false (.s 13) (.c (.pointer none)))), [], [13]⟩]) (.cond (.s 14) (.seq (.region [⟨none, 6, (.val (.mv (.c (.string ⟨#[]⟩)))), [], [8, 14]⟩, ⟨none, 7, (.val (.mv (.c (.int .i64 1)))), [], []⟩]) .ret) .skip)) (.seq (.seq (.region [⟨none, 15, (.val (.mv (.s 8))), [], [14]⟩, ⟨none, 16, (.val (.nc (.s 15))), [], [15]⟩, ⟨none, 17, (.val (.fa (.s 16) 0)), [], [16]⟩, ⟨none, 18, (.val (.ld (.s 17) none)), [], [17]⟩, ⟨none, 19, (.val (.lnl (.s 18) 1)), [], [18]⟩, ⟨none, 20, (.val (.bin .eql (.s 19) (.c (.int .i64 0)))), [], [19]⟩]) (.cond (.s 20) (.seq (.region [⟨none, 6, (.val (.mv (.c (.string ⟨#[]⟩)))), [], [8, 20]⟩, ⟨none, 7, (.val (.mv (.c (.int .i64 3)))), [], []⟩]) .ret) .skip)) (.seq (.region [⟨none, 21, (.val (.mv (.s 8))), [8], [8, 20]⟩, ⟨none, 22, (.val (.nc (.s 21))), [], [21]⟩, ⟨none, 23, (.val (.fa (.s 22) 0)), [], [22]⟩, ⟨none, 24, (.val (.ld (.s 23) none)), [], [23]⟩, ⟨none, 25, (.val (.ia (.s 24) (.c (.int .i64 0)) 1)), [], [24]⟩, ⟨none, 26, (.val (.ld (.s 25) none)), [], [25]⟩, ⟨none, 6, (.val (.mv (.s 26))), [26], [26]⟩, ⟨none, 7, (.val (.mv (.c (.int .i64 0)))), [], []⟩]) .ret)))))
theorem ok22 : FnOk Try.prog 22 cc22 [6, 7] 3 27 := ⟨⟨_, Try.func22, by kernel_rfl, by kernel_rfl, by kernel_rfl⟩, by decide, by decide, by decide⟩

/- (watershed/bus.Bus).Waits -/
def cc24 : CC := (.seq (.region [⟨none, 6, (.val (.mv (.c (.int .i64 0)))), [], [6]⟩]) (.seq (.region [⟨none, 8, (.val (.mv (.s 0))), [0], [0]⟩, ⟨none, 9, (.val (.mv (.s 1))), [1], [1]⟩, ⟨none, 10, (.val (.mv (.s 2))), [2], [2]⟩, ⟨none, 11, (.call 103 [(.s 8), (.s 9), (.s 10)]), [], [8, 9, 10]⟩, ⟨none, 7, (.val (.mv (.s 11))), [11], [11]⟩]) (.seq (.seq (.region [⟨none, 12, (.val (.mv (.s 7))), [], []⟩, ⟨none, 13, (.val (.eqp false (.s 12) (.c (.pointer none)))), [], [12]⟩]) (.cond (.s 13) (.seq (.region [⟨none, 6, (.val (.mv (.c (.int .i64 0)))), [], [7, 13]⟩]) .ret) .skip)) (.seq (.region [⟨none, 14, (.val (.mv (.s 7))), [7], [7, 13]⟩, ⟨none, 15, (.val (.nc (.s 14))), [], [14]⟩, ⟨none, 16, (.val (.fa (.s 15) 0)), [], [15]⟩, ⟨none, 17, (.val (.ld (.s 16) none)), [], [16]⟩, ⟨none, 18, (.val (.lnl (.s 17) 1)), [], [17]⟩, ⟨none, 6, (.val (.mv (.s 18))), [18], [18]⟩]) .ret))))
theorem ok24 : FnOk Try.prog 24 cc24 [6] 3 19 := ⟨⟨_, Try.func24, by kernel_rfl, by kernel_rfl, by kernel_rfl⟩, by decide, by decide, by decide⟩


def getR (m : BusM) (f t : Nat) : Option (List ByteArray) := ((m[f]?.getD [])[t]?).getD none
def getQ (m : BusM) (f t : Nat) : List ByteArray := (getR m f t).getD []
def setQ (m : BusM) (f t : Nat) (q : List ByteArray) : BusM := m.set f ((m[f]?.getD []).set t (some q))
def sendS (m : BusM) (f t : Int) (s : ByteArray) : Int × BusM :=
  if inR m f t = false then (1, m) else if 8192 < s.size then (7, m) else if 512 ≤ (getQ m f.toNat t.toNat).length then (2, m) else (0, setQ m f.toNat t.toNat (getQ m f.toNat t.toNat ++ [s]))
def waitsS (m : BusM) (f t : Int) : Nat := if inR m f t = true then (getQ m f.toNat t.toNat).length else 0
def headS (m : BusM) (f t : Int) : ByteArray × Int :=
  if inR m f t = false then (⟨#[]⟩, 1) else match getQ m f.toNat t.toNat with
  | [] => (⟨#[]⟩, 3)
  | x :: _ => (x, 0)
def takeS (m : BusM) (f t : Int) : BusM :=
  if inR m f t = false then m else match getQ m f.toNat t.toNat with
  | [] => m
  | _ :: l => setQ m f.toNat t.toNat l

theorem inR_get {m : BusM} (hw : Wf m) {f t : Int} (h : inR m f t = true) : ∃ l r, m[f.toNat]? = some l ∧ l[t.toNat]? = some r ∧ getR m f.toNat t.toNat = r ∧ getQ m f.toNat t.toNat = r.getD [] := by
  simp only [inR, Bool.and_eq_true] at h
  obtain ⟨a1, a2, a3⟩ := thereB_lt h.1
  obtain ⟨b1, b2, b3⟩ := thereB_lt h.2
  have e1 : m[f.toNat]? = some m[f.toNat] := List.getElem?_eq_getElem a2
  have e2 : m[f.toNat][t.toNat]? = some (m[f.toNat][t.toNat]'(by rw [hw.get a2]; exact b2)) := List.getElem?_eq_getElem (by rw [hw.get a2]; exact b2)
  have e3 : getR m f.toNat t.toNat = m[f.toNat][t.toNat]'(by rw [hw.get a2]; exact b2) := by simp only [getR, e1, Option.getD_some, e2]
  exact ⟨_, _, e1, e2, e3, by rw [getQ, e3]⟩
theorem busAV_setQ {m : BusM} {f t : Nat} {l : List (Option (List ByteArray))} (h : m[f]? = some l) (q : List ByteArray) : busAV (setQ m f t q) = .agg [.own 1 ((m.map fun l => .own 1 (l.map fun r => .agg [rowC r])).set f (.own 1 ((l.map fun r => .agg [rowC r]).set t (.agg [rowC (some q)]))))] := by
  simp only [busAV, setQ, h, Option.getD_some, List.map_set]

theorem rowC_none : rowC none = .v (.slice none 0 0) := rfl
theorem rowC_some (l : List ByteArray) : rowC (some l) = .own 1 (l.map fun s => .v (.string s)) := rfl
theorem waits_c (F : List Fr) (k : Nat) (b : Base) (path : List Hop) (m : BusM) (hw : Wf m) (hn : nodeAt F k b path = some (busAV m)) (hin : inMem b path = true) (f t : Int) :
    ACalls Try.prog 24 [.up (upN k (.ptr ⟨b, path, 0⟩)), .v (.int .i64 f), .v (.int .i64 t)] F (fun r F' => r = .v (.int .i64 (waitsS m f t)) ∧ F' = F) := by
  refine ok24.N hmix rfl ?_
  simp only [cc24, AI0, AI1, AI2, AI3, AI4, AI5, AI6, AI7, AI8, AI9, reduceIte, reduceCtorEq, Nat.reduceAdd, Nat.reduceEqDiff, Nat.reduceBEq, Nat.reduceLT, Nat.reduceLeDiff, Nat.reduceMul, Nat.reduceSub, Int.reduceLE, Int.reduceLT, Int.reduceEq, Int.reduceBEq, Int.reduceBNe, Int.reduceToNat, Int.reduceNeg]
  refine (row_c _ (k + 1) b path m hw hn hin f t).mono ?_
  rintro _ _ - ⟨rfl, rfl⟩
  simp only [AI0, AI1, AI2, AI3, AI4, AI5, AI6, AI7, AI8, AI9, reduceIte, reduceCtorEq, Nat.reduceAdd, Nat.reduceEqDiff, Nat.reduceBEq, Nat.reduceLT, Nat.reduceLeDiff, Nat.reduceMul, Nat.reduceSub, Int.reduceLE, Int.reduceLT, Int.reduceEq, Int.reduceBEq, Int.reduceBNe, Int.reduceToNat, Int.reduceNeg]
  refine W_of_N [6] hmix ?_
  cases h1 : inR m f t with
  | false => simp only [AI0, AI1, AI2, AI3, AI4, AI5, AI6, AI7, AI8, AI9, reduceIte, reduceCtorEq, Nat.reduceAdd, Nat.reduceEqDiff, Nat.reduceBEq, Nat.reduceLT, Nat.reduceLeDiff, Nat.reduceMul, Nat.reduceSub, Int.reduceLE, Int.reduceLT, Int.reduceEq, Int.reduceBEq, Int.reduceBNe, Int.reduceToNat, Int.reduceNeg, h1, waitsS]
  | true =>
    obtain ⟨l, r, e1, e2, e3, e4⟩ := inR_get hw h1
    cases r with
    | none => simp only [AI0, AI1, AI2, AI3, AI4, AI5, AI6, AI7, AI8, AI9, reduceIte, reduceCtorEq, Nat.reduceAdd, Nat.reduceEqDiff, Nat.reduceBEq, Nat.reduceLT, Nat.reduceLeDiff, Nat.reduceMul, Nat.reduceSub, Int.reduceLE, Int.reduceLT, Int.reduceEq, Int.reduceBEq, Int.reduceBNe, Int.reduceToNat, Int.reduceNeg, h1, hn, hin, busAV, e1, e2, e4, waitsS, rowC_none, rowC_some]
    | some q => simp only [AI0, AI1, AI2, AI3, AI4, AI5, AI6, AI7, AI8, AI9, reduceIte, reduceCtorEq, Nat.reduceAdd, Nat.reduceEqDiff, Nat.reduceBEq, Nat.reduceLT, Nat.reduceLeDiff, Nat.reduceMul, Nat.reduceSub, Int.reduceLE, Int.reduceLT, Int.reduceEq, Int.reduceBEq, Int.reduceBNe, Int.reduceToNat, Int.reduceNeg, h1, hn, hin, busAV, e1, e2, e4, waitsS, rowC_none, rowC_some]

theorem head_c (F : List Fr) (k : Nat) (b : Base) (path : List Hop) (m : BusM) (hw : Wf m) (hn : nodeAt F k b path = some (busAV m)) (hin : inMem b path = true) (f t : Int) :
    ACalls Try.prog 22 [.up (upN k (.ptr ⟨b, path, 0⟩)), .v (.int .i64 f), .v (.int .i64 t)] F (fun r F' => r = .tup [none, none] [.v (.string (headS m f t).1), .v (.int .i64 (headS m f t).2)] ∧ F' = F) := by
  refine ok22.N hmix rfl ?_
  simp only [cc22, AI0, AI1, AI2, AI3, AI4, AI5, AI6, AI7, AI8, AI9, reduceIte, reduceCtorEq, Nat.reduceAdd, Nat.reduceEqDiff, Nat.reduceBEq, Nat.reduceLT, Nat.reduceLeDiff, Nat.reduceMul, Nat.reduceSub, Int.reduceLE, Int.reduceLT, Int.reduceEq, Int.reduceBEq, Int.reduceBNe, Int.reduceToNat, Int.reduceNeg]
  refine (row_c _ (k + 1) b path m hw hn hin f t).mono ?_
  rintro _ _ - ⟨rfl, rfl⟩
  simp only [AI0, AI1, AI2, AI3, AI4, AI5, AI6, AI7, AI8, AI9, reduceIte, reduceCtorEq, Nat.reduceAdd, Nat.reduceEqDiff, Nat.reduceBEq, Nat.reduceLT, Nat.reduceLeDiff, Nat.reduceMul, Nat.reduceSub, Int.reduceLE, Int.reduceLT, Int.reduceEq, Int.reduceBEq, Int.reduceBNe, Int.reduceToNat, Int.reduceNeg]
  refine W_of_N [6, 7] hmix ?_
  cases h1 : inR m f t with
  | false => simp only [AI0, AI1, AI2, AI3, AI4, AI5, AI6, AI7, AI8, AI9, reduceIte, reduceCtorEq, Nat.reduceAdd, Nat.reduceEqDiff, Nat.reduceBEq, Nat.reduceLT, Nat.reduceLeDiff, Nat.reduceMul, Nat.reduceSub, Int.reduceLE, Int.reduceLT, Int.reduceEq, Int.reduceBEq, Int.reduceBNe, Int.reduceToNat, Int.reduceNeg, h1, headS]
  | true =>
    obtain ⟨l, r, e1, e2, e3, e4⟩ := inR_get hw h1
    cases r with
    | none => simp only [AI0, AI1, AI2, AI3, AI4, AI5, AI6, AI7, AI8, AI9, reduceIte, reduceCtorEq, Nat.reduceAdd, Nat.reduceEqDiff, Nat.reduceBEq, Nat.reduceLT, Nat.reduceLeDiff, Nat.reduceMul, Nat.reduceSub, Int.reduceLE, Int.reduceLT, Int.reduceEq, Int.reduceBEq, Int.reduceBNe, Int.reduceToNat, Int.reduceNeg, h1, hn, hin, busAV, e1, e2, e4, headS, rowC_none, rowC_some]
    | some q =>
      cases q with
      | nil => simp only [AI0, AI1, AI2, AI3, AI4, AI5, AI6, AI7, AI8, AI9, reduceIte, reduceCtorEq, Nat.reduceAdd, Nat.reduceEqDiff, Nat.reduceBEq, Nat.reduceLT, Nat.reduceLeDiff, Nat.reduceMul, Nat.reduceSub, Int.reduceLE, Int.reduceLT, Int.reduceEq, Int.reduceBEq, Int.reduceBNe, Int.reduceToNat, Int.reduceNeg, h1, hn, hin, busAV, e1, e2, e4, headS, rowC_none, rowC_some]
      | cons x q => simp only [AI0, AI1, AI2, AI3, AI4, AI5, AI6, AI7, AI8, AI9, reduceIte, reduceCtorEq, Nat.reduceAdd, Nat.reduceEqDiff, Nat.reduceBEq, Nat.reduceLT, Nat.reduceLeDiff, Nat.reduceMul, Nat.reduceSub, Int.reduceLE, Int.reduceLT, Int.reduceEq, Int.reduceBEq, Int.reduceBNe, Int.reduceToNat, Int.reduceNeg, h1, hn, hin, busAV, e1, e2, e4, headS, rowC_none, rowC_some]

theorem send_c (F : List Fr) (k : Nat) (b : Base) (path : List Hop) (m : BusM) (hw : Wf m) (hn : nodeAt F k b path = some (busAV m)) (hin : inMem b path = true) (hrw : rwF F k = true) (f t : Int) (s : ByteArray) :
    ACalls Try.prog 16 [.up (upN k (.ptr ⟨b, path, 0⟩)), .v (.int .i64 f), .v (.int .i64 t), .v (.string s)] F (fun r F' => r = .v (.int .i64 (sendS m f t s).1) ∧ F' = updN F k b path (busAV (sendS m f t s).2)) := by
  refine ok16.W rfl ?_
  refine W_own hn rfl ?_
  refine W_of_N [8] hmix ?_
  simp only [cc16, AI0, AI1, AI2, AI3, AI4, AI5, AI6, AI7, AI8, AI9, reduceIte, reduceCtorEq, Nat.reduceAdd, Nat.reduceEqDiff, Nat.reduceBEq, Nat.reduceLT, Nat.reduceLeDiff, Nat.reduceMul, Nat.reduceSub, Int.reduceLE, Int.reduceLT, Int.reduceEq, Int.reduceBEq, Int.reduceBNe, Int.reduceToNat, Int.reduceNeg, upd_rules hn rfl, hin, hrw]
  refine (row_c _ (k + 1) b path m hw (updN_same hn rfl _) hin f t).mono ?_
  rintro _ _ - ⟨rfl, rfl⟩
  simp only [AI0, AI1, AI2, AI3, AI4, AI5, AI6, AI7, AI8, AI9, reduceIte, reduceCtorEq, Nat.reduceAdd, Nat.reduceEqDiff, Nat.reduceBEq, Nat.reduceLT, Nat.reduceLeDiff, Nat.reduceMul, Nat.reduceSub, Int.reduceLE, Int.reduceLT, Int.reduceEq, Int.reduceBEq, Int.reduceBNe, Int.reduceToNat, Int.reduceNeg]
  refine W_of_N [8] hmix ?_
  cases h1 : inR m f t with
  | false => simp only [AI0, AI1, AI2, AI3, AI4, AI5, AI6, AI7, AI8, AI9, reduceIte, reduceCtorEq, Nat.reduceAdd, Nat.reduceEqDiff, Nat.reduceBEq, Nat.reduceLT, Nat.reduceLeDiff, Nat.reduceMul, Nat.reduceSub, Int.reduceLE, Int.reduceLT, Int.reduceEq, Int.reduceBEq, Int.reduceBNe, Int.reduceToNat, Int.reduceNeg, h1, sendS]
  | true =>
    obtain ⟨l, r, e1, e2, e3, e4⟩ := inR_get hw h1
    by_cases h2 : 8192 < s.size
    · have h2' : (8192 : Int) < s.size := by omega
      simp only [AI0, AI1, AI2, AI3, AI4, AI5, AI6, AI7, AI8, AI9, reduceIte, reduceCtorEq, Nat.reduceAdd, Nat.reduceEqDiff, Nat.reduceBEq, Nat.reduceLT, Nat.reduceLeDiff, Nat.reduceMul, Nat.reduceSub, Int.reduceLE, Int.reduceLT, Int.reduceEq, Int.reduceBEq, Int.reduceBNe, Int.reduceToNat, Int.reduceNeg, h1, h2, h2', upd_rules hn rfl, hin, busAV, e1, e2, e4, sendS]
    · have h2' : ¬ ((8192 : Int) < s.size) := by omega
      cases r with
      | none =>
        simp only [Option.getD_none] at e4
        simp only [AI0, AI1, AI2, AI3, AI4, AI5, AI6, AI7, AI8, AI9, reduceIte, reduceCtorEq, Nat.reduceAdd, Nat.reduceEqDiff, Nat.reduceBEq, Nat.reduceLT, Nat.reduceLeDiff, Nat.reduceMul, Nat.reduceSub, Int.reduceLE, Int.reduceLT, Int.reduceEq, Int.reduceBEq, Int.reduceBNe, Int.reduceToNat, Int.reduceNeg, h1, h2, h2', upd_rules hn rfl, hin, busAV, e1, e2, e4, sendS, rowC_none, rowC_some]
        refine (add_c _ (k + 1) b ((0, t.toNat) :: (0, f.toNat) :: path) none ?_ ?_ ?_ s (by simp)).mono ?_
        · simp only [AI0, AI1, AI2, AI3, AI4, AI5, AI6, AI7, AI8, AI9, reduceIte, reduceCtorEq, Nat.reduceAdd, Nat.reduceEqDiff, Nat.reduceBEq, Nat.reduceLT, Nat.reduceLeDiff, Nat.reduceMul, Nat.reduceSub, Int.reduceLE, Int.reduceLT, Int.reduceEq, Int.reduceBEq, Int.reduceBNe, Int.reduceToNat, Int.reduceNeg, upd_rules hn rfl, e1, e2, rowC_none, rowC_some]
        · exact inMem_cons _ _ _
        · simp only [AI0, AI1, AI2, AI3, AI4, AI5, AI6, AI7, AI8, AI9, reduceIte, reduceCtorEq, Nat.reduceAdd, Nat.reduceEqDiff, Nat.reduceBEq, Nat.reduceLT, Nat.reduceLeDiff, Nat.reduceMul, Nat.reduceSub, Int.reduceLE, Int.reduceLT, Int.reduceEq, Int.reduceBEq, Int.reduceBNe, Int.reduceToNat, Int.reduceNeg, hrw]
        rintro _ _ - ⟨rfl, rfl⟩
        simp only [AI0, AI1, AI2, AI3, AI4, AI5, AI6, AI7, AI8, AI9, reduceIte, reduceCtorEq, Nat.reduceAdd, Nat.reduceEqDiff, Nat.reduceBEq, Nat.reduceLT, Nat.reduceLeDiff, Nat.reduceMul, Nat.reduceSub, Int.reduceLE, Int.reduceLT, Int.reduceEq, Int.reduceBEq, Int.reduceBNe, Int.reduceToNat, Int.reduceNeg, upd_rules hn rfl, e1, e2]
        refine W_of_N [8] hmix ?_
        simp only [AI0, AI1, AI2, AI3, AI4, AI5, AI6, AI7, AI8, AI9, reduceIte, reduceCtorEq, Nat.reduceAdd, Nat.reduceEqDiff, Nat.reduceBEq, Nat.reduceLT, Nat.reduceLeDiff, Nat.reduceMul, Nat.reduceSub, Int.reduceLE, Int.reduceLT, Int.reduceEq, Int.reduceBEq, Int.reduceBNe, Int.reduceToNat, Int.reduceNeg, setQ, e1, e2, List.map_set]
      | some q =>
        simp only [Option.getD_some] at e4
        by_cases h3 : 512 ≤ q.length
        · have h3' : (512 : Int) ≤ q.length := by omega
          simp only [AI0, AI1, AI2, AI3, AI4, AI5, AI6, AI7, AI8, AI9, reduceIte, reduceCtorEq, Nat.reduceAdd, Nat.reduceEqDiff, Nat.reduceBEq, Nat.reduceLT, Nat.reduceLeDiff, Nat.reduceMul, Nat.reduceSub, Int.reduceLE, Int.reduceLT, Int.reduceEq, Int.reduceBEq, Int.reduceBNe, Int.reduceToNat, Int.reduceNeg, h1, h2, h2', h3, h3', upd_rules hn rfl, hin, busAV, e1, e2, e4, sendS, rowC_none, rowC_some]
        · have h3' : ¬ ((512 : Int) ≤ q.length) := by omega
          simp only [AI0, AI1, AI2, AI3, AI4, AI5, AI6, AI7, AI8, AI9, reduceIte, reduceCtorEq, Nat.reduceAdd, Nat.reduceEqDiff, Nat.reduceBEq, Nat.reduceLT, Nat.reduceLeDiff, Nat.reduceMul, Nat.reduceSub, Int.reduceLE, Int.reduceLT, Int.reduceEq, Int.reduceBEq, Int.reduceBNe, Int.reduceToNat, Int.reduceNeg, h1, h2, h2', h3, h3', upd_rules hn rfl, hin, busAV, e1, e2, e4, sendS, rowC_none, rowC_some]
          refine (add_c _ (k + 1) b ((0, t.toNat) :: (0, f.toNat) :: path) (some q) ?_ ?_ ?_ s (by simp; omega)).mono ?_
          · simp only [AI0, AI1, AI2, AI3, AI4, AI5, AI6, AI7, AI8, AI9, reduceIte, reduceCtorEq, Nat.reduceAdd, Nat.reduceEqDiff, Nat.reduceBEq, Nat.reduceLT, Nat.reduceLeDiff, Nat.reduceMul, Nat.reduceSub, Int.reduceLE, Int.reduceLT, Int.reduceEq, Int.reduceBEq, Int.reduceBNe, Int.reduceToNat, Int.reduceNeg, upd_rules hn rfl, e1, e2, rowC_none, rowC_some]
          · exact inMem_cons _ _ _
          · simp only [AI0, AI1, AI2, AI3, AI4, AI5, AI6, AI7, AI8, AI9, reduceIte, reduceCtorEq, Nat.reduceAdd, Nat.reduceEqDiff, Nat.reduceBEq, Nat.reduceLT, Nat.reduceLeDiff, Nat.reduceMul, Nat.reduceSub, Int.reduceLE, Int.reduceLT, Int.reduceEq, Int.reduceBEq, Int.reduceBNe, Int.reduceToNat, Int.reduceNeg, hrw]
          rintro _ _ - ⟨rfl, rfl⟩
          simp only [AI0, AI1, AI2, AI3, AI4, AI5, AI6, AI7, AI8, AI9, reduceIte, reduceCtorEq, Nat.reduceAdd, Nat.reduceEqDiff, Nat.reduceBEq, Nat.reduceLT, Nat.reduceLeDiff, Nat.reduceMul, Nat.reduceSub, Int.reduceLE, Int.reduceLT, Int.reduceEq, Int.reduceBEq, Int.reduceBNe, Int.reduceToNat, Int.reduceNeg, upd_rules hn rfl, e1, e2]
          refine W_of_N [8] hmix ?_
          simp only [AI0, AI1, AI2, AI3, AI4, AI5, AI6, AI7, AI8, AI9, reduceIte, reduceCtorEq, Nat.reduceAdd, Nat.reduceEqDiff, Nat.reduceBEq, Nat.reduceLT, Nat.reduceLeDiff, Nat.reduceMul, Nat.reduceSub, Int.reduceLE, Int.reduceLT, Int.reduceEq, Int.reduceBEq, Int.reduceBNe, Int.reduceToNat, Int.reduceNeg, setQ, e1, e2, List.map_set]
end Go.Proofs.Ythlehngbadianaa.Ai
set_option linter.unusedVariables false
set_option linter.unusedSimpArgs false
set_option maxRecDepth 100000
namespace Go.Proofs.Ythlehngbadianaa.Ai
open Go Go.RowKit Go.Proofs
/- (watershed/bus.Bus).Take -/
def cc20 : CC := (.seq (.region [⟨none, 6, (.val (.mv (.c (.string ⟨#[]⟩)))), [], [6]⟩, ⟨none, 7, (.val (.mv (.c (.int .i64 0)))), [], [7]⟩]) (.seq (.region [⟨none, 11, (.val (.mv (.s 0))), [], []⟩, ⟨none, 12, (.val (.mv (.s 1))), [], []⟩, ⟨none, 13, (.val (.mv (.s 2))), [], []⟩, ⟨none, 14, (.call 22 [(.s 11), (.s 12), (.s 13)]), [], [11, 12, 13]⟩, ⟨none, 10, (.val (.mv (.s 14))), [14], [14]⟩, ⟨none, 15, (.val (.ext (.s 10) 0)), [10], []⟩, ⟨none, 16, (.val (.ext (.s 10) 1)), [10], [10]⟩, ⟨none, 8, (.val (.mv (.s 15))), [15], [15]⟩, ⟨none, 9, (.val (.mv (.s 16))), [16], [16]⟩]) (.seq (.seq (.region [⟨none, 17, (.val (.mv (.s 9))), [], []⟩, ⟨none, 18, (.val (.bin .eql (.s 17) (.c (.int .i64 0)))), [], [17]⟩]) (.cond (.s 18) (.region [⟨none, 19, (.val (.mv (.s 0))), [0], [0, 18]⟩, ⟨none, 20, (.val (.mv (.s 1))), [1], [1]⟩, ⟨none, 21, (.val (.mv (.s 2))), [2], [2]⟩, ⟨none, 22, (.call 103 [(.s 19), (.s 20), (.s 21)]), [], [19, 20, 21]⟩, ⟨none, 23, (.call 107 [(.s 22)]), [], [22, 23]⟩]) .skip)) (.seq (.region [⟨none, 24, (.val (.mv (.s 8))), [8], [0, 1, 2, 8, 18]⟩, ⟨none, 25, (.val (.mv (.s 9))), [9], [9]⟩, ⟨none, 6, (.val (.mv (.s 24))), [24], [24]⟩, ⟨none, 7, (.val (.mv (.s 25))), [25], [25]⟩]) .ret))))
theorem ok20 : FnOk Try.prog 20 cc20 [6, 7] 3 26 := ⟨⟨_, Try.func20, by kernel_rfl, by kernel_rfl, by kernel_rfl⟩, by decide, by decide, by decide⟩

/- (watershed/bus.Bus).Free -/
def cc28 : CC := (.seq (.region [⟨none, 4, (.val (.mv (.c (.int .i64 0)))), [], [4]⟩]) (.seq (.seq (.region [⟨none, 7, (.val (.mv (.s 0))), [], []⟩, ⟨none, 8, (.val (.mv (.s 1))), [], []⟩, ⟨none, 9, (.call 106 [(.s 7), (.s 8)]), [], [7, 8]⟩, ⟨none, 10, (.val (.un .not (.s 9))), [], [9]⟩]) (.cond (.s 10) (.seq (.region [⟨none, 4, (.val (.mv (.c (.int .i64 0)))), [], [0, 1, 10]⟩]) .ret) .skip)) (.seq (.region [⟨none, 5, (.val (.mv (.c (.int .i64 512)))), [], [10]⟩]) (.seq (.seq (.region [⟨none, 11, (.val (.mv (.s 0))), [], []⟩, ⟨none, 12, (.val (.nc (.s 11))), [], [11]⟩, ⟨none, 13, (.val (.fa (.s 12) 0)), [], [12]⟩, ⟨none, 14, (.val (.ld (.s 13) none)), [], [13]⟩, ⟨none, 15, (.val (.lnl (.s 14) 1)), [], [14]⟩, ⟨none, 16, (.val (.mv (.c (.int .i64 0)))), [], []⟩]) (.block 0 (.loop (.seq (.region [⟨none, 17, (.val (.bin .lss (.s 16) (.s 15))), [], []⟩]) (.seq (.cond (.s 17) .skip (.exit 0)) (.seq (.block 1 (.seq (.region [⟨none, 18, (.val (.mv (.s 16))), [], [17]⟩, ⟨none, 6, (.val (.mv (.s 18))), [18], [18]⟩]) (.region [⟨none, 19, (.val (.mv (.s 5))), [5], [5]⟩, ⟨none, 20, (.val (.mv (.s 0))), [], []⟩, ⟨none, 21, (.val (.mv (.s 1))), [], []⟩, ⟨none, 22, (.val (.mv (.s 6))), [6], [6]⟩, ⟨none, 23, (.call 24 [(.s 20), (.s 21), (.s 22)]), [], [20, 21, 22]⟩, ⟨none, 24, (.val (.bin .sub (.c (.int .i64 512)) (.s 23))), [], [23]⟩, ⟨none, 25, (.val (.mn (.s 19) (.s 24))), [], [19, 24]⟩, ⟨none, 5, (.val (.mv (.s 25))), [25], [25]⟩]))) (.region [⟨none, 26, (.val (.bin .add (.s 16) (.c (.int .i64 1)))), [], [16]⟩, ⟨none, 16, (.val (.mv (.s 26))), [26], [26]⟩]))))))) (.seq (.region [⟨none, 27, (.val (.mv (.s 5))), [5], [0, 1, 5, 15, 16, 17]⟩, ⟨none, 4, (.val (.mv (.s 27))), [27], [27]⟩]) .ret)))))
theorem ok28 : FnOk Try.prog 28 cc28 [4] 2 28 := ⟨⟨_, Try.func28, by kernel_rfl, by kernel_rfl, by kernel_rfl⟩, by decide, by decide, by decide⟩

/- (watershed/bus.Bus).Total -/
def cc26 : CC := (.seq (.region [⟨none, 2, (.val (.mv (.c (.int .i64 0)))), [], [2]⟩]) (.seq (.region [⟨none, 3, (.val (.mv (.c (.int .i64 0)))), [], []⟩]) (.seq (.seq (.region [⟨none, 6, (.val (.mv (.s 0))), [], []⟩, ⟨none, 7, (.val (.nc (.s 6))), [], [6]⟩, ⟨none, 8, (.val (.fa (.s 7) 0)), [], [7]⟩, ⟨none, 9, (.val (.ld (.s 8) none)), [], [8]⟩, ⟨none, 10, (.val (.lnl (.s 9) 1)), [], [9]⟩, ⟨none, 11, (.val (.mv (.c (.int .i64 0)))), [], []⟩]) (.block 0 (.loop (.seq (.region [⟨none, 12, (.val (.bin .lss (.s 11) (.s 10))), [], []⟩]) (.seq (.cond (.s 12) .skip (.exit 0)) (.seq (.block 1 (.seq (.region [⟨none, 13, (.val (.mv (.s 11))), [], [12]⟩, ⟨none, 4, (.val (.mv (.s 13))), [13], [13]⟩]) (.seq (.region [⟨none, 14, (.val (.mv (.s 0))), [], []⟩, ⟨none, 15, (.val (.nc (.s 14))), [], [14]⟩, ⟨none, 16, (.val (.fa (.s 15) 0)), [], [15]⟩, ⟨none, 17, (.val (.ld (.s 16) none)), [], [16]⟩, ⟨none, 18, (.val (.lnl (.s 17) 1)), [], [17]⟩, ⟨none, 19, (.val (.mv (.c (.int .i64 0)))), [], []⟩]) (.block 2 (.loop (.seq (.region [⟨none, 20, (.val (.bin .lss (.s 19) (.s 18))), [], []⟩]) (.seq (.cond (.s 20) .skip (.exit 2)) (.seq (.block 3 (.seq (.region [⟨none, 21, (.val (.mv (.s 19))), [], [20]⟩, ⟨none, 5, (.val (.mv (.s 21))), [21], [21]⟩]) (.region [⟨none, 22, (.val (.mv (.s 3))), [3], [3]⟩, ⟨none, 23, (.val (.mv (.s 0))), [], []⟩, ⟨none, 24, (.val (.mv (.s 4))), [], []⟩, ⟨none, 25, (.val (.mv (.s 5))), [5], [5]⟩, ⟨none, 26, (.call 24 [(.s 23), (.s 24), (.s 25)]), [], [23, 24, 25]⟩, ⟨none, 27, (.val (.bin .add (.s 22) (.s 26))), [], [22, 26]⟩, ⟨none, 3, (.val (.mv (.s 27))), [27], [27]⟩]))) (.region [⟨none, 28, (.val (.bin .add (.s 19) (.c (.int .i64 1)))), [], [19]⟩, ⟨none, 19, (.val (.mv (.s 28))), [28], [28]⟩]))))))))) (.region [⟨none, 29, (.val (.bin .add (.s 11) (.c (.int .i64 1)))), [], [4, 11, 18, 19, 20]⟩, ⟨none, 11, (.val (.mv (.s 29))), [29], [29]⟩]))))))) (.seq (.region [⟨none, 30, (.val (.mv (.s 3))), [3], [0, 3, 10, 11, 12]⟩, ⟨none, 2, (.val (.mv (.s 30))), [30], [30]⟩]) .ret))))
theorem ok26 : FnOk Try.prog 26 cc26 [2] 1 31 := ⟨⟨_, Try.func26, by kernel_rfl, by kernel_rfl, by kernel_rfl⟩, by decide, by decide, by decide⟩

/- (watershed/bus.Bus).All -/
def cc18 : CC := (.seq (.region [⟨none, 6, (.val (.mv (.c (.int .i64 0)))), [], [6]⟩]) (.seq (.block 0 (.seq (.region [⟨none, 9, (.val (.mv (.s 0))), [], []⟩, ⟨none, 10, (.val (.mv (.s 1))), [], []⟩, ⟨none, 11, (.call 106 [(.s 9), (.s 10)]), [], [9, 10]⟩, ⟨none, 12, (.val (.un .not (.s 11))), [], [11]⟩, ⟨none, 8, (.val (.mv (.s 12))), [12], [12]⟩]) (.cond (.s 8) (.seq (.region [⟨none, 6, (.val (.mv (.c (.int .i64 1)))), [], [0, 1, 2, 8]⟩]) .ret) (.seq (.region [⟨none, 14, (.val (.mv (.s 2))), [], [8]⟩, ⟨none, 15, (.val (.lns (.s 14))), [], [14]⟩, ⟨none, 16, (.val (.bin .gtr (.s 15) (.c (.int .i64 8192)))), [], [15]⟩, ⟨none, 13, (.val (.mv (.s 16))), [16], [16]⟩]) (.cond (.s 13) (.seq (.region [⟨none, 6, (.val (.mv (.c (.int .i64 7)))), [], [0, 1, 2, 13]⟩]) .ret) (.seq (.region [⟨none, 18, (.val (.mv (.s 0))), [], [13]⟩, ⟨none, 19, (.val (.mv (.s 1))), [], []⟩, ⟨none, 20, (.call 28 [(.s 18), (.s 19)]), [], [18, 19]⟩, ⟨none, 21, (.val (.bin .eql (.s 20) (.c (.int .i64 0)))), [], [20]⟩, ⟨none, 17, (.val (.mv (.s 21))), [21], [21]⟩]) (.cond (.s 17) (.seq (.region [⟨none, 6, (.val (.mv (.c (.int .i64 2)))), [], [0, 1, 2, 17]⟩]) .ret) .skip))))))) (.seq (.seq (.region [⟨none, 22, (.val (.mv (.s 0))), [], [17]⟩, ⟨none, 23, (.val (.nc (.s 22))), [], [22]⟩, ⟨none, 24, (.val (.fa (.s 23) 0)), [], [23]⟩, ⟨none, 25, (.val (.ld (.s 24) none)), [], [24]⟩, ⟨none, 26, (.val (.lnl (.s 25) 1)), [], [25]⟩, ⟨none, 27, (.val (.mv (.c (.int .i64 0)))), [], []⟩]) (.block 1 (.loop (.seq (.region [⟨none, 28, (.val (.bin .lss (.s 27) (.s 26))), [], []⟩]) (.seq (.cond (.s 28) .skip (.exit 1)) (.seq (.block 2 (.seq (.region [⟨none, 29, (.val (.mv (.s 27))), [], [28]⟩, ⟨none, 7, (.val (.mv (.s 29))), [29], [29]⟩]) (.region [⟨none, 30, (.val (.mv (.s 0))), [], []⟩, ⟨none, 31, (.val (.mv (.s 1))), [], []⟩, ⟨none, 32, (.val (.mv (.s 7))), [7], [7]⟩, ⟨none, 33, (.val (.mv (.s 2))), [], []⟩, ⟨none, 34, (.call 16 [(.s 30), (.s 31), (.s 32), (.s 33)]), [], [30, 31, 32, 33, 34]⟩]))) (.region [⟨none, 35, (.val (.bin .add (.s 27) (.c (.int .i64 1)))), [], [27]⟩, ⟨none, 27, (.val (.mv (.s 35))), [35], [35]⟩]))))))) (.seq (.region [⟨none, 6, (.val (.mv (.c (.int .i64 0)))), [], [0, 1, 2, 26, 27, 28]⟩]) .ret))))
theorem ok18 : FnOk Try.prog 18 cc18 [6] 3 36 := ⟨⟨_, Try.func18, by kernel_rfl, by kernel_rfl, by kernel_rfl⟩, by decide, by decide, by decide⟩

/- watershed/bus.New -/
def cc13 : CC := (.seq (.region [⟨none, 2, (.val (.mv (.c (.pointer none)))), [], [2]⟩, ⟨none, 3, (.val (.mv (.c (.int .i64 0)))), [], [3]⟩]) (.seq (.seq (.region [⟨none, 5, (.val (.mv (.s 0))), [], []⟩, ⟨none, 6, (.val (.bin .lss (.s 5) (.c (.int .i64 1)))), [], [5]⟩, ⟨none, 7, (.val (.mv (.s 6))), [6], [6]⟩, ⟨(some (7, false)), 8, (.val (.mv (.s 0))), [], []⟩, ⟨(some (7, false)), 9, (.val (.bin .gtr (.s 8) (.c (.int .i64 8)))), [], [8]⟩, ⟨none, 10, (.val (.pick (.s 7) (.c (.bool true)) (.s 9))), [7, 9], [7, 9]⟩]) (.cond (.s 10) (.seq (.region [⟨none, 2, (.val (.mv (.c (.pointer none)))), [], [0, 10]⟩, ⟨none, 3, (.val (.mv (.c (.int .i64 1)))), [], []⟩]) .ret) .skip)) (.seq (.region [⟨none, 11, (.val (.bld [(.slice none 0 0)] [])), [], [10]⟩, ⟨none, 12, (.box 11), [], [11]⟩, ⟨none, 4, (.val (.mv (.s 12))), [12], [12]⟩]) (.seq (.seq (.region [⟨none, 13, (.val (.mv (.s 0))), [], []⟩, ⟨none, 14, (.val (.mv (.c (.int .i64 0)))), [], []⟩]) (.block 0 (.loop (.seq (.region [⟨none, 15, (.val (.bin .lss (.s 14) (.s 13))), [], []⟩]) (.seq (.cond (.s 15) .skip (.exit 0)) (.seq (.block 1 (.region [⟨none, 16, (.val (.mv (.s 4))), [], [15]⟩, ⟨none, 17, (.val (.mv (.s 4))), [], []⟩, ⟨none, 18, (.val (.nc (.s 17))), [], [17]⟩, ⟨none, 19, (.val (.fa (.s 18) 0)), [], [18]⟩, ⟨none, 20, (.val (.ld (.s 19) none)), [], [19]⟩, ⟨none, 21, (.val (.mv (.s 0))), [], []⟩, ⟨none, 22, (.mk (.s 21) (.s 21) (.agg #[(.slice none 0 0)]) 1 24), [], [21]⟩, ⟨none, 23, (.lit 1 [(.s 22)]), [], [22]⟩, ⟨none, 24, (.app 1 24 false (.s 20) (.s 23)), [], [20, 23]⟩, ⟨none, 25, (.val (.nc (.s 16))), [], [16]⟩, ⟨none, 26, (.val (.fa (.s 25) 0)), [], [25]⟩, ⟨none, 0, (.store 1 (.s 26) 24), [], [24, 26]⟩])) (.region [⟨none, 27, (.val (.bin .add (.s 14) (.c (.int .i64 1)))), [], [14]⟩, ⟨none, 14, (.val (.mv (.s 27))), [27], [27]⟩]))))))) (.seq (.region [⟨none, 28, (.val (.mv (.s 4))), [4], [0, 4, 13, 14, 15]⟩, ⟨none, 2, (.val (.mv (.s 28))), [28], [28]⟩, ⟨none, 3, (.val (.mv (.c (.int .i64 0)))), [], []⟩]) .ret)))))
theorem ok13 : FnOk Try.prog 13 cc13 [2, 3] 1 29 := ⟨⟨_, Try.func13, by kernel_rfl, by kernel_rfl, by kernel_rfl⟩, by decide, by decide, by decide⟩


structure BOk (m : BusM) : Prop where
  wf : Wf m
  n : m.length ≤ 8
  q : ∀ f t, (getQ m f t).length ≤ 512
theorem BOk.waits {m : BusM} (h : BOk m) (f t : Int) : waitsS m f t ≤ 512 := by
  unfold waitsS; split
  · exact h.q _ _
  · omega

theorem take_bus_c (F : List Fr) (k : Nat) (b : Base) (path : List Hop) (m : BusM) (hw : Wf m) (hn : nodeAt F k b path = some (busAV m)) (hin : inMem b path = true) (hrw : rwF F k = true) (f t : Int) :
    ACalls Try.prog 20 [.up (upN k (.ptr ⟨b, path, 0⟩)), .v (.int .i64 f), .v (.int .i64 t)] F (fun r F' => r = .tup [none, none] [.v (.string (headS m f t).1), .v (.int .i64 (headS m f t).2)] ∧ F' = updN F k b path (busAV (takeS m f t))) := by
  refine ok20.W rfl ?_
  refine W_own hn rfl ?_
  refine W_of_N [6, 7] hmix ?_
  simp only [cc20, AI0, AI1, AI2, AI3, AI4, AI5, AI6, AI7, AI8, AI9, reduceIte, reduceCtorEq, Nat.reduceAdd, Nat.reduceEqDiff, Nat.reduceBEq, Nat.reduceLT, Nat.reduceLeDiff, Nat.reduceMul, Nat.reduceSub, Int.reduceLE, Int.reduceLT, Int.reduceEq, Int.reduceBEq, Int.reduceBNe, Int.reduceToNat, Int.reduceNeg, upd_rules hn rfl, hin, hrw]
  refine (head_c _ (k + 1) b path m hw (updN_same hn rfl _) hin f t).mono ?_
  rintro _ _ - ⟨rfl, rfl⟩
  simp only [AI0, AI1, AI2, AI3, AI4, AI5, AI6, AI7, AI8, AI9, reduceIte, reduceCtorEq, Nat.reduceAdd, Nat.reduceEqDiff, Nat.reduceBEq, Nat.reduceLT, Nat.reduceLeDiff, Nat.reduceMul, Nat.reduceSub, Int.reduceLE, Int.reduceLT, Int.reduceEq, Int.reduceBEq, Int.reduceBNe, Int.reduceToNat, Int.reduceNeg]
  refine W_of_N [6, 7] hmix ?_
  cases h1 : inR m f t with
  | false => simp only [AI0, AI1, AI2, AI3, AI4, AI5, AI6, AI7, AI8, AI9, reduceIte, reduceCtorEq, Nat.reduceAdd, Nat.reduceEqDiff, Nat.reduceBEq, Nat.reduceLT, Nat.reduceLeDiff, Nat.reduceMul, Nat.reduceSub, Int.reduceLE, Int.reduceLT, Int.reduceEq, Int.reduceBEq, Int.reduceBNe, Int.reduceToNat, Int.reduceNeg, h1, headS, takeS]
  | true =>
    obtain ⟨l, r, e1, e2, e3, e4⟩ := inR_get hw h1
    cases hq : getQ m f.toNat t.toNat with
    | nil => simp only [AI0, AI1, AI2, AI3, AI4, AI5, AI6, AI7, AI8, AI9, reduceIte, reduceCtorEq, Nat.reduceAdd, Nat.reduceEqDiff, Nat.reduceBEq, Nat.reduceLT, Nat.reduceLeDiff, Nat.reduceMul, Nat.reduceSub, Int.reduceLE, Int.reduceLT, Int.reduceEq, Int.reduceBEq, Int.reduceBNe, Int.reduceToNat, Int.reduceNeg, h1, headS, takeS, hq]
    | cons x q =>
      rw [hq] at e4
      cases r with
      | none => simp at e4
      | some q' =>
      simp only [Option.getD_some] at e4
      subst e4
      simp only [AI0, AI1, AI2, AI3, AI4, AI5, AI6, AI7, AI8, AI9, reduceIte, reduceCtorEq, Nat.reduceAdd, Nat.reduceEqDiff, Nat.reduceBEq, Nat.reduceLT, Nat.reduceLeDiff, Nat.reduceMul, Nat.reduceSub, Int.reduceLE, Int.reduceLT, Int.reduceEq, Int.reduceBEq, Int.reduceBNe, Int.reduceToNat, Int.reduceNeg, h1, headS, takeS, hq]
      refine (row_c _ (k + 1) b path m hw (updN_same hn rfl _) hin f t).mono ?_
      rintro _ _ - ⟨rfl, rfl⟩
      simp only [AI0, AI1, AI2, AI3, AI4, AI5, AI6, AI7, AI8, AI9, reduceIte, reduceCtorEq, Nat.reduceAdd, Nat.reduceEqDiff, Nat.reduceBEq, Nat.reduceLT, Nat.reduceLeDiff, Nat.reduceMul, Nat.reduceSub, Int.reduceLE, Int.reduceLT, Int.reduceEq, Int.reduceBEq, Int.reduceBNe, Int.reduceToNat, Int.reduceNeg, h1]
      refine W_of_N [6, 7] hmix ?_
      simp only [AI0, AI1, AI2, AI3, AI4, AI5, AI6, AI7, AI8, AI9, reduceIte, reduceCtorEq, Nat.reduceAdd, Nat.reduceEqDiff, Nat.reduceBEq, Nat.reduceLT, Nat.reduceLeDiff, Nat.reduceMul, Nat.reduceSub, Int.reduceLE, Int.reduceLT, Int.reduceEq, Int.reduceBEq, Int.reduceBNe, Int.reduceToNat, Int.reduceNeg, h1]
      refine (take_c _ (k + 1) b ((0, t.toNat) :: (0, f.toNat) :: path) x q ?_ ?_ ?_).mono ?_
      · simp only [AI0, AI1, AI2, AI3, AI4, AI5, AI6, AI7, AI8, AI9, reduceIte, reduceCtorEq, Nat.reduceAdd, Nat.reduceEqDiff, Nat.reduceBEq, Nat.reduceLT, Nat.reduceLeDiff, Nat.reduceMul, Nat.reduceSub, Int.reduceLE, Int.reduceLT, Int.reduceEq, Int.reduceBEq, Int.reduceBNe, Int.reduceToNat, Int.reduceNeg, upd_rules hn rfl, busAV, e1, e2]
      · exact inMem_cons _ _ _
      · simp only [AI0, AI1, AI2, AI3, AI4, AI5, AI6, AI7, AI8, AI9, reduceIte, reduceCtorEq, Nat.reduceAdd, Nat.reduceEqDiff, Nat.reduceBEq, Nat.reduceLT, Nat.reduceLeDiff, Nat.reduceMul, Nat.reduceSub, Int.reduceLE, Int.reduceLT, Int.reduceEq, Int.reduceBEq, Int.reduceBNe, Int.reduceToNat, Int.reduceNeg, hrw]
      rintro _ _ - ⟨rfl, rfl⟩
      simp only [AI0, AI1, AI2, AI3, AI4, AI5, AI6, AI7, AI8, AI9, reduceIte, reduceCtorEq, Nat.reduceAdd, Nat.reduceEqDiff, Nat.reduceBEq, Nat.reduceLT, Nat.reduceLeDiff, Nat.reduceMul, Nat.reduceSub, Int.reduceLE, Int.reduceLT, Int.reduceEq, Int.reduceBEq, Int.reduceBNe, Int.reduceToNat, Int.reduceNeg, upd_rules hn rfl, busAV, e1, e2]
      refine W_of_N [6, 7] hmix ?_
      simp only [AI0, AI1, AI2, AI3, AI4, AI5, AI6, AI7, AI8, AI9, reduceIte, reduceCtorEq, Nat.reduceAdd, Nat.reduceEqDiff, Nat.reduceBEq, Nat.reduceLT, Nat.reduceLeDiff, Nat.reduceMul, Nat.reduceSub, Int.reduceLE, Int.reduceLT, Int.reduceEq, Int.reduceBEq, Int.reduceBNe, Int.reduceToNat, Int.reduceNeg, setQ, e1, e2, List.map_set]

def freeF (m : BusM) (f : Int) : Nat → Int
  | 0 => 512
  | i + 1 => if 512 - (waitsS m f i : Int) < freeF m f i then 512 - (waitsS m f i : Int) else freeF m f i
def freeS (m : BusM) (f : Int) : Int := if thereB m f = true then freeF m f m.length else 0

theorem free_c (F : List Fr) (k : Nat) (b : Base) (path : List Hop) (m : BusM) (hm : BOk m) (hn : nodeAt F k b path = some (busAV m)) (hin : inMem b path = true) (f : Int) :
    ACalls Try.prog 28 [.up (upN k (.ptr ⟨b, path, 0⟩)), .v (.int .i64 f)] F (fun r F' => r = .v (.int .i64 (freeS m f)) ∧ F' = F) := by
  have hw := hm.wf
  refine ok28.N hmix rfl ?_
  simp only [cc28, AI0, AI1, AI2, AI3, AI4, AI5, AI6, AI7, AI8, AI9, reduceIte, reduceCtorEq, Nat.reduceAdd, Nat.reduceEqDiff, Nat.reduceBEq, Nat.reduceLT, Nat.reduceLeDiff, Nat.reduceMul, Nat.reduceSub, Int.reduceLE, Int.reduceLT, Int.reduceEq, Int.reduceBEq, Int.reduceBNe, Int.reduceToNat, Int.reduceNeg]
  refine (there_c _ (k + 1) b path m hn hin f).mono ?_
  rintro _ _ - ⟨rfl, rfl⟩
  simp only [AI0, AI1, AI2, AI3, AI4, AI5, AI6, AI7, AI8, AI9, reduceIte, reduceCtorEq, Nat.reduceAdd, Nat.reduceEqDiff, Nat.reduceBEq, Nat.reduceLT, Nat.reduceLeDiff, Nat.reduceMul, Nat.reduceSub, Int.reduceLE, Int.reduceLT, Int.reduceEq, Int.reduceBEq, Int.reduceBNe, Int.reduceToNat, Int.reduceNeg]
  refine W_of_N [4] hmix ?_
  cases h1 : thereB m f with
  | false => simp only [AI0, AI1, AI2, AI3, AI4, AI5, AI6, AI7, AI8, AI9, reduceIte, reduceCtorEq, Nat.reduceAdd, Nat.reduceEqDiff, Nat.reduceBEq, Nat.reduceLT, Nat.reduceLeDiff, Nat.reduceMul, Nat.reduceSub, Int.reduceLE, Int.reduceLT, Int.reduceEq, Int.reduceBEq, Int.reduceBNe, Int.reduceToNat, Int.reduceNeg, h1, freeS]
  | true =>
    simp only [AI0, AI1, AI2, AI3, AI4, AI5, AI6, AI7, AI8, AI9, reduceIte, reduceCtorEq, Nat.reduceAdd, Nat.reduceEqDiff, Nat.reduceBEq, Nat.reduceLT, Nat.reduceLeDiff, Nat.reduceMul, Nat.reduceSub, Int.reduceLE, Int.reduceLT, Int.reduceEq, Int.reduceBEq, Int.reduceBNe, Int.reduceToNat, Int.reduceNeg, h1, hn, hin, busAV, freeS]
    refine W_loop (fun i : Nat => (⟨[(0, .up (upN k (.ptr ⟨b, path, 0⟩))), (1, .v (.int .i64 f)), (5, .v (.int .i64 (freeF m f i))), (15, .v (.int .i64 m.length)), (16, .v (.int .i64 i))], [], true⟩, F)) (fun i => i ≤ m.length) (fun i => m.length - i) ?_ ?_
    · exact Mid_of 0 (Nat.zero_le _) rfl rfl (by simp only [AI0, AI1, AI2, AI3, AI4, AI5, AI6, AI7, AI8, AI9, reduceIte, reduceCtorEq, Nat.reduceAdd, Nat.reduceEqDiff, Nat.reduceBEq, Nat.reduceLT, Nat.reduceLeDiff, Nat.reduceMul, Nat.reduceSub, Int.reduceLE, Int.reduceLT, Int.reduceEq, Int.reduceBEq, Int.reduceBNe, Int.reduceToNat, Int.reduceNeg, freeF]) trivial
    · intro i hi
      have hn8 := hm.n
      refine W_of_N [4] hmix ?_
      by_cases hlt : i < m.length
      · have hlt' : (i : Int) < m.length := by omega
        simp only [AI0, AI1, AI2, AI3, AI4, AI5, AI6, AI7, AI8, AI9, reduceIte, reduceCtorEq, Nat.reduceAdd, Nat.reduceEqDiff, Nat.reduceBEq, Nat.reduceLT, Nat.reduceLeDiff, Nat.reduceMul, Nat.reduceSub, Int.reduceLE, Int.reduceLT, Int.reduceEq, Int.reduceBEq, Int.reduceBNe, Int.reduceToNat, Int.reduceNeg, hlt']
        refine (waits_c _ (k + 1) b path m hw hn hin f i).mono ?_
        rintro _ _ - ⟨rfl, rfl⟩
        simp only [AI0, AI1, AI2, AI3, AI4, AI5, AI6, AI7, AI8, AI9, reduceIte, reduceCtorEq, Nat.reduceAdd, Nat.reduceEqDiff, Nat.reduceBEq, Nat.reduceLT, Nat.reduceLeDiff, Nat.reduceMul, Nat.reduceSub, Int.reduceLE, Int.reduceLT, Int.reduceEq, Int.reduceBEq, Int.reduceBNe, Int.reduceToNat, Int.reduceNeg]
        refine W_of_N [4] hmix ?_
        have hq := hm.waits f i
        simp only [AI0, AI1, AI2, AI3, AI4, AI5, AI6, AI7, AI8, AI9, reduceIte, reduceCtorEq, Nat.reduceAdd, Nat.reduceEqDiff, Nat.reduceBEq, Nat.reduceLT, Nat.reduceLeDiff, Nat.reduceMul, Nat.reduceSub, Int.reduceLE, Int.reduceLT, Int.reduceEq, Int.reduceBEq, Int.reduceBNe, Int.reduceToNat, Int.reduceNeg, wrap_i64 (x := 512 - (waitsS m f i : Int)) (by omega) (by omega), wrap_i64 (x := (i : Int) + 1) (by omega) (by omega)]
        exact Mid_of (i + 1) ⟨by omega, by omega⟩ rfl rfl (by simp only [AI0, AI1, AI2, AI3, AI4, AI5, AI6, AI7, AI8, AI9, reduceIte, reduceCtorEq, Nat.reduceAdd, Nat.reduceEqDiff, Nat.reduceBEq, Nat.reduceLT, Nat.reduceLeDiff, Nat.reduceMul, Nat.reduceSub, Int.reduceLE, Int.reduceLT, Int.reduceEq, Int.reduceBEq, Int.reduceBNe, Int.reduceToNat, Int.reduceNeg, freeF, Int.natCast_add, Int.natCast_one]) trivial
      · have hlt' : ¬ ((i : Int) < m.length) := by omega
        obtain rfl : i = m.length := by omega
        simp only [AI0, AI1, AI2, AI3, AI4, AI5, AI6, AI7, AI8, AI9, reduceIte, reduceCtorEq, Nat.reduceAdd, Nat.reduceEqDiff, Nat.reduceBEq, Nat.reduceLT, Nat.reduceLeDiff, Nat.reduceMul, Nat.reduceSub, Int.reduceLE, Int.reduceLT, Int.reduceEq, Int.reduceBEq, Int.reduceBNe, Int.reduceToNat, Int.reduceNeg, hlt', Int.lt_irrefl]
end Go.Proofs.Ythlehngbadianaa.Ai
set_option linter.unusedVariables false
set_option linter.unusedSimpArgs false
set_option maxRecDepth 100000
namespace Go.Proofs.Ythlehngbadianaa.Ai
open Go Go.RowKit Go.Proofs

def rowSum (m : BusM) (i : Nat) : Nat → Nat
  | 0 => 0
  | j + 1 => rowSum m i j + waitsS m i j
def totF (m : BusM) : Nat → Nat
  | 0 => 0
  | i + 1 => totF m i + rowSum m i m.length
def totalS (m : BusM) : Nat := totF m m.length
theorem BOk.rowSum {m : BusM} (h : BOk m) (i : Nat) : ∀ j, Ai.rowSum m i j ≤ 512 * j
  | 0 => by simp [Ai.rowSum]
  | j + 1 => by have := h.rowSum i j; have := h.waits i j; simp only [Ai.rowSum]; omega
theorem BOk.totF {m : BusM} (h : BOk m) : ∀ i, Ai.totF m i ≤ 4096 * i
  | 0 => by simp [Ai.totF]
  | i + 1 => by have := h.totF i; have := h.rowSum i m.length; have := h.n; simp only [Ai.totF]; omega

theorem total_c (F : List Fr) (k : Nat) (b : Base) (path : List Hop) (m : BusM) (hm : BOk m) (hn : nodeAt F k b path = some (busAV m)) (hin : inMem b path = true) :
    ACalls Try.prog 26 [.up (upN k (.ptr ⟨b, path, 0⟩))] F (fun r F' => r = .v (.int .i64 (totalS m)) ∧ F' = F) := by
  have hw := hm.wf
  have hn8 := hm.n
  refine ok26.N hmix rfl ?_
  simp only [cc26, AI0, AI1, AI2, AI3, AI4, AI5, AI6, AI7, AI8, AI9, reduceIte, reduceCtorEq, Nat.reduceAdd, Nat.reduceEqDiff, Nat.reduceBEq, Nat.reduceLT, Nat.reduceLeDiff, Nat.reduceMul, Nat.reduceSub, Int.reduceLE, Int.reduceLT, Int.reduceEq, Int.reduceBEq, Int.reduceBNe, Int.reduceToNat, Int.reduceNeg, hn, hin, busAV]
  refine W_loop (fun i : Nat => (⟨[(0, .up (upN k (.ptr ⟨b, path, 0⟩))), (3, .v (.int .i64 (totF m i))), (10, .v (.int .i64 m.length)), (11, .v (.int .i64 i))], [], true⟩, F)) (fun i => i ≤ m.length) (fun i => m.length - i) ?_ ?_
  · exact Mid_of 0 (Nat.zero_le _) rfl rfl (by simp only [AI0, AI1, AI2, AI3, AI4, AI5, AI6, AI7, AI8, AI9, reduceIte, reduceCtorEq, Nat.reduceAdd, Nat.reduceEqDiff, Nat.reduceBEq, Nat.reduceLT, Nat.reduceLeDiff, Nat.reduceMul, Nat.reduceSub, Int.reduceLE, Int.reduceLT, Int.reduceEq, Int.reduceBEq, Int.reduceBNe, Int.reduceToNat, Int.reduceNeg, totF]) trivial
  intro i hi
  refine W_of_N [2] hmix ?_
  by_cases hlt : i < m.length
  · have hlt' : (i : Int) < m.length := by omega
    simp only [AI0, AI1, AI2, AI3, AI4, AI5, AI6, AI7, AI8, AI9, reduceIte, reduceCtorEq, Nat.reduceAdd, Nat.reduceEqDiff, Nat.reduceBEq, Nat.reduceLT, Nat.reduceLeDiff, Nat.reduceMul, Nat.reduceSub, Int.reduceLE, Int.reduceLT, Int.reduceEq, Int.reduceBEq, Int.reduceBNe, Int.reduceToNat, Int.reduceNeg, hlt', hn, hin, busAV]
    refine W_loop (fun j : Nat => (⟨[(0, .up (upN k (.ptr ⟨b, path, 0⟩))), (3, .v (.int .i64 ((totF m i + rowSum m i j : Nat) : Int))), (4, .v (.int .i64 i)), (10, .v (.int .i64 m.length)), (11, .v (.int .i64 i)), (18, .v (.int .i64 m.length)), (19, .v (.int .i64 j))], [], true⟩, F)) (fun j => j ≤ m.length) (fun j => m.length - j) ?_ ?_
    · exact Mid_of 0 (Nat.zero_le _) rfl rfl (by simp only [AI0, AI1, AI2, AI3, AI4, AI5, AI6, AI7, AI8, AI9, reduceIte, reduceCtorEq, Nat.reduceAdd, Nat.reduceEqDiff, Nat.reduceBEq, Nat.reduceLT, Nat.reduceLeDiff, Nat.reduceMul, Nat.reduceSub, Int.reduceLE, Int.reduceLT, Int.reduceEq, Int.reduceBEq, Int.reduceBNe, Int.reduceToNat, Int.reduceNeg, rowSum]) trivial
    intro j hj
    refine W_of_N [2] hmix ?_
    have q1 := hm.totF i
    have q2 := hm.rowSum i j
    have q3 := hm.waits i j
    by_cases hjt : j < m.length
    · have hjt' : (j : Int) < m.length := by omega
      simp only [AI0, AI1, AI2, AI3, AI4, AI5, AI6, AI7, AI8, AI9, reduceIte, reduceCtorEq, Nat.reduceAdd, Nat.reduceEqDiff, Nat.reduceBEq, Nat.reduceLT, Nat.reduceLeDiff, Nat.reduceMul, Nat.reduceSub, Int.reduceLE, Int.reduceLT, Int.reduceEq, Int.reduceBEq, Int.reduceBNe, Int.reduceToNat, Int.reduceNeg, hjt']
      refine (waits_c _ (k + 1) b path m hw hn hin i j).mono ?_
      rintro _ _ - ⟨rfl, rfl⟩
      simp only [AI0, AI1, AI2, AI3, AI4, AI5, AI6, AI7, AI8, AI9, reduceIte, reduceCtorEq, Nat.reduceAdd, Nat.reduceEqDiff, Nat.reduceBEq, Nat.reduceLT, Nat.reduceLeDiff, Nat.reduceMul, Nat.reduceSub, Int.reduceLE, Int.reduceLT, Int.reduceEq, Int.reduceBEq, Int.reduceBNe, Int.reduceToNat, Int.reduceNeg]
      refine W_of_N [2] hmix ?_
      simp only [AI0, AI1, AI2, AI3, AI4, AI5, AI6, AI7, AI8, AI9, reduceIte, reduceCtorEq, Nat.reduceAdd, Nat.reduceEqDiff, Nat.reduceBEq, Nat.reduceLT, Nat.reduceLeDiff, Nat.reduceMul, Nat.reduceSub, Int.reduceLE, Int.reduceLT, Int.reduceEq, Int.reduceBEq, Int.reduceBNe, Int.reduceToNat, Int.reduceNeg, wrap_i64 (x := ((totF m i + rowSum m i j : Nat) : Int) + (waitsS m i j : Int)) (by omega) (by omega), wrap_i64 (x := (j : Int) + 1) (by omega) (by omega)]
      exact Mid_of (j + 1) ⟨by omega, by omega⟩ rfl rfl (by simp only [AI0, AI1, AI2, AI3, AI4, AI5, AI6, AI7, AI8, AI9, reduceIte, reduceCtorEq, Nat.reduceAdd, Nat.reduceEqDiff, Nat.reduceBEq, Nat.reduceLT, Nat.reduceLeDiff, Nat.reduceMul, Nat.reduceSub, Int.reduceLE, Int.reduceLT, Int.reduceEq, Int.reduceBEq, Int.reduceBNe, Int.reduceToNat, Int.reduceNeg, rowSum, Int.natCast_add, Int.natCast_one, Int.add_assoc]) trivial
    · have hjt' : ¬ ((j : Int) < m.length) := by omega
      obtain rfl : j = m.length := by omega
      simp only [AI0, AI1, AI2, AI3, AI4, AI5, AI6, AI7, AI8, AI9, reduceIte, reduceCtorEq, Nat.reduceAdd, Nat.reduceEqDiff, Nat.reduceBEq, Nat.reduceLT, Nat.reduceLeDiff, Nat.reduceMul, Nat.reduceSub, Int.reduceLE, Int.reduceLT, Int.reduceEq, Int.reduceBEq, Int.reduceBNe, Int.reduceToNat, Int.reduceNeg, hjt', Int.lt_irrefl, wrap_i64 (x := (i : Int) + 1) (by omega) (by omega)]
      exact Mid_of (i + 1) ⟨by omega, by omega⟩ rfl rfl (by simp only [AI0, AI1, AI2, AI3, AI4, AI5, AI6, AI7, AI8, AI9, reduceIte, reduceCtorEq, Nat.reduceAdd, Nat.reduceEqDiff, Nat.reduceBEq, Nat.reduceLT, Nat.reduceLeDiff, Nat.reduceMul, Nat.reduceSub, Int.reduceLE, Int.reduceLT, Int.reduceEq, Int.reduceBEq, Int.reduceBNe, Int.reduceToNat, Int.reduceNeg, totF, Int.natCast_add, Int.natCast_one]) trivial
  · have hlt' : ¬ ((i : Int) < m.length) := by omega
    obtain rfl : i = m.length := by omega
    simp only [AI0, AI1, AI2, AI3, AI4, AI5, AI6, AI7, AI8, AI9, reduceIte, reduceCtorEq, Nat.reduceAdd, Nat.reduceEqDiff, Nat.reduceBEq, Nat.reduceLT, Nat.reduceLeDiff, Nat.reduceMul, Nat.reduceSub, Int.reduceLE, Int.reduceLT, Int.reduceEq, Int.reduceBEq, Int.reduceBNe, Int.reduceToNat, Int.reduceNeg, hlt', Int.lt_irrefl, totalS]

/-- All -/
def allF (m : BusM) (f : Int) (s : ByteArray) : Nat → BusM
  | 0 => m
  | i + 1 => (sendS (allF m f s i) f i s).2
def allS (m : BusM) (f : Int) (s : ByteArray) : Int × BusM :=
  if thereB m f = false then (1, m) else if 8192 < s.size then (7, m) else if freeS m f = 0 then (2, m) else (0, allF m f s m.length)

theorem setQ_length (m : BusM) (f t : Nat) (q : List ByteArray) : (setQ m f t q).length = m.length := by simp [setQ]
theorem getQ_setQ {m : BusM} {f t : Nat} {l : List (Option (List ByteArray))} (h : m[f]? = some l) (ht : t < l.length) (q : List ByteArray) (f' t' : Nat) : getQ (setQ m f t q) f' t' = if f' = f ∧ t' = t then q else getQ m f' t' := by
  have hf : f < m.length := (List.getElem?_eq_some_iff.1 h).1
  simp only [getQ, getR, setQ, h, Option.getD_some]
  by_cases e1 : f' = f
  · subst e1
    simp only [List.getElem?_set_self hf, Option.getD_some, h, true_and]
    by_cases e2 : t' = t
    · subst e2; simp [List.getElem?_set_self ht]
    · simp [List.getElem?_set_ne (Ne.symm e2), e2]
  · simp [List.getElem?_set_ne (Ne.symm e1), e1]
theorem Wf.setQ {m : BusM} (h : Wf m) {f t : Nat} (hf : f < m.length) (q : List ByteArray) : Wf (setQ m f t q) := by
  intro l hl
  rw [setQ_length]
  have e : m[f]? = some m[f] := List.getElem?_eq_getElem hf
  simp only [Ai.setQ, e, Option.getD_some] at hl
  rcases List.mem_or_eq_of_mem_set hl with h1 | h1
  · exact h _ h1
  · rw [h1, List.length_set]; exact h.get hf
theorem BOk.setQ {m : BusM} (h : BOk m) {f t : Int} (hr : inR m f t = true) {q : List ByteArray} (hq : q.length ≤ 512) : BOk (Ai.setQ m f.toNat t.toNat q) := by
  obtain ⟨l, r, e1, e2, e3, e4⟩ := inR_get h.wf hr
  refine ⟨h.wf.setQ (List.getElem?_eq_some_iff.1 e1).1 q, by rw [setQ_length]; exact h.n, ?_⟩
  intro f' t'
  rw [getQ_setQ e1 (List.getElem?_eq_some_iff.1 e2).1]
  split
  · exact hq
  · exact h.q _ _
theorem BOk.send {m : BusM} (h : BOk m) (f t : Int) (s : ByteArray) : BOk (sendS m f t s).2 := by
  unfold sendS
  split
  · exact h
  · rename_i h1
    split
    · exact h
    · split
      · exact h
      · exact h.setQ (by simpa using h1) (by simp; omega)
theorem sendS_length (m : BusM) (f t : Int) (s : ByteArray) : (sendS m f t s).2.length = m.length := by
  unfold sendS
  repeat' split
  all_goals first | rfl | exact setQ_length _ _ _ _
theorem allF_ok {m : BusM} (h : BOk m) (f : Int) (s : ByteArray) : ∀ i, BOk (allF m f s i) ∧ (allF m f s i).length = m.length
  | 0 => ⟨h, rfl⟩
  | i + 1 => ⟨(allF_ok h f s i).1.send _ _ _, by rw [allF, sendS_length]; exact (allF_ok h f s i).2⟩

theorem all_c (F : List Fr) (k : Nat) (b : Base) (path : List Hop) (m : BusM) (hm : BOk m) (hn : nodeAt F k b path = some (busAV m)) (hin : inMem b path = true) (hrw : rwF F k = true) (f : Int) (s : ByteArray) :
    ACalls Try.prog 18 [.up (upN k (.ptr ⟨b, path, 0⟩)), .v (.int .i64 f), .v (.string s)] F (fun r F' => r = .v (.int .i64 (allS m f s).1) ∧ F' = updN F k b path (busAV (allS m f s).2)) := by
  have hw := hm.wf
  have hn8 := hm.n
  refine ok18.W rfl ?_
  refine W_own hn rfl ?_
  refine W_of_N [6] hmix ?_
  simp only [cc18, AI0, AI1, AI2, AI3, AI4, AI5, AI6, AI7, AI8, AI9, reduceIte, reduceCtorEq, Nat.reduceAdd, Nat.reduceEqDiff, Nat.reduceBEq, Nat.reduceLT, Nat.reduceLeDiff, Nat.reduceMul, Nat.reduceSub, Int.reduceLE, Int.reduceLT, Int.reduceEq, Int.reduceBEq, Int.reduceBNe, Int.reduceToNat, Int.reduceNeg, upd_rules hn rfl, hin, hrw]
  refine (there_c _ (k + 1) b path m (updN_same hn rfl _) hin f).mono ?_
  rintro _ _ - ⟨rfl, rfl⟩
  simp only [AI0, AI1, AI2, AI3, AI4, AI5, AI6, AI7, AI8, AI9, reduceIte, reduceCtorEq, Nat.reduceAdd, Nat.reduceEqDiff, Nat.reduceBEq, Nat.reduceLT, Nat.reduceLeDiff, Nat.reduceMul, Nat.reduceSub, Int.reduceLE, Int.reduceLT, Int.reduceEq, Int.reduceBEq, Int.reduceBNe, Int.reduceToNat, Int.reduceNeg]
  refine W_of_N [6] hmix ?_
  cases h1 : thereB m f with
  | false => simp only [AI0, AI1, AI2, AI3, AI4, AI5, AI6, AI7, AI8, AI9, reduceIte, reduceCtorEq, Nat.reduceAdd, Nat.reduceEqDiff, Nat.reduceBEq, Nat.reduceLT, Nat.reduceLeDiff, Nat.reduceMul, Nat.reduceSub, Int.reduceLE, Int.reduceLT, Int.reduceEq, Int.reduceBEq, Int.reduceBNe, Int.reduceToNat, Int.reduceNeg, h1, allS]
  | true =>
    by_cases h2 : 8192 < s.size
    · have h2' : (8192 : Int) < s.size := by omega
      simp only [AI0, AI1, AI2, AI3, AI4, AI5, AI6, AI7, AI8, AI9, reduceIte, reduceCtorEq, Nat.reduceAdd, Nat.reduceEqDiff, Nat.reduceBEq, Nat.reduceLT, Nat.reduceLeDiff, Nat.reduceMul, Nat.reduceSub, Int.reduceLE, Int.reduceLT, Int.reduceEq, Int.reduceBEq, Int.reduceBNe, Int.reduceToNat, Int.reduceNeg, h1, h2, h2', allS]
    have h2' : ¬ ((8192 : Int) < s.size) := by omega
    simp only [AI0, AI1, AI2, AI3, AI4, AI5, AI6, AI7, AI8, AI9, reduceIte, reduceCtorEq, Nat.reduceAdd, Nat.reduceEqDiff, Nat.reduceBEq, Nat.reduceLT, Nat.reduceLeDiff, Nat.reduceMul, Nat.reduceSub, Int.reduceLE, Int.reduceLT, Int.reduceEq, Int.reduceBEq, Int.reduceBNe, Int.reduceToNat, Int.reduceNeg, h1, h2, h2', allS]
    refine (free_c _ (k + 1) b path m hm (updN_same hn rfl _) hin f).mono ?_
    rintro _ _ - ⟨rfl, rfl⟩
    simp only [AI0, AI1, AI2, AI3, AI4, AI5, AI6, AI7, AI8, AI9, reduceIte, reduceCtorEq, Nat.reduceAdd, Nat.reduceEqDiff, Nat.reduceBEq, Nat.reduceLT, Nat.reduceLeDiff, Nat.reduceMul, Nat.reduceSub, Int.reduceLE, Int.reduceLT, Int.reduceEq, Int.reduceBEq, Int.reduceBNe, Int.reduceToNat, Int.reduceNeg]
    refine W_of_N [6] hmix ?_
    by_cases h3 : freeS m f = 0
    · simp only [AI0, AI1, AI2, AI3, AI4, AI5, AI6, AI7, AI8, AI9, reduceIte, reduceCtorEq, Nat.reduceAdd, Nat.reduceEqDiff, Nat.reduceBEq, Nat.reduceLT, Nat.reduceLeDiff, Nat.reduceMul, Nat.reduceSub, Int.reduceLE, Int.reduceLT, Int.reduceEq, Int.reduceBEq, Int.reduceBNe, Int.reduceToNat, Int.reduceNeg, h3]
    have h3' : (freeS m f == 0) = false := by simpa using h3
    simp only [AI0, AI1, AI2, AI3, AI4, AI5, AI6, AI7, AI8, AI9, reduceIte, reduceCtorEq, Nat.reduceAdd, Nat.reduceEqDiff, Nat.reduceBEq, Nat.reduceLT, Nat.reduceLeDiff, Nat.reduceMul, Nat.reduceSub, Int.reduceLE, Int.reduceLT, Int.reduceEq, Int.reduceBEq, Int.reduceBNe, Int.reduceToNat, Int.reduceNeg, h3, h3', upd_rules hn rfl, hin, busAV]
    refine W_loop (fun i : Nat => (⟨[(0, .up (upN k (.ptr ⟨b, path, 0⟩))), (1, .v (.int .i64 f)), (2, .v (.string s)), (26, .v (.int .i64 m.length)), (27, .v (.int .i64 i))], [], true⟩, updN F k b path (busAV (allF m f s i)))) (fun i => i ≤ m.length) (fun i => m.length - i) ?_ ?_
    · exact Mid_of 0 (Nat.zero_le _) rfl rfl (by simp only [AI0, AI1, AI2, AI3, AI4, AI5, AI6, AI7, AI8, AI9, reduceIte, reduceCtorEq, Nat.reduceAdd, Nat.reduceEqDiff, Nat.reduceBEq, Nat.reduceLT, Nat.reduceLeDiff, Nat.reduceMul, Nat.reduceSub, Int.reduceLE, Int.reduceLT, Int.reduceEq, Int.reduceBEq, Int.reduceBNe, Int.reduceToNat, Int.reduceNeg, freeF]) trivial
    intro i hi
    obtain ⟨k1, k2⟩ := allF_ok hm f s i
    refine W_of_N [6] hmix ?_
    by_cases hlt : i < m.length
    · have hlt' : (i : Int) < m.length := by omega
      simp only [AI0, AI1, AI2, AI3, AI4, AI5, AI6, AI7, AI8, AI9, reduceIte, reduceCtorEq, Nat.reduceAdd, Nat.reduceEqDiff, Nat.reduceBEq, Nat.reduceLT, Nat.reduceLeDiff, Nat.reduceMul, Nat.reduceSub, Int.reduceLE, Int.reduceLT, Int.reduceEq, Int.reduceBEq, Int.reduceBNe, Int.reduceToNat, Int.reduceNeg, hlt']
      refine (send_c _ (k + 1) b path (allF m f s i) k1.wf (updN_same hn rfl _) hin (by simp only [AI0, AI1, AI2, AI3, AI4, AI5, AI6, AI7, AI8, AI9, reduceIte, reduceCtorEq, Nat.reduceAdd, Nat.reduceEqDiff, Nat.reduceBEq, Nat.reduceLT, Nat.reduceLeDiff, Nat.reduceMul, Nat.reduceSub, Int.reduceLE, Int.reduceLT, Int.reduceEq, Int.reduceBEq, Int.reduceBNe, Int.reduceToNat, Int.reduceNeg, hrw]) f i s).mono ?_
      rintro _ _ - ⟨rfl, rfl⟩
      simp only [AI0, AI1, AI2, AI3, AI4, AI5, AI6, AI7, AI8, AI9, reduceIte, reduceCtorEq, Nat.reduceAdd, Nat.reduceEqDiff, Nat.reduceBEq, Nat.reduceLT, Nat.reduceLeDiff, Nat.reduceMul, Nat.reduceSub, Int.reduceLE, Int.reduceLT, Int.reduceEq, Int.reduceBEq, Int.reduceBNe, Int.reduceToNat, Int.reduceNeg, upd_rules hn rfl, busAV]
      refine W_of_N [6] hmix ?_
      simp only [AI0, AI1, AI2, AI3, AI4, AI5, AI6, AI7, AI8, AI9, reduceIte, reduceCtorEq, Nat.reduceAdd, Nat.reduceEqDiff, Nat.reduceBEq, Nat.reduceLT, Nat.reduceLeDiff, Nat.reduceMul, Nat.reduceSub, Int.reduceLE, Int.reduceLT, Int.reduceEq, Int.reduceBEq, Int.reduceBNe, Int.reduceToNat, Int.reduceNeg, wrap_i64 (x := (i : Int) + 1) (by omega) (by omega)]
      exact Mid_of (i + 1) ⟨by omega, by omega⟩ rfl rfl (by simp only [AI0, AI1, AI2, AI3, AI4, AI5, AI6, AI7, AI8, AI9, reduceIte, reduceCtorEq, Nat.reduceAdd, Nat.reduceEqDiff, Nat.reduceBEq, Nat.reduceLT, Nat.reduceLeDiff, Nat.reduceMul, Nat.reduceSub, Int.reduceLE, Int.reduceLT, Int.reduceEq, Int.reduceBEq, Int.reduceBNe, Int.reduceToNat, Int.reduceNeg, Int.natCast_add, Int.natCast_one]) trivial
    · have hlt' : ¬ ((i : Int) < m.length) := by omega
      obtain rfl : i = m.length := by omega
      simp only [AI0, AI1, AI2, AI3, AI4, AI5, AI6, AI7, AI8, AI9, reduceIte, reduceCtorEq, Nat.reduceAdd, Nat.reduceEqDiff, Nat.reduceBEq, Nat.reduceLT, Nat.reduceLeDiff, Nat.reduceMul, Nat.reduceSub, Int.reduceLE, Int.reduceLT, Int.reduceEq, Int.reduceBEq, Int.reduceBNe, Int.reduceToNat, Int.reduceNeg, hlt', Int.lt_irrefl, busAV]
end Go.Proofs.Ythlehngbadianaa.Ai
set_option linter.unusedVariables false
set_option linter.unusedSimpArgs false
set_option maxRecDepth 100000
namespace Go.Proofs.Ythlehngbadianaa.Ai
open Go Go.RowKit Go.Proofs

def newM (n i : Nat) : BusM := List.replicate i (List.replicate n none)
def rowsC (n : Nat) : Nat → AV
  | 0 => .v (.slice none 0 0)
  | i + 1 => .own 1 ((newM n (i + 1)).map fun l => .own 1 (l.map fun r => .agg [rowC r]))
theorem rowsC_zero (n : Nat) : rowsC n 0 = .v (.slice none 0 0) := rfl
theorem rowsC_succ (n i : Nat) : rowsC n (i + 1) = .own 1 ((newM n (i + 1)).map fun l => .own 1 (l.map fun r => .agg [rowC r])) := rfl
theorem new_c (F : List Fr) (n : Int) :
    ACalls Try.prog 13 [.v (.int .i64 n)] F (fun r F' => r = (if 1 ≤ n ∧ n ≤ 8 then .tup [none, none] [.obj (busAV (newM n.toNat n.toNat)), .v (.int .i64 0)] else .tup [none, none] [.v (.pointer none), .v (.int .i64 1)]) ∧ F' = F) := by
  refine ok13.N hmix rfl ?_
  simp only [cc13, AI0, AI1, AI2, AI3, AI4, AI5, AI6, AI7, AI8, AI9, reduceIte, reduceCtorEq, Nat.reduceAdd, Nat.reduceEqDiff, Nat.reduceBEq, Nat.reduceLT, Nat.reduceLeDiff, Nat.reduceMul, Nat.reduceSub, Int.reduceLE, Int.reduceLT, Int.reduceEq, Int.reduceBEq, Int.reduceBNe, Int.reduceToNat, Int.reduceNeg]
  by_cases h1 : n < 1
  · have h1' : ¬ (1 ≤ n) := by omega
    simp only [AI0, AI1, AI2, AI3, AI4, AI5, AI6, AI7, AI8, AI9, reduceIte, reduceCtorEq, Nat.reduceAdd, Nat.reduceEqDiff, Nat.reduceBEq, Nat.reduceLT, Nat.reduceLeDiff, Nat.reduceMul, Nat.reduceSub, Int.reduceLE, Int.reduceLT, Int.reduceEq, Int.reduceBEq, Int.reduceBNe, Int.reduceToNat, Int.reduceNeg, h1, h1']
  have h1' : 1 ≤ n := by omega
  by_cases h2 : 8 < n
  · have h2' : ¬ (n ≤ 8) := by omega
    simp only [AI0, AI1, AI2, AI3, AI4, AI5, AI6, AI7, AI8, AI9, reduceIte, reduceCtorEq, Nat.reduceAdd, Nat.reduceEqDiff, Nat.reduceBEq, Nat.reduceLT, Nat.reduceLeDiff, Nat.reduceMul, Nat.reduceSub, Int.reduceLE, Int.reduceLT, Int.reduceEq, Int.reduceBEq, Int.reduceBNe, Int.reduceToNat, Int.reduceNeg, h1, h1', h2, h2']
  have h2' : n ≤ 8 := by omega
  obtain ⟨k, rfl⟩ : ∃ k : Nat, n = k := ⟨n.toNat, by omega⟩
  simp only [AI0, AI1, AI2, AI3, AI4, AI5, AI6, AI7, AI8, AI9, reduceIte, reduceCtorEq, Nat.reduceAdd, Nat.reduceEqDiff, Nat.reduceBEq, Nat.reduceLT, Nat.reduceLeDiff, Nat.reduceMul, Nat.reduceSub, Int.reduceLE, Int.reduceLT, Int.reduceEq, Int.reduceBEq, Int.reduceBNe, Int.reduceToNat, Int.reduceNeg, h1, h1', h2, h2']
  refine W_loop (fun i : Nat => (⟨[(0, .v (.int .i64 k)), (4, .obj (.agg [rowsC k i])), (13, .v (.int .i64 k)), (14, .v (.int .i64 i))], [], true⟩, F)) (fun i => i ≤ k) (fun i => k - i) ?_ ?_
  · exact Mid_of 0 (Nat.zero_le _) rfl rfl (by simp only [AI0, AI1, AI2, AI3, AI4, AI5, AI6, AI7, AI8, AI9, reduceIte, reduceCtorEq, Nat.reduceAdd, Nat.reduceEqDiff, Nat.reduceBEq, Nat.reduceLT, Nat.reduceLeDiff, Nat.reduceMul, Nat.reduceSub, Int.reduceLE, Int.reduceLT, Int.reduceEq, Int.reduceBEq, Int.reduceBNe, Int.reduceToNat, Int.reduceNeg, rowsC]) trivial
  intro i hi
  refine W_of_N [2, 3] hmix ?_
  by_cases hlt : i < k
  · have hlt' : (i : Int) < k := by omega
    have a1 : (0 : Int) ≤ k := by omega
    have a0 : (0 : Int) < k := by omega
    have a2 : (24 : Int) * k ≤ 281474976710656 := by omega
    have a3 : (k : Int) ≤ 9223372036854775807 := by omega
    cases i with
    | zero =>
      simp only [AI0, AI1, AI2, AI3, AI4, AI5, AI6, AI7, AI8, AI9, reduceIte, reduceCtorEq, Nat.reduceAdd, Nat.reduceEqDiff, Nat.reduceBEq, Nat.reduceLT, Nat.reduceLeDiff, Nat.reduceMul, Nat.reduceSub, Int.reduceLE, Int.reduceLT, Int.reduceEq, Int.reduceBEq, Int.reduceBNe, Int.reduceToNat, Int.reduceNeg, hlt', rowsC_zero, rowsC_succ, a0, a1, a2, a3, wrap_i64 (x := 0 + 1) (by omega) (by omega)]
      refine Mid_of 1 ⟨by omega, by omega⟩ rfl rfl ?_ trivial
      simp only [AI0, AI1, AI2, AI3, AI4, AI5, AI6, AI7, AI8, AI9, reduceIte, reduceCtorEq, Nat.reduceAdd, Nat.reduceEqDiff, Nat.reduceBEq, Nat.reduceLT, Nat.reduceLeDiff, Nat.reduceMul, Nat.reduceSub, Int.reduceLE, Int.reduceLT, Int.reduceEq, Int.reduceBEq, Int.reduceBNe, Int.reduceToNat, Int.reduceNeg, rowsC_succ, newM, List.replicate_succ, List.replicate_zero, List.map_replicate, rowC]
      simp
    | succ i =>
      have a4 : ((newM k (i + 1)).length + 1) * 24 ≤ 140737488355328 := by simp [newM]; omega
      have a5 : (newM k (i + 1)).length ≤ 9223372036854775806 := by simp [newM]; omega
      simp only [AI0, AI1, AI2, AI3, AI4, AI5, AI6, AI7, AI8, AI9, reduceIte, reduceCtorEq, Nat.reduceAdd, Nat.reduceEqDiff, Nat.reduceBEq, Nat.reduceLT, Nat.reduceLeDiff, Nat.reduceMul, Nat.reduceSub, Int.reduceLE, Int.reduceLT, Int.reduceEq, Int.reduceBEq, Int.reduceBNe, Int.reduceToNat, Int.reduceNeg, hlt', rowsC_zero, rowsC_succ, a0, a1, a2, a3, a4, a5, wrap_i64 (x := ((i + 1 : Nat) : Int) + 1) (by omega) (by omega)]
      refine Mid_of (i + 2) ⟨by omega, by omega⟩ rfl rfl ?_ trivial
      have e : newM k (i + 2) = newM k (i + 1) ++ [List.replicate k none] := by simp only [newM]; rw [List.replicate_succ']
      simp only [AI0, AI1, AI2, AI3, AI4, AI5, AI6, AI7, AI8, AI9, reduceIte, reduceCtorEq, Nat.reduceAdd, Nat.reduceEqDiff, Nat.reduceBEq, Nat.reduceLT, Nat.reduceLeDiff, Nat.reduceMul, Nat.reduceSub, Int.reduceLE, Int.reduceLT, Int.reduceEq, Int.reduceBEq, Int.reduceBNe, Int.reduceToNat, Int.reduceNeg, rowsC_succ, e, List.map_append, List.map_replicate, rowC]
      simp
      omega
  · have hlt' : ¬ ((i : Int) < k) := by omega
    obtain rfl : i = k := by omega
    simp only [AI0, AI1, AI2, AI3, AI4, AI5, AI6, AI7, AI8, AI9, reduceIte, reduceCtorEq, Nat.reduceAdd, Nat.reduceEqDiff, Nat.reduceBEq, Nat.reduceLT, Nat.reduceLeDiff, Nat.reduceMul, Nat.reduceSub, Int.reduceLE, Int.reduceLT, Int.reduceEq, Int.reduceBEq, Int.reduceBNe, Int.reduceToNat, Int.reduceNeg, hlt', Int.lt_irrefl]
    cases i with
    | zero => omega
    | succ i => rfl
end Go.Proofs.Ythlehngbadianaa.Ai
set_option linter.unusedVariables false
set_option linter.unusedSimpArgs false
set_option maxRecDepth 100000
namespace Go.Proofs.Ythlehngbadianaa.Ai
open Go Go.RowKit Go.Proofs
/- watershed/watershedlaw20.works -/
def cc30 : CC := (.seq (.region [⟨none, 0, (.val (.mv (.c (.bool false)))), [], [0]⟩]) (.seq (.region [⟨none, 12, (.call 13 [(.c (.int .i64 2))]), [], []⟩, ⟨none, 11, (.val (.mv (.s 12))), [12], [12]⟩, ⟨none, 13, (.val (.ext (.s 11) 0)), [11], []⟩, ⟨none, 14, (.val (.ext (.s 11) 1)), [11], [11]⟩, ⟨none, 1, (.val (.mv (.s 13))), [13], [13]⟩, ⟨none, 2, (.val (.mv (.s 14))), [14], [14]⟩]) (.seq (.seq (.region [⟨none, 15, (.val (.mv (.s 2))), [2], [2]⟩, ⟨none, 16, (.val (.bin .neq (.s 15) (.c (.int .i64 0)))), [], [15]⟩, ⟨none, 17, (.val (.mv (.s 16))), [16], [16]⟩, ⟨(some (17, false)), 18, (.val (.mv (.s 1))), [], []⟩, ⟨(some (17, false)), 19, (.val (.eqp false (.s 18) (.c (.pointer none)))), [], [18]⟩, ⟨none, 20, (.val (.pick (.s 17) (.c (.bool true)) (.s 19))), [17, 19], [17, 19]⟩, ⟨none, 21, (.val (.mv (.s 20))), [20], [20]⟩, ⟨(some (21, false)), 22, (.val (.mv (.s 1))), [], []⟩, ⟨(some (21, false)), 23, (.call 18 [(.s 22), (.c (.int .i64 0)), (.c (.string ⟨#[97]⟩))]), [], [22]⟩, ⟨(some (21, false)), 24, (.val (.bin .neq (.s 23) (.c (.int .i64 0)))), [], [23]⟩, ⟨none, 25, (.val (.pick (.s 21) (.c (.bool true)) (.s 24))), [21, 24], [21, 24]⟩, ⟨none, 26, (.val (.mv (.s 25))), [25], [25]⟩, ⟨(some (26, false)), 27, (.val (.mv (.s 1))), [], []⟩, ⟨(some (26, false)), 28, (.call 16 [(.s 27), (.c (.int .i64 0)), (.c (.int .i64 1)), (.c (.string ⟨#[98]⟩))]), [], [27]⟩, ⟨(some (26, false)), 29, (.val (.bin .neq (.s 28) (.c (.int .i64 0)))), [], [28]⟩, ⟨none, 30, (.val (.pick (.s 26) (.c (.bool true)) (.s 29))), [26, 29], [26, 29]⟩, ⟨none, 31, (.val (.mv (.s 30))), [30], [30]⟩, ⟨(some (31, false)), 32, (.val (.mv (.s 1))), [], []⟩, ⟨(some (31, false)), 33, (.call 26 [(.s 32)]), [], [32]⟩, ⟨(some (31, false)), 34, (.val (.bin .neq (.s 33) (.c (.int .i64 3)))), [], [33]⟩, ⟨none, 35, (.val (.pick (.s 31) (.c (.bool true)) (.s 34))), [31, 34], [31, 34]⟩]) (.cond (.s 35) (.seq (.region [⟨none, 0, (.val (.mv (.c (.bool false)))), [], [1, 35]⟩]) .ret) .skip)) (.seq (.region [⟨none, 37, (.val (.mv (.s 1))), [], [35]⟩, ⟨none, 38, (.call 20 [(.s 37), (.c (.int .i64 0)), (.c (.int .i64 1))]), [], [37]⟩, ⟨none, 36, (.val (.mv (.s 38))), [38], [38]⟩, ⟨none, 39, (.val (.ext (.s 36) 0)), [36], []⟩, ⟨none, 40, (.val (.ext (.s 36) 1)), [36], [36]⟩, ⟨none, 3, (.val (.mv (.s 39))), [39], [39]⟩, ⟨none, 4, (.val (.mv (.s 40))), [40], [40]⟩]) (.seq (.region [⟨none, 42, (.val (.mv (.s 1))), [], []⟩, ⟨none, 43, (.call 20 [(.s 42), (.c (.int .i64 0)), (.c (.int .i64 1))]), [], [42]⟩, ⟨none, 41, (.val (.mv (.s 43))), [43], [43]⟩, ⟨none, 44, (.val (.ext (.s 41) 0)), [41], []⟩, ⟨none, 45, (.val (.ext (.s 41) 1)), [41], [41]⟩, ⟨none, 5, (.val (.mv (.s 44))), [44], [44]⟩, ⟨none, 6, (.val (.mv (.s 45))), [45], [45]⟩]) (.seq (.region [⟨none, 47, (.val (.mv (.s 1))), [], []⟩, ⟨none, 48, (.call 20 [(.s 47), (.c (.int .i64 0)), (.c (.int .i64 1))]), [], [47]⟩, ⟨none, 46, (.val (.mv (.s 48))), [48], [48]⟩, ⟨none, 49, (.val (.ext (.s 46) 0)), [46], []⟩, ⟨none, 50, (.val (.ext (.s 46) 1)), [46], [46]⟩, ⟨none, 7, (.val (.mv (.s 49))), [49], [7, 49]⟩, ⟨none, 8, (.val (.mv (.s 50))), [50], [50]⟩]) (.seq (.region [⟨none, 52, (.val (.mv (.s 1))), [], []⟩, ⟨none, 53, (.call 22 [(.s 52), (.c (.int .i64 0)), (.c (.int .i64 0))]), [], [52]⟩, ⟨none, 51, (.val (.mv (.s 53))), [53], [53]⟩, ⟨none, 54, (.val (.ext (.s 51) 0)), [51], []⟩, ⟨none, 55, (.val (.ext (.s 51) 1)), [51], [51]⟩, ⟨none, 9, (.val (.mv (.s 54))), [54], [54]⟩, ⟨none, 10, (.val (.mv (.s 55))), [55], [55]⟩]) (.seq (.region [⟨none, 56, (.val (.mv (.s 3))), [3], [3]⟩, ⟨none, 57, (.val (.bin .eql (.s 56) (.c (.string ⟨#[97]⟩)))), [], [56]⟩, ⟨none, 58, (.val (.mv (.s 57))), [57], [57]⟩, ⟨(some (58, true)), 59, (.val (.mv (.s 4))), [4], [4]⟩, ⟨(some (58, true)), 60, (.val (.bin .eql (.s 59) (.c (.int .i64 0)))), [], [59]⟩, ⟨none, 61, (.val (.pick (.s 58) (.s 60) (.c (.bool false)))), [58, 60], [58, 60]⟩, ⟨none, 62, (.val (.mv (.s 61))), [61], [61]⟩, ⟨(some (62, true)), 63, (.val (.mv (.s 5))), [5], [5]⟩, ⟨(some (62, true)), 64, (.val (.bin .eql (.s 63) (.c (.string ⟨#[98]⟩)))), [], [63]⟩, ⟨none, 65, (.val (.pick (.s 62) (.s 64) (.c (.bool false)))), [62, 64], [62, 64]⟩, ⟨none, 66, (.val (.mv (.s 65))), [65], [65]⟩, ⟨(some (66, true)), 67, (.val (.mv (.s 6))), [6], [6]⟩, ⟨(some (66, true)), 68, (.val (.bin .eql (.s 67) (.c (.int .i64 0)))), [], [67]⟩, ⟨none, 69, (.val (.pick (.s 66) (.s 68) (.c (.bool false)))), [66, 68], [66, 68]⟩, ⟨none, 70, (.val (.mv (.s 69))), [69], [69]⟩, ⟨(some (70, true)), 71, (.val (.mv (.s 8))), [8], [8]⟩, ⟨(some (70, true)), 72, (.val (.bin .eql (.s 71) (.c (.int .i64 3)))), [], [71]⟩, ⟨none, 73, (.val (.pick (.s 70) (.s 72) (.c (.bool false)))), [70, 72], [70, 72]⟩, ⟨none, 74, (.val (.mv (.s 73))), [73], [73]⟩, ⟨(some (74, true)), 75, (.val (.mv (.s 9))), [9], [9]⟩, ⟨(some (74, true)), 76, (.val (.bin .eql (.s 75) (.c (.string ⟨#[97]⟩)))), [], [75]⟩, ⟨none, 77, (.val (.pick (.s 74) (.s 76) (.c (.bool false)))), [74, 76], [74, 76]⟩, ⟨none, 78, (.val (.mv (.s 77))), [77], [77]⟩, ⟨(some (78, true)), 79, (.val (.mv (.s 10))), [10], [10]⟩, ⟨(some (78, true)), 80, (.val (.bin .eql (.s 79) (.c (.int .i64 0)))), [], [79]⟩, ⟨none, 81, (.val (.pick (.s 78) (.s 80) (.c (.bool false)))), [78, 80], [78, 80]⟩, ⟨none, 82, (.val (.mv (.s 81))), [81], [81]⟩, ⟨(some (82, true)), 83, (.val (.mv (.s 1))), [], []⟩, ⟨(some (82, true)), 84, (.call 16 [(.s 83), (.c (.int .i64 2)), (.c (.int .i64 0)), (.c (.string ⟨#[]⟩))]), [], [83]⟩, ⟨(some (82, true)), 85, (.val (.bin .eql (.s 84) (.c (.int .i64 1)))), [], [84]⟩, ⟨none, 86, (.val (.pick (.s 82) (.s 85) (.c (.bool false)))), [82, 85], [82, 85]⟩, ⟨none, 87, (.val (.mv (.s 86))), [86], [86]⟩, ⟨(some (87, true)), 88, (.val (.mv (.s 1))), [], []⟩, ⟨(some (87, true)), 89, (.call 28 [(.s 88), (.c (.int .i64 0))]), [], [88]⟩, ⟨(some (87, true)), 90, (.val (.bin .eql (.s 89) (.c (.int .i64 511)))), [], [89]⟩, ⟨none, 91, (.val (.pick (.s 87) (.s 90) (.c (.bool false)))), [87, 90], [87, 90]⟩, ⟨none, 92, (.val (.mv (.s 91))), [91], [91]⟩, ⟨(some (92, true)), 93, (.val (.mv (.s 1))), [1], [1]⟩, ⟨(some (92, true)), 94, (.call 24 [(.s 93), (.c (.int .i64 0)), (.c (.int .i64 0))]), [], [93]⟩, ⟨(some (92, true)), 95, (.val (.bin .eql (.s 94) (.c (.int .i64 1)))), [], [94]⟩, ⟨none, 96, (.val (.pick (.s 92) (.s 95) (.c (.bool false)))), [92, 95], [92, 95]⟩, ⟨none, 0, (.val (.mv (.s 96))), [96], [96]⟩]) .ret))))))))
theorem ok30 : FnOk Try.prog 30 cc30 [0] 0 97 := ⟨⟨_, Try.func30, by kernel_rfl, by kernel_rfl, by kernel_rfl⟩, by decide, by decide, by decide⟩


theorem getQ_newM (n i f t : Nat) : getQ (newM n i) f t = [] := by
  simp only [getQ, getR, newM, List.getElem?_replicate]
  split
  · simp only [Option.getD_some, List.getElem?_replicate]
    split <;> rfl
  · rfl
theorem BOk.new {n : Nat} (h : n ≤ 8) : BOk (newM n n) := ⟨fun l hl => by simp [newM] at hl ⊢; rw [hl.2]; simp, by simp [newM, h], fun f t => by rw [getQ_newM]; simp⟩
theorem BOk.take {m : BusM} (h : BOk m) (f t : Int) : BOk (takeS m f t) := by
  unfold takeS
  split
  · exact h
  · rename_i h1
    split
    · exact h
    · rename_i x l hq
      refine h.setQ (by simpa using h1) ?_
      have := h.q f.toNat t.toNat
      rw [hq] at this
      simp at this
      omega
theorem BOk.all {m : BusM} (h : BOk m) (f : Int) (s : ByteArray) : BOk (allS m f s).2 := by
  unfold allS
  repeat' split
  all_goals first | exact h | exact (allF_ok h f s _).1

theorem works_c (F : List Fr) : ACalls Try.prog 30 [] F (fun r F' => r = .v (.bool true) ∧ F' = F) := by
  have f1 : allS (newM 2 2) 0 ⟨#[97]⟩ = (0, [[some [⟨#[97]⟩], some [⟨#[97]⟩]], [none, none]]) := by rfl
  have f2 : sendS [[some [⟨#[97]⟩], some [⟨#[97]⟩]], [none, none]] 0 1 ⟨#[98]⟩ = (0, [[some [⟨#[97]⟩], some [⟨#[97]⟩, ⟨#[98]⟩]], [none, none]]) := by rfl
  have f3 : totalS [[some [⟨#[97]⟩], some [⟨#[97]⟩, ⟨#[98]⟩]], [none, none]] = 3 := by rfl
  have f4 : headS [[some [⟨#[97]⟩], some [⟨#[97]⟩, ⟨#[98]⟩]], [none, none]] 0 1 = (⟨#[97]⟩, 0) := by rfl
  have f5 : takeS [[some [⟨#[97]⟩], some [⟨#[97]⟩, ⟨#[98]⟩]], [none, none]] 0 1 = [[some [⟨#[97]⟩], some [⟨#[98]⟩]], [none, none]] := by rfl
  have f6 : headS [[some [⟨#[97]⟩], some [⟨#[98]⟩]], [none, none]] 0 1 = (⟨#[98]⟩, 0) := by rfl
  have f7 : takeS [[some [⟨#[97]⟩], some [⟨#[98]⟩]], [none, none]] 0 1 = [[some [⟨#[97]⟩], some []], [none, none]] := by rfl
  have f8 : headS [[some [⟨#[97]⟩], some []], [none, none]] 0 1 = (⟨#[]⟩, 3) := by rfl
  have f9 : takeS [[some [⟨#[97]⟩], some []], [none, none]] 0 1 = [[some [⟨#[97]⟩], some []], [none, none]] := by rfl
  have f10 : headS [[some [⟨#[97]⟩], some []], [none, none]] 0 0 = (⟨#[97]⟩, 0) := by rfl
  have f11 : sendS [[some [⟨#[97]⟩], some []], [none, none]] 2 0 ⟨#[]⟩ = (1, [[some [⟨#[97]⟩], some []], [none, none]]) := by rfl
  have f12 : freeS [[some [⟨#[97]⟩], some []], [none, none]] 0 = 511 := by rfl
  have f13 : waitsS [[some [⟨#[97]⟩], some []], [none, none]] 0 0 = 1 := by rfl
  have b0 : BOk (newM 2 2) := BOk.new (by omega)
  have b1 : BOk [[some [⟨#[97]⟩], some [⟨#[97]⟩]], [none, none]] := by have := b0.all 0 ⟨#[97]⟩; rw [f1] at this; exact this
  have b2 : BOk [[some [⟨#[97]⟩], some [⟨#[97]⟩, ⟨#[98]⟩]], [none, none]] := by have := b1.send 0 1 ⟨#[98]⟩; rw [f2] at this; exact this
  have b3 : BOk [[some [⟨#[97]⟩], some [⟨#[98]⟩]], [none, none]] := by have := b2.take 0 1; rw [f5] at this; exact this
  have b4 : BOk [[some [⟨#[97]⟩], some []], [none, none]] := by have := b3.take 0 1; rw [f7] at this; exact this
  refine ok30.N hmix rfl ?_
  simp only [cc30, AI0, AI1, AI2, AI3, AI4, AI5, AI6, AI7, AI8, AI9, reduceIte, reduceCtorEq, Nat.reduceAdd, Nat.reduceEqDiff, Nat.reduceBEq, Nat.reduceLT, Nat.reduceLeDiff, Nat.reduceMul, Nat.reduceSub, Int.reduceLE, Int.reduceLT, Int.reduceEq, Int.reduceBEq, Int.reduceBNe, Int.reduceToNat, Int.reduceNeg]
  refine (new_c _ 2).mono ?_
  rintro _ _ - ⟨rfl, rfl⟩
  simp only [AI0, AI1, AI2, AI3, AI4, AI5, AI6, AI7, AI8, AI9, reduceIte, reduceCtorEq, Nat.reduceAdd, Nat.reduceEqDiff, Nat.reduceBEq, Nat.reduceLT, Nat.reduceLeDiff, Nat.reduceMul, Nat.reduceSub, Int.reduceLE, Int.reduceLT, Int.reduceEq, Int.reduceBEq, Int.reduceBNe, Int.reduceToNat, Int.reduceNeg, f1, f2, f3, f4, f5, f6, f7, f8, f9, f10, f11, f12, f13, busAV, show ((2 : Int).toNat) = 2 from rfl]
  refine W_of_N [0] hmix ?_
  simp only [AI0, AI1, AI2, AI3, AI4, AI5, AI6, AI7, AI8, AI9, reduceIte, reduceCtorEq, Nat.reduceAdd, Nat.reduceEqDiff, Nat.reduceBEq, Nat.reduceLT, Nat.reduceLeDiff, Nat.reduceMul, Nat.reduceSub, Int.reduceLE, Int.reduceLT, Int.reduceEq, Int.reduceBEq, Int.reduceBNe, Int.reduceToNat, Int.reduceNeg, f1, f2, f3, f4, f5, f6, f7, f8, f9, f10, f11, f12, f13, busAV, show ((2 : Int).toNat) = 2 from rfl]
  refine (all_c _ 0 (.sl 1) [(0, 0)] _ b0 ?_ rfl ?_ 0 ⟨#[97]⟩).mono ?_
  · simp only [AI0, AI1, AI2, AI3, AI4, AI5, AI6, AI7, AI8, AI9, reduceIte, reduceCtorEq, Nat.reduceAdd, Nat.reduceEqDiff, Nat.reduceBEq, Nat.reduceLT, Nat.reduceLeDiff, Nat.reduceMul, Nat.reduceSub, Int.reduceLE, Int.reduceLT, Int.reduceEq, Int.reduceBEq, Int.reduceBNe, Int.reduceToNat, Int.reduceNeg, f1, f2, f3, f4, f5, f6, f7, f8, f9, f10, f11, f12, f13, busAV, show ((2 : Int).toNat) = 2 from rfl]
  · simp only [AI0, AI1, AI2, AI3, AI4, AI5, AI6, AI7, AI8, AI9, reduceIte, reduceCtorEq, Nat.reduceAdd, Nat.reduceEqDiff, Nat.reduceBEq, Nat.reduceLT, Nat.reduceLeDiff, Nat.reduceMul, Nat.reduceSub, Int.reduceLE, Int.reduceLT, Int.reduceEq, Int.reduceBEq, Int.reduceBNe, Int.reduceToNat, Int.reduceNeg, f1, f2, f3, f4, f5, f6, f7, f8, f9, f10, f11, f12, f13, busAV, show ((2 : Int).toNat) = 2 from rfl]
  rintro _ _ - ⟨rfl, rfl⟩
  simp only [AI0, AI1, AI2, AI3, AI4, AI5, AI6, AI7, AI8, AI9, reduceIte, reduceCtorEq, Nat.reduceAdd, Nat.reduceEqDiff, Nat.reduceBEq, Nat.reduceLT, Nat.reduceLeDiff, Nat.reduceMul, Nat.reduceSub, Int.reduceLE, Int.reduceLT, Int.reduceEq, Int.reduceBEq, Int.reduceBNe, Int.reduceToNat, Int.reduceNeg, f1, f2, f3, f4, f5, f6, f7, f8, f9, f10, f11, f12, f13, busAV, show ((2 : Int).toNat) = 2 from rfl]
  refine W_of_N [0] hmix ?_
  simp only [AI0, AI1, AI2, AI3, AI4, AI5, AI6, AI7, AI8, AI9, reduceIte, reduceCtorEq, Nat.reduceAdd, Nat.reduceEqDiff, Nat.reduceBEq, Nat.reduceLT, Nat.reduceLeDiff, Nat.reduceMul, Nat.reduceSub, Int.reduceLE, Int.reduceLT, Int.reduceEq, Int.reduceBEq, Int.reduceBNe, Int.reduceToNat, Int.reduceNeg, f1, f2, f3, f4, f5, f6, f7, f8, f9, f10, f11, f12, f13, busAV, show ((2 : Int).toNat) = 2 from rfl]
  refine (send_c _ 0 (.sl 1) [(0, 0)] _ b1.wf ?_ rfl ?_ 0 1 ⟨#[98]⟩).mono ?_
  · simp only [AI0, AI1, AI2, AI3, AI4, AI5, AI6, AI7, AI8, AI9, reduceIte, reduceCtorEq, Nat.reduceAdd, Nat.reduceEqDiff, Nat.reduceBEq, Nat.reduceLT, Nat.reduceLeDiff, Nat.reduceMul, Nat.reduceSub, Int.reduceLE, Int.reduceLT, Int.reduceEq, Int.reduceBEq, Int.reduceBNe, Int.reduceToNat, Int.reduceNeg, f1, f2, f3, f4, f5, f6, f7, f8, f9, f10, f11, f12, f13, busAV, show ((2 : Int).toNat) = 2 from rfl]
  · simp only [AI0, AI1, AI2, AI3, AI4, AI5, AI6, AI7, AI8, AI9, reduceIte, reduceCtorEq, Nat.reduceAdd, Nat.reduceEqDiff, Nat.reduceBEq, Nat.reduceLT, Nat.reduceLeDiff, Nat.reduceMul, Nat.reduceSub, Int.reduceLE, Int.reduceLT, Int.reduceEq, Int.reduceBEq, Int.reduceBNe, Int.reduceToNat, Int.reduceNeg, f1, f2, f3, f4, f5, f6, f7, f8, f9, f10, f11, f12, f13, busAV, show ((2 : Int).toNat) = 2 from rfl]
  rintro _ _ - ⟨rfl, rfl⟩
  simp only [AI0, AI1, AI2, AI3, AI4, AI5, AI6, AI7, AI8, AI9, reduceIte, reduceCtorEq, Nat.reduceAdd, Nat.reduceEqDiff, Nat.reduceBEq, Nat.reduceLT, Nat.reduceLeDiff, Nat.reduceMul, Nat.reduceSub, Int.reduceLE, Int.reduceLT, Int.reduceEq, Int.reduceBEq, Int.reduceBNe, Int.reduceToNat, Int.reduceNeg, f1, f2, f3, f4, f5, f6, f7, f8, f9, f10, f11, f12, f13, busAV, show ((2 : Int).toNat) = 2 from rfl]
  refine W_of_N [0] hmix ?_
  simp only [AI0, AI1, AI2, AI3, AI4, AI5, AI6, AI7, AI8, AI9, reduceIte, reduceCtorEq, Nat.reduceAdd, Nat.reduceEqDiff, Nat.reduceBEq, Nat.reduceLT, Nat.reduceLeDiff, Nat.reduceMul, Nat.reduceSub, Int.reduceLE, Int.reduceLT, Int.reduceEq, Int.reduceBEq, Int.reduceBNe, Int.reduceToNat, Int.reduceNeg, f1, f2, f3, f4, f5, f6, f7, f8, f9, f10, f11, f12, f13, busAV, show ((2 : Int).toNat) = 2 from rfl]
  refine (total_c _ 0 (.sl 1) [(0, 0)] _ b2 ?_ rfl).mono ?_
  · simp only [AI0, AI1, AI2, AI3, AI4, AI5, AI6, AI7, AI8, AI9, reduceIte, reduceCtorEq, Nat.reduceAdd, Nat.reduceEqDiff, Nat.reduceBEq, Nat.reduceLT, Nat.reduceLeDiff, Nat.reduceMul, Nat.reduceSub, Int.reduceLE, Int.reduceLT, Int.reduceEq, Int.reduceBEq, Int.reduceBNe, Int.reduceToNat, Int.reduceNeg, f1, f2, f3, f4, f5, f6, f7, f8, f9, f10, f11, f12, f13, busAV, show ((2 : Int).toNat) = 2 from rfl]
  rintro _ _ - ⟨rfl, rfl⟩
  simp only [AI0, AI1, AI2, AI3, AI4, AI5, AI6, AI7, AI8, AI9, reduceIte, reduceCtorEq, Nat.reduceAdd, Nat.reduceEqDiff, Nat.reduceBEq, Nat.reduceLT, Nat.reduceLeDiff, Nat.reduceMul, Nat.reduceSub, Int.reduceLE, Int.reduceLT, Int.reduceEq, Int.reduceBEq, Int.reduceBNe, Int.reduceToNat, Int.reduceNeg, f1, f2, f3, f4, f5, f6, f7, f8, f9, f10, f11, f12, f13, busAV, show ((2 : Int).toNat) = 2 from rfl]
  refine W_of_N [0] hmix ?_
  simp only [AI0, AI1, AI2, AI3, AI4, AI5, AI6, AI7, AI8, AI9, reduceIte, reduceCtorEq, Nat.reduceAdd, Nat.reduceEqDiff, Nat.reduceBEq, Nat.reduceLT, Nat.reduceLeDiff, Nat.reduceMul, Nat.reduceSub, Int.reduceLE, Int.reduceLT, Int.reduceEq, Int.reduceBEq, Int.reduceBNe, Int.reduceToNat, Int.reduceNeg, f1, f2, f3, f4, f5, f6, f7, f8, f9, f10, f11, f12, f13, busAV, show ((2 : Int).toNat) = 2 from rfl]
  refine (take_bus_c _ 0 (.sl 1) [(0, 0)] _ b2.wf ?_ rfl ?_ 0 1).mono ?_
  · simp only [AI0, AI1, AI2, AI3, AI4, AI5, AI6, AI7, AI8, AI9, reduceIte, reduceCtorEq, Nat.reduceAdd, Nat.reduceEqDiff, Nat.reduceBEq, Nat.reduceLT, Nat.reduceLeDiff, Nat.reduceMul, Nat.reduceSub, Int.reduceLE, Int.reduceLT, Int.reduceEq, Int.reduceBEq, Int.reduceBNe, Int.reduceToNat, Int.reduceNeg, f1, f2, f3, f4, f5, f6, f7, f8, f9, f10, f11, f12, f13, busAV, show ((2 : Int).toNat) = 2 from rfl]
  · simp only [AI0, AI1, AI2, AI3, AI4, AI5, AI6, AI7, AI8, AI9, reduceIte, reduceCtorEq, Nat.reduceAdd, Nat.reduceEqDiff, Nat.reduceBEq, Nat.reduceLT, Nat.reduceLeDiff, Nat.reduceMul, Nat.reduceSub, Int.reduceLE, Int.reduceLT, Int.reduceEq, Int.reduceBEq, Int.reduceBNe, Int.reduceToNat, Int.reduceNeg, f1, f2, f3, f4, f5, f6, f7, f8, f9, f10, f11, f12, f13, busAV, show ((2 : Int).toNat) = 2 from rfl]
  rintro _ _ - ⟨rfl, rfl⟩
  simp only [AI0, AI1, AI2, AI3, AI4, AI5, AI6, AI7, AI8, AI9, reduceIte, reduceCtorEq, Nat.reduceAdd, Nat.reduceEqDiff, Nat.reduceBEq, Nat.reduceLT, Nat.reduceLeDiff, Nat.reduceMul, Nat.reduceSub, Int.reduceLE, Int.reduceLT, Int.reduceEq, Int.reduceBEq, Int.reduceBNe, Int.reduceToNat, Int.reduceNeg, f1, f2, f3, f4, f5, f6, f7, f8, f9, f10, f11, f12, f13, busAV, show ((2 : Int).toNat) = 2 from rfl]
  refine W_of_N [0] hmix ?_
  simp only [AI0, AI1, AI2, AI3, AI4, AI5, AI6, AI7, AI8, AI9, reduceIte, reduceCtorEq, Nat.reduceAdd, Nat.reduceEqDiff, Nat.reduceBEq, Nat.reduceLT, Nat.reduceLeDiff, Nat.reduceMul, Nat.reduceSub, Int.reduceLE, Int.reduceLT, Int.reduceEq, Int.reduceBEq, Int.reduceBNe, Int.reduceToNat, Int.reduceNeg, f1, f2, f3, f4, f5, f6, f7, f8, f9, f10, f11, f12, f13, busAV, show ((2 : Int).toNat) = 2 from rfl]
  refine (take_bus_c _ 0 (.sl 1) [(0, 0)] _ b3.wf ?_ rfl ?_ 0 1).mono ?_
  · simp only [AI0, AI1, AI2, AI3, AI4, AI5, AI6, AI7, AI8, AI9, reduceIte, reduceCtorEq, Nat.reduceAdd, Nat.reduceEqDiff, Nat.reduceBEq, Nat.reduceLT, Nat.reduceLeDiff, Nat.reduceMul, Nat.reduceSub, Int.reduceLE, Int.reduceLT, Int.reduceEq, Int.reduceBEq, Int.reduceBNe, Int.reduceToNat, Int.reduceNeg, f1, f2, f3, f4, f5, f6, f7, f8, f9, f10, f11, f12, f13, busAV, show ((2 : Int).toNat) = 2 from rfl]
  · simp only [AI0, AI1, AI2, AI3, AI4, AI5, AI6, AI7, AI8, AI9, reduceIte, reduceCtorEq, Nat.reduceAdd, Nat.reduceEqDiff, Nat.reduceBEq, Nat.reduceLT, Nat.reduceLeDiff, Nat.reduceMul, Nat.reduceSub, Int.reduceLE, Int.reduceLT, Int.reduceEq, Int.reduceBEq, Int.reduceBNe, Int.reduceToNat, Int.reduceNeg, f1, f2, f3, f4, f5, f6, f7, f8, f9, f10, f11, f12, f13, busAV, show ((2 : Int).toNat) = 2 from rfl]
  rintro _ _ - ⟨rfl, rfl⟩
  simp only [AI0, AI1, AI2, AI3, AI4, AI5, AI6, AI7, AI8, AI9, reduceIte, reduceCtorEq, Nat.reduceAdd, Nat.reduceEqDiff, Nat.reduceBEq, Nat.reduceLT, Nat.reduceLeDiff, Nat.reduceMul, Nat.reduceSub, Int.reduceLE, Int.reduceLT, Int.reduceEq, Int.reduceBEq, Int.reduceBNe, Int.reduceToNat, Int.reduceNeg, f1, f2, f3, f4, f5, f6, f7, f8, f9, f10, f11, f12, f13, busAV, show ((2 : Int).toNat) = 2 from rfl]
  refine W_of_N [0] hmix ?_
  simp only [AI0, AI1, AI2, AI3, AI4, AI5, AI6, AI7, AI8, AI9, reduceIte, reduceCtorEq, Nat.reduceAdd, Nat.reduceEqDiff, Nat.reduceBEq, Nat.reduceLT, Nat.reduceLeDiff, Nat.reduceMul, Nat.reduceSub, Int.reduceLE, Int.reduceLT, Int.reduceEq, Int.reduceBEq, Int.reduceBNe, Int.reduceToNat, Int.reduceNeg, f1, f2, f3, f4, f5, f6, f7, f8, f9, f10, f11, f12, f13, busAV, show ((2 : Int).toNat) = 2 from rfl]
  refine (take_bus_c _ 0 (.sl 1) [(0, 0)] _ b4.wf ?_ rfl ?_ 0 1).mono ?_
  · simp only [AI0, AI1, AI2, AI3, AI4, AI5, AI6, AI7, AI8, AI9, reduceIte, reduceCtorEq, Nat.reduceAdd, Nat.reduceEqDiff, Nat.reduceBEq, Nat.reduceLT, Nat.reduceLeDiff, Nat.reduceMul, Nat.reduceSub, Int.reduceLE, Int.reduceLT, Int.reduceEq, Int.reduceBEq, Int.reduceBNe, Int.reduceToNat, Int.reduceNeg, f1, f2, f3, f4, f5, f6, f7, f8, f9, f10, f11, f12, f13, busAV, show ((2 : Int).toNat) = 2 from rfl]
  · simp only [AI0, AI1, AI2, AI3, AI4, AI5, AI6, AI7, AI8, AI9, reduceIte, reduceCtorEq, Nat.reduceAdd, Nat.reduceEqDiff, Nat.reduceBEq, Nat.reduceLT, Nat.reduceLeDiff, Nat.reduceMul, Nat.reduceSub, Int.reduceLE, Int.reduceLT, Int.reduceEq, Int.reduceBEq, Int.reduceBNe, Int.reduceToNat, Int.reduceNeg, f1, f2, f3, f4, f5, f6, f7, f8, f9, f10, f11, f12, f13, busAV, show ((2 : Int).toNat) = 2 from rfl]
  rintro _ _ - ⟨rfl, rfl⟩
  simp only [AI0, AI1, AI2, AI3, AI4, AI5, AI6, AI7, AI8, AI9, reduceIte, reduceCtorEq, Nat.reduceAdd, Nat.reduceEqDiff, Nat.reduceBEq, Nat.reduceLT, Nat.reduceLeDiff, Nat.reduceMul, Nat.reduceSub, Int.reduceLE, Int.reduceLT, Int.reduceEq, Int.reduceBEq, Int.reduceBNe, Int.reduceToNat, Int.reduceNeg, f1, f2, f3, f4, f5, f6, f7, f8, f9, f10, f11, f12, f13, busAV, show ((2 : Int).toNat) = 2 from rfl]
  refine W_of_N [0] hmix ?_
  simp only [AI0, AI1, AI2, AI3, AI4, AI5, AI6, AI7, AI8, AI9, reduceIte, reduceCtorEq, Nat.reduceAdd, Nat.reduceEqDiff, Nat.reduceBEq, Nat.reduceLT, Nat.reduceLeDiff, Nat.reduceMul, Nat.reduceSub, Int.reduceLE, Int.reduceLT, Int.reduceEq, Int.reduceBEq, Int.reduceBNe, Int.reduceToNat, Int.reduceNeg, f1, f2, f3, f4, f5, f6, f7, f8, f9, f10, f11, f12, f13, busAV, show ((2 : Int).toNat) = 2 from rfl]
  refine (head_c _ 0 (.sl 1) [(0, 0)] _ b4.wf ?_ rfl 0 0).mono ?_
  · simp only [AI0, AI1, AI2, AI3, AI4, AI5, AI6, AI7, AI8, AI9, reduceIte, reduceCtorEq, Nat.reduceAdd, Nat.reduceEqDiff, Nat.reduceBEq, Nat.reduceLT, Nat.reduceLeDiff, Nat.reduceMul, Nat.reduceSub, Int.reduceLE, Int.reduceLT, Int.reduceEq, Int.reduceBEq, Int.reduceBNe, Int.reduceToNat, Int.reduceNeg, f1, f2, f3, f4, f5, f6, f7, f8, f9, f10, f11, f12, f13, busAV, show ((2 : Int).toNat) = 2 from rfl]
  rintro _ _ - ⟨rfl, rfl⟩
  simp only [AI0, AI1, AI2, AI3, AI4, AI5, AI6, AI7, AI8, AI9, reduceIte, reduceCtorEq, Nat.reduceAdd, Nat.reduceEqDiff, Nat.reduceBEq, Nat.reduceLT, Nat.reduceLeDiff, Nat.reduceMul, Nat.reduceSub, Int.reduceLE, Int.reduceLT, Int.reduceEq, Int.reduceBEq, Int.reduceBNe, Int.reduceToNat, Int.reduceNeg, f1, f2, f3, f4, f5, f6, f7, f8, f9, f10, f11, f12, f13, busAV, show ((2 : Int).toNat) = 2 from rfl]
  refine W_of_N [0] hmix ?_
  simp only [AI0, AI1, AI2, AI3, AI4, AI5, AI6, AI7, AI8, AI9, reduceIte, reduceCtorEq, Nat.reduceAdd, Nat.reduceEqDiff, Nat.reduceBEq, Nat.reduceLT, Nat.reduceLeDiff, Nat.reduceMul, Nat.reduceSub, Int.reduceLE, Int.reduceLT, Int.reduceEq, Int.reduceBEq, Int.reduceBNe, Int.reduceToNat, Int.reduceNeg, f1, f2, f3, f4, f5, f6, f7, f8, f9, f10, f11, f12, f13, busAV, show ((2 : Int).toNat) = 2 from rfl]
  refine (send_c _ 0 (.sl 1) [(0, 0)] _ b4.wf ?_ rfl ?_ 2 0 ⟨#[]⟩).mono ?_
  · simp only [AI0, AI1, AI2, AI3, AI4, AI5, AI6, AI7, AI8, AI9, reduceIte, reduceCtorEq, Nat.reduceAdd, Nat.reduceEqDiff, Nat.reduceBEq, Nat.reduceLT, Nat.reduceLeDiff, Nat.reduceMul, Nat.reduceSub, Int.reduceLE, Int.reduceLT, Int.reduceEq, Int.reduceBEq, Int.reduceBNe, Int.reduceToNat, Int.reduceNeg, f1, f2, f3, f4, f5, f6, f7, f8, f9, f10, f11, f12, f13, busAV, show ((2 : Int).toNat) = 2 from rfl]
  · simp only [AI0, AI1, AI2, AI3, AI4, AI5, AI6, AI7, AI8, AI9, reduceIte, reduceCtorEq, Nat.reduceAdd, Nat.reduceEqDiff, Nat.reduceBEq, Nat.reduceLT, Nat.reduceLeDiff, Nat.reduceMul, Nat.reduceSub, Int.reduceLE, Int.reduceLT, Int.reduceEq, Int.reduceBEq, Int.reduceBNe, Int.reduceToNat, Int.reduceNeg, f1, f2, f3, f4, f5, f6, f7, f8, f9, f10, f11, f12, f13, busAV, show ((2 : Int).toNat) = 2 from rfl]
  rintro _ _ - ⟨rfl, rfl⟩
  simp only [AI0, AI1, AI2, AI3, AI4, AI5, AI6, AI7, AI8, AI9, reduceIte, reduceCtorEq, Nat.reduceAdd, Nat.reduceEqDiff, Nat.reduceBEq, Nat.reduceLT, Nat.reduceLeDiff, Nat.reduceMul, Nat.reduceSub, Int.reduceLE, Int.reduceLT, Int.reduceEq, Int.reduceBEq, Int.reduceBNe, Int.reduceToNat, Int.reduceNeg, f1, f2, f3, f4, f5, f6, f7, f8, f9, f10, f11, f12, f13, busAV, show ((2 : Int).toNat) = 2 from rfl]
  refine W_of_N [0] hmix ?_
  simp only [AI0, AI1, AI2, AI3, AI4, AI5, AI6, AI7, AI8, AI9, reduceIte, reduceCtorEq, Nat.reduceAdd, Nat.reduceEqDiff, Nat.reduceBEq, Nat.reduceLT, Nat.reduceLeDiff, Nat.reduceMul, Nat.reduceSub, Int.reduceLE, Int.reduceLT, Int.reduceEq, Int.reduceBEq, Int.reduceBNe, Int.reduceToNat, Int.reduceNeg, f1, f2, f3, f4, f5, f6, f7, f8, f9, f10, f11, f12, f13, busAV, show ((2 : Int).toNat) = 2 from rfl]
  refine (free_c _ 0 (.sl 1) [(0, 0)] _ b4 ?_ rfl 0).mono ?_
  · simp only [AI0, AI1, AI2, AI3, AI4, AI5, AI6, AI7, AI8, AI9, reduceIte, reduceCtorEq, Nat.reduceAdd, Nat.reduceEqDiff, Nat.reduceBEq, Nat.reduceLT, Nat.reduceLeDiff, Nat.reduceMul, Nat.reduceSub, Int.reduceLE, Int.reduceLT, Int.reduceEq, Int.reduceBEq, Int.reduceBNe, Int.reduceToNat, Int.reduceNeg, f1, f2, f3, f4, f5, f6, f7, f8, f9, f10, f11, f12, f13, busAV, show ((2 : Int).toNat) = 2 from rfl]
  rintro _ _ - ⟨rfl, rfl⟩
  simp only [AI0, AI1, AI2, AI3, AI4, AI5, AI6, AI7, AI8, AI9, reduceIte, reduceCtorEq, Nat.reduceAdd, Nat.reduceEqDiff, Nat.reduceBEq, Nat.reduceLT, Nat.reduceLeDiff, Nat.reduceMul, Nat.reduceSub, Int.reduceLE, Int.reduceLT, Int.reduceEq, Int.reduceBEq, Int.reduceBNe, Int.reduceToNat, Int.reduceNeg, f1, f2, f3, f4, f5, f6, f7, f8, f9, f10, f11, f12, f13, busAV, show ((2 : Int).toNat) = 2 from rfl]
  refine W_of_N [0] hmix ?_
  simp only [AI0, AI1, AI2, AI3, AI4, AI5, AI6, AI7, AI8, AI9, reduceIte, reduceCtorEq, Nat.reduceAdd, Nat.reduceEqDiff, Nat.reduceBEq, Nat.reduceLT, Nat.reduceLeDiff, Nat.reduceMul, Nat.reduceSub, Int.reduceLE, Int.reduceLT, Int.reduceEq, Int.reduceBEq, Int.reduceBNe, Int.reduceToNat, Int.reduceNeg, f1, f2, f3, f4, f5, f6, f7, f8, f9, f10, f11, f12, f13, busAV, show ((2 : Int).toNat) = 2 from rfl]
  refine (waits_c _ 0 (.sl 93) [(0, 0)] _ b4.wf ?_ rfl 0 0).mono ?_
  · simp only [AI0, AI1, AI2, AI3, AI4, AI5, AI6, AI7, AI8, AI9, reduceIte, reduceCtorEq, Nat.reduceAdd, Nat.reduceEqDiff, Nat.reduceBEq, Nat.reduceLT, Nat.reduceLeDiff, Nat.reduceMul, Nat.reduceSub, Int.reduceLE, Int.reduceLT, Int.reduceEq, Int.reduceBEq, Int.reduceBNe, Int.reduceToNat, Int.reduceNeg, f1, f2, f3, f4, f5, f6, f7, f8, f9, f10, f11, f12, f13, busAV, show ((2 : Int).toNat) = 2 from rfl]
  rintro _ _ - ⟨rfl, rfl⟩
  simp only [AI0, AI1, AI2, AI3, AI4, AI5, AI6, AI7, AI8, AI9, reduceIte, reduceCtorEq, Nat.reduceAdd, Nat.reduceEqDiff, Nat.reduceBEq, Nat.reduceLT, Nat.reduceLeDiff, Nat.reduceMul, Nat.reduceSub, Int.reduceLE, Int.reduceLT, Int.reduceEq, Int.reduceBEq, Int.reduceBNe, Int.reduceToNat, Int.reduceNeg, f1, f2, f3, f4, f5, f6, f7, f8, f9, f10, f11, f12, f13, busAV, show ((2 : Int).toNat) = 2 from rfl]
  refine W_of_N [0] hmix ?_
  simp only [AI0, AI1, AI2, AI3, AI4, AI5, AI6, AI7, AI8, AI9, reduceIte, reduceCtorEq, Nat.reduceAdd, Nat.reduceEqDiff, Nat.reduceBEq, Nat.reduceLT, Nat.reduceLeDiff, Nat.reduceMul, Nat.reduceSub, Int.reduceLE, Int.reduceLT, Int.reduceEq, Int.reduceBEq, Int.reduceBNe, Int.reduceToNat, Int.reduceNeg, f1, f2, f3, f4, f5, f6, f7, f8, f9, f10, f11, f12, f13, busAV, show ((2 : Int).toNat) = 2 from rfl]
end Go.Proofs.Ythlehngbadianaa.Ai
set_option linter.unusedVariables false
set_option linter.unusedSimpArgs false
set_option maxRecDepth 100000
namespace Go.Proofs.Ythlehngbadianaa.Ai
open Go Go.RowKit Go.Proofs

/-- One sender's rows are L; nobody else has sent. -/
structure OneS (m : BusM) (n f : Nat) (L : Nat → List ByteArray) : Prop where
  ok : BOk m
  ln : m.length = n
  fl : f < n
  own : ∀ t, t < n → getQ m f t = L t
  oth : ∀ g t, g < n → t < n → g ≠ f → getQ m g t = []

theorem OneS.congr {m : BusM} {n f : Nat} {L L' : Nat → List ByteArray} (h : OneS m n f L) (e : ∀ t, t < n → L t = L' t) : OneS m n f L' := ⟨h.ok, h.ln, h.fl, fun t ht => by rw [h.own t ht, e t ht], h.oth⟩
theorem thereB_nat {m : BusM} {i : Nat} (h : i < m.length) : thereB m (i : Int) = true := by simp [thereB]; omega
theorem inR_nat {m : BusM} {i j : Nat} (h : i < m.length) (h2 : j < m.length) : inR m (i : Int) (j : Int) = true := by simp [inR, thereB_nat h, thereB_nat h2]
theorem OneS.len {m : BusM} {n f : Nat} {L : Nat → List ByteArray} (h : OneS m n f L) (t : Nat) (ht : t < n) : (L t).length ≤ 512 := by rw [← h.own t ht]; exact h.ok.q _ _
theorem OneS.waits {m : BusM} {n f : Nat} {L : Nat → List ByteArray} (h : OneS m n f L) (t : Nat) (ht : t < n) : waitsS m (f : Int) (t : Int) = (L t).length := by
  simp only [waitsS, inR_nat (by rw [h.ln]; exact h.fl) (by rw [h.ln]; exact ht), if_true, Int.toNat_natCast, h.own t ht]
theorem OneS.waits0 {m : BusM} {n f : Nat} {L : Nat → List ByteArray} (h : OneS m n f L) (g t : Nat) (hg : g < n) (ht : t < n) (e : g ≠ f) : waitsS m (g : Int) (t : Int) = 0 := by
  simp only [waitsS, inR_nat (by rw [h.ln]; exact hg) (by rw [h.ln]; exact ht), if_true, Int.toNat_natCast, h.oth g t hg ht e, List.length_nil]
theorem OneS.new {n f : Nat} (hn : n ≤ 8) (hf : f < n) : OneS (newM n n) n f (fun _ => []) := ⟨BOk.new hn, by simp [newM], hf, fun t _ => getQ_newM _ _ _ _, fun g t _ _ _ => getQ_newM _ _ _ _⟩

theorem OneS.send {m : BusM} {n f : Nat} {L : Nat → List ByteArray} (h : OneS m n f L) {t : Nat} (ht : t < n) (hl : (L t).length < 512) {s : ByteArray} (hs : s.size ≤ 8192) :
    (sendS m f t s).1 = 0 ∧ OneS (sendS m f t s).2 n f (fun u => if u = t then L u ++ [s] else L u) := by
  have h1 : inR m (f : Int) (t : Int) = true := inR_nat (by rw [h.ln]; exact h.fl) (by rw [h.ln]; exact ht)
  obtain ⟨l, r, e1, e2, e3, e4⟩ := inR_get h.ok.wf h1
  have h2 : ¬ (8192 < s.size) := by omega
  have h3 : ¬ (512 ≤ (L t).length) := by omega
  have e : sendS m f t s = (0, setQ m f t (L t ++ [s])) := by
    simp [sendS, h1, h2, h.own t ht, h3]
  rw [e]
  simp only [Int.toNat_natCast] at e1 e2
  have htl := (List.getElem?_eq_some_iff.1 e2).1
  refine ⟨rfl, h.ok.setQ h1 (by simp; omega), by rw [setQ_length, h.ln], h.fl, ?_, ?_⟩
  · intro u hu
    rw [getQ_setQ e1 htl]
    by_cases e : u = t
    · subst e; simp
    · simp [e, h.own u hu]
  · intro g u hg hu hne
    rw [getQ_setQ e1 htl, if_neg (fun e => hne e.1)]
    exact h.oth g u hg hu hne
theorem OneS.full {m : BusM} {n f : Nat} {L : Nat → List ByteArray} (h : OneS m n f L) {t : Nat} (ht : t < n) (hl : (L t).length = 512) {s : ByteArray} (hs : s.size ≤ 8192) : sendS m f t s = (2, m) := by
  have h1 : inR m (f : Int) (t : Int) = true := inR_nat (by rw [h.ln]; exact h.fl) (by rw [h.ln]; exact ht)
  have h2 : ¬ (8192 < s.size) := by omega
  simp [sendS, h1, h2, h.own t ht, hl]
theorem OneS.take {m : BusM} {n f : Nat} {L : Nat → List ByteArray} (h : OneS m n f L) {t : Nat} (ht : t < n) {x : ByteArray} {l : List ByteArray} (hl : L t = x :: l) :
    headS m f t = (x, 0) ∧ OneS (takeS m f t) n f (fun u => if u = t then l else L u) := by
  have h1 : inR m (f : Int) (t : Int) = true := inR_nat (by rw [h.ln]; exact h.fl) (by rw [h.ln]; exact ht)
  obtain ⟨l', r, e1, e2, e3, e4⟩ := inR_get h.ok.wf h1
  have hq : getQ m f t = x :: l := by rw [h.own t ht, hl]
  refine ⟨by simp [headS, h1, hq], ?_⟩
  have e : takeS m f t = setQ m f t l := by simp [takeS, h1, hq]
  rw [e]
  simp only [Int.toNat_natCast] at e1 e2
  have htl := (List.getElem?_eq_some_iff.1 e2).1
  have hq5 := h.ok.q f t
  rw [hq] at hq5
  refine ⟨h.ok.setQ h1 (by simp at hq5; omega), by rw [setQ_length, h.ln], h.fl, ?_, ?_⟩
  · intro u hu
    rw [getQ_setQ e1 htl]
    by_cases e : u = t
    · subst e; simp
    · simp [e, h.own u hu]
  · intro g u hg hu hne
    rw [getQ_setQ e1 htl, if_neg (fun e => hne e.1)]
    exact h.oth g u hg hu hne

theorem OneS.freeF_le {m : BusM} {n f : Nat} {L : Nat → List ByteArray} (h : OneS m n f L) {t : Nat} (ht : t < n) : ∀ i, t < i → freeF m f i ≤ 512 - (L t).length
  | 0, hi => by omega
  | i + 1, hi => by
    simp only [freeF]
    by_cases e : t = i
    · subst e
      rw [h.waits t ht]
      split <;> omega
    · have := h.freeF_le ht i (by omega)
      split <;> omega
theorem OneS.freeF_ge {m : BusM} {n f : Nat} {L : Nat → List ByteArray} (h : OneS m n f L) (c : Nat) (hc : ∀ t, t < n → (L t).length ≤ c) : ∀ i, i ≤ n → (512 : Int) - c ≤ freeF m f i
  | 0, hi => by simp only [freeF]; omega
  | i + 1, hi => by
    have h1 := h.freeF_ge c hc i (by omega)
    have h2 := hc i (by omega)
    simp only [freeF]
    rw [h.waits i (by omega)]
    split <;> omega
theorem OneS.free {m : BusM} {n f : Nat} {L : Nat → List ByteArray} (h : OneS m n f L) (c : Nat) (hc : ∀ t, t < n → (L t).length ≤ c) {t0 : Nat} (h0 : t0 < n) (hc0 : (L t0).length = c) : freeS m f = 512 - c := by
  simp only [freeS, thereB_nat (show f < m.length by rw [h.ln]; exact h.fl), if_true, h.ln]
  have h1 := h.freeF_le h0 n h0
  have h2 := h.freeF_ge c hc n (Nat.le_refl _)
  omega

def sumL (L : Nat → List ByteArray) : Nat → Nat
  | 0 => 0
  | i + 1 => sumL L i + (L i).length
theorem sumL_same {L : Nat → List ByteArray} {c : Nat} : ∀ (n : Nat), (∀ t, t < n → (L t).length = c) → sumL L n = n * c
  | 0, _ => by simp [sumL]
  | n + 1, h => by rw [sumL, sumL_same n (fun t ht => h t (by omega)), h n (by omega), Nat.add_one_mul]
theorem sumL_le {L : Nat → List ByteArray} {c : Nat} : ∀ (n : Nat), (∀ t, t < n → (L t).length ≤ c) → sumL L n ≤ n * c
  | 0, _ => by simp [sumL]
  | n + 1, h => by have := sumL_le n (fun t ht => h t (by omega)); have := h n (by omega); rw [sumL, Nat.add_one_mul]; omega
theorem OneS.rowSum {m : BusM} {n f : Nat} {L : Nat → List ByteArray} (h : OneS m n f L) : ∀ i, i ≤ n → Ai.rowSum m f i = sumL L i
  | 0, _ => rfl
  | i + 1, hi => by rw [Ai.rowSum, sumL, h.rowSum i (by omega), h.waits i (by omega)]
theorem OneS.rowSum0 {m : BusM} {n f : Nat} {L : Nat → List ByteArray} (h : OneS m n f L) {g : Nat} (hg : g < n) (hne : g ≠ f) : ∀ i, i ≤ n → Ai.rowSum m g i = 0
  | 0, _ => rfl
  | i + 1, hi => by rw [Ai.rowSum, h.rowSum0 hg hne i (by omega), h.waits0 g i hg (by omega) hne]
theorem OneS.totF {m : BusM} {n f : Nat} {L : Nat → List ByteArray} (h : OneS m n f L) : ∀ i, i ≤ n → Ai.totF m i = if f < i then sumL L n else 0
  | 0, _ => by simp [Ai.totF]
  | i + 1, hi => by
    rw [Ai.totF, h.totF i (by omega), h.ln]
    by_cases e : i = f
    · subst e; rw [h.rowSum n (Nat.le_refl _)]; simp
    · rw [h.rowSum0 (by omega) e n (Nat.le_refl _)]
      by_cases h2 : f < i
      · simp [h2, show f < i + 1 by omega]
      · simp [h2, show ¬ f < i + 1 by omega]
theorem OneS.total {m : BusM} {n f : Nat} {L : Nat → List ByteArray} (h : OneS m n f L) : totalS m = sumL L n := by
  rw [totalS, h.ln, h.totF n (Nat.le_refl _), if_pos h.fl]

theorem OneS.allF {m : BusM} {n f : Nat} {L : Nat → List ByteArray} (h : OneS m n f L) (hl : ∀ t, t < n → (L t).length < 512) {s : ByteArray} (hs : s.size ≤ 8192) : ∀ i, i ≤ n → OneS (Ai.allF m f s i) n f (fun u => if u < i then L u ++ [s] else L u)
  | 0, _ => h.congr fun t _ => by simp
  | i + 1, hi => by
    have h1 := h.allF hl hs i (by omega)
    have h2 := (h1.send (t := i) (by omega) (by simp; exact hl i (by omega)) hs).2
    rw [Ai.allF]
    refine h2.congr fun t ht => ?_
    by_cases e : t = i
    · subst e; simp
    · by_cases e2 : t < i
      · simp [e, e2, show t < i + 1 by omega]
      · simp [e, e2, show ¬ t < i + 1 by omega]
theorem OneS.all {m : BusM} {n f : Nat} {L : Nat → List ByteArray} (h : OneS m n f L) (c : Nat) (hc : ∀ t, t < n → (L t).length = c) (h5 : c < 512) {s : ByteArray} (hs : s.size ≤ 8192) :
    (allS m f s).1 = 0 ∧ OneS (allS m f s).2 n f (fun u => L u ++ [s]) := by
  have hfree := h.free c (fun t ht => by rw [hc t ht]; omega) h.fl (hc f h.fl)
  have e : allS m f s = (0, Ai.allF m f s m.length) := by
    simp only [allS, thereB_nat (show f < m.length by rw [h.ln]; exact h.fl), Bool.true_eq_false, if_false, show ¬ (8192 < s.size) by omega, hfree]
    rw [if_neg (by omega)]
  rw [e]
  refine ⟨rfl, ?_⟩
  rw [show (0, Ai.allF m f s m.length).2 = Ai.allF m f s m.length from rfl, h.ln]
  exact (h.allF (fun t ht => by rw [hc t ht]; exact h5) hs n (Nat.le_refl _)).congr fun t ht => by simp [ht]
theorem OneS.allFull {m : BusM} {n f : Nat} {L : Nat → List ByteArray} (h : OneS m n f L) (hf : freeS m f = 0) {s : ByteArray} (hs : s.size ≤ 8192) : allS m f s = (2, m) := by
  simp only [allS, thereB_nat (show f < m.length by rw [h.ln]; exact h.fl), Bool.true_eq_false, if_false, show ¬ (8192 < s.size) by omega, hf, if_true]
end Go.Proofs.Ythlehngbadianaa.Ai
set_option linter.unusedVariables false
set_option linter.unusedSimpArgs false
namespace Go.Proofs.Ythlehngbadianaa.Ai
open Go Go.RowKit Go.Proofs
theorem mod_nat (a b : Int) (hb : 0 < b) (ha : 0 ≤ a) : ∃ c : Nat, a.tmod b = c ∧ (c : Int) < b := by
  refine ⟨(a.tmod b).toNat, ?_, ?_⟩
  · rw [Int.toNat_of_nonneg (Int.tmod_nonneg b ha)]
  · rw [Int.toNat_of_nonneg (Int.tmod_nonneg b ha)]; exact Int.tmod_lt_of_pos a hb
theorem u64_nonneg (a : Int) : 0 ≤ IntKind.u64.wrap a := by
  unfold IntKind.wrap
  have e1 : IntKind.u64.signed = false := rfl
  have e2 : IntKind.u64.bits = 64 := rfl
  rw [e1, e2]
  simp only [Bool.false_and, Bool.false_eq_true, if_false]
  omega
end Go.Proofs.Ythlehngbadianaa.Ai
set_option linter.unusedVariables false
set_option linter.unusedSimpArgs false
set_option maxRecDepth 100000
namespace Go.Proofs.Ythlehngbadianaa.Ai
open Go Go.RowKit Go.Proofs

/-- What was sent stands beside the bus. -/
structure Sim (m : BusM) (n : Nat) (L : List (Option (List ByteArray))) : Prop where
  ok : BOk m
  ln : m.length = n
  ll : L.length = 64
  q : ∀ f t, f < n → t < n → getQ m f t = ((L[f * 8 + t]?).getD none).getD []

theorem Sim.n8 {m : BusM} {n : Nat} {L : List (Option (List ByteArray))} (h : Sim m n L) : n ≤ 8 := by rw [← h.ln]; exact h.ok.n
theorem Sim.inR {m : BusM} {n : Nat} {L : List (Option (List ByteArray))} (h : Sim m n L) {f t : Nat} (hf : f < n) (ht : t < n) : inR m (f : Int) (t : Int) = true := inR_nat (by rw [h.ln]; exact hf) (by rw [h.ln]; exact ht)
theorem Sim.get {m : BusM} {n : Nat} {L : List (Option (List ByteArray))} (h : Sim m n L) {f t : Nat} (hf : f < n) (ht : t < n) : ∃ r, L[f * 8 + t]? = some r ∧ getQ m f t = r.getD [] := by
  have h8 := h.n8
  have hlt : f * 8 + t < L.length := by rw [h.ll]; omega
  exact ⟨L[f * 8 + t], List.getElem?_eq_getElem hlt, by rw [h.q f t hf ht, List.getElem?_eq_getElem hlt]; rfl⟩
theorem Sim.set {m : BusM} {n : Nat} {L : List (Option (List ByteArray))} (h : Sim m n L) {f t : Nat} (hf : f < n) (ht : t < n) {q : List ByteArray} (hq : q.length ≤ 512) : Sim (setQ m f t q) n (L.set (f * 8 + t) (some q)) := by
  have h8 := h.n8
  have h1 := h.inR hf ht
  obtain ⟨l, r, e1, e2, e3, e4⟩ := inR_get h.ok.wf h1
  simp only [Int.toNat_natCast] at e1 e2
  have htl := (List.getElem?_eq_some_iff.1 e2).1
  refine ⟨by simpa using h.ok.setQ h1 hq, by rw [setQ_length, h.ln], by simp [h.ll], ?_⟩
  intro f' t' hf' ht'
  rw [getQ_setQ e1 htl, List.getElem?_set]
  by_cases e : f' = f ∧ t' = t
  · obtain ⟨rfl, rfl⟩ := e
    rw [if_pos ⟨rfl, rfl⟩, if_pos rfl, if_pos (by rw [h.ll]; omega)]; rfl
  · rw [if_neg e, if_neg (fun e' => e ⟨by omega, by omega⟩)]
    exact h.q f' t' hf' ht'
theorem Sim.waits {m : BusM} {n : Nat} {L : List (Option (List ByteArray))} (h : Sim m n L) {f t : Nat} (hf : f < n) (ht : t < n) {r : Option (List ByteArray)} (e : L[f * 8 + t]? = some r) : waitsS m (f : Int) (t : Int) = (r.getD []).length := by
  simp only [waitsS, h.inR hf ht, if_true, Int.toNat_natCast, h.q f t hf ht, e, Option.getD_some]

/-- What sending to one gives. -/
theorem Sim.send {m : BusM} {n : Nat} {L : List (Option (List ByteArray))} (h : Sim m n L) {f t : Nat} (hf : f < n) (ht : t < n) {r : Option (List ByteArray)} (e : L[f * 8 + t]? = some r) {s : ByteArray} (hs : ¬ 8192 < s.size) :
    (sendS m f t s = (2, m)) ∨ (sendS m f t s = (0, setQ m f t (r.getD [] ++ [s])) ∧ (r.getD []).length < 512 ∧ Sim (setQ m f t (r.getD [] ++ [s])) n (L.set (f * 8 + t) (some (r.getD [] ++ [s])))) := by
  have hq := h.q f t hf ht
  rw [e] at hq
  simp only [Option.getD_some] at hq
  by_cases h5 : 512 ≤ (r.getD []).length
  · left
    simp [sendS, h.inR hf ht, hs, hq, h5]
  · right
    refine ⟨by simp [sendS, h.inR hf ht, hs, hq, h5], by omega, h.set hf ht (by simp; omega)⟩
theorem Sim.take {m : BusM} {n : Nat} {L : List (Option (List ByteArray))} (h : Sim m n L) {f t : Nat} (hf : f < n) (ht : t < n) {r : Option (List ByteArray)} (e : L[f * 8 + t]? = some r) :
    (r.getD [] = [] ∧ headS m f t = (⟨#[]⟩, 3) ∧ takeS m f t = m) ∨ ∃ x l, r = some (x :: l) ∧ headS m f t = (x, 0) ∧ Sim (takeS m f t) n (L.set (f * 8 + t) (some l)) := by
  have hq := h.q f t hf ht
  rw [e] at hq
  simp only [Option.getD_some] at hq
  cases r with
  | none => left; simp only [Option.getD_none] at hq; exact ⟨rfl, by simp [headS, h.inR hf ht, hq], by simp [takeS, h.inR hf ht, hq]⟩
  | some q =>
    simp only [Option.getD_some] at hq
    cases q with
    | nil => left; exact ⟨rfl, by simp [headS, h.inR hf ht, hq], by simp [takeS, h.inR hf ht, hq]⟩
    | cons x l =>
      right
      have h5 := h.ok.q f t
      rw [hq] at h5
      refine ⟨x, l, rfl, by simp [headS, h.inR hf ht, hq], ?_⟩
      have e2 : takeS m f t = setQ m f t l := by simp [takeS, h.inR hf ht, hq]
      rw [e2]
      exact h.set hf ht (by simp at h5; omega)
/-- The lists after sending to all. -/
def LL (L : List (Option (List ByteArray))) (f : Nat) (s : ByteArray) : Nat → List (Option (List ByteArray))
  | 0 => L
  | k + 1 => (LL L f s k).set (f * 8 + k) (some ((((LL L f s k)[f * 8 + k]?).getD none).getD [] ++ [s]))
theorem LL_get (L : List (Option (List ByteArray))) (f : Nat) (s : ByteArray) : ∀ (k j : Nat), k ≤ j → (LL L f s k)[f * 8 + j]? = L[f * 8 + j]?
  | 0, j, _ => rfl
  | k + 1, j, h => by rw [LL, List.getElem?_set_ne (by omega), LL_get L f s k j (by omega)]
theorem LL_length (L : List (Option (List ByteArray))) (f : Nat) (s : ByteArray) : ∀ k, (LL L f s k).length = L.length
  | 0 => rfl
  | k + 1 => by rw [LL, List.length_set, LL_length L f s k]
theorem freeF_le (m : BusM) (f : Int) (t : Nat) : ∀ i, t < i → freeF m f i ≤ 512 - (waitsS m f t : Int)
  | 0, h => by omega
  | i + 1, h => by
    simp only [freeF]
    by_cases e : t = i
    · subst e; split <;> omega
    · have := freeF_le m f t i (by omega); split <;> omega
theorem BOk.freeF_ge {m : BusM} (h : BOk m) (f : Int) : ∀ i, 0 ≤ freeF m f i
  | 0 => by simp [freeF]
  | i + 1 => by have := h.freeF_ge f i; have := h.waits f i; simp only [freeF]; split <;> omega
theorem Sim.all {m : BusM} {n : Nat} {L : List (Option (List ByteArray))} (h : Sim m n L) {f : Nat} (hf : f < n) {s : ByteArray} (hs : ¬ 8192 < s.size) :
    (allS m f s = (2, m)) ∨ (allS m f s = (0, allF m f s n) ∧ (∀ k, k ≤ n → Sim (allF m f s k) n (LL L f s k)) ∧ ∀ k r, k < n → L[f * 8 + k]? = some r → (r.getD []).length < 512) := by
  have ht : thereB m (f : Int) = true := thereB_nat (by rw [h.ln]; exact hf)
  by_cases h0 : freeS m f = 0
  · left; simp [allS, ht, hs, h0]
  right
  have room : ∀ k r, k < n → L[f * 8 + k]? = some r → (r.getD []).length < 512 := by
    intro k r hk e
    have h1 := freeF_le m f k m.length (by rw [h.ln]; exact hk)
    rw [h.waits hf hk e] at h1
    have h2 := h.ok.freeF_ge f m.length
    simp only [freeS, ht, if_true] at h0
    have h3 := h.ok.q f k
    rw [h.q f k hf hk, e] at h3
    simp only [Option.getD_some] at h3
    omega
  refine ⟨by simp [allS, ht, hs, h0, h.ln], ?_, room⟩
  intro k
  induction k with
  | zero => intro _; exact h
  | succ k ih =>
    intro hk
    have h1 := ih (by omega)
    obtain ⟨r, e, _⟩ := h.get hf (t := k) (by omega)
    have e2 : (LL L f s k)[f * 8 + k]? = some r := by rw [LL_get L f s k k (Nat.le_refl _)]; exact e
    have hr := room k r (by omega) e
    rcases h1.send hf (t := k) (by omega) e2 hs with h2 | ⟨h2, _, h3⟩
    · exfalso
      have hq := h1.q f k hf (by omega)
      rw [e2] at hq
      simp only [Option.getD_some] at hq
      simp [sendS, h1.inR hf (show k < n by omega), hs, hq, show ¬ 512 ≤ (r.getD []).length by omega] at h2
    · rw [allF, h2, LL, e2]
      simpa using h3
theorem Sim.new {n : Nat} (hn : n ≤ 8) : Sim (newM n n) n (List.replicate 64 none) := ⟨BOk.new hn, by simp [newM], by simp, fun f t hf ht => by
  rw [getQ_newM, List.getElem?_replicate, if_pos (by omega)]; rfl⟩
end Go.Proofs.Ythlehngbadianaa.Ai
set_option linter.unusedVariables false
set_option linter.unusedSimpArgs false
set_option maxRecDepth 100000
namespace Go.Proofs.Ythlehngbadianaa.Ai
open Go Go.RowKit Go.Proofs
structure OpT where
  k : Int
  f : Int
  t : Int
  s : ByteArray
  m : Int
def opAV (o : OpT) : AV := .agg [.v (.int .i64 o.k), .v (.int .i64 o.f), .v (.int .i64 o.t), .v (.string o.s), .v (.int .i64 o.m)]
def opsAV (os : List OpT) : List AV := os.map opAV
theorem set_set' {α : Type} (l : List α) (i : Nat) (a b : α) : (l.set i a).set i b = l.set i b := by simp
theorem rep64 : ([.v (.slice none 0 0), .v (.slice none 0 0), .v (.slice none 0 0), .v (.slice none 0 0), .v (.slice none 0 0), .v (.slice none 0 0), .v (.slice none 0 0), .v (.slice none 0 0), .v (.slice none 0 0), .v (.slice none 0 0), .v (.slice none 0 0), .v (.slice none 0 0), .v (.slice none 0 0), .v (.slice none 0 0), .v (.slice none 0 0), .v (.slice none 0 0), .v (.slice none 0 0), .v (.slice none 0 0), .v (.slice none 0 0), .v (.slice none 0 0), .v (.slice none 0 0), .v (.slice none 0 0), .v (.slice none 0 0), .v (.slice none 0 0), .v (.slice none 0 0), .v (.slice none 0 0), .v (.slice none 0 0), .v (.slice none 0 0), .v (.slice none 0 0), .v (.slice none 0 0), .v (.slice none 0 0), .v (.slice none 0 0), .v (.slice none 0 0), .v (.slice none 0 0), .v (.slice none 0 0), .v (.slice none 0 0), .v (.slice none 0 0), .v (.slice none 0 0), .v (.slice none 0 0), .v (.slice none 0 0), .v (.slice none 0 0), .v (.slice none 0 0), .v (.slice none 0 0), .v (.slice none 0 0), .v (.slice none 0 0), .v (.slice none 0 0), .v (.slice none 0 0), .v (.slice none 0 0), .v (.slice none 0 0), .v (.slice none 0 0), .v (.slice none 0 0), .v (.slice none 0 0), .v (.slice none 0 0), .v (.slice none 0 0), .v (.slice none 0 0), .v (.slice none 0 0), .v (.slice none 0 0), .v (.slice none 0 0), .v (.slice none 0 0), .v (.slice none 0 0), .v (.slice none 0 0), .v (.slice none 0 0), .v (.slice none 0 0), .v (.slice none 0 0)] : List AV) = (List.replicate 64 none).map rowC := by rfl
end Go.Proofs.Ythlehngbadianaa.Ai
set_option linter.unusedVariables false
set_option linter.unusedSimpArgs false
set_option maxRecDepth 100000
set_option maxHeartbeats 1000000
namespace Go.Proofs.Ythlehngbadianaa.Ai
open Go Go.RowKit Go.Proofs
/- watershed/watershedref20.New -/
def cc14 : CC := (.seq (.region [⟨none, 2, (.val (.mv (.c (.pointer none)))), [], [2]⟩, ⟨none, 3, (.val (.mv (.c (.int .i64 0)))), [], [3]⟩]) (.seq (.seq (.region [⟨none, 4, (.val (.mv (.s 0))), [], []⟩, ⟨none, 5, (.val (.bin .lss (.s 4) (.c (.int .i64 1)))), [], [4]⟩, ⟨none, 6, (.val (.mv (.s 5))), [5], [5]⟩, ⟨(some (6, false)), 7, (.val (.mv (.s 0))), [], []⟩, ⟨(some (6, false)), 8, (.val (.bin .gtr (.s 7) (.c (.int .i64 8)))), [], [7]⟩, ⟨none, 9, (.val (.pick (.s 6) (.c (.bool true)) (.s 8))), [6, 8], [6, 8]⟩]) (.cond (.s 9) (.seq (.region [⟨none, 2, (.val (.mv (.c (.pointer none)))), [], [0, 9]⟩, ⟨none, 3, (.val (.mv (.c (.int .i64 1)))), [], []⟩]) .ret) .skip)) (.seq (.region [⟨none, 10, (.val (.mv (.s 0))), [0], [0, 9]⟩, ⟨none, 11, (.val (.bld [(.int .i64 0), (.slice none 0 0), (.slice none 0 0), (.slice none 0 0), (.slice none 0 0), (.slice none 0 0), (.slice none 0 0), (.slice none 0 0), (.slice none 0 0), (.slice none 0 0), (.slice none 0 0), (.slice none 0 0), (.slice none 0 0), (.slice none 0 0), (.slice none 0 0), (.slice none 0 0), (.slice none 0 0), (.slice none 0 0), (.slice none 0 0), (.slice none 0 0), (.slice none 0 0), (.slice none 0 0), (.slice none 0 0), (.slice none 0 0), (.slice none 0 0), (.slice none 0 0), (.slice none 0 0), (.slice none 0 0), (.slice none 0 0), (.slice none 0 0), (.slice none 0 0), (.slice none 0 0), (.slice none 0 0), (.slice none 0 0), (.slice none 0 0), (.slice none 0 0), (.slice none 0 0), (.slice none 0 0), (.slice none 0 0), (.slice none 0 0), (.slice none 0 0), (.slice none 0 0), (.slice none 0 0), (.slice none 0 0), (.slice none 0 0), (.slice none 0 0), (.slice none 0 0), (.slice none 0 0), (.slice none 0 0), (.slice none 0 0), (.slice none 0 0), (.slice none 0 0), (.slice none 0 0), (.slice none 0 0), (.slice none 0 0), (.slice none 0 0), (.slice none 0 0), (.slice none 0 0), (.slice none 0 0), (.slice none 0 0), (.slice none 0 0), (.slice none 0 0), (.slice none 0 0), (.slice none 0 0), (.slice none 0 0)] [(0, (1, (.s 10)))])), [10], [10]⟩, ⟨none, 12, (.box 11), [], [11]⟩, ⟨none, 2, (.val (.mv (.s 12))), [12], [12]⟩, ⟨none, 3, (.val (.mv (.c (.int .i64 0)))), [], []⟩]) .ret)))
theorem ok14 : FnOk Try.prog 14 cc14 [2, 3] 1 13 := ⟨⟨_, Try.func14, by kernel_rfl, by kernel_rfl, by kernel_rfl⟩, by decide, by decide, by decide⟩

/- watershed/watershedlaw20.times -/
def cc15 : CC := (.seq (.region [⟨none, 1, (.box 0), [], [0]⟩, ⟨none, 2, (.val (.mv (.c (.int .i64 0)))), [], [2]⟩]) (.seq (.seq (.region [⟨none, 3, (.val (.fa (.s 1) 4)), [], []⟩, ⟨none, 4, (.val (.ld (.s 3) none)), [], [3]⟩, ⟨none, 5, (.val (.bin .lss (.s 4) (.c (.int .i64 1)))), [], [4]⟩]) (.cond (.s 5) (.seq (.region [⟨none, 2, (.val (.mv (.c (.int .i64 1)))), [], [1, 5]⟩]) .ret) .skip)) (.seq (.region [⟨none, 6, (.val (.fa (.s 1) 4)), [], [1, 5]⟩, ⟨none, 7, (.val (.ld (.s 6) none)), [], [6]⟩, ⟨none, 8, (.val (.mn (.s 7) (.c (.int .i64 600)))), [], [7]⟩, ⟨none, 2, (.val (.mv (.s 8))), [8], [8]⟩]) .ret)))
theorem ok15 : FnOk Try.prog 15 cc15 [2] 1 9 := ⟨⟨_, Try.func15, by kernel_rfl, by kernel_rfl, by kernel_rfl⟩, by decide, by decide, by decide⟩

/- (watershed/watershedref20.Bus).Send -/
def cc17 : CC := (.seq (.region [⟨none, 8, (.val (.mv (.c (.int .i64 0)))), [], [8]⟩]) (.seq (.block 0 (.seq (.region [⟨none, 10, (.val (.mv (.s 0))), [], []⟩, ⟨none, 11, (.val (.mv (.s 1))), [], []⟩, ⟨none, 12, (.call 105 [(.s 10), (.s 11)]), [], [10, 11]⟩, ⟨none, 13, (.val (.un .not (.s 12))), [], [12]⟩, ⟨none, 14, (.val (.mv (.s 13))), [13], [13]⟩, ⟨(some (14, false)), 15, (.val (.mv (.s 0))), [], []⟩, ⟨(some (14, false)), 16, (.val (.mv (.s 2))), [], []⟩, ⟨(some (14, false)), 17, (.call 105 [(.s 15), (.s 16)]), [], [15, 16]⟩, ⟨(some (14, false)), 18, (.val (.un .not (.s 17))), [], [17]⟩, ⟨none, 19, (.val (.pick (.s 14) (.c (.bool true)) (.s 18))), [14, 18], [14, 18]⟩, ⟨none, 9, (.val (.mv (.s 19))), [19], [19]⟩]) (.cond (.s 9) (.seq (.region [⟨none, 8, (.val (.mv (.c (.int .i64 1)))), [], [0, 1, 2, 3, 9]⟩]) .ret) (.seq (.region [⟨none, 21, (.val (.mv (.s 3))), [], [9]⟩, ⟨none, 22, (.val (.lns (.s 21))), [], [21]⟩, ⟨none, 23, (.val (.bin .gtr (.s 22) (.c (.int .i64 8192)))), [], [22]⟩, ⟨none, 20, (.val (.mv (.s 23))), [23], [23]⟩]) (.cond (.s 20) (.seq (.region [⟨none, 8, (.val (.mv (.c (.int .i64 7)))), [], [0, 1, 2, 3, 20]⟩]) .ret) (.seq (.region [⟨none, 25, (.val (.mv (.s 0))), [], [20]⟩, ⟨none, 26, (.val (.mv (.s 1))), [], []⟩, ⟨none, 27, (.val (.mv (.s 2))), [], []⟩, ⟨none, 28, (.val (.nc (.s 25))), [], [25]⟩, ⟨none, 29, (.val (.fa (.s 28) 1)), [], [28]⟩, ⟨none, 30, (.val (.iaa (.s 29) (.s 26) 8 8)), [], [26, 29]⟩, ⟨none, 31, (.val (.iaa (.s 30) (.s 27) 8 1)), [], [27, 30]⟩, ⟨none, 32, (.val (.ld (.s 31) none)), [], [31]⟩, ⟨none, 33, (.val (.lnl (.s 32) 1)), [], [32]⟩, ⟨none, 34, (.val (.bin .geq (.s 33) (.c (.int .i64 512)))), [], [33]⟩, ⟨none, 24, (.val (.mv (.s 34))), [34], [34]⟩]) (.cond (.s 24) (.seq (.region [⟨none, 8, (.val (.mv (.c (.int .i64 2)))), [], [0, 1, 2, 3, 24]⟩]) .ret) .skip))))))) (.seq (.region [⟨none, 35, (.val (.mv (.s 0))), [], [24]⟩, ⟨none, 36, (.val (.mv (.s 1))), [], []⟩, ⟨none, 37, (.val (.mv (.s 2))), [], []⟩, ⟨none, 38, (.val (.mv (.s 0))), [0], [0]⟩, ⟨none, 39, (.val (.mv (.s 1))), [1], [1]⟩, ⟨none, 40, (.val (.mv (.s 2))), [2], [2]⟩, ⟨none, 41, (.val (.nc (.s 38))), [], [38]⟩, ⟨none, 42, (.val (.fa (.s 41) 1)), [], [41]⟩, ⟨none, 43, (.val (.iaa (.s 42) (.s 39) 8 8)), [], [39, 42]⟩, ⟨none, 44, (.val (.iaa (.s 43) (.s 40) 8 1)), [], [40, 43]⟩, ⟨none, 45, (.val (.ld (.s 44) none)), [], [44]⟩, ⟨none, 46, (.val (.mv (.s 3))), [3], [3]⟩, ⟨none, 49, (.val (.nc (.s 35))), [], [35]⟩, ⟨none, 50, (.val (.fa (.s 49) 1)), [], [49]⟩, ⟨none, 51, (.val (.iaa (.s 50) (.s 36) 8 8)), [], [36, 50]⟩, ⟨none, 47, (.lit 1 [(.s 46)]), [], [46]⟩, ⟨none, 48, (.app 1 16 false (.s 45) (.s 47)), [], [45, 47]⟩, ⟨none, 52, (.val (.iaa (.s 51) (.s 37) 8 1)), [], [37, 51]⟩, ⟨none, 0, (.store 1 (.s 52) 48), [], [48, 52]⟩]) (.seq (.region [⟨none, 8, (.val (.mv (.c (.int .i64 0)))), [], []⟩]) .ret))))
theorem ok17 : FnOk Try.prog 17 cc17 [8] 4 53 := ⟨⟨_, Try.func17, by kernel_rfl, by kernel_rfl, by kernel_rfl⟩, by decide, by decide, by decide⟩

/- (watershed/watershedref20.Bus).All -/
def cc19 : CC := (.seq (.region [⟨none, 6, (.val (.mv (.c (.int .i64 0)))), [], [6]⟩]) (.seq (.block 0 (.seq (.region [⟨none, 9, (.val (.mv (.s 0))), [], []⟩, ⟨none, 10, (.val (.mv (.s 1))), [], []⟩, ⟨none, 11, (.call 105 [(.s 9), (.s 10)]), [], [9, 10]⟩, ⟨none, 12, (.val (.un .not (.s 11))), [], [11]⟩, ⟨none, 8, (.val (.mv (.s 12))), [12], [12]⟩]) (.cond (.s 8) (.seq (.region [⟨none, 6, (.val (.mv (.c (.int .i64 1)))), [], [0, 1, 2, 8]⟩]) .ret) (.seq (.region [⟨none, 14, (.val (.mv (.s 2))), [], [8]⟩, ⟨none, 15, (.val (.lns (.s 14))), [], [14]⟩, ⟨none, 16, (.val (.bin .gtr (.s 15) (.c (.int .i64 8192)))), [], [15]⟩, ⟨none, 13, (.val (.mv (.s 16))), [16], [16]⟩]) (.cond (.s 13) (.seq (.region [⟨none, 6, (.val (.mv (.c (.int .i64 7)))), [], [0, 1, 2, 13]⟩]) .ret) (.seq (.region [⟨none, 18, (.val (.mv (.s 0))), [], [13]⟩, ⟨none, 19, (.val (.mv (.s 1))), [], []⟩, ⟨none, 20, (.call 29 [(.s 18), (.s 19)]), [], [18, 19]⟩, ⟨none, 21, (.val (.bin .eql (.s 20) (.c (.int .i64 0)))), [], [20]⟩, ⟨none, 17, (.val (.mv (.s 21))), [21], [21]⟩]) (.cond (.s 17) (.seq (.region [⟨none, 6, (.val (.mv (.c (.int .i64 2)))), [], [0, 1, 2, 17]⟩]) .ret) .skip))))))) (.seq (.seq (.region [⟨none, 7, (.val (.mv (.c (.int .i64 0)))), [], [17]⟩]) (.block 1 (.loop (.seq (.seq (.region [⟨none, 22, (.val (.mv (.s 7))), [], []⟩, ⟨none, 23, (.val (.mv (.s 0))), [], []⟩, ⟨none, 24, (.val (.nc (.s 23))), [], [23]⟩, ⟨none, 25, (.val (.fa (.s 24) 0)), [], [24]⟩, ⟨none, 26, (.val (.ld (.s 25) none)), [], [25]⟩, ⟨none, 27, (.val (.bin .lss (.s 22) (.s 26))), [], [22, 26]⟩]) (.cond (.s 27) .skip (.exit 1))) (.seq (.block 2 (.region [⟨none, 30, (.val (.mv (.s 0))), [], [27]⟩, ⟨none, 31, (.val (.mv (.s 1))), [], []⟩, ⟨none, 32, (.val (.mv (.s 7))), [], []⟩, ⟨none, 33, (.val (.mv (.s 2))), [], []⟩, ⟨none, 34, (.call 17 [(.s 30), (.s 31), (.s 32), (.s 33)]), [], [30, 31, 32, 33, 34]⟩])) (.region [⟨none, 28, (.val (.mv (.s 7))), [7], [7]⟩, ⟨none, 29, (.val (.bin .add (.s 28) (.c (.int .i64 1)))), [], [28]⟩, ⟨none, 7, (.val (.mv (.s 29))), [29], [29]⟩])))))) (.seq (.region [⟨none, 6, (.val (.mv (.c (.int .i64 0)))), [], [0, 1, 2, 7, 27]⟩]) .ret))))
theorem ok19 : FnOk Try.prog 19 cc19 [6] 3 35 := ⟨⟨_, Try.func19, by kernel_rfl, by kernel_rfl, by kernel_rfl⟩, by decide, by decide, by decide⟩

/- (watershed/watershedref20.Bus).Take -/
def cc21 : CC := (.seq (.region [⟨none, 6, (.val (.mv (.c (.string ⟨#[]⟩)))), [], [6]⟩, ⟨none, 7, (.val (.mv (.c (.int .i64 0)))), [], [7]⟩]) (.seq (.region [⟨none, 11, (.val (.mv (.s 0))), [], []⟩, ⟨none, 12, (.val (.mv (.s 1))), [], []⟩, ⟨none, 13, (.val (.mv (.s 2))), [], []⟩, ⟨none, 14, (.call 23 [(.s 11), (.s 12), (.s 13)]), [], [11, 12, 13]⟩, ⟨none, 10, (.val (.mv (.s 14))), [14], [14]⟩, ⟨none, 15, (.val (.ext (.s 10) 0)), [10], []⟩, ⟨none, 16, (.val (.ext (.s 10) 1)), [10], [10]⟩, ⟨none, 8, (.val (.mv (.s 15))), [15], [15]⟩, ⟨none, 9, (.val (.mv (.s 16))), [16], [16]⟩]) (.seq (.seq (.region [⟨none, 17, (.val (.mv (.s 9))), [], []⟩, ⟨none, 18, (.val (.bin .eql (.s 17) (.c (.int .i64 0)))), [], [17]⟩]) (.cond (.s 18) (.region [⟨none, 19, (.val (.mv (.s 0))), [], [18]⟩, ⟨none, 20, (.val (.mv (.s 1))), [], []⟩, ⟨none, 21, (.val (.mv (.s 2))), [], []⟩, ⟨none, 22, (.val (.mv (.s 0))), [0], [0]⟩, ⟨none, 23, (.val (.mv (.s 1))), [1], [1]⟩, ⟨none, 24, (.val (.mv (.s 2))), [2], [2]⟩, ⟨none, 25, (.val (.nc (.s 22))), [], [22]⟩, ⟨none, 26, (.val (.fa (.s 25) 1)), [], [25]⟩, ⟨none, 27, (.val (.iaa (.s 26) (.s 23) 8 8)), [], [23, 26]⟩, ⟨none, 28, (.val (.iaa (.s 27) (.s 24) 8 1)), [], [24, 27]⟩, ⟨none, 29, (.val (.ld (.s 28) none)), [], [28]⟩, ⟨none, 30, (.val (.sl (.s 29) (some (.c (.int .i64 1))) none none 1)), [29], [29]⟩, ⟨none, 31, (.val (.nc (.s 19))), [], [19]⟩, ⟨none, 32, (.val (.fa (.s 31) 1)), [], [31]⟩, ⟨none, 33, (.val (.iaa (.s 32) (.s 20) 8 8)), [], [20, 32]⟩, ⟨none, 34, (.val (.iaa (.s 33) (.s 21) 8 1)), [], [21, 33]⟩, ⟨none, 0, (.store 1 (.s 34) 30), [], [30, 34]⟩]) .skip)) (.seq (.region [⟨none, 35, (.val (.mv (.s 8))), [8], [0, 1, 2, 8, 18]⟩, ⟨none, 36, (.val (.mv (.s 9))), [9], [9]⟩, ⟨none, 6, (.val (.mv (.s 35))), [35], [35]⟩, ⟨none, 7, (.val (.mv (.s 36))), [36], [36]⟩]) .ret))))
theorem ok21 : FnOk Try.prog 21 cc21 [6, 7] 3 37 := ⟨⟨_, Try.func21, by kernel_rfl, by kernel_rfl, by kernel_rfl⟩, by decide, by decide, by decide⟩

/- (watershed/watershedref20.Bus).Head -/
def cc23 : CC := (.seq (.region [⟨none, 6, (.val (.mv (.c (.string ⟨#[]⟩)))), [], [6]⟩, ⟨none, 7, (.val (.mv (.c (.int .i64 0)))), [], [7]⟩]) (.seq (.block 0 (.seq (.region [⟨none, 9, (.val (.mv (.s 0))), [], []⟩, ⟨none, 10, (.val (.mv (.s 1))), [], []⟩, ⟨none, 11, (.call 105 [(.s 9), (.s 10)]), [], [9, 10]⟩, ⟨none, 12, (.val (.un .not (.s 11))), [], [11]⟩, ⟨none, 13, (.val (.mv (.s 12))), [12], [12]⟩, ⟨(some (13, false)), 14, (.val (.mv (.s 0))), [], []⟩, ⟨(some (13, false)), 15, (.val (.mv (.s 2))), [], []⟩, ⟨(some (13, false)), 16, (.call 105 [(.s 14), (.s 15)]), [], [14, 15]⟩, ⟨(some (13, false)), 17, (.val (.un .not (.s 16))), [], [16]⟩, ⟨none, 18, (.val (.pick (.s 13) (.c (.bool true)) (.s 17))), [13, 17], [13, 17]⟩, ⟨none, 8, (.val (.mv (.s 18))), [18], [18]⟩]) (.cond (.s 8) (.seq (.region [⟨none, 6, (.val (.mv (.c (.string ⟨#[]⟩)))), [], [0, 1, 2, 8]⟩, ⟨none, 7, (.val (.mv (.c (.int .i64 1)))), [], []⟩]) .ret) (.seq (.region [⟨none, 20, (.val (.mv (.s 0))), [], [8]⟩, ⟨none, 21, (.val (.mv (.s 1))), [], []⟩, ⟨none, 22, (.val (.mv (.s 2))), [], []⟩, ⟨none, 23, (.val (.nc (.s 20))), [], [20]⟩, ⟨none, 24, (.val (.fa (.s 23) 1)), [], [23]⟩, ⟨none, 25, (.val (.iaa (.s 24) (.s 21) 8 8)), [], [21, 24]⟩, ⟨none, 26, (.val (.iaa (.s 25) (.s 22) 8 1)), [], [22, 25]⟩, ⟨none, 27, (.val (.ld (.s 26) none)), [], [26]⟩, ⟨none, 28, (.val (.lnl (.s 27) 1)), [], [27]⟩, ⟨none, 29, (.val (.bin .eql (.s 28) (.c (.int .i64 0)))), [], [28]⟩, ⟨none, 19, (.val (.mv (.s 29))), [29], [29]⟩]) (.cond (.s 19) (.seq (.region [⟨none, 6, (.val (.mv (.c (.string ⟨#[]⟩)))), [], [0, 1, 2, 19]⟩, ⟨none, 7, (.val (.mv (.c (.int .i64 3)))), [], []⟩]) .ret) .skip))))) (.seq (.region [⟨none, 30, (.val (.mv (.s 0))), [0], [0, 19]⟩, ⟨none, 31, (.val (.mv (.s 1))), [1], [1]⟩, ⟨none, 32, (.val (.mv (.s 2))), [2], [2]⟩, ⟨none, 33, (.val (.nc (.s 30))), [], [30]⟩, ⟨none, 34, (.val (.fa (.s 33) 1)), [], [33]⟩, ⟨none, 35, (.val (.iaa (.s 34) (.s 31) 8 8)), [], [31, 34]⟩, ⟨none, 36, (.val (.iaa (.s 35) (.s 32) 8 1)), [], [32, 35]⟩, ⟨none, 37, (.val (.ld (.s 36) none)), [], [36]⟩, ⟨none, 38, (.val (.ia (.s 37) (.c (.int .i64 0)) 1)), [], [37]⟩, ⟨none, 39, (.val (.ld (.s 38) none)), [], [38]⟩, ⟨none, 6, (.val (.mv (.s 39))), [39], [39]⟩, ⟨none, 7, (.val (.mv (.c (.int .i64 0)))), [], []⟩]) .ret)))
theorem ok23 : FnOk Try.prog 23 cc23 [6, 7] 3 40 := ⟨⟨_, Try.func23, by kernel_rfl, by kernel_rfl, by kernel_rfl⟩, by decide, by decide, by decide⟩

/- (watershed/watershedref20.Bus).Waits -/
def cc25 : CC := (.seq (.region [⟨none, 6, (.val (.mv (.c (.int .i64 0)))), [], [6]⟩]) (.seq (.seq (.region [⟨none, 7, (.val (.mv (.s 0))), [], []⟩, ⟨none, 8, (.val (.mv (.s 1))), [], []⟩, ⟨none, 9, (.call 105 [(.s 7), (.s 8)]), [], [7, 8]⟩, ⟨none, 10, (.val (.un .not (.s 9))), [], [9]⟩, ⟨none, 11, (.val (.mv (.s 10))), [10], [10]⟩, ⟨(some (11, false)), 12, (.val (.mv (.s 0))), [], []⟩, ⟨(some (11, false)), 13, (.val (.mv (.s 2))), [], []⟩, ⟨(some (11, false)), 14, (.call 105 [(.s 12), (.s 13)]), [], [12, 13]⟩, ⟨(some (11, false)), 15, (.val (.un .not (.s 14))), [], [14]⟩, ⟨none, 16, (.val (.pick (.s 11) (.c (.bool true)) (.s 15))), [11, 15], [11, 15]⟩]) (.cond (.s 16) (.seq (.region [⟨none, 6, (.val (.mv (.c (.int .i64 0)))), [], [0, 1, 2, 16]⟩]) .ret) .skip)) (.seq (.region [⟨none, 17, (.val (.mv (.s 0))), [0], [0, 16]⟩, ⟨none, 18, (.val (.mv (.s 1))), [1], [1]⟩, ⟨none, 19, (.val (.mv (.s 2))), [2], [2]⟩, ⟨none, 20, (.val (.nc (.s 17))), [], [17]⟩, ⟨none, 21, (.val (.fa (.s 20) 1)), [], [20]⟩, ⟨none, 22, (.val (.iaa (.s 21) (.s 18) 8 8)), [], [18, 21]⟩, ⟨none, 23, (.val (.iaa (.s 22) (.s 19) 8 1)), [], [19, 22]⟩, ⟨none, 24, (.val (.ld (.s 23) none)), [], [23]⟩, ⟨none, 25, (.val (.lnl (.s 24) 1)), [], [24]⟩, ⟨none, 6, (.val (.mv (.s 25))), [25], [25]⟩]) .ret)))
theorem ok25 : FnOk Try.prog 25 cc25 [6] 3 26 := ⟨⟨_, Try.func25, by kernel_rfl, by kernel_rfl, by kernel_rfl⟩, by decide, by decide, by decide⟩

/- (watershed/watershedref20.Bus).Total -/
def cc27 : CC := (.seq (.region [⟨none, 2, (.val (.mv (.c (.int .i64 0)))), [], [2]⟩]) (.seq (.region [⟨none, 3, (.val (.mv (.c (.int .i64 0)))), [], []⟩]) (.seq (.seq (.region [⟨none, 4, (.val (.mv (.c (.int .i64 0)))), [], []⟩]) (.block 0 (.loop (.seq (.seq (.region [⟨none, 6, (.val (.mv (.s 4))), [], []⟩, ⟨none, 7, (.val (.bin .lss (.s 6) (.c (.int .i64 8)))), [], [6]⟩]) (.cond (.s 7) .skip (.exit 0))) (.seq (.block 1 (.seq (.region [⟨none, 5, (.val (.mv (.c (.int .i64 0)))), [], [7]⟩]) (.block 2 (.loop (.seq (.seq (.region [⟨none, 10, (.val (.mv (.s 5))), [], []⟩, ⟨none, 11, (.val (.bin .lss (.s 10) (.c (.int .i64 8)))), [], [10]⟩]) (.cond (.s 11) .skip (.exit 2))) (.seq (.block 3 (.region [⟨none, 14, (.val (.mv (.s 3))), [3], [3, 11]⟩, ⟨none, 15, (.val (.mv (.s 0))), [], []⟩, ⟨none, 16, (.val (.mv (.s 4))), [], []⟩, ⟨none, 17, (.val (.mv (.s 5))), [], []⟩, ⟨none, 18, (.val (.nc (.s 15))), [], [15]⟩, ⟨none, 19, (.val (.fa (.s 18) 1)), [], [18]⟩, ⟨none, 20, (.val (.iaa (.s 19) (.s 16) 8 8)), [], [16, 19]⟩, ⟨none, 21, (.val (.iaa (.s 20) (.s 17) 8 1)), [], [17, 20]⟩, ⟨none, 22, (.val (.ld (.s 21) none)), [], [21]⟩, ⟨none, 23, (.val (.lnl (.s 22) 1)), [], [22]⟩, ⟨none, 24, (.val (.bin .add (.s 14) (.s 23))), [], [14, 23]⟩, ⟨none, 3, (.val (.mv (.s 24))), [24], [24]⟩])) (.region [⟨none, 12, (.val (.mv (.s 5))), [5], [5]⟩, ⟨none, 13, (.val (.bin .add (.s 12) (.c (.int .i64 1)))), [], [12]⟩, ⟨none, 5, (.val (.mv (.s 13))), [13], [13]⟩]))))))) (.region [⟨none, 8, (.val (.mv (.s 4))), [4], [4, 5, 11]⟩, ⟨none, 9, (.val (.bin .add (.s 8) (.c (.int .i64 1)))), [], [8]⟩, ⟨none, 4, (.val (.mv (.s 9))), [9], [9]⟩])))))) (.seq (.region [⟨none, 25, (.val (.mv (.s 3))), [3], [0, 3, 4, 7]⟩, ⟨none, 2, (.val (.mv (.s 25))), [25], [25]⟩]) .ret))))
theorem ok27 : FnOk Try.prog 27 cc27 [2] 1 26 := ⟨⟨_, Try.func27, by kernel_rfl, by kernel_rfl, by kernel_rfl⟩, by decide, by decide, by decide⟩

/- (watershed/watershedref20.Bus).Free -/
def cc29 : CC := (.seq (.region [⟨none, 4, (.val (.mv (.c (.int .i64 0)))), [], [4]⟩]) (.seq (.seq (.region [⟨none, 7, (.val (.mv (.s 0))), [], []⟩, ⟨none, 8, (.val (.mv (.s 1))), [], []⟩, ⟨none, 9, (.call 105 [(.s 7), (.s 8)]), [], [7, 8]⟩, ⟨none, 10, (.val (.un .not (.s 9))), [], [9]⟩]) (.cond (.s 10) (.seq (.region [⟨none, 4, (.val (.mv (.c (.int .i64 0)))), [], [0, 1, 10]⟩]) .ret) .skip)) (.seq (.region [⟨none, 5, (.val (.mv (.c (.int .i64 512)))), [], [10]⟩]) (.seq (.seq (.region [⟨none, 6, (.val (.mv (.c (.int .i64 0)))), [], []⟩]) (.block 0 (.loop (.seq (.seq (.region [⟨none, 11, (.val (.mv (.s 6))), [], []⟩, ⟨none, 12, (.val (.mv (.s 0))), [], []⟩, ⟨none, 13, (.val (.nc (.s 12))), [], [12]⟩, ⟨none, 14, (.val (.fa (.s 13) 0)), [], [13]⟩, ⟨none, 15, (.val (.ld (.s 14) none)), [], [14]⟩, ⟨none, 16, (.val (.bin .lss (.s 11) (.s 15))), [], [11, 15]⟩]) (.cond (.s 16) .skip (.exit 0))) (.seq (.block 1 (.region [⟨none, 19, (.val (.mv (.s 5))), [5], [5, 16]⟩, ⟨none, 20, (.val (.mv (.s 0))), [], []⟩, ⟨none, 21, (.val (.mv (.s 1))), [], []⟩, ⟨none, 22, (.val (.mv (.s 6))), [], []⟩, ⟨none, 23, (.val (.nc (.s 20))), [], [20]⟩, ⟨none, 24, (.val (.fa (.s 23) 1)), [], [23]⟩, ⟨none, 25, (.val (.iaa (.s 24) (.s 21) 8 8)), [], [21, 24]⟩, ⟨none, 26, (.val (.iaa (.s 25) (.s 22) 8 1)), [], [22, 25]⟩, ⟨none, 27, (.val (.ld (.s 26) none)), [], [26]⟩, ⟨none, 28, (.val (.lnl (.s 27) 1)), [], [27]⟩, ⟨none, 29, (.val (.bin .sub (.c (.int .i64 512)) (.s 28))), [], [28]⟩, ⟨none, 30, (.val (.mn (.s 19) (.s 29))), [], [19, 29]⟩, ⟨none, 5, (.val (.mv (.s 30))), [30], [30]⟩])) (.region [⟨none, 17, (.val (.mv (.s 6))), [6], [6]⟩, ⟨none, 18, (.val (.bin .add (.s 17) (.c (.int .i64 1)))), [], [17]⟩, ⟨none, 6, (.val (.mv (.s 18))), [18], [18]⟩])))))) (.seq (.region [⟨none, 31, (.val (.mv (.s 5))), [5], [0, 1, 5, 6, 16]⟩, ⟨none, 4, (.val (.mv (.s 31))), [31], [31]⟩]) .ret)))))
theorem ok29 : FnOk Try.prog 29 cc29 [4] 2 32 := ⟨⟨_, Try.func29, by kernel_rfl, by kernel_rfl, by kernel_rfl⟩, by decide, by decide, by decide⟩

/- (watershed/watershedref20.Bus).there -/
def cc105 : CC := (.seq (.region [⟨none, 4, (.val (.mv (.c (.bool false)))), [], [4]⟩]) (.seq (.region [⟨none, 5, (.val (.mv (.s 1))), [], []⟩, ⟨none, 6, (.val (.bin .geq (.s 5) (.c (.int .i64 0)))), [], [5]⟩, ⟨none, 7, (.val (.mv (.s 6))), [6], [6]⟩, ⟨(some (7, true)), 8, (.val (.mv (.s 1))), [1], [1]⟩, ⟨(some (7, true)), 9, (.val (.mv (.s 0))), [0], [0]⟩, ⟨(some (7, true)), 10, (.val (.nc (.s 9))), [], [9]⟩, ⟨(some (7, true)), 11, (.val (.fa (.s 10) 0)), [], [10]⟩, ⟨(some (7, true)), 12, (.val (.ld (.s 11) none)), [], [11]⟩, ⟨(some (7, true)), 13, (.val (.bin .lss (.s 8) (.s 12))), [], [8, 12]⟩, ⟨none, 14, (.val (.pick (.s 7) (.s 13) (.c (.bool false)))), [7, 13], [7, 13]⟩, ⟨none, 4, (.val (.mv (.s 14))), [14], [14]⟩]) .ret))
theorem ok105 : FnOk Try.prog 105 cc105 [4] 2 15 := ⟨⟨_, Try.func105, by kernel_rfl, by kernel_rfl, by kernel_rfl⟩, by decide, by decide, by decide⟩


def refAV (n : Nat) (L : List (Option (List ByteArray))) : AV := .agg (.v (.int .i64 n) :: L.map rowC)
theorem refAV_refless (n : Nat) (L : List (Option (List ByteArray))) : refless (refAV n L) = true := by
  simp only [refAV, refless, AV.cells, List.all_cons, Bool.true_and, List.all_eq_true, List.mem_map]
  rintro c ⟨r, _, rfl⟩
  cases r <;> rfl
theorem gc1 {α : Type} (a : α) (M : List α) (x y : Nat) : (a :: M)[1 + x + y]? = M[x + y]? := by rw [show 1 + x + y = (x + y) + 1 by omega]; rfl
theorem sc1 {α : Type} (a : α) (M : List α) (x y : Nat) (c : α) : (a :: M).set (1 + x + y) c = a :: M.set (x + y) c := by rw [show 1 + x + y = (x + y) + 1 by omega]; rfl

theorem refAV_junk (n : Nat) (L : List (Option (List ByteArray))) (i : Nat) : refless (.agg (.v (.int .i64 n) :: (L.map rowC).set i .junk)) = true := by
  simp only [refless, AV.cells, List.all_cons, Bool.true_and, List.all_eq_true]
  intro c hc
  rcases List.mem_or_eq_of_mem_set hc with h | rfl
  · rw [List.mem_map] at h
    obtain ⟨r, _, rfl⟩ := h
    cases r <;> rfl
  · rfl
structure Sim2 (m : BusM) (n : Nat) (L : List (Option (List ByteArray))) : Prop where
  s : Sim m n L
  o : ∀ f t, f < 8 → t < 8 → (n ≤ f ∨ n ≤ t) → ((L[f * 8 + t]?).getD none).getD [] = []
theorem Sim2.set {m : BusM} {n : Nat} {L : List (Option (List ByteArray))} (h : Sim2 m n L) {f t : Nat} (hf : f < n) (ht : t < n) {q : List ByteArray} (hq : q.length ≤ 512) : Sim2 (setQ m f t q) n (L.set (f * 8 + t) (some q)) := by
  have h8 := h.s.n8
  refine ⟨h.s.set hf ht hq, fun f' t' hf' ht' hor => ?_⟩
  rw [List.getElem?_set_ne (by omega)]
  exact h.o f' t' hf' ht' hor
theorem there_nat {m : BusM} {n : Nat} {L : List (Option (List ByteArray))} (h : Sim m n L) {f : Int} (hb : thereB m f = true) : ∃ k : Nat, f = k ∧ k < n := by
  obtain ⟨a, b, c⟩ := thereB_lt hb
  exact ⟨f.toNat, by omega, by rw [← h.ln]; exact b⟩

theorem rthere_c (F : List Fr) (k : Nat) (b : Base) (path : List Hop) (m : BusM) (n : Nat) (L : List (Option (List ByteArray))) (hs : Sim m n L) (hn : nodeAt F k b path = some (refAV n L)) (hin : inMem b path = true) (i : Int) :
    ACalls Try.prog 105 [.up (upN k (.ptr ⟨b, path, 0⟩)), .v (.int .i64 i)] F (fun r F' => r = .v (.bool (thereB m i)) ∧ F' = F) := by
  have hln := hs.ln
  refine ok105.N hmix rfl ?_
  simp only [cc105, AI0, AI1, AI2, AI3, AI4, AI5, AI6, AI7, AI8, AI9, reduceIte, reduceCtorEq, Nat.reduceAdd, Nat.reduceEqDiff, Nat.reduceBEq, Nat.reduceLT, Nat.reduceLeDiff, Nat.reduceMul, Nat.reduceSub, Int.reduceLE, Int.reduceLT, Int.reduceEq, Int.reduceBEq, Int.reduceBNe, Int.reduceToNat, Int.reduceNeg]
  by_cases h : 0 ≤ i
  · simp only [AI0, AI1, AI2, AI3, AI4, AI5, AI6, AI7, AI8, AI9, reduceIte, reduceCtorEq, Nat.reduceAdd, Nat.reduceEqDiff, Nat.reduceBEq, Nat.reduceLT, Nat.reduceLeDiff, Nat.reduceMul, Nat.reduceSub, Int.reduceLE, Int.reduceLT, Int.reduceEq, Int.reduceBEq, Int.reduceBNe, Int.reduceToNat, Int.reduceNeg, h, hn, hin, refAV, thereB, hln, hs.ll]
  · simp only [AI0, AI1, AI2, AI3, AI4, AI5, AI6, AI7, AI8, AI9, reduceIte, reduceCtorEq, Nat.reduceAdd, Nat.reduceEqDiff, Nat.reduceBEq, Nat.reduceLT, Nat.reduceLeDiff, Nat.reduceMul, Nat.reduceSub, Int.reduceLE, Int.reduceLT, Int.reduceEq, Int.reduceBEq, Int.reduceBNe, Int.reduceToNat, Int.reduceNeg, h, thereB]

theorem rwaits_c (F : List Fr) (k : Nat) (b : Base) (path : List Hop) (m : BusM) (n : Nat) (L : List (Option (List ByteArray))) (hs : Sim m n L) (hn : nodeAt F k b path = some (refAV n L)) (hin : inMem b path = true) (f t : Int) :
    ACalls Try.prog 25 [.up (upN k (.ptr ⟨b, path, 0⟩)), .v (.int .i64 f), .v (.int .i64 t)] F (fun r F' => r = .v (.int .i64 (waitsS m f t)) ∧ F' = F) := by
  have h8 := hs.n8
  refine ok25.N hmix rfl ?_
  simp only [cc25, AI0, AI1, AI2, AI3, AI4, AI5, AI6, AI7, AI8, AI9, reduceIte, reduceCtorEq, Nat.reduceAdd, Nat.reduceEqDiff, Nat.reduceBEq, Nat.reduceLT, Nat.reduceLeDiff, Nat.reduceMul, Nat.reduceSub, Int.reduceLE, Int.reduceLT, Int.reduceEq, Int.reduceBEq, Int.reduceBNe, Int.reduceToNat, Int.reduceNeg]
  refine (rthere_c _ (k + 1) b path m n L hs hn hin f).mono ?_
  rintro _ _ - ⟨rfl, rfl⟩
  simp only [AI0, AI1, AI2, AI3, AI4, AI5, AI6, AI7, AI8, AI9, reduceIte, reduceCtorEq, Nat.reduceAdd, Nat.reduceEqDiff, Nat.reduceBEq, Nat.reduceLT, Nat.reduceLeDiff, Nat.reduceMul, Nat.reduceSub, Int.reduceLE, Int.reduceLT, Int.reduceEq, Int.reduceBEq, Int.reduceBNe, Int.reduceToNat, Int.reduceNeg]
  refine W_of_N [6] hmix ?_
  cases h1 : thereB m f with
  | false => simp only [AI0, AI1, AI2, AI3, AI4, AI5, AI6, AI7, AI8, AI9, reduceIte, reduceCtorEq, Nat.reduceAdd, Nat.reduceEqDiff, Nat.reduceBEq, Nat.reduceLT, Nat.reduceLeDiff, Nat.reduceMul, Nat.reduceSub, Int.reduceLE, Int.reduceLT, Int.reduceEq, Int.reduceBEq, Int.reduceBNe, Int.reduceToNat, Int.reduceNeg, h1, waitsS, inR]
  | true =>
    simp only [AI0, AI1, AI2, AI3, AI4, AI5, AI6, AI7, AI8, AI9, reduceIte, reduceCtorEq, Nat.reduceAdd, Nat.reduceEqDiff, Nat.reduceBEq, Nat.reduceLT, Nat.reduceLeDiff, Nat.reduceMul, Nat.reduceSub, Int.reduceLE, Int.reduceLT, Int.reduceEq, Int.reduceBEq, Int.reduceBNe, Int.reduceToNat, Int.reduceNeg, h1]
    refine (rthere_c _ (k + 1) b path m n L hs hn hin t).mono ?_
    rintro _ _ - ⟨rfl, rfl⟩
    simp only [AI0, AI1, AI2, AI3, AI4, AI5, AI6, AI7, AI8, AI9, reduceIte, reduceCtorEq, Nat.reduceAdd, Nat.reduceEqDiff, Nat.reduceBEq, Nat.reduceLT, Nat.reduceLeDiff, Nat.reduceMul, Nat.reduceSub, Int.reduceLE, Int.reduceLT, Int.reduceEq, Int.reduceBEq, Int.reduceBNe, Int.reduceToNat, Int.reduceNeg]
    refine W_of_N [6] hmix ?_
    cases h2 : thereB m t with
    | false => simp only [AI0, AI1, AI2, AI3, AI4, AI5, AI6, AI7, AI8, AI9, reduceIte, reduceCtorEq, Nat.reduceAdd, Nat.reduceEqDiff, Nat.reduceBEq, Nat.reduceLT, Nat.reduceLeDiff, Nat.reduceMul, Nat.reduceSub, Int.reduceLE, Int.reduceLT, Int.reduceEq, Int.reduceBEq, Int.reduceBNe, Int.reduceToNat, Int.reduceNeg, h1, h2, waitsS, inR]
    | true =>
      obtain ⟨f, rfl, hf⟩ := there_nat hs h1
      obtain ⟨t, rfl, ht⟩ := there_nat hs h2
      obtain ⟨r, er, _⟩ := hs.get hf ht
      have b1 : (0 : Int) ≤ f := by omega
      have b2 : (f : Int) < 8 := by omega
      have b3 : (0 : Int) ≤ t := by omega
      have b4 : (t : Int) < 8 := by omega
      have d2 : 1 + f * 8 < 65 := by omega
      have d3 : 1 + f * 8 + t < 65 := by omega
      have hw := hs.waits hf ht er
      cases r with
      | none => simp only [AI0, AI1, AI2, AI3, AI4, AI5, AI6, AI7, AI8, AI9, reduceIte, reduceCtorEq, Nat.reduceAdd, Nat.reduceEqDiff, Nat.reduceBEq, Nat.reduceLT, Nat.reduceLeDiff, Nat.reduceMul, Nat.reduceSub, Int.reduceLE, Int.reduceLT, Int.reduceEq, Int.reduceBEq, Int.reduceBNe, Int.reduceToNat, Int.reduceNeg, h2, hn, hin, refAV, hs.ll, b1, b2, b3, b4, d2, d3, gc1, er, rowC_none, rowC_some, hw]
      | some q => simp only [AI0, AI1, AI2, AI3, AI4, AI5, AI6, AI7, AI8, AI9, reduceIte, reduceCtorEq, Nat.reduceAdd, Nat.reduceEqDiff, Nat.reduceBEq, Nat.reduceLT, Nat.reduceLeDiff, Nat.reduceMul, Nat.reduceSub, Int.reduceLE, Int.reduceLT, Int.reduceEq, Int.reduceBEq, Int.reduceBNe, Int.reduceToNat, Int.reduceNeg, h2, hn, hin, refAV, hs.ll, b1, b2, b3, b4, d2, d3, gc1, er, rowC_none, rowC_some, hw]

theorem rhead_c (F : List Fr) (k : Nat) (b : Base) (path : List Hop) (m : BusM) (n : Nat) (L : List (Option (List ByteArray))) (hs : Sim m n L) (hn : nodeAt F k b path = some (refAV n L)) (hin : inMem b path = true) (f t : Int) :
    ACalls Try.prog 23 [.up (upN k (.ptr ⟨b, path, 0⟩)), .v (.int .i64 f), .v (.int .i64 t)] F (fun r F' => r = .tup [none, none] [.v (.string (headS m f t).1), .v (.int .i64 (headS m f t).2)] ∧ F' = F) := by
  have h8 := hs.n8
  refine ok23.N hmix rfl ?_
  simp only [cc23, AI0, AI1, AI2, AI3, AI4, AI5, AI6, AI7, AI8, AI9, reduceIte, reduceCtorEq, Nat.reduceAdd, Nat.reduceEqDiff, Nat.reduceBEq, Nat.reduceLT, Nat.reduceLeDiff, Nat.reduceMul, Nat.reduceSub, Int.reduceLE, Int.reduceLT, Int.reduceEq, Int.reduceBEq, Int.reduceBNe, Int.reduceToNat, Int.reduceNeg]
  refine (rthere_c _ (k + 1) b path m n L hs hn hin f).mono ?_
  rintro _ _ - ⟨rfl, rfl⟩
  simp only [AI0, AI1, AI2, AI3, AI4, AI5, AI6, AI7, AI8, AI9, reduceIte, reduceCtorEq, Nat.reduceAdd, Nat.reduceEqDiff, Nat.reduceBEq, Nat.reduceLT, Nat.reduceLeDiff, Nat.reduceMul, Nat.reduceSub, Int.reduceLE, Int.reduceLT, Int.reduceEq, Int.reduceBEq, Int.reduceBNe, Int.reduceToNat, Int.reduceNeg]
  refine W_of_N [6, 7] hmix ?_
  cases h1 : thereB m f with
  | false => simp only [AI0, AI1, AI2, AI3, AI4, AI5, AI6, AI7, AI8, AI9, reduceIte, reduceCtorEq, Nat.reduceAdd, Nat.reduceEqDiff, Nat.reduceBEq, Nat.reduceLT, Nat.reduceLeDiff, Nat.reduceMul, Nat.reduceSub, Int.reduceLE, Int.reduceLT, Int.reduceEq, Int.reduceBEq, Int.reduceBNe, Int.reduceToNat, Int.reduceNeg, h1, headS, inR]
  | true =>
    simp only [AI0, AI1, AI2, AI3, AI4, AI5, AI6, AI7, AI8, AI9, reduceIte, reduceCtorEq, Nat.reduceAdd, Nat.reduceEqDiff, Nat.reduceBEq, Nat.reduceLT, Nat.reduceLeDiff, Nat.reduceMul, Nat.reduceSub, Int.reduceLE, Int.reduceLT, Int.reduceEq, Int.reduceBEq, Int.reduceBNe, Int.reduceToNat, Int.reduceNeg, h1]
    refine (rthere_c _ (k + 1) b path m n L hs hn hin t).mono ?_
    rintro _ _ - ⟨rfl, rfl⟩
    simp only [AI0, AI1, AI2, AI3, AI4, AI5, AI6, AI7, AI8, AI9, reduceIte, reduceCtorEq, Nat.reduceAdd, Nat.reduceEqDiff, Nat.reduceBEq, Nat.reduceLT, Nat.reduceLeDiff, Nat.reduceMul, Nat.reduceSub, Int.reduceLE, Int.reduceLT, Int.reduceEq, Int.reduceBEq, Int.reduceBNe, Int.reduceToNat, Int.reduceNeg]
    refine W_of_N [6, 7] hmix ?_
    cases h2 : thereB m t with
    | false => simp only [AI0, AI1, AI2, AI3, AI4, AI5, AI6, AI7, AI8, AI9, reduceIte, reduceCtorEq, Nat.reduceAdd, Nat.reduceEqDiff, Nat.reduceBEq, Nat.reduceLT, Nat.reduceLeDiff, Nat.reduceMul, Nat.reduceSub, Int.reduceLE, Int.reduceLT, Int.reduceEq, Int.reduceBEq, Int.reduceBNe, Int.reduceToNat, Int.reduceNeg, h1, h2, headS, inR]
    | true =>
      obtain ⟨f, rfl, hf⟩ := there_nat hs h1
      obtain ⟨t, rfl, ht⟩ := there_nat hs h2
      obtain ⟨r, er, _⟩ := hs.get hf ht
      have b1 : (0 : Int) ≤ f := by omega
      have b2 : (f : Int) < 8 := by omega
      have b3 : (0 : Int) ≤ t := by omega
      have b4 : (t : Int) < 8 := by omega
      have d2 : 1 + f * 8 < 65 := by omega
      have d3 : 1 + f * 8 + t < 65 := by omega
      rcases hs.take hf ht er with ⟨hr0, hr, _⟩ | ⟨x, l, rfl, hr, _⟩
      · cases r with
        | none => simp only [AI0, AI1, AI2, AI3, AI4, AI5, AI6, AI7, AI8, AI9, reduceIte, reduceCtorEq, Nat.reduceAdd, Nat.reduceEqDiff, Nat.reduceBEq, Nat.reduceLT, Nat.reduceLeDiff, Nat.reduceMul, Nat.reduceSub, Int.reduceLE, Int.reduceLT, Int.reduceEq, Int.reduceBEq, Int.reduceBNe, Int.reduceToNat, Int.reduceNeg, h2, hn, hin, refAV, hs.ll, b1, b2, b3, b4, d2, d3, gc1, er, rowC_none, rowC_some, hr]
        | some q =>
          simp only [Option.getD_some] at hr0
          subst hr0
          simp only [AI0, AI1, AI2, AI3, AI4, AI5, AI6, AI7, AI8, AI9, reduceIte, reduceCtorEq, Nat.reduceAdd, Nat.reduceEqDiff, Nat.reduceBEq, Nat.reduceLT, Nat.reduceLeDiff, Nat.reduceMul, Nat.reduceSub, Int.reduceLE, Int.reduceLT, Int.reduceEq, Int.reduceBEq, Int.reduceBNe, Int.reduceToNat, Int.reduceNeg, h2, hn, hin, refAV, hs.ll, b1, b2, b3, b4, d2, d3, gc1, er, rowC_none, rowC_some, hr]
      · simp only [AI0, AI1, AI2, AI3, AI4, AI5, AI6, AI7, AI8, AI9, reduceIte, reduceCtorEq, Nat.reduceAdd, Nat.reduceEqDiff, Nat.reduceBEq, Nat.reduceLT, Nat.reduceLeDiff, Nat.reduceMul, Nat.reduceSub, Int.reduceLE, Int.reduceLT, Int.reduceEq, Int.reduceBEq, Int.reduceBNe, Int.reduceToNat, Int.reduceNeg, h2, hn, hin, refAV, hs.ll, b1, b2, b3, b4, d2, d3, gc1, er, rowC_none, rowC_some, hr]

theorem rsend_c (F : List Fr) (k : Nat) (b : Base) (path : List Hop) (m : BusM) (n : Nat) (L : List (Option (List ByteArray))) (hs2 : Sim2 m n L) (hn : nodeAt F k b path = some (refAV n L)) (hin : inMem b path = true) (hrw : rwF F k = true) (f t : Int) (s : ByteArray) :
    ACalls Try.prog 17 [.up (upN k (.ptr ⟨b, path, 0⟩)), .v (.int .i64 f), .v (.int .i64 t), .v (.string s)] F (fun r F' => ∃ L', (r = .v (.int .i64 (sendS m f t s).1) ∧ F' = updN F k b path (refAV n L')) ∧ Sim2 (sendS m f t s).2 n L') := by
  have hs := hs2.s
  have h8 := hs.n8
  have hrf := refAV_refless n L
  refine ok17.W rfl ?_
  refine W_own hn hrf ?_
  refine W_of_N [8] hmix ?_
  simp only [cc17, AI0, AI1, AI2, AI3, AI4, AI5, AI6, AI7, AI8, AI9, reduceIte, reduceCtorEq, Nat.reduceAdd, Nat.reduceEqDiff, Nat.reduceBEq, Nat.reduceLT, Nat.reduceLeDiff, Nat.reduceMul, Nat.reduceSub, Int.reduceLE, Int.reduceLT, Int.reduceEq, Int.reduceBEq, Int.reduceBNe, Int.reduceToNat, Int.reduceNeg, upd_rules hn hrf, hin, hrw]
  refine (rthere_c _ (k + 1) b path m n L hs (updN_same hn hrf _) hin f).mono ?_
  rintro _ _ - ⟨rfl, rfl⟩
  simp only [AI0, AI1, AI2, AI3, AI4, AI5, AI6, AI7, AI8, AI9, reduceIte, reduceCtorEq, Nat.reduceAdd, Nat.reduceEqDiff, Nat.reduceBEq, Nat.reduceLT, Nat.reduceLeDiff, Nat.reduceMul, Nat.reduceSub, Int.reduceLE, Int.reduceLT, Int.reduceEq, Int.reduceBEq, Int.reduceBNe, Int.reduceToNat, Int.reduceNeg]
  refine W_of_N [8] hmix ?_
  cases h1 : thereB m f with
  | false =>
    simp only [AI0, AI1, AI2, AI3, AI4, AI5, AI6, AI7, AI8, AI9, reduceIte, reduceCtorEq, Nat.reduceAdd, Nat.reduceEqDiff, Nat.reduceBEq, Nat.reduceLT, Nat.reduceLeDiff, Nat.reduceMul, Nat.reduceSub, Int.reduceLE, Int.reduceLT, Int.reduceEq, Int.reduceBEq, Int.reduceBNe, Int.reduceToNat, Int.reduceNeg, h1]
    exact ⟨L, by simp only [AI0, AI1, AI2, AI3, AI4, AI5, AI6, AI7, AI8, AI9, reduceIte, reduceCtorEq, Nat.reduceAdd, Nat.reduceEqDiff, Nat.reduceBEq, Nat.reduceLT, Nat.reduceLeDiff, Nat.reduceMul, Nat.reduceSub, Int.reduceLE, Int.reduceLT, Int.reduceEq, Int.reduceBEq, Int.reduceBNe, Int.reduceToNat, Int.reduceNeg, sendS, inR, h1], by simpa [sendS, inR, h1] using hs2⟩
  | true =>
    simp only [AI0, AI1, AI2, AI3, AI4, AI5, AI6, AI7, AI8, AI9, reduceIte, reduceCtorEq, Nat.reduceAdd, Nat.reduceEqDiff, Nat.reduceBEq, Nat.reduceLT, Nat.reduceLeDiff, Nat.reduceMul, Nat.reduceSub, Int.reduceLE, Int.reduceLT, Int.reduceEq, Int.reduceBEq, Int.reduceBNe, Int.reduceToNat, Int.reduceNeg, h1]
    refine (rthere_c _ (k + 1) b path m n L hs (updN_same hn hrf _) hin t).mono ?_
    rintro _ _ - ⟨rfl, rfl⟩
    simp only [AI0, AI1, AI2, AI3, AI4, AI5, AI6, AI7, AI8, AI9, reduceIte, reduceCtorEq, Nat.reduceAdd, Nat.reduceEqDiff, Nat.reduceBEq, Nat.reduceLT, Nat.reduceLeDiff, Nat.reduceMul, Nat.reduceSub, Int.reduceLE, Int.reduceLT, Int.reduceEq, Int.reduceBEq, Int.reduceBNe, Int.reduceToNat, Int.reduceNeg]
    refine W_of_N [8] hmix ?_
    cases h2 : thereB m t with
    | false =>
      simp only [AI0, AI1, AI2, AI3, AI4, AI5, AI6, AI7, AI8, AI9, reduceIte, reduceCtorEq, Nat.reduceAdd, Nat.reduceEqDiff, Nat.reduceBEq, Nat.reduceLT, Nat.reduceLeDiff, Nat.reduceMul, Nat.reduceSub, Int.reduceLE, Int.reduceLT, Int.reduceEq, Int.reduceBEq, Int.reduceBNe, Int.reduceToNat, Int.reduceNeg, h1, h2]
      exact ⟨L, by simp only [AI0, AI1, AI2, AI3, AI4, AI5, AI6, AI7, AI8, AI9, reduceIte, reduceCtorEq, Nat.reduceAdd, Nat.reduceEqDiff, Nat.reduceBEq, Nat.reduceLT, Nat.reduceLeDiff, Nat.reduceMul, Nat.reduceSub, Int.reduceLE, Int.reduceLT, Int.reduceEq, Int.reduceBEq, Int.reduceBNe, Int.reduceToNat, Int.reduceNeg, sendS, inR, h1, h2], by simpa [sendS, inR, h1, h2] using hs2⟩
    | true =>
      obtain ⟨f, rfl, hf⟩ := there_nat hs h1
      obtain ⟨t, rfl, ht⟩ := there_nat hs h2
      by_cases h3 : 8192 < s.size
      · have h3' : (8192 : Int) < s.size := by omega
        simp only [AI0, AI1, AI2, AI3, AI4, AI5, AI6, AI7, AI8, AI9, reduceIte, reduceCtorEq, Nat.reduceAdd, Nat.reduceEqDiff, Nat.reduceBEq, Nat.reduceLT, Nat.reduceLeDiff, Nat.reduceMul, Nat.reduceSub, Int.reduceLE, Int.reduceLT, Int.reduceEq, Int.reduceBEq, Int.reduceBNe, Int.reduceToNat, Int.reduceNeg, h2, h3']
        exact ⟨L, by simp only [AI0, AI1, AI2, AI3, AI4, AI5, AI6, AI7, AI8, AI9, reduceIte, reduceCtorEq, Nat.reduceAdd, Nat.reduceEqDiff, Nat.reduceBEq, Nat.reduceLT, Nat.reduceLeDiff, Nat.reduceMul, Nat.reduceSub, Int.reduceLE, Int.reduceLT, Int.reduceEq, Int.reduceBEq, Int.reduceBNe, Int.reduceToNat, Int.reduceNeg, sendS, inR, h1, h2, h3], by simpa [sendS, inR, h1, h2, h3] using hs2⟩
      have h3' : ¬ ((8192 : Int) < s.size) := by omega
      obtain ⟨r, er, _⟩ := hs.get hf ht
      have b1 : (0 : Int) ≤ f := by omega
      have b2 : (f : Int) < 8 := by omega
      have b3 : (0 : Int) ≤ t := by omega
      have b4 : (t : Int) < 8 := by omega
      have d2 : 1 + f * 8 < 65 := by omega
      have d3 : 1 + f * 8 + t < 65 := by omega
      have d4 : 1 + f * 8 + t + 1 ≤ 65 := by omega
      have hrl : ∀ q r', L[f * 8 + t]? = some r' → r' = some q → (q : List ByteArray).length ≤ 512 := by
        intro q r' e1 e2
        have := hs.ok.q f t
        rw [hs.q f t hf ht, e1, e2] at this
        exact this
      rcases hs.send hf ht er h3 with hr | ⟨hr, hr5, _⟩
      · cases r with
        | none =>
          have hq := hs.q f t hf ht
          rw [er] at hq
          simp only [Option.getD_some, Option.getD_none] at hq
          simp [sendS, hs.inR hf ht, h3, hq] at hr
        | some q =>
          have hq5 : (512 : Int) ≤ q.length := by
            have hq := hs.q f t hf ht
            rw [er] at hq
            simp only [Option.getD_some] at hq
            by_cases h5 : 512 ≤ q.length
            · omega
            · simp [sendS, hs.inR hf ht, h3, hq, h5] at hr
          simp only [AI0, AI1, AI2, AI3, AI4, AI5, AI6, AI7, AI8, AI9, reduceIte, reduceCtorEq, Nat.reduceAdd, Nat.reduceEqDiff, Nat.reduceBEq, Nat.reduceLT, Nat.reduceLeDiff, Nat.reduceMul, Nat.reduceSub, Int.reduceLE, Int.reduceLT, Int.reduceEq, Int.reduceBEq, Int.reduceBNe, Int.reduceToNat, Int.reduceNeg, h2, h3', upd_rules hn hrf, hin, refAV, hs.ll, b1, b2, b3, b4, d2, d3, gc1, er, rowC_none, rowC_some, hq5]
          exact ⟨L, by simp only [AI0, AI1, AI2, AI3, AI4, AI5, AI6, AI7, AI8, AI9, reduceIte, reduceCtorEq, Nat.reduceAdd, Nat.reduceEqDiff, Nat.reduceBEq, Nat.reduceLT, Nat.reduceLeDiff, Nat.reduceMul, Nat.reduceSub, Int.reduceLE, Int.reduceLT, Int.reduceEq, Int.reduceBEq, Int.reduceBNe, Int.reduceToNat, Int.reduceNeg, hr, refAV], by rw [hr]; exact hs2⟩
      · have hst := hs2.set hf ht (q := r.getD [] ++ [s]) (by simp; omega)
        have hrf' := refAV_refless n L
        have hjk := refAV_junk n L (f * 8 + t)
        simp only [refless, AV.cells, List.all_cons, Bool.true_and] at hjk
        cases r with
        | none =>
          simp only [Option.getD_none, List.nil_append] at hr hst
          simp only [AI0, AI1, AI2, AI3, AI4, AI5, AI6, AI7, AI8, AI9, reduceIte, reduceCtorEq, Nat.reduceAdd, Nat.reduceEqDiff, Nat.reduceBEq, Nat.reduceLT, Nat.reduceLeDiff, Nat.reduceMul, Nat.reduceSub, Int.reduceLE, Int.reduceLT, Int.reduceEq, Int.reduceBEq, Int.reduceBNe, Int.reduceToNat, Int.reduceNeg, h2, h3', upd_rules hn hrf, hrf', hin, hrw, hs.ll, b1, b2, b3, b4, d2, d3, d4, gc1, sc1, er, rowC_none, rowC_some, set_set', refAV, hjk]
          refine ⟨_, ⟨by simp only [hr], ?_⟩, by rw [hr]; exact hst⟩
          simp only [refAV, List.map_set, rowC_some, List.map_cons, List.map_nil]
        | some q =>
          simp only [Option.getD_some] at hr hr5 hst
          have c1 : (q.length + 1) * 16 ≤ 140737488355328 := by omega
          have c2 : q.length ≤ 9223372036854775806 := by omega
          have h5 : ¬ ((512 : Int) ≤ q.length) := by omega
          simp only [AI0, AI1, AI2, AI3, AI4, AI5, AI6, AI7, AI8, AI9, reduceIte, reduceCtorEq, Nat.reduceAdd, Nat.reduceEqDiff, Nat.reduceBEq, Nat.reduceLT, Nat.reduceLeDiff, Nat.reduceMul, Nat.reduceSub, Int.reduceLE, Int.reduceLT, Int.reduceEq, Int.reduceBEq, Int.reduceBNe, Int.reduceToNat, Int.reduceNeg, h2, h3', h5, upd_rules hn hrf, hrf', hin, hrw, hs.ll, b1, b2, b3, b4, d2, d3, d4, gc1, sc1, er, rowC_none, rowC_some, set_set', c1, c2, refAV, hjk]
          refine ⟨_, ⟨by simp only [hr], ?_⟩, by rw [hr]; exact hst⟩
          simp only [refAV, List.map_set, rowC_some, List.map_cons, List.map_nil, List.map_append]
end Go.Proofs.Ythlehngbadianaa.Ai
set_option linter.unusedVariables false
set_option linter.unusedSimpArgs false
set_option maxRecDepth 100000
set_option maxHeartbeats 1000000
namespace Go.Proofs.Ythlehngbadianaa.Ai
open Go Go.RowKit Go.Proofs

theorem rtake_c (F : List Fr) (k : Nat) (b : Base) (path : List Hop) (m : BusM) (n : Nat) (L : List (Option (List ByteArray))) (hs2 : Sim2 m n L) (hn : nodeAt F k b path = some (refAV n L)) (hin : inMem b path = true) (hrw : rwF F k = true) (f t : Int) :
    ACalls Try.prog 21 [.up (upN k (.ptr ⟨b, path, 0⟩)), .v (.int .i64 f), .v (.int .i64 t)] F (fun r F' => ∃ L', (r = .tup [none, none] [.v (.string (headS m f t).1), .v (.int .i64 (headS m f t).2)] ∧ F' = updN F k b path (refAV n L')) ∧ Sim2 (takeS m f t) n L') := by
  have hs := hs2.s
  have h8 := hs.n8
  have hrf := refAV_refless n L
  refine ok21.W rfl ?_
  refine W_own hn hrf ?_
  refine W_of_N [6, 7] hmix ?_
  simp only [cc21, AI0, AI1, AI2, AI3, AI4, AI5, AI6, AI7, AI8, AI9, reduceIte, reduceCtorEq, Nat.reduceAdd, Nat.reduceEqDiff, Nat.reduceBEq, Nat.reduceLT, Nat.reduceLeDiff, Nat.reduceMul, Nat.reduceSub, Int.reduceLE, Int.reduceLT, Int.reduceEq, Int.reduceBEq, Int.reduceBNe, Int.reduceToNat, Int.reduceNeg, upd_rules hn hrf, hin, hrw]
  refine (rhead_c _ (k + 1) b path m n L hs (updN_same hn hrf _) hin f t).mono ?_
  rintro _ _ - ⟨rfl, rfl⟩
  simp only [AI0, AI1, AI2, AI3, AI4, AI5, AI6, AI7, AI8, AI9, reduceIte, reduceCtorEq, Nat.reduceAdd, Nat.reduceEqDiff, Nat.reduceBEq, Nat.reduceLT, Nat.reduceLeDiff, Nat.reduceMul, Nat.reduceSub, Int.reduceLE, Int.reduceLT, Int.reduceEq, Int.reduceBEq, Int.reduceBNe, Int.reduceToNat, Int.reduceNeg]
  refine W_of_N [6, 7] hmix ?_
  cases hr : inR m f t with
  | false =>
    have e1 : headS m f t = (⟨#[]⟩, 1) := by simp [headS, hr]
    have e2 : takeS m f t = m := by simp [takeS, hr]
    simp only [AI0, AI1, AI2, AI3, AI4, AI5, AI6, AI7, AI8, AI9, reduceIte, reduceCtorEq, Nat.reduceAdd, Nat.reduceEqDiff, Nat.reduceBEq, Nat.reduceLT, Nat.reduceLeDiff, Nat.reduceMul, Nat.reduceSub, Int.reduceLE, Int.reduceLT, Int.reduceEq, Int.reduceBEq, Int.reduceBNe, Int.reduceToNat, Int.reduceNeg, e1]
    exact ⟨L, by simp only [AI0, AI1, AI2, AI3, AI4, AI5, AI6, AI7, AI8, AI9, reduceIte, reduceCtorEq, Nat.reduceAdd, Nat.reduceEqDiff, Nat.reduceBEq, Nat.reduceLT, Nat.reduceLeDiff, Nat.reduceMul, Nat.reduceSub, Int.reduceLE, Int.reduceLT, Int.reduceEq, Int.reduceBEq, Int.reduceBNe, Int.reduceToNat, Int.reduceNeg], by rw [e2]; exact hs2⟩
  | true =>
    simp only [inR, Bool.and_eq_true] at hr
    obtain ⟨f, rfl, hf⟩ := there_nat hs hr.1
    obtain ⟨t, rfl, ht⟩ := there_nat hs hr.2
    obtain ⟨r, er, _⟩ := hs.get hf ht
    have b1 : (0 : Int) ≤ f := by omega
    have b2 : (f : Int) < 8 := by omega
    have b3 : (0 : Int) ≤ t := by omega
    have b4 : (t : Int) < 8 := by omega
    have d2 : 1 + f * 8 < 65 := by omega
    have d3 : 1 + f * 8 + t < 65 := by omega
    have d4 : 1 + f * 8 + t + 1 ≤ 65 := by omega
    rcases hs.take hf ht er with ⟨hr0, e1, e2⟩ | ⟨x, l, rfl, e1, _⟩
    · simp only [AI0, AI1, AI2, AI3, AI4, AI5, AI6, AI7, AI8, AI9, reduceIte, reduceCtorEq, Nat.reduceAdd, Nat.reduceEqDiff, Nat.reduceBEq, Nat.reduceLT, Nat.reduceLeDiff, Nat.reduceMul, Nat.reduceSub, Int.reduceLE, Int.reduceLT, Int.reduceEq, Int.reduceBEq, Int.reduceBNe, Int.reduceToNat, Int.reduceNeg, e1]
      exact ⟨L, by simp only [AI0, AI1, AI2, AI3, AI4, AI5, AI6, AI7, AI8, AI9, reduceIte, reduceCtorEq, Nat.reduceAdd, Nat.reduceEqDiff, Nat.reduceBEq, Nat.reduceLT, Nat.reduceLeDiff, Nat.reduceMul, Nat.reduceSub, Int.reduceLE, Int.reduceLT, Int.reduceEq, Int.reduceBEq, Int.reduceBNe, Int.reduceToNat, Int.reduceNeg], by rw [e2]; exact hs2⟩
    · have hq := hs.q f t hf ht
      rw [er] at hq
      simp only [Option.getD_some] at hq
      have h5 := hs.ok.q f t
      rw [hq] at h5
      simp only [List.length_cons] at h5
      have e2 : takeS m f t = setQ m f t l := by simp [takeS, hs.inR hf ht, hq]
      have hst := hs2.set hf ht (q := l) (by omega)
      have a1 : (1 : Int) ≤ ((l.length + 1 : Nat) : Int) := by omega
      have a2 : 1 + (l.length + 1 - 1) ≤ l.length + 1 := by omega
      have a3 : (l.map fun s => AV.v (Value.string s)).take (l.length + 1 - 1) = l.map fun s => AV.v (Value.string s) := List.take_of_length_le (by simp)
      have hrf' := refAV_refless n L
      have hjk := refAV_junk n L (f * 8 + t)
      simp only [refless, AV.cells, List.all_cons, Bool.true_and] at hjk
      simp only [AI0, AI1, AI2, AI3, AI4, AI5, AI6, AI7, AI8, AI9, reduceIte, reduceCtorEq, Nat.reduceAdd, Nat.reduceEqDiff, Nat.reduceBEq, Nat.reduceLT, Nat.reduceLeDiff, Nat.reduceMul, Nat.reduceSub, Int.reduceLE, Int.reduceLT, Int.reduceEq, Int.reduceBEq, Int.reduceBNe, Int.reduceToNat, Int.reduceNeg, e1, upd_rules hn hrf, hrf', hin, hrw, hs.ll, b1, b2, b3, b4, d2, d3, d4, gc1, sc1, er, rowC_none, rowC_some, set_set', a1, a2, a3, refAV, hjk]
      refine ⟨_, ?_, by rw [e2]; exact hst⟩
      simp only [refAV, List.map_set, rowC_some, List.map_cons, List.map_nil]

theorem rfree_c (F : List Fr) (k : Nat) (b : Base) (path : List Hop) (m : BusM) (n : Nat) (L : List (Option (List ByteArray))) (hs : Sim m n L) (hn : nodeAt F k b path = some (refAV n L)) (hin : inMem b path = true) (f : Int) :
    ACalls Try.prog 29 [.up (upN k (.ptr ⟨b, path, 0⟩)), .v (.int .i64 f)] F (fun r F' => r = .v (.int .i64 (freeS m f)) ∧ F' = F) := by
  have h8 := hs.n8
  have hln := hs.ln
  refine ok29.N hmix rfl ?_
  simp only [cc29, AI0, AI1, AI2, AI3, AI4, AI5, AI6, AI7, AI8, AI9, reduceIte, reduceCtorEq, Nat.reduceAdd, Nat.reduceEqDiff, Nat.reduceBEq, Nat.reduceLT, Nat.reduceLeDiff, Nat.reduceMul, Nat.reduceSub, Int.reduceLE, Int.reduceLT, Int.reduceEq, Int.reduceBEq, Int.reduceBNe, Int.reduceToNat, Int.reduceNeg]
  refine (rthere_c _ (k + 1) b path m n L hs hn hin f).mono ?_
  rintro _ _ - ⟨rfl, rfl⟩
  simp only [AI0, AI1, AI2, AI3, AI4, AI5, AI6, AI7, AI8, AI9, reduceIte, reduceCtorEq, Nat.reduceAdd, Nat.reduceEqDiff, Nat.reduceBEq, Nat.reduceLT, Nat.reduceLeDiff, Nat.reduceMul, Nat.reduceSub, Int.reduceLE, Int.reduceLT, Int.reduceEq, Int.reduceBEq, Int.reduceBNe, Int.reduceToNat, Int.reduceNeg]
  refine W_of_N [4] hmix ?_
  cases h1 : thereB m f with
  | false => simp only [AI0, AI1, AI2, AI3, AI4, AI5, AI6, AI7, AI8, AI9, reduceIte, reduceCtorEq, Nat.reduceAdd, Nat.reduceEqDiff, Nat.reduceBEq, Nat.reduceLT, Nat.reduceLeDiff, Nat.reduceMul, Nat.reduceSub, Int.reduceLE, Int.reduceLT, Int.reduceEq, Int.reduceBEq, Int.reduceBNe, Int.reduceToNat, Int.reduceNeg, h1, freeS]
  | true =>
    obtain ⟨f, rfl, hf⟩ := there_nat hs h1
    simp only [AI0, AI1, AI2, AI3, AI4, AI5, AI6, AI7, AI8, AI9, reduceIte, reduceCtorEq, Nat.reduceAdd, Nat.reduceEqDiff, Nat.reduceBEq, Nat.reduceLT, Nat.reduceLeDiff, Nat.reduceMul, Nat.reduceSub, Int.reduceLE, Int.reduceLT, Int.reduceEq, Int.reduceBEq, Int.reduceBNe, Int.reduceToNat, Int.reduceNeg, h1, hn, hin, refAV, freeS]
    refine W_loop (fun i : Nat => (⟨[(0, .up (upN k (.ptr ⟨b, path, 0⟩))), (1, .v (.int .i64 f)), (5, .v (.int .i64 (freeF m f i))), (6, .v (.int .i64 i))], [], true⟩, F)) (fun i => i ≤ n) (fun i => n - i) ?_ ?_
    · exact Mid_of 0 (Nat.zero_le _) rfl rfl (by simp only [AI0, AI1, AI2, AI3, AI4, AI5, AI6, AI7, AI8, AI9, reduceIte, reduceCtorEq, Nat.reduceAdd, Nat.reduceEqDiff, Nat.reduceBEq, Nat.reduceLT, Nat.reduceLeDiff, Nat.reduceMul, Nat.reduceSub, Int.reduceLE, Int.reduceLT, Int.reduceEq, Int.reduceBEq, Int.reduceBNe, Int.reduceToNat, Int.reduceNeg, freeF]) trivial
    · intro i hi
      refine W_of_N [4] hmix ?_
      by_cases hlt : i < n
      · have hlt' : (i : Int) < n := by omega
        obtain ⟨r, er, _⟩ := hs.get hf hlt
        have b1 : (0 : Int) ≤ f := by omega
        have b2 : (f : Int) < 8 := by omega
        have b3 : (0 : Int) ≤ i := by omega
        have b4 : (i : Int) < 8 := by omega
        have d2 : 1 + f * 8 < 65 := by omega
        have d3 : 1 + f * 8 + i < 65 := by omega
        have hw := hs.waits hf hlt er
        have hq := hs.ok.waits f i
        rw [hw] at hq
        cases r with
        | none =>
          simp only [Option.getD_none, List.length_nil] at hw
          by_cases hmn : (512 : Int) - 0 < freeF m f i
          · simp only [AI0, AI1, AI2, AI3, AI4, AI5, AI6, AI7, AI8, AI9, reduceIte, reduceCtorEq, Nat.reduceAdd, Nat.reduceEqDiff, Nat.reduceBEq, Nat.reduceLT, Nat.reduceLeDiff, Nat.reduceMul, Nat.reduceSub, Int.reduceLE, Int.reduceLT, Int.reduceEq, Int.reduceBEq, Int.reduceBNe, Int.reduceToNat, Int.reduceNeg, hlt', hn, hin, refAV, hs.ll, b1, b2, b3, b4, d2, d3, gc1, er, rowC_none, rowC_some, wrap_i64 (x := (512 : Int) - 0) (by omega) (by omega), wrap_i64 (x := (i : Int) + 1) (by omega) (by omega), hmn]
            exact Mid_of (i + 1) ⟨by omega, by omega⟩ rfl rfl (by simp only [AI0, AI1, AI2, AI3, AI4, AI5, AI6, AI7, AI8, AI9, reduceIte, reduceCtorEq, Nat.reduceAdd, Nat.reduceEqDiff, Nat.reduceBEq, Nat.reduceLT, Nat.reduceLeDiff, Nat.reduceMul, Nat.reduceSub, Int.reduceLE, Int.reduceLT, Int.reduceEq, Int.reduceBEq, Int.reduceBNe, Int.reduceToNat, Int.reduceNeg, freeF, hw, hmn, Int.natCast_zero, Int.natCast_add, Int.natCast_one]) trivial
          · simp only [AI0, AI1, AI2, AI3, AI4, AI5, AI6, AI7, AI8, AI9, reduceIte, reduceCtorEq, Nat.reduceAdd, Nat.reduceEqDiff, Nat.reduceBEq, Nat.reduceLT, Nat.reduceLeDiff, Nat.reduceMul, Nat.reduceSub, Int.reduceLE, Int.reduceLT, Int.reduceEq, Int.reduceBEq, Int.reduceBNe, Int.reduceToNat, Int.reduceNeg, hlt', hn, hin, refAV, hs.ll, b1, b2, b3, b4, d2, d3, gc1, er, rowC_none, rowC_some, wrap_i64 (x := (512 : Int) - 0) (by omega) (by omega), wrap_i64 (x := (i : Int) + 1) (by omega) (by omega), hmn]
            exact Mid_of (i + 1) ⟨by omega, by omega⟩ rfl rfl (by simp only [AI0, AI1, AI2, AI3, AI4, AI5, AI6, AI7, AI8, AI9, reduceIte, reduceCtorEq, Nat.reduceAdd, Nat.reduceEqDiff, Nat.reduceBEq, Nat.reduceLT, Nat.reduceLeDiff, Nat.reduceMul, Nat.reduceSub, Int.reduceLE, Int.reduceLT, Int.reduceEq, Int.reduceBEq, Int.reduceBNe, Int.reduceToNat, Int.reduceNeg, freeF, hw, hmn, Int.natCast_zero, Int.natCast_add, Int.natCast_one]) trivial
        | some q =>
          simp only [Option.getD_some] at hw hq
          by_cases hmn : (512 : Int) - q.length < freeF m f i
          · simp only [AI0, AI1, AI2, AI3, AI4, AI5, AI6, AI7, AI8, AI9, reduceIte, reduceCtorEq, Nat.reduceAdd, Nat.reduceEqDiff, Nat.reduceBEq, Nat.reduceLT, Nat.reduceLeDiff, Nat.reduceMul, Nat.reduceSub, Int.reduceLE, Int.reduceLT, Int.reduceEq, Int.reduceBEq, Int.reduceBNe, Int.reduceToNat, Int.reduceNeg, hlt', hn, hin, refAV, hs.ll, b1, b2, b3, b4, d2, d3, gc1, er, rowC_none, rowC_some, wrap_i64 (x := (512 : Int) - q.length) (by omega) (by omega), wrap_i64 (x := (i : Int) + 1) (by omega) (by omega), hmn]
            exact Mid_of (i + 1) ⟨by omega, by omega⟩ rfl rfl (by simp only [AI0, AI1, AI2, AI3, AI4, AI5, AI6, AI7, AI8, AI9, reduceIte, reduceCtorEq, Nat.reduceAdd, Nat.reduceEqDiff, Nat.reduceBEq, Nat.reduceLT, Nat.reduceLeDiff, Nat.reduceMul, Nat.reduceSub, Int.reduceLE, Int.reduceLT, Int.reduceEq, Int.reduceBEq, Int.reduceBNe, Int.reduceToNat, Int.reduceNeg, freeF, hw, hmn, Int.natCast_add, Int.natCast_one]) trivial
          · simp only [AI0, AI1, AI2, AI3, AI4, AI5, AI6, AI7, AI8, AI9, reduceIte, reduceCtorEq, Nat.reduceAdd, Nat.reduceEqDiff, Nat.reduceBEq, Nat.reduceLT, Nat.reduceLeDiff, Nat.reduceMul, Nat.reduceSub, Int.reduceLE, Int.reduceLT, Int.reduceEq, Int.reduceBEq, Int.reduceBNe, Int.reduceToNat, Int.reduceNeg, hlt', hn, hin, refAV, hs.ll, b1, b2, b3, b4, d2, d3, gc1, er, rowC_none, rowC_some, wrap_i64 (x := (512 : Int) - q.length) (by omega) (by omega), wrap_i64 (x := (i : Int) + 1) (by omega) (by omega), hmn]
            exact Mid_of (i + 1) ⟨by omega, by omega⟩ rfl rfl (by simp only [AI0, AI1, AI2, AI3, AI4, AI5, AI6, AI7, AI8, AI9, reduceIte, reduceCtorEq, Nat.reduceAdd, Nat.reduceEqDiff, Nat.reduceBEq, Nat.reduceLT, Nat.reduceLeDiff, Nat.reduceMul, Nat.reduceSub, Int.reduceLE, Int.reduceLT, Int.reduceEq, Int.reduceBEq, Int.reduceBNe, Int.reduceToNat, Int.reduceNeg, freeF, hw, hmn, Int.natCast_add, Int.natCast_one]) trivial
      · have hlt' : ¬ ((i : Int) < n) := by omega
        obtain rfl : i = n := by omega
        simp only [AI0, AI1, AI2, AI3, AI4, AI5, AI6, AI7, AI8, AI9, reduceIte, reduceCtorEq, Nat.reduceAdd, Nat.reduceEqDiff, Nat.reduceBEq, Nat.reduceLT, Nat.reduceLeDiff, Nat.reduceMul, Nat.reduceSub, Int.reduceLE, Int.reduceLT, Int.reduceEq, Int.reduceBEq, Int.reduceBNe, Int.reduceToNat, Int.reduceNeg, hlt', hn, hin, refAV, hs.ll, Int.lt_irrefl, hln]

def lenL (L : List (Option (List ByteArray))) (j : Nat) : Nat := (((L[j]?).getD none).getD []).length
def rowL (L : List (Option (List ByteArray))) (i : Nat) : Nat → Nat
  | 0 => 0
  | j + 1 => rowL L i j + lenL L (i * 8 + j)
def totL (L : List (Option (List ByteArray))) : Nat → Nat
  | 0 => 0
  | i + 1 => totL L i + rowL L i 8
theorem Sim2.lenL {m : BusM} {n : Nat} {L : List (Option (List ByteArray))} (h : Sim2 m n L) {i j : Nat} (hi : i < 8) (hj : j < 8) : Ai.lenL L (i * 8 + j) = waitsS m i j := by
  by_cases hh : i < n ∧ j < n
  · obtain ⟨r, er, _⟩ := h.s.get hh.1 hh.2
    rw [h.s.waits hh.1 hh.2 er]
    simp [Ai.lenL, er]
  · have e : n ≤ i ∨ n ≤ j := by omega
    have h1 := h.o i j hi hj e
    have h2 : inR m (i : Int) (j : Int) = false := by
      simp only [inR, thereB, h.s.ln]
      rcases e with e | e
      · have : ¬ ((i : Int) < n) := by omega
        simp [this]
      · have : ¬ ((j : Int) < n) := by omega
        simp [this]
    simp [Ai.lenL, h1, waitsS, h2]
theorem Sim2.rowL {m : BusM} {n : Nat} {L : List (Option (List ByteArray))} (h : Sim2 m n L) {i : Nat} (hi : i < 8) : ∀ j, j ≤ 8 → Ai.rowL L i j = rowSum m i j
  | 0, _ => rfl
  | j + 1, hj => by simp only [Ai.rowL, rowSum, h.rowL hi j (by omega), h.lenL hi (show j < 8 by omega)]
theorem waits_out {m : BusM} {i j : Nat} (h : m.length ≤ i ∨ m.length ≤ j) : waitsS m i j = 0 := by
  have h2 : inR m (i : Int) (j : Int) = false := by
    simp only [inR, thereB]
    rcases h with e | e
    · have : ¬ ((i : Int) < m.length) := by omega
      simp [this]
    · have : ¬ ((j : Int) < m.length) := by omega
      simp [this]
  simp [waitsS, h2]
theorem rowSum_up (m : BusM) (i : Nat) : ∀ d, rowSum m i (m.length + d) = rowSum m i m.length
  | 0 => rfl
  | d + 1 => by rw [← Nat.add_assoc, rowSum, rowSum_up m i d, waits_out (Or.inr (by omega))]; rfl
theorem rowSum_out (m : BusM) (i : Nat) (h : m.length ≤ i) : ∀ j, rowSum m i j = 0
  | 0 => rfl
  | j + 1 => by rw [rowSum, rowSum_out m i h j, waits_out (Or.inl h)]
theorem totF_up (m : BusM) : ∀ d, totF m (m.length + d) = totF m m.length
  | 0 => rfl
  | d + 1 => by rw [← Nat.add_assoc, totF, totF_up m d, rowSum_out m _ (by omega)]; rfl
theorem Sim2.totL {m : BusM} {n : Nat} {L : List (Option (List ByteArray))} (h : Sim2 m n L) : ∀ i, i ≤ 8 → Ai.totL L i = totF m i
  | 0, _ => rfl
  | i + 1, hi => by
    have h8 := h.s.ok.n
    have e := rowSum_up m i (8 - m.length)
    rw [show m.length + (8 - m.length) = 8 by omega] at e
    simp only [Ai.totL, totF, h.totL i (by omega), h.rowL (show i < 8 by omega) 8 (Nat.le_refl _), e]
theorem Sim2.total {m : BusM} {n : Nat} {L : List (Option (List ByteArray))} (h : Sim2 m n L) : Ai.totL L 8 = totalS m := by
  have h8 := h.s.ok.n
  have e := totF_up m (8 - m.length)
  rw [show m.length + (8 - m.length) = 8 by omega] at e
  rw [h.totL 8 (Nat.le_refl _), e]; rfl

theorem rtotal_c (F : List Fr) (k : Nat) (b : Base) (path : List Hop) (m : BusM) (n : Nat) (L : List (Option (List ByteArray))) (hs2 : Sim2 m n L) (hn : nodeAt F k b path = some (refAV n L)) (hin : inMem b path = true) :
    ACalls Try.prog 27 [.up (upN k (.ptr ⟨b, path, 0⟩))] F (fun r F' => r = .v (.int .i64 (totalS m)) ∧ F' = F) := by
  have hs := hs2.s
  have h8 := hs.n8
  refine ok27.N hmix rfl ?_
  simp only [cc27, AI0, AI1, AI2, AI3, AI4, AI5, AI6, AI7, AI8, AI9, reduceIte, reduceCtorEq, Nat.reduceAdd, Nat.reduceEqDiff, Nat.reduceBEq, Nat.reduceLT, Nat.reduceLeDiff, Nat.reduceMul, Nat.reduceSub, Int.reduceLE, Int.reduceLT, Int.reduceEq, Int.reduceBEq, Int.reduceBNe, Int.reduceToNat, Int.reduceNeg, hn, hin, refAV]
  refine W_loop (fun i : Nat => (⟨[(0, .up (upN k (.ptr ⟨b, path, 0⟩))), (3, .v (.int .i64 (totL L i))), (4, .v (.int .i64 i))], [], true⟩, F)) (fun i => i ≤ 8) (fun i => 8 - i) ?_ ?_
  · exact Mid_of 0 (Nat.zero_le _) rfl rfl (by simp only [AI0, AI1, AI2, AI3, AI4, AI5, AI6, AI7, AI8, AI9, reduceIte, reduceCtorEq, Nat.reduceAdd, Nat.reduceEqDiff, Nat.reduceBEq, Nat.reduceLT, Nat.reduceLeDiff, Nat.reduceMul, Nat.reduceSub, Int.reduceLE, Int.reduceLT, Int.reduceEq, Int.reduceBEq, Int.reduceBNe, Int.reduceToNat, Int.reduceNeg, totL]) trivial
  intro i hi
  refine W_of_N [2] hmix ?_
  by_cases hlt : i < 8
  · have hlt' : (i : Int) < 8 := by omega
    simp only [AI0, AI1, AI2, AI3, AI4, AI5, AI6, AI7, AI8, AI9, reduceIte, reduceCtorEq, Nat.reduceAdd, Nat.reduceEqDiff, Nat.reduceBEq, Nat.reduceLT, Nat.reduceLeDiff, Nat.reduceMul, Nat.reduceSub, Int.reduceLE, Int.reduceLT, Int.reduceEq, Int.reduceBEq, Int.reduceBNe, Int.reduceToNat, Int.reduceNeg, hlt', hn, hin, refAV]
    refine W_loop (fun j : Nat => (⟨[(0, .up (upN k (.ptr ⟨b, path, 0⟩))), (3, .v (.int .i64 ((totL L i + rowL L i j : Nat) : Int))), (4, .v (.int .i64 i)), (5, .v (.int .i64 j))], [], true⟩, F)) (fun j => j ≤ 8) (fun j => 8 - j) ?_ ?_
    · exact Mid_of 0 (Nat.zero_le _) rfl rfl (by simp only [AI0, AI1, AI2, AI3, AI4, AI5, AI6, AI7, AI8, AI9, reduceIte, reduceCtorEq, Nat.reduceAdd, Nat.reduceEqDiff, Nat.reduceBEq, Nat.reduceLT, Nat.reduceLeDiff, Nat.reduceMul, Nat.reduceSub, Int.reduceLE, Int.reduceLT, Int.reduceEq, Int.reduceBEq, Int.reduceBNe, Int.reduceToNat, Int.reduceNeg, rowL]) trivial
    intro j hj
    refine W_of_N [2] hmix ?_
    have q1 := hs.ok.totF i
    have q2 := hs.ok.rowSum i j
    rw [← hs2.totL i (by omega)] at q1
    rw [← hs2.rowL hlt j hj] at q2
    by_cases hjt : j < 8
    · have hjt' : (j : Int) < 8 := by omega
      have hlen : i * 8 + j < L.length := by rw [hs.ll]; omega
      have er : L[i * 8 + j]? = some L[i * 8 + j] := List.getElem?_eq_getElem hlen
      have q3 := hs.ok.waits i j
      rw [← hs2.lenL hlt hjt] at q3
      have b1 : (0 : Int) ≤ i := by omega
      have b3 : (0 : Int) ≤ j := by omega
      have d2 : 1 + i * 8 < 65 := by omega
      have d3 : 1 + i * 8 + j < 65 := by omega
      have hl : lenL L (i * 8 + j) = (L[i * 8 + j].getD []).length := by simp [lenL, er]
      generalize L[i * 8 + j] = r at er hl
      cases r with
      | none =>
        simp only [Option.getD_none, List.length_nil] at hl
        simp only [AI0, AI1, AI2, AI3, AI4, AI5, AI6, AI7, AI8, AI9, reduceIte, reduceCtorEq, Nat.reduceAdd, Nat.reduceEqDiff, Nat.reduceBEq, Nat.reduceLT, Nat.reduceLeDiff, Nat.reduceMul, Nat.reduceSub, Int.reduceLE, Int.reduceLT, Int.reduceEq, Int.reduceBEq, Int.reduceBNe, Int.reduceToNat, Int.reduceNeg, hjt', hlt', hn, hin, refAV, hs.ll, b1, b3, d2, d3, gc1, er, rowC_none, rowC_some, wrap_i64 (x := ((totL L i + rowL L i j : Nat) : Int) + 0) (by omega) (by omega), wrap_i64 (x := (j : Int) + 1) (by omega) (by omega)]
        exact Mid_of (j + 1) ⟨by omega, by omega⟩ rfl rfl (by simp only [AI0, AI1, AI2, AI3, AI4, AI5, AI6, AI7, AI8, AI9, reduceIte, reduceCtorEq, Nat.reduceAdd, Nat.reduceEqDiff, Nat.reduceBEq, Nat.reduceLT, Nat.reduceLeDiff, Nat.reduceMul, Nat.reduceSub, Int.reduceLE, Int.reduceLT, Int.reduceEq, Int.reduceBEq, Int.reduceBNe, Int.reduceToNat, Int.reduceNeg, rowL, hl, Int.natCast_add, Int.natCast_one, Int.natCast_zero, Int.add_assoc, Int.add_zero]) trivial
      | some q =>
        simp only [Option.getD_some] at hl
        rw [hl] at q3
        simp only [AI0, AI1, AI2, AI3, AI4, AI5, AI6, AI7, AI8, AI9, reduceIte, reduceCtorEq, Nat.reduceAdd, Nat.reduceEqDiff, Nat.reduceBEq, Nat.reduceLT, Nat.reduceLeDiff, Nat.reduceMul, Nat.reduceSub, Int.reduceLE, Int.reduceLT, Int.reduceEq, Int.reduceBEq, Int.reduceBNe, Int.reduceToNat, Int.reduceNeg, hjt', hlt', hn, hin, refAV, hs.ll, b1, b3, d2, d3, gc1, er, rowC_none, rowC_some, wrap_i64 (x := ((totL L i + rowL L i j : Nat) : Int) + (q.length : Int)) (by omega) (by omega), wrap_i64 (x := (j : Int) + 1) (by omega) (by omega)]
        exact Mid_of (j + 1) ⟨by omega, by omega⟩ rfl rfl (by simp only [AI0, AI1, AI2, AI3, AI4, AI5, AI6, AI7, AI8, AI9, reduceIte, reduceCtorEq, Nat.reduceAdd, Nat.reduceEqDiff, Nat.reduceBEq, Nat.reduceLT, Nat.reduceLeDiff, Nat.reduceMul, Nat.reduceSub, Int.reduceLE, Int.reduceLT, Int.reduceEq, Int.reduceBEq, Int.reduceBNe, Int.reduceToNat, Int.reduceNeg, rowL, hl, Int.natCast_add, Int.natCast_one, Int.add_assoc]) trivial
    · have hjt' : ¬ ((j : Int) < 8) := by omega
      obtain rfl : j = 8 := by omega
      simp only [AI0, AI1, AI2, AI3, AI4, AI5, AI6, AI7, AI8, AI9, reduceIte, reduceCtorEq, Nat.reduceAdd, Nat.reduceEqDiff, Nat.reduceBEq, Nat.reduceLT, Nat.reduceLeDiff, Nat.reduceMul, Nat.reduceSub, Int.reduceLE, Int.reduceLT, Int.reduceEq, Int.reduceBEq, Int.reduceBNe, Int.reduceToNat, Int.reduceNeg, hjt', Int.lt_irrefl, wrap_i64 (x := (i : Int) + 1) (by omega) (by omega)]
      exact Mid_of (i + 1) ⟨by omega, by omega⟩ rfl rfl (by simp only [AI0, AI1, AI2, AI3, AI4, AI5, AI6, AI7, AI8, AI9, reduceIte, reduceCtorEq, Nat.reduceAdd, Nat.reduceEqDiff, Nat.reduceBEq, Nat.reduceLT, Nat.reduceLeDiff, Nat.reduceMul, Nat.reduceSub, Int.reduceLE, Int.reduceLT, Int.reduceEq, Int.reduceBEq, Int.reduceBNe, Int.reduceToNat, Int.reduceNeg, totL, Int.natCast_add, Int.natCast_one]) trivial
  · have hlt' : ¬ ((i : Int) < 8) := by omega
    obtain rfl : i = 8 := by omega
    simp only [AI0, AI1, AI2, AI3, AI4, AI5, AI6, AI7, AI8, AI9, reduceIte, reduceCtorEq, Nat.reduceAdd, Nat.reduceEqDiff, Nat.reduceBEq, Nat.reduceLT, Nat.reduceLeDiff, Nat.reduceMul, Nat.reduceSub, Int.reduceLE, Int.reduceLT, Int.reduceEq, Int.reduceBEq, Int.reduceBNe, Int.reduceToNat, Int.reduceNeg, hlt', Int.lt_irrefl, hs2.total]
end Go.Proofs.Ythlehngbadianaa.Ai
set_option linter.unusedVariables false
set_option linter.unusedSimpArgs false
set_option maxRecDepth 100000
set_option maxHeartbeats 1000000
namespace Go.Proofs.Ythlehngbadianaa.Ai
open Go Go.RowKit Go.Proofs

theorem rall_c (F : List Fr) (k : Nat) (b : Base) (path : List Hop) (m : BusM) (n : Nat) (L : List (Option (List ByteArray))) (hs2 : Sim2 m n L) (hn : nodeAt F k b path = some (refAV n L)) (hin : inMem b path = true) (hrw : rwF F k = true) (f : Int) (s : ByteArray) :
    ACalls Try.prog 19 [.up (upN k (.ptr ⟨b, path, 0⟩)), .v (.int .i64 f), .v (.string s)] F (fun r F' => ∃ L', (r = .v (.int .i64 (allS m f s).1) ∧ F' = updN F k b path (refAV n L')) ∧ Sim2 (allS m f s).2 n L') := by
  have hs := hs2.s
  have h8 := hs.n8
  have hln := hs.ln
  have hrf := refAV_refless n L
  refine ok19.W rfl ?_
  refine W_own hn hrf ?_
  refine W_of_N [6] hmix ?_
  simp only [cc19, AI0, AI1, AI2, AI3, AI4, AI5, AI6, AI7, AI8, AI9, reduceIte, reduceCtorEq, Nat.reduceAdd, Nat.reduceEqDiff, Nat.reduceBEq, Nat.reduceLT, Nat.reduceLeDiff, Nat.reduceMul, Nat.reduceSub, Int.reduceLE, Int.reduceLT, Int.reduceEq, Int.reduceBEq, Int.reduceBNe, Int.reduceToNat, Int.reduceNeg, upd_rules hn hrf, hin, hrw]
  refine (rthere_c _ (k + 1) b path m n L hs (updN_same hn hrf _) hin f).mono ?_
  rintro _ _ - ⟨rfl, rfl⟩
  simp only [AI0, AI1, AI2, AI3, AI4, AI5, AI6, AI7, AI8, AI9, reduceIte, reduceCtorEq, Nat.reduceAdd, Nat.reduceEqDiff, Nat.reduceBEq, Nat.reduceLT, Nat.reduceLeDiff, Nat.reduceMul, Nat.reduceSub, Int.reduceLE, Int.reduceLT, Int.reduceEq, Int.reduceBEq, Int.reduceBNe, Int.reduceToNat, Int.reduceNeg]
  refine W_of_N [6] hmix ?_
  cases h1 : thereB m f with
  | false =>
    simp only [AI0, AI1, AI2, AI3, AI4, AI5, AI6, AI7, AI8, AI9, reduceIte, reduceCtorEq, Nat.reduceAdd, Nat.reduceEqDiff, Nat.reduceBEq, Nat.reduceLT, Nat.reduceLeDiff, Nat.reduceMul, Nat.reduceSub, Int.reduceLE, Int.reduceLT, Int.reduceEq, Int.reduceBEq, Int.reduceBNe, Int.reduceToNat, Int.reduceNeg, h1]
    exact ⟨L, by simp only [AI0, AI1, AI2, AI3, AI4, AI5, AI6, AI7, AI8, AI9, reduceIte, reduceCtorEq, Nat.reduceAdd, Nat.reduceEqDiff, Nat.reduceBEq, Nat.reduceLT, Nat.reduceLeDiff, Nat.reduceMul, Nat.reduceSub, Int.reduceLE, Int.reduceLT, Int.reduceEq, Int.reduceBEq, Int.reduceBNe, Int.reduceToNat, Int.reduceNeg, allS, h1], by simpa [allS, h1] using hs2⟩
  | true =>
    by_cases h2 : 8192 < s.size
    · have h2' : (8192 : Int) < s.size := by omega
      simp only [AI0, AI1, AI2, AI3, AI4, AI5, AI6, AI7, AI8, AI9, reduceIte, reduceCtorEq, Nat.reduceAdd, Nat.reduceEqDiff, Nat.reduceBEq, Nat.reduceLT, Nat.reduceLeDiff, Nat.reduceMul, Nat.reduceSub, Int.reduceLE, Int.reduceLT, Int.reduceEq, Int.reduceBEq, Int.reduceBNe, Int.reduceToNat, Int.reduceNeg, h1, h2']
      exact ⟨L, by simp only [AI0, AI1, AI2, AI3, AI4, AI5, AI6, AI7, AI8, AI9, reduceIte, reduceCtorEq, Nat.reduceAdd, Nat.reduceEqDiff, Nat.reduceBEq, Nat.reduceLT, Nat.reduceLeDiff, Nat.reduceMul, Nat.reduceSub, Int.reduceLE, Int.reduceLT, Int.reduceEq, Int.reduceBEq, Int.reduceBNe, Int.reduceToNat, Int.reduceNeg, allS, h1, h2], by simpa [allS, h1, h2] using hs2⟩
    have h2' : ¬ ((8192 : Int) < s.size) := by omega
    simp only [AI0, AI1, AI2, AI3, AI4, AI5, AI6, AI7, AI8, AI9, reduceIte, reduceCtorEq, Nat.reduceAdd, Nat.reduceEqDiff, Nat.reduceBEq, Nat.reduceLT, Nat.reduceLeDiff, Nat.reduceMul, Nat.reduceSub, Int.reduceLE, Int.reduceLT, Int.reduceEq, Int.reduceBEq, Int.reduceBNe, Int.reduceToNat, Int.reduceNeg, h1, h2']
    refine (rfree_c _ (k + 1) b path m n L hs (updN_same hn hrf _) hin f).mono ?_
    rintro _ _ - ⟨rfl, rfl⟩
    simp only [AI0, AI1, AI2, AI3, AI4, AI5, AI6, AI7, AI8, AI9, reduceIte, reduceCtorEq, Nat.reduceAdd, Nat.reduceEqDiff, Nat.reduceBEq, Nat.reduceLT, Nat.reduceLeDiff, Nat.reduceMul, Nat.reduceSub, Int.reduceLE, Int.reduceLT, Int.reduceEq, Int.reduceBEq, Int.reduceBNe, Int.reduceToNat, Int.reduceNeg]
    refine W_of_N [6] hmix ?_
    by_cases h3 : freeS m f = 0
    · simp only [AI0, AI1, AI2, AI3, AI4, AI5, AI6, AI7, AI8, AI9, reduceIte, reduceCtorEq, Nat.reduceAdd, Nat.reduceEqDiff, Nat.reduceBEq, Nat.reduceLT, Nat.reduceLeDiff, Nat.reduceMul, Nat.reduceSub, Int.reduceLE, Int.reduceLT, Int.reduceEq, Int.reduceBEq, Int.reduceBNe, Int.reduceToNat, Int.reduceNeg, h3]
      exact ⟨L, by simp only [AI0, AI1, AI2, AI3, AI4, AI5, AI6, AI7, AI8, AI9, reduceIte, reduceCtorEq, Nat.reduceAdd, Nat.reduceEqDiff, Nat.reduceBEq, Nat.reduceLT, Nat.reduceLeDiff, Nat.reduceMul, Nat.reduceSub, Int.reduceLE, Int.reduceLT, Int.reduceEq, Int.reduceBEq, Int.reduceBNe, Int.reduceToNat, Int.reduceNeg, allS, h1, h2, h3], by simpa [allS, h1, h2, h3] using hs2⟩
    have h3' : (freeS m f == 0) = false := by simpa using h3
    have e1 : allS m f s = (0, allF m f s n) := by simp [allS, h1, h2, h3, hln]
    simp only [AI0, AI1, AI2, AI3, AI4, AI5, AI6, AI7, AI8, AI9, reduceIte, reduceCtorEq, Nat.reduceAdd, Nat.reduceEqDiff, Nat.reduceBEq, Nat.reduceLT, Nat.reduceLeDiff, Nat.reduceMul, Nat.reduceSub, Int.reduceLE, Int.reduceLT, Int.reduceEq, Int.reduceBEq, Int.reduceBNe, Int.reduceToNat, Int.reduceNeg, h3, h3', upd_rules hn hrf, hin, refAV, hs.ll]
    refine W_loop (fun a : Nat × List (Option (List ByteArray)) => (⟨[(0, .up (upN k (.ptr ⟨b, path, 0⟩))), (1, .v (.int .i64 f)), (2, .v (.string s)), (7, .v (.int .i64 a.1))], [], true⟩, updN F k b path (refAV n a.2))) (fun a => a.1 ≤ n ∧ Sim2 (allF m f s a.1) n a.2) (fun a => n - a.1) ?_ ?_
    · exact Mid_of (0, L) ⟨Nat.zero_le _, hs2⟩ rfl rfl (by simp only [AI0, AI1, AI2, AI3, AI4, AI5, AI6, AI7, AI8, AI9, reduceIte, reduceCtorEq, Nat.reduceAdd, Nat.reduceEqDiff, Nat.reduceBEq, Nat.reduceLT, Nat.reduceLeDiff, Nat.reduceMul, Nat.reduceSub, Int.reduceLE, Int.reduceLT, Int.reduceEq, Int.reduceBEq, Int.reduceBNe, Int.reduceToNat, Int.reduceNeg, refAV]) trivial
    rintro ⟨i, L1⟩ ⟨hi, hsi⟩
    simp only at hi hsi
    have hrf1 := refAV_refless n L1
    simp only [refAV, refless, AV.cells, List.all_cons, Bool.true_and] at hrf1
    refine W_of_N [6] hmix ?_
    by_cases hlt : i < n
    · have hlt' : (i : Int) < n := by omega
      simp only [AI0, AI1, AI2, AI3, AI4, AI5, AI6, AI7, AI8, AI9, reduceIte, reduceCtorEq, Nat.reduceAdd, Nat.reduceEqDiff, Nat.reduceBEq, Nat.reduceLT, Nat.reduceLeDiff, Nat.reduceMul, Nat.reduceSub, Int.reduceLE, Int.reduceLT, Int.reduceEq, Int.reduceBEq, Int.reduceBNe, Int.reduceToNat, Int.reduceNeg, hlt', upd_rules hn hrf, hin, refAV, hsi.s.ll]
      refine (rsend_c _ (k + 1) b path (allF m f s i) n L1 hsi (updN_same hn hrf _) hin (by simp only [AI0, AI1, AI2, AI3, AI4, AI5, AI6, AI7, AI8, AI9, reduceIte, reduceCtorEq, Nat.reduceAdd, Nat.reduceEqDiff, Nat.reduceBEq, Nat.reduceLT, Nat.reduceLeDiff, Nat.reduceMul, Nat.reduceSub, Int.reduceLE, Int.reduceLT, Int.reduceEq, Int.reduceBEq, Int.reduceBNe, Int.reduceToNat, Int.reduceNeg, hrw]) f i s).mono ?_
      rintro _ _ - ⟨L2, ⟨rfl, rfl⟩, hs3⟩
      simp only [AI0, AI1, AI2, AI3, AI4, AI5, AI6, AI7, AI8, AI9, reduceIte, reduceCtorEq, Nat.reduceAdd, Nat.reduceEqDiff, Nat.reduceBEq, Nat.reduceLT, Nat.reduceLeDiff, Nat.reduceMul, Nat.reduceSub, Int.reduceLE, Int.reduceLT, Int.reduceEq, Int.reduceBEq, Int.reduceBNe, Int.reduceToNat, Int.reduceNeg, upd_rules hn hrf, hrf1]
      refine W_of_N [6] hmix ?_
      simp only [AI0, AI1, AI2, AI3, AI4, AI5, AI6, AI7, AI8, AI9, reduceIte, reduceCtorEq, Nat.reduceAdd, Nat.reduceEqDiff, Nat.reduceBEq, Nat.reduceLT, Nat.reduceLeDiff, Nat.reduceMul, Nat.reduceSub, Int.reduceLE, Int.reduceLT, Int.reduceEq, Int.reduceBEq, Int.reduceBNe, Int.reduceToNat, Int.reduceNeg, wrap_i64 (x := (i : Int) + 1) (by omega) (by omega)]
      exact Mid_of (i + 1, L2) ⟨⟨by omega, hs3⟩, by simp only; omega⟩ rfl rfl (by simp only [AI0, AI1, AI2, AI3, AI4, AI5, AI6, AI7, AI8, AI9, reduceIte, reduceCtorEq, Nat.reduceAdd, Nat.reduceEqDiff, Nat.reduceBEq, Nat.reduceLT, Nat.reduceLeDiff, Nat.reduceMul, Nat.reduceSub, Int.reduceLE, Int.reduceLT, Int.reduceEq, Int.reduceBEq, Int.reduceBNe, Int.reduceToNat, Int.reduceNeg, Int.natCast_add, Int.natCast_one]) trivial
    · have hlt' : ¬ ((i : Int) < n) := by omega
      have hin' : i = n := by omega
      simp only [AI0, AI1, AI2, AI3, AI4, AI5, AI6, AI7, AI8, AI9, reduceIte, reduceCtorEq, Nat.reduceAdd, Nat.reduceEqDiff, Nat.reduceBEq, Nat.reduceLT, Nat.reduceLeDiff, Nat.reduceMul, Nat.reduceSub, Int.reduceLE, Int.reduceLT, Int.reduceEq, Int.reduceBEq, Int.reduceBNe, Int.reduceToNat, Int.reduceNeg, hlt', upd_rules hn hrf, hin, refAV, hsi.s.ll]
      rw [hin'] at hsi
      exact ⟨L1, by simp only [AI0, AI1, AI2, AI3, AI4, AI5, AI6, AI7, AI8, AI9, reduceIte, reduceCtorEq, Nat.reduceAdd, Nat.reduceEqDiff, Nat.reduceBEq, Nat.reduceLT, Nat.reduceLeDiff, Nat.reduceMul, Nat.reduceSub, Int.reduceLE, Int.reduceLT, Int.reduceEq, Int.reduceBEq, Int.reduceBNe, Int.reduceToNat, Int.reduceNeg, e1, refAV], by rw [e1]; exact hsi⟩

theorem rnew_c (F : List Fr) (n : Int) :
    ACalls Try.prog 14 [.v (.int .i64 n)] F (fun r F' => r = (if 1 ≤ n ∧ n ≤ 8 then .tup [none, none] [.obj (refAV n.toNat (List.replicate 64 none)), .v (.int .i64 0)] else .tup [none, none] [.v (.pointer none), .v (.int .i64 1)]) ∧ F' = F) := by
  refine ok14.N hmix rfl ?_
  by_cases h1 : n < 1
  · have h1' : ¬ (1 ≤ n) := by omega
    simp only [cc14, AI0, AI1, AI2, AI3, AI4, AI5, AI6, AI7, AI8, AI9, reduceIte, reduceCtorEq, Nat.reduceAdd, Nat.reduceEqDiff, Nat.reduceBEq, Nat.reduceLT, Nat.reduceLeDiff, Nat.reduceMul, Nat.reduceSub, Int.reduceLE, Int.reduceLT, Int.reduceEq, Int.reduceBEq, Int.reduceBNe, Int.reduceToNat, Int.reduceNeg, h1, h1']
  · have h1' : 1 ≤ n := by omega
    by_cases h2 : 8 < n
    · have h2' : ¬ (n ≤ 8) := by omega
      simp only [cc14, AI0, AI1, AI2, AI3, AI4, AI5, AI6, AI7, AI8, AI9, reduceIte, reduceCtorEq, Nat.reduceAdd, Nat.reduceEqDiff, Nat.reduceBEq, Nat.reduceLT, Nat.reduceLeDiff, Nat.reduceMul, Nat.reduceSub, Int.reduceLE, Int.reduceLT, Int.reduceEq, Int.reduceBEq, Int.reduceBNe, Int.reduceToNat, Int.reduceNeg, h1, h2, h1', h2']
    · have h2' : n ≤ 8 := by omega
      have e : ((n.toNat : Nat) : Int) = n := by omega
      simp only [cc14, AI0, AI1, AI2, AI3, AI4, AI5, AI6, AI7, AI8, AI9, reduceIte, reduceCtorEq, Nat.reduceAdd, Nat.reduceEqDiff, Nat.reduceBEq, Nat.reduceLT, Nat.reduceLeDiff, Nat.reduceMul, Nat.reduceSub, Int.reduceLE, Int.reduceLT, Int.reduceEq, Int.reduceBEq, Int.reduceBNe, Int.reduceToNat, Int.reduceNeg, h1, h2, h1', h2', refAV, e, ← rep64]

def timesS (o : OpT) : Nat := if o.m < 1 then 1 else if 600 < o.m then 600 else o.m.toNat
theorem times_c (F : List Fr) (o : OpT) : ACalls Try.prog 15 [opAV o] F (fun r F' => r = .v (.int .i64 (timesS o)) ∧ F' = F) := by
  refine ok15.N hmix rfl ?_
  by_cases h1 : o.m < 1
  · simp only [cc15, AI0, AI1, AI2, AI3, AI4, AI5, AI6, AI7, AI8, AI9, reduceIte, reduceCtorEq, Nat.reduceAdd, Nat.reduceEqDiff, Nat.reduceBEq, Nat.reduceLT, Nat.reduceLeDiff, Nat.reduceMul, Nat.reduceSub, Int.reduceLE, Int.reduceLT, Int.reduceEq, Int.reduceBEq, Int.reduceBNe, Int.reduceToNat, Int.reduceNeg, opAV, h1, timesS]
  · by_cases h2 : 600 < o.m
    · simp only [cc15, AI0, AI1, AI2, AI3, AI4, AI5, AI6, AI7, AI8, AI9, reduceIte, reduceCtorEq, Nat.reduceAdd, Nat.reduceEqDiff, Nat.reduceBEq, Nat.reduceLT, Nat.reduceLeDiff, Nat.reduceMul, Nat.reduceSub, Int.reduceLE, Int.reduceLT, Int.reduceEq, Int.reduceBEq, Int.reduceBNe, Int.reduceToNat, Int.reduceNeg, opAV, h1, h2, timesS]
    · have e : ((o.m.toNat : Nat) : Int) = o.m := by omega
      simp only [cc15, AI0, AI1, AI2, AI3, AI4, AI5, AI6, AI7, AI8, AI9, reduceIte, reduceCtorEq, Nat.reduceAdd, Nat.reduceEqDiff, Nat.reduceBEq, Nat.reduceLT, Nat.reduceLeDiff, Nat.reduceMul, Nat.reduceSub, Int.reduceLE, Int.reduceLT, Int.reduceEq, Int.reduceBEq, Int.reduceBNe, Int.reduceToNat, Int.reduceNeg, opAV, h1, h2, timesS, e]
end Go.Proofs.Ythlehngbadianaa.Ai
set_option linter.unusedVariables false
set_option linter.unusedSimpArgs false
set_option maxRecDepth 100000
set_option maxHeartbeats 4000000
namespace Go.Proofs.Ythlehngbadianaa.Ai
open Go Go.RowKit Go.Proofs
/- watershed/watershedlaw20.BusDoes -/
def cc3 : CC := (.seq (.region [⟨none, 4, (.val (.mv (.c (.bool false)))), [], [4]⟩]) (.seq (.region [⟨none, 21, (.val (.mv (.s 0))), [], []⟩, ⟨none, 22, (.call 13 [(.s 21)]), [], [21]⟩, ⟨none, 20, (.val (.mv (.s 22))), [22], [22]⟩, ⟨none, 23, (.val (.ext (.s 20) 0)), [20], []⟩, ⟨none, 24, (.val (.ext (.s 20) 1)), [20], [20]⟩, ⟨none, 5, (.val (.mv (.s 23))), [23], [23]⟩, ⟨none, 6, (.val (.mv (.s 24))), [24], [24]⟩]) (.seq (.region [⟨none, 26, (.val (.mv (.s 0))), [0], [0]⟩, ⟨none, 27, (.call 14 [(.s 26)]), [], [26]⟩, ⟨none, 25, (.val (.mv (.s 27))), [27], [27]⟩, ⟨none, 28, (.val (.ext (.s 25) 0)), [25], []⟩, ⟨none, 29, (.val (.ext (.s 25) 1)), [25], [25]⟩, ⟨none, 7, (.val (.mv (.s 28))), [28], [28]⟩, ⟨none, 8, (.val (.mv (.s 29))), [29], [29]⟩]) (.seq (.seq (.region [⟨none, 30, (.val (.mv (.s 6))), [], []⟩, ⟨none, 31, (.val (.mv (.s 8))), [], []⟩, ⟨none, 32, (.val (.bin .neq (.s 30) (.s 31))), [], [30, 31]⟩, ⟨none, 33, (.val (.mv (.s 32))), [32], [32]⟩, ⟨(some (33, false)), 34, (.val (.mv (.s 6))), [], []⟩, ⟨(some (33, false)), 35, (.val (.bin .neq (.s 34) (.c (.int .i64 0)))), [], [34]⟩, ⟨none, 36, (.val (.pick (.s 33) (.c (.bool true)) (.s 35))), [33, 35], [33, 35]⟩, ⟨none, 37, (.val (.mv (.s 36))), [36], [36]⟩, ⟨(some (37, false)), 38, (.val (.mv (.s 5))), [], []⟩, ⟨(some (37, false)), 39, (.val (.eqp false (.s 38) (.c (.pointer none)))), [], [38]⟩, ⟨none, 40, (.val (.pick (.s 37) (.c (.bool true)) (.s 39))), [37, 39], [37, 39]⟩]) (.cond (.s 40) (.seq (.region [⟨none, 41, (.val (.mv (.s 6))), [], [1, 7, 40]⟩, ⟨none, 42, (.val (.mv (.s 8))), [8], [8]⟩, ⟨none, 43, (.val (.bin .eql (.s 41) (.s 42))), [], [41, 42]⟩, ⟨none, 44, (.val (.mv (.s 43))), [43], [43]⟩, ⟨(some (44, true)), 45, (.val (.mv (.s 6))), [6], [6]⟩, ⟨(some (44, true)), 46, (.val (.bin .neq (.s 45) (.c (.int .i64 0)))), [], [45]⟩, ⟨none, 47, (.val (.pick (.s 44) (.s 46) (.c (.bool false)))), [44, 46], [44, 46]⟩, ⟨none, 48, (.val (.mv (.s 47))), [47], [47]⟩, ⟨(some (48, true)), 49, (.val (.mv (.s 5))), [5], [5]⟩, ⟨(some (48, true)), 50, (.val (.eqp false (.s 49) (.c (.pointer none)))), [], [49]⟩, ⟨none, 51, (.val (.pick (.s 48) (.s 50) (.c (.bool false)))), [48, 50], [48, 50]⟩, ⟨none, 4, (.val (.mv (.s 51))), [51], [51]⟩]) .ret) .skip)) (.seq (.seq (.region [⟨none, 9, (.val (.mv (.c (.int .i64 0)))), [], [6, 8, 40]⟩]) (.block 0 (.loop (.seq (.seq (.region [⟨none, 52, (.val (.mv (.s 9))), [], []⟩, ⟨none, 53, (.val (.mv (.s 1))), [], []⟩, ⟨none, 54, (.val (.lnl (.s 53) 5)), [], [53]⟩, ⟨none, 55, (.val (.bin .lss (.s 52) (.s 54))), [], [52, 54]⟩, ⟨none, 56, (.val (.mv (.s 55))), [55], [55]⟩, ⟨(some (56, true)), 57, (.val (.mv (.s 9))), [], []⟩, ⟨(some (56, true)), 58, (.val (.bin .lss (.s 57) (.c (.int .i64 60)))), [], []⟩, ⟨none, 59, (.val (.pick (.s 56) (.s 58) (.c (.bool false)))), [56], [56]⟩]) (.cond (.s 59) .skip (.exit 0))) (.seq (.block 1 (.seq (.region [⟨none, 62, (.val (.mv (.s 1))), [], [59]⟩, ⟨none, 63, (.val (.mv (.s 9))), [], []⟩, ⟨none, 64, (.val (.ia (.s 62) (.s 63) 5)), [], [62, 63]⟩, ⟨none, 65, (.val (.ld (.s 64) (some 5))), [], [64]⟩, ⟨none, 10, (.alloc (.agg #[(.int .i64 0), (.int .i64 0), (.int .i64 0), (.string ⟨#[]⟩), (.int .i64 0)])), [], []⟩, ⟨none, 0, (.store 5 (.s 10) 65), [], [65]⟩]) (.seq (.seq (.region [⟨none, 66, (.val (.fa (.s 10) 3)), [], []⟩, ⟨none, 67, (.val (.ld (.s 66) none)), [], [66]⟩, ⟨none, 68, (.val (.lns (.s 67))), [], [67]⟩, ⟨none, 69, (.val (.bin .gtr (.s 68) (.c (.int .i64 9000)))), [], [68]⟩]) (.cond (.s 69) (.seq (.region [⟨none, 4, (.val (.mv (.c (.bool true)))), [], [1, 5, 7, 9, 10, 57, 58, 69, 100, 101, 102, 106, 107, 108, 109, 110, 111, 112, 113, 114, 115, 116, 117, 118, 119, 120, 121, 122, 125, 126, 127, 128, 129, 130, 131, 132, 133, 134, 135, 136, 137, 156, 157, 158, 159, 160, 161, 162, 163, 164, 165, 166, 167, 168, 169, 170, 171, 172, 173, 174, 175, 176, 177, 178, 179, 180, 181, 182, 183, 184, 185, 186, 187, 188, 189, 190, 191, 192, 193, 194, 195, 196]⟩]) .ret) .skip)) (.seq (.seq (.region [⟨none, 11, (.val (.mv (.c (.int .i64 0)))), [], [69]⟩]) (.block 2 (.loop (.seq (.seq (.region [⟨none, 70, (.val (.mv (.s 11))), [], []⟩, ⟨none, 71, (.val (.ld (.s 10) (some 5))), [], []⟩, ⟨none, 72, (.call 15 [(.s 71)]), [], [71]⟩, ⟨none, 73, (.val (.bin .lss (.s 70) (.s 72))), [], [70, 72]⟩]) (.cond (.s 73) .skip (.exit 2))) (.seq (.block 3 (.seq (.region [⟨none, 76, (.val (.fa (.s 10) 0)), [], [73]⟩, ⟨none, 77, (.val (.ld (.s 76) none)), [], [76]⟩]) (.block 4 (.seq (.region [⟨none, 105, (.val (.bin .eql (.s 77) (.c (.int .i64 0)))), [], []⟩, ⟨none, 104, (.val (.mv (.s 105))), [105], [105]⟩]) (.cond (.s 104) (.seq (.drawn (.op ⟨none, 106, (.val (.mv (.s 5))), [], []⟩ (.op ⟨none, 107, (.val (.fa (.s 10) 1)), [], []⟩ (.op ⟨none, 108, (.val (.ld (.s 107) none)), [], []⟩ (.op ⟨none, 109, (.val (.fa (.s 10) 2)), [], []⟩ (.op ⟨none, 110, (.val (.ld (.s 109) none)), [], []⟩ (.op ⟨none, 111, (.val (.fa (.s 10) 3)), [], []⟩ (.op ⟨none, 112, (.val (.ld (.s 111) none)), [], []⟩ (.op ⟨none, 114, (.val (.mv (.s 7))), [], []⟩ (.op ⟨none, 115, (.val (.fa (.s 10) 1)), [], []⟩ (.op ⟨none, 117, (.val (.fa (.s 10) 2)), [], []⟩ (.op ⟨none, 119, (.val (.fa (.s 10) 3)), [], []⟩ (.alt (.op ⟨none, 113, (.call 16 [(.s 106), (.s 108), (.s 110), (.s 112)]), [], []⟩ (.op ⟨none, 116, (.val (.ld (.s 115) none)), [], []⟩ (.op ⟨none, 118, (.val (.ld (.s 117) none)), [], []⟩ (.op ⟨none, 120, (.val (.ld (.s 119) none)), [], []⟩ (.op ⟨none, 121, (.call 17 [(.s 114), (.s 116), (.s 118), (.s 120)]), [], []⟩ (.op ⟨none, 122, (.val (.bin .neq (.s 113) (.s 121))), [], []⟩ .done)))))) (.alt (.op ⟨none, 116, (.val (.ld (.s 115) none)), [], []⟩ (.alt (.op ⟨none, 113, (.call 16 [(.s 106), (.s 108), (.s 110), (.s 112)]), [], []⟩ (.op ⟨none, 118, (.val (.ld (.s 117) none)), [], []⟩ (.op ⟨none, 120, (.val (.ld (.s 119) none)), [], []⟩ (.op ⟨none, 121, (.call 17 [(.s 114), (.s 116), (.s 118), (.s 120)]), [], []⟩ (.op ⟨none, 122, (.val (.bin .neq (.s 113) (.s 121))), [], []⟩ .done))))) (.alt (.op ⟨none, 118, (.val (.ld (.s 117) none)), [], []⟩ (.alt (.op ⟨none, 113, (.call 16 [(.s 106), (.s 108), (.s 110), (.s 112)]), [], []⟩ (.op ⟨none, 120, (.val (.ld (.s 119) none)), [], []⟩ (.op ⟨none, 121, (.call 17 [(.s 114), (.s 116), (.s 118), (.s 120)]), [], []⟩ (.op ⟨none, 122, (.val (.bin .neq (.s 113) (.s 121))), [], []⟩ .done)))) (.op ⟨none, 120, (.val (.ld (.s 119) none)), [], []⟩ (.op ⟨none, 113, (.call 16 [(.s 106), (.s 108), (.s 110), (.s 112)]), [], []⟩ (.op ⟨none, 121, (.call 17 [(.s 114), (.s 116), (.s 118), (.s 120)]), [], []⟩ (.op ⟨none, 122, (.val (.bin .neq (.s 113) (.s 121))), [], []⟩ .done)))))) (.op ⟨none, 120, (.val (.ld (.s 119) none)), [], []⟩ (.alt (.op ⟨none, 113, (.call 16 [(.s 106), (.s 108), (.s 110), (.s 112)]), [], []⟩ (.op ⟨none, 118, (.val (.ld (.s 117) none)), [], []⟩ (.op ⟨none, 121, (.call 17 [(.s 114), (.s 116), (.s 118), (.s 120)]), [], []⟩ (.op ⟨none, 122, (.val (.bin .neq (.s 113) (.s 121))), [], []⟩ .done)))) (.op ⟨none, 118, (.val (.ld (.s 117) none)), [], []⟩ (.op ⟨none, 113, (.call 16 [(.s 106), (.s 108), (.s 110), (.s 112)]), [], []⟩ (.op ⟨none, 121, (.call 17 [(.s 114), (.s 116), (.s 118), (.s 120)]), [], []⟩ (.op ⟨none, 122, (.val (.bin .neq (.s 113) (.s 121))), [], []⟩ .done))))))))) (.alt (.op ⟨none, 118, (.val (.ld (.s 117) none)), [], []⟩ (.alt (.op ⟨none, 113, (.call 16 [(.s 106), (.s 108), (.s 110), (.s 112)]), [], []⟩ (.op ⟨none, 116, (.val (.ld (.s 115) none)), [], []⟩ (.op ⟨none, 120, (.val (.ld (.s 119) none)), [], []⟩ (.op ⟨none, 121, (.call 17 [(.s 114), (.s 116), (.s 118), (.s 120)]), [], []⟩ (.op ⟨none, 122, (.val (.bin .neq (.s 113) (.s 121))), [], []⟩ .done))))) (.alt (.op ⟨none, 116, (.val (.ld (.s 115) none)), [], []⟩ (.alt (.op ⟨none, 113, (.call 16 [(.s 106), (.s 108), (.s 110), (.s 112)]), [], []⟩ (.op ⟨none, 120, (.val (.ld (.s 119) none)), [], []⟩ (.op ⟨none, 121, (.call 17 [(.s 114), (.s 116), (.s 118), (.s 120)]), [], []⟩ (.op ⟨none, 122, (.val (.bin .neq (.s 113) (.s 121))), [], []⟩ .done)))) (.op ⟨none, 120, (.val (.ld (.s 119) none)), [], []⟩ (.op ⟨none, 113, (.call 16 [(.s 106), (.s 108), (.s 110), (.s 112)]), [], []⟩ (.op ⟨none, 121, (.call 17 [(.s 114), (.s 116), (.s 118), (.s 120)]), [], []⟩ (.op ⟨none, 122, (.val (.bin .neq (.s 113) (.s 121))), [], []⟩ .done)))))) (.op ⟨none, 120, (.val (.ld (.s 119) none)), [], []⟩ (.alt (.op ⟨none, 113, (.call 16 [(.s 106), (.s 108), (.s 110), (.s 112)]), [], []⟩ (.op ⟨none, 116, (.val (.ld (.s 115) none)), [], []⟩ (.op ⟨none, 121, (.call 17 [(.s 114), (.s 116), (.s 118), (.s 120)]), [], []⟩ (.op ⟨none, 122, (.val (.bin .neq (.s 113) (.s 121))), [], []⟩ .done)))) (.op ⟨none, 116, (.val (.ld (.s 115) none)), [], []⟩ (.op ⟨none, 113, (.call 16 [(.s 106), (.s 108), (.s 110), (.s 112)]), [], []⟩ (.op ⟨none, 121, (.call 17 [(.s 114), (.s 116), (.s 118), (.s 120)]), [], []⟩ (.op ⟨none, 122, (.val (.bin .neq (.s 113) (.s 121))), [], []⟩ .done))))))))) (.op ⟨none, 120, (.val (.ld (.s 119) none)), [], []⟩ (.alt (.op ⟨none, 113, (.call 16 [(.s 106), (.s 108), (.s 110), (.s 112)]), [], []⟩ (.op ⟨none, 116, (.val (.ld (.s 115) none)), [], []⟩ (.op ⟨none, 118, (.val (.ld (.s 117) none)), [], []⟩ (.op ⟨none, 121, (.call 17 [(.s 114), (.s 116), (.s 118), (.s 120)]), [], []⟩ (.op ⟨none, 122, (.val (.bin .neq (.s 113) (.s 121))), [], []⟩ .done))))) (.alt (.op ⟨none, 116, (.val (.ld (.s 115) none)), [], []⟩ (.alt (.op ⟨none, 113, (.call 16 [(.s 106), (.s 108), (.s 110), (.s 112)]), [], []⟩ (.op ⟨none, 118, (.val (.ld (.s 117) none)), [], []⟩ (.op ⟨none, 121, (.call 17 [(.s 114), (.s 116), (.s 118), (.s 120)]), [], []⟩ (.op ⟨none, 122, (.val (.bin .neq (.s 113) (.s 121))), [], []⟩ .done)))) (.op ⟨none, 118, (.val (.ld (.s 117) none)), [], []⟩ (.op ⟨none, 113, (.call 16 [(.s 106), (.s 108), (.s 110), (.s 112)]), [], []⟩ (.op ⟨none, 121, (.call 17 [(.s 114), (.s 116), (.s 118), (.s 120)]), [], []⟩ (.op ⟨none, 122, (.val (.bin .neq (.s 113) (.s 121))), [], []⟩ .done)))))) (.op ⟨none, 118, (.val (.ld (.s 117) none)), [], []⟩ (.alt (.op ⟨none, 113, (.call 16 [(.s 106), (.s 108), (.s 110), (.s 112)]), [], []⟩ (.op ⟨none, 116, (.val (.ld (.s 115) none)), [], []⟩ (.op ⟨none, 121, (.call 17 [(.s 114), (.s 116), (.s 118), (.s 120)]), [], []⟩ (.op ⟨none, 122, (.val (.bin .neq (.s 113) (.s 121))), [], []⟩ .done)))) (.op ⟨none, 116, (.val (.ld (.s 115) none)), [], []⟩ (.op ⟨none, 113, (.call 16 [(.s 106), (.s 108), (.s 110), (.s 112)]), [], []⟩ (.op ⟨none, 121, (.call 17 [(.s 114), (.s 116), (.s 118), (.s 120)]), [], []⟩ (.op ⟨none, 122, (.val (.bin .neq (.s 113) (.s 121))), [], []⟩ .done)))))))))))))))))))))))) (.cond (.s 122) (.seq (.region [⟨none, 4, (.val (.mv (.c (.bool false)))), [], [1, 5, 7, 9, 10, 11, 57, 58, 77, 100, 101, 102, 104, 106, 107, 108, 109, 110, 111, 112, 113, 114, 115, 116, 117, 118, 119, 120, 121, 122, 125, 126, 127, 128, 129, 130, 131, 132, 133, 134, 135, 136, 137, 156, 157, 158, 159, 160, 161, 162, 163, 164, 165, 166, 167, 168, 169, 170, 171, 172, 173, 174, 175, 176, 177, 178, 179, 180, 181, 182, 183, 184, 185, 186, 187, 188, 189, 190, 191, 192, 193, 194, 195, 196]⟩]) .ret) .skip)) (.seq (.region [⟨none, 124, (.val (.bin .eql (.s 77) (.c (.int .i64 1)))), [], [77, 104]⟩, ⟨none, 123, (.val (.mv (.s 124))), [124], [124]⟩]) (.cond (.s 123) (.seq (.drawn (.op ⟨none, 125, (.val (.mv (.s 5))), [], []⟩ (.op ⟨none, 126, (.val (.fa (.s 10) 1)), [], []⟩ (.op ⟨none, 127, (.val (.ld (.s 126) none)), [], []⟩ (.op ⟨none, 128, (.val (.fa (.s 10) 3)), [], []⟩ (.op ⟨none, 129, (.val (.ld (.s 128) none)), [], []⟩ (.op ⟨none, 131, (.val (.mv (.s 7))), [], []⟩ (.op ⟨none, 132, (.val (.fa (.s 10) 1)), [], []⟩ (.op ⟨none, 134, (.val (.fa (.s 10) 3)), [], []⟩ (.alt (.op ⟨none, 130, (.call 18 [(.s 125), (.s 127), (.s 129)]), [], []⟩ (.op ⟨none, 133, (.val (.ld (.s 132) none)), [], []⟩ (.op ⟨none, 135, (.val (.ld (.s 134) none)), [], []⟩ (.op ⟨none, 136, (.call 19 [(.s 131), (.s 133), (.s 135)]), [], []⟩ (.op ⟨none, 137, (.val (.bin .neq (.s 130) (.s 136))), [], []⟩ .done))))) (.alt (.op ⟨none, 133, (.val (.ld (.s 132) none)), [], []⟩ (.alt (.op ⟨none, 130, (.call 18 [(.s 125), (.s 127), (.s 129)]), [], []⟩ (.op ⟨none, 135, (.val (.ld (.s 134) none)), [], []⟩ (.op ⟨none, 136, (.call 19 [(.s 131), (.s 133), (.s 135)]), [], []⟩ (.op ⟨none, 137, (.val (.bin .neq (.s 130) (.s 136))), [], []⟩ .done)))) (.op ⟨none, 135, (.val (.ld (.s 134) none)), [], []⟩ (.op ⟨none, 130, (.call 18 [(.s 125), (.s 127), (.s 129)]), [], []⟩ (.op ⟨none, 136, (.call 19 [(.s 131), (.s 133), (.s 135)]), [], []⟩ (.op ⟨none, 137, (.val (.bin .neq (.s 130) (.s 136))), [], []⟩ .done)))))) (.op ⟨none, 135, (.val (.ld (.s 134) none)), [], []⟩ (.alt (.op ⟨none, 130, (.call 18 [(.s 125), (.s 127), (.s 129)]), [], []⟩ (.op ⟨none, 133, (.val (.ld (.s 132) none)), [], []⟩ (.op ⟨none, 136, (.call 19 [(.s 131), (.s 133), (.s 135)]), [], []⟩ (.op ⟨none, 137, (.val (.bin .neq (.s 130) (.s 136))), [], []⟩ .done)))) (.op ⟨none, 133, (.val (.ld (.s 132) none)), [], []⟩ (.op ⟨none, 130, (.call 18 [(.s 125), (.s 127), (.s 129)]), [], []⟩ (.op ⟨none, 136, (.call 19 [(.s 131), (.s 133), (.s 135)]), [], []⟩ (.op ⟨none, 137, (.val (.bin .neq (.s 130) (.s 136))), [], []⟩ .done))))))))))))))))) (.cond (.s 137) (.seq (.region [⟨none, 4, (.val (.mv (.c (.bool false)))), [], [1, 5, 7, 9, 10, 11, 57, 58, 100, 101, 102, 106, 107, 108, 109, 110, 111, 112, 113, 114, 115, 116, 117, 118, 119, 120, 121, 122, 123, 125, 126, 127, 128, 129, 130, 131, 132, 133, 134, 135, 136, 137, 156, 157, 158, 159, 160, 161, 162, 163, 164, 165, 166, 167, 168, 169, 170, 171, 172, 173, 174, 175, 176, 177, 178, 179, 180, 181, 182, 183, 184, 185, 186, 187, 188, 189, 190, 191, 192, 193, 194, 195, 196]⟩]) .ret) .skip)) (.seq (.region [⟨none, 79, (.val (.mv (.s 5))), [], [123]⟩, ⟨none, 80, (.val (.fa (.s 10) 1)), [], []⟩, ⟨none, 81, (.val (.ld (.s 80) none)), [], [80]⟩, ⟨none, 82, (.val (.fa (.s 10) 2)), [], []⟩, ⟨none, 83, (.val (.ld (.s 82) none)), [], [82]⟩, ⟨none, 84, (.call 20 [(.s 79), (.s 81), (.s 83)]), [], [79, 81, 83]⟩, ⟨none, 78, (.val (.mv (.s 84))), [84], [84]⟩, ⟨none, 85, (.val (.ext (.s 78) 0)), [78], []⟩, ⟨none, 86, (.val (.ext (.s 78) 1)), [78], [78]⟩, ⟨none, 12, (.val (.mv (.s 85))), [85], [85]⟩, ⟨none, 13, (.val (.mv (.s 86))), [86], [86]⟩]) (.seq (.region [⟨none, 88, (.val (.mv (.s 7))), [], []⟩, ⟨none, 89, (.val (.fa (.s 10) 1)), [], []⟩, ⟨none, 90, (.val (.ld (.s 89) none)), [], [89]⟩, ⟨none, 91, (.val (.fa (.s 10) 2)), [], []⟩, ⟨none, 92, (.val (.ld (.s 91) none)), [], [91]⟩, ⟨none, 93, (.call 21 [(.s 88), (.s 90), (.s 92)]), [], [88, 90, 92]⟩, ⟨none, 87, (.val (.mv (.s 93))), [93], [93]⟩, ⟨none, 94, (.val (.ext (.s 87) 0)), [87], []⟩, ⟨none, 95, (.val (.ext (.s 87) 1)), [87], [87]⟩, ⟨none, 14, (.val (.mv (.s 94))), [94], [94]⟩, ⟨none, 15, (.val (.mv (.s 95))), [95], [95]⟩]) (.seq (.region [⟨none, 96, (.val (.mv (.s 12))), [12], [12]⟩, ⟨none, 97, (.val (.mv (.s 14))), [14], [14]⟩, ⟨none, 98, (.val (.bin .neq (.s 96) (.s 97))), [], [96, 97]⟩, ⟨none, 99, (.val (.mv (.s 98))), [98], [98]⟩, ⟨(some (99, false)), 100, (.val (.mv (.s 13))), [13], [13]⟩, ⟨(some (99, false)), 101, (.val (.mv (.s 15))), [15], [15]⟩, ⟨(some (99, false)), 102, (.val (.bin .neq (.s 100) (.s 101))), [], []⟩, ⟨none, 103, (.val (.pick (.s 99) (.c (.bool true)) (.s 102))), [99], [99]⟩]) (.cond (.s 103) (.seq (.region [⟨none, 4, (.val (.mv (.c (.bool false)))), [], [1, 5, 7, 9, 10, 11, 57, 58, 100, 101, 102, 103, 106, 107, 108, 109, 110, 111, 112, 113, 114, 115, 116, 117, 118, 119, 120, 121, 122, 125, 126, 127, 128, 129, 130, 131, 132, 133, 134, 135, 136, 137, 156, 157, 158, 159, 160, 161, 162, 163, 164, 165, 166, 167, 168, 169, 170, 171, 172, 173, 174, 175, 176, 177, 178, 179, 180, 181, 182, 183, 184, 185, 186, 187, 188, 189, 190, 191, 192, 193, 194, 195, 196]⟩]) .ret) .skip))))))))))) (.region [⟨none, 74, (.val (.mv (.s 11))), [11], [11, 77, 103, 104, 123]⟩, ⟨none, 75, (.val (.bin .add (.s 74) (.c (.int .i64 1)))), [], [74]⟩, ⟨none, 11, (.val (.mv (.s 75))), [75], [75]⟩])))))) (.seq (.region [⟨none, 139, (.val (.mv (.s 5))), [], [11, 73]⟩, ⟨none, 140, (.val (.fa (.s 10) 1)), [], []⟩, ⟨none, 141, (.val (.ld (.s 140) none)), [], [140]⟩, ⟨none, 142, (.val (.fa (.s 10) 2)), [], []⟩, ⟨none, 143, (.val (.ld (.s 142) none)), [], [142]⟩, ⟨none, 144, (.call 22 [(.s 139), (.s 141), (.s 143)]), [], [139, 141, 143]⟩, ⟨none, 138, (.val (.mv (.s 144))), [144], [144]⟩, ⟨none, 145, (.val (.ext (.s 138) 0)), [138], []⟩, ⟨none, 146, (.val (.ext (.s 138) 1)), [138], [138]⟩, ⟨none, 16, (.val (.mv (.s 145))), [145], [145]⟩, ⟨none, 17, (.val (.mv (.s 146))), [146], [146]⟩]) (.seq (.region [⟨none, 148, (.val (.mv (.s 7))), [], []⟩, ⟨none, 149, (.val (.fa (.s 10) 1)), [], []⟩, ⟨none, 150, (.val (.ld (.s 149) none)), [], [149]⟩, ⟨none, 151, (.val (.fa (.s 10) 2)), [], []⟩, ⟨none, 152, (.val (.ld (.s 151) none)), [], [151]⟩, ⟨none, 153, (.call 23 [(.s 148), (.s 150), (.s 152)]), [], [148, 150, 152]⟩, ⟨none, 147, (.val (.mv (.s 153))), [153], [153]⟩, ⟨none, 154, (.val (.ext (.s 147) 0)), [147], []⟩, ⟨none, 155, (.val (.ext (.s 147) 1)), [147], [147]⟩, ⟨none, 18, (.val (.mv (.s 154))), [154], [154]⟩, ⟨none, 19, (.val (.mv (.s 155))), [155], [155]⟩]) (.seq (.drawn (.op ⟨none, 156, (.val (.mv (.s 16))), [], []⟩ (.op ⟨none, 157, (.val (.mv (.s 18))), [], []⟩ (.op ⟨none, 158, (.val (.bin .neq (.s 156) (.s 157))), [], []⟩ (.op ⟨none, 159, (.val (.mv (.s 158))), [], []⟩ (.op ⟨(some (159, false)), 160, (.val (.mv (.s 17))), [], []⟩ (.op ⟨(some (159, false)), 161, (.val (.mv (.s 19))), [], []⟩ (.op ⟨(some (159, false)), 162, (.val (.bin .neq (.s 160) (.s 161))), [], []⟩ (.op ⟨none, 163, (.val (.pick (.s 159) (.c (.bool true)) (.s 162))), [], []⟩ (.op ⟨none, 164, (.val (.mv (.s 163))), [], []⟩ (.op ⟨(some (164, false)), 165, (.val (.mv (.s 5))), [], []⟩ (.op ⟨(some (164, false)), 166, (.val (.fa (.s 10) 1)), [], []⟩ (.op ⟨(some (164, false)), 167, (.val (.ld (.s 166) none)), [], []⟩ (.op ⟨(some (164, false)), 168, (.val (.fa (.s 10) 2)), [], []⟩ (.op ⟨(some (164, false)), 169, (.val (.ld (.s 168) none)), [], []⟩ (.op ⟨(some (164, false)), 171, (.val (.mv (.s 7))), [], []⟩ (.op ⟨(some (164, false)), 172, (.val (.fa (.s 10) 1)), [], []⟩ (.op ⟨(some (164, false)), 174, (.val (.fa (.s 10) 2)), [], []⟩ (.alt (.op ⟨(some (164, false)), 170, (.call 24 [(.s 165), (.s 167), (.s 169)]), [], []⟩ (.op ⟨(some (164, false)), 173, (.val (.ld (.s 172) none)), [], []⟩ (.op ⟨(some (164, false)), 175, (.val (.ld (.s 174) none)), [], []⟩ (.op ⟨(some (164, false)), 176, (.call 25 [(.s 171), (.s 173), (.s 175)]), [], []⟩ (.op ⟨(some (164, false)), 177, (.val (.bin .neq (.s 170) (.s 176))), [], []⟩ (.op ⟨none, 178, (.val (.pick (.s 164) (.c (.bool true)) (.s 177))), [], []⟩ (.op ⟨none, 179, (.val (.mv (.s 178))), [], []⟩ (.op ⟨(some (179, false)), 180, (.val (.mv (.s 5))), [], []⟩ (.op ⟨(some (179, false)), 182, (.val (.mv (.s 7))), [], []⟩ (.op ⟨(some (179, false)), 181, (.call 26 [(.s 180)]), [], []⟩ (.op ⟨(some (179, false)), 183, (.call 27 [(.s 182)]), [], []⟩ (.op ⟨(some (179, false)), 184, (.val (.bin .neq (.s 181) (.s 183))), [], []⟩ (.op ⟨none, 185, (.val (.pick (.s 179) (.c (.bool true)) (.s 184))), [], []⟩ (.op ⟨none, 186, (.val (.mv (.s 185))), [], []⟩ (.op ⟨(some (186, false)), 187, (.val (.mv (.s 5))), [], []⟩ (.op ⟨(some (186, false)), 188, (.val (.fa (.s 10) 1)), [], []⟩ (.op ⟨(some (186, false)), 189, (.val (.ld (.s 188) none)), [], []⟩ (.op ⟨(some (186, false)), 191, (.val (.mv (.s 7))), [], []⟩ (.op ⟨(some (186, false)), 192, (.val (.fa (.s 10) 1)), [], []⟩ (.alt (.op ⟨(some (186, false)), 190, (.call 28 [(.s 187), (.s 189)]), [], []⟩ (.op ⟨(some (186, false)), 193, (.val (.ld (.s 192) none)), [], []⟩ (.op ⟨(some (186, false)), 194, (.call 29 [(.s 191), (.s 193)]), [], []⟩ (.op ⟨(some (186, false)), 195, (.val (.bin .neq (.s 190) (.s 194))), [], []⟩ (.op ⟨none, 196, (.val (.pick (.s 186) (.c (.bool true)) (.s 195))), [], []⟩ .done))))) (.op ⟨(some (186, false)), 193, (.val (.ld (.s 192) none)), [], []⟩ (.op ⟨(some (186, false)), 190, (.call 28 [(.s 187), (.s 189)]), [], []⟩ (.op ⟨(some (186, false)), 194, (.call 29 [(.s 191), (.s 193)]), [], []⟩ (.op ⟨(some (186, false)), 195, (.val (.bin .neq (.s 190) (.s 194))), [], []⟩ (.op ⟨none, 196, (.val (.pick (.s 186) (.c (.bool true)) (.s 195))), [], []⟩ .done))))))))))))))))))))))))) (.alt (.op ⟨(some (164, false)), 173, (.val (.ld (.s 172) none)), [], []⟩ (.alt (.op ⟨(some (164, false)), 170, (.call 24 [(.s 165), (.s 167), (.s 169)]), [], []⟩ (.op ⟨(some (164, false)), 175, (.val (.ld (.s 174) none)), [], []⟩ (.op ⟨(some (164, false)), 176, (.call 25 [(.s 171), (.s 173), (.s 175)]), [], []⟩ (.op ⟨(some (164, false)), 177, (.val (.bin .neq (.s 170) (.s 176))), [], []⟩ (.op ⟨none, 178, (.val (.pick (.s 164) (.c (.bool true)) (.s 177))), [], []⟩ (.op ⟨none, 179, (.val (.mv (.s 178))), [], []⟩ (.op ⟨(some (179, false)), 180, (.val (.mv (.s 5))), [], []⟩ (.op ⟨(some (179, false)), 182, (.val (.mv (.s 7))), [], []⟩ (.op ⟨(some (179, false)), 181, (.call 26 [(.s 180)]), [], []⟩ (.op ⟨(some (179, false)), 183, (.call 27 [(.s 182)]), [], []⟩ (.op ⟨(some (179, false)), 184, (.val (.bin .neq (.s 181) (.s 183))), [], []⟩ (.op ⟨none, 185, (.val (.pick (.s 179) (.c (.bool true)) (.s 184))), [], []⟩ (.op ⟨none, 186, (.val (.mv (.s 185))), [], []⟩ (.op ⟨(some (186, false)), 187, (.val (.mv (.s 5))), [], []⟩ (.op ⟨(some (186, false)), 188, (.val (.fa (.s 10) 1)), [], []⟩ (.op ⟨(some (186, false)), 189, (.val (.ld (.s 188) none)), [], []⟩ (.op ⟨(some (186, false)), 191, (.val (.mv (.s 7))), [], []⟩ (.op ⟨(some (186, false)), 192, (.val (.fa (.s 10) 1)), [], []⟩ (.alt (.op ⟨(some (186, false)), 190, (.call 28 [(.s 187), (.s 189)]), [], []⟩ (.op ⟨(some (186, false)), 193, (.val (.ld (.s 192) none)), [], []⟩ (.op ⟨(some (186, false)), 194, (.call 29 [(.s 191), (.s 193)]), [], []⟩ (.op ⟨(some (186, false)), 195, (.val (.bin .neq (.s 190) (.s 194))), [], []⟩ (.op ⟨none, 196, (.val (.pick (.s 186) (.c (.bool true)) (.s 195))), [], []⟩ .done))))) (.op ⟨(some (186, false)), 193, (.val (.ld (.s 192) none)), [], []⟩ (.op ⟨(some (186, false)), 190, (.call 28 [(.s 187), (.s 189)]), [], []⟩ (.op ⟨(some (186, false)), 194, (.call 29 [(.s 191), (.s 193)]), [], []⟩ (.op ⟨(some (186, false)), 195, (.val (.bin .neq (.s 190) (.s 194))), [], []⟩ (.op ⟨none, 196, (.val (.pick (.s 186) (.c (.bool true)) (.s 195))), [], []⟩ .done)))))))))))))))))))))))) (.op ⟨(some (164, false)), 175, (.val (.ld (.s 174) none)), [], []⟩ (.op ⟨(some (164, false)), 170, (.call 24 [(.s 165), (.s 167), (.s 169)]), [], []⟩ (.op ⟨(some (164, false)), 176, (.call 25 [(.s 171), (.s 173), (.s 175)]), [], []⟩ (.op ⟨(some (164, false)), 177, (.val (.bin .neq (.s 170) (.s 176))), [], []⟩ (.op ⟨none, 178, (.val (.pick (.s 164) (.c (.bool true)) (.s 177))), [], []⟩ (.op ⟨none, 179, (.val (.mv (.s 178))), [], []⟩ (.op ⟨(some (179, false)), 180, (.val (.mv (.s 5))), [], []⟩ (.op ⟨(some (179, false)), 182, (.val (.mv (.s 7))), [], []⟩ (.op ⟨(some (179, false)), 181, (.call 26 [(.s 180)]), [], []⟩ (.op ⟨(some (179, false)), 183, (.call 27 [(.s 182)]), [], []⟩ (.op ⟨(some (179, false)), 184, (.val (.bin .neq (.s 181) (.s 183))), [], []⟩ (.op ⟨none, 185, (.val (.pick (.s 179) (.c (.bool true)) (.s 184))), [], []⟩ (.op ⟨none, 186, (.val (.mv (.s 185))), [], []⟩ (.op ⟨(some (186, false)), 187, (.val (.mv (.s 5))), [], []⟩ (.op ⟨(some (186, false)), 188, (.val (.fa (.s 10) 1)), [], []⟩ (.op ⟨(some (186, false)), 189, (.val (.ld (.s 188) none)), [], []⟩ (.op ⟨(some (186, false)), 191, (.val (.mv (.s 7))), [], []⟩ (.op ⟨(some (186, false)), 192, (.val (.fa (.s 10) 1)), [], []⟩ (.alt (.op ⟨(some (186, false)), 190, (.call 28 [(.s 187), (.s 189)]), [], []⟩ (.op ⟨(some (186, false)), 193, (.val (.ld (.s 192) none)), [], []⟩ (.op ⟨(some (186, false)), 194, (.call 29 [(.s 191), (.s 193)]), [], []⟩ (.op ⟨(some (186, false)), 195, (.val (.bin .neq (.s 190) (.s 194))), [], []⟩ (.op ⟨none, 196, (.val (.pick (.s 186) (.c (.bool true)) (.s 195))), [], []⟩ .done))))) (.op ⟨(some (186, false)), 193, (.val (.ld (.s 192) none)), [], []⟩ (.op ⟨(some (186, false)), 190, (.call 28 [(.s 187), (.s 189)]), [], []⟩ (.op ⟨(some (186, false)), 194, (.call 29 [(.s 191), (.s 193)]), [], []⟩ (.op ⟨(some (186, false)), 195, (.val (.bin .neq (.s 190) (.s 194))), [], []⟩ (.op ⟨none, 196, (.val (.pick (.s 186) (.c (.bool true)) (.s 195))), [], []⟩ .done)))))))))))))))))))))))))) (.op ⟨(some (164, false)), 175, (.val (.ld (.s 174) none)), [], []⟩ (.alt (.op ⟨(some (164, false)), 170, (.call 24 [(.s 165), (.s 167), (.s 169)]), [], []⟩ (.op ⟨(some (164, false)), 173, (.val (.ld (.s 172) none)), [], []⟩ (.op ⟨(some (164, false)), 176, (.call 25 [(.s 171), (.s 173), (.s 175)]), [], []⟩ (.op ⟨(some (164, false)), 177, (.val (.bin .neq (.s 170) (.s 176))), [], []⟩ (.op ⟨none, 178, (.val (.pick (.s 164) (.c (.bool true)) (.s 177))), [], []⟩ (.op ⟨none, 179, (.val (.mv (.s 178))), [], []⟩ (.op ⟨(some (179, false)), 180, (.val (.mv (.s 5))), [], []⟩ (.op ⟨(some (179, false)), 182, (.val (.mv (.s 7))), [], []⟩ (.op ⟨(some (179, false)), 181, (.call 26 [(.s 180)]), [], []⟩ (.op ⟨(some (179, false)), 183, (.call 27 [(.s 182)]), [], []⟩ (.op ⟨(some (179, false)), 184, (.val (.bin .neq (.s 181) (.s 183))), [], []⟩ (.op ⟨none, 185, (.val (.pick (.s 179) (.c (.bool true)) (.s 184))), [], []⟩ (.op ⟨none, 186, (.val (.mv (.s 185))), [], []⟩ (.op ⟨(some (186, false)), 187, (.val (.mv (.s 5))), [], []⟩ (.op ⟨(some (186, false)), 188, (.val (.fa (.s 10) 1)), [], []⟩ (.op ⟨(some (186, false)), 189, (.val (.ld (.s 188) none)), [], []⟩ (.op ⟨(some (186, false)), 191, (.val (.mv (.s 7))), [], []⟩ (.op ⟨(some (186, false)), 192, (.val (.fa (.s 10) 1)), [], []⟩ (.alt (.op ⟨(some (186, false)), 190, (.call 28 [(.s 187), (.s 189)]), [], []⟩ (.op ⟨(some (186, false)), 193, (.val (.ld (.s 192) none)), [], []⟩ (.op ⟨(some (186, false)), 194, (.call 29 [(.s 191), (.s 193)]), [], []⟩ (.op ⟨(some (186, false)), 195, (.val (.bin .neq (.s 190) (.s 194))), [], []⟩ (.op ⟨none, 196, (.val (.pick (.s 186) (.c (.bool true)) (.s 195))), [], []⟩ .done))))) (.op ⟨(some (186, false)), 193, (.val (.ld (.s 192) none)), [], []⟩ (.op ⟨(some (186, false)), 190, (.call 28 [(.s 187), (.s 189)]), [], []⟩ (.op ⟨(some (186, false)), 194, (.call 29 [(.s 191), (.s 193)]), [], []⟩ (.op ⟨(some (186, false)), 195, (.val (.bin .neq (.s 190) (.s 194))), [], []⟩ (.op ⟨none, 196, (.val (.pick (.s 186) (.c (.bool true)) (.s 195))), [], []⟩ .done)))))))))))))))))))))))) (.op ⟨(some (164, false)), 173, (.val (.ld (.s 172) none)), [], []⟩ (.op ⟨(some (164, false)), 170, (.call 24 [(.s 165), (.s 167), (.s 169)]), [], []⟩ (.op ⟨(some (164, false)), 176, (.call 25 [(.s 171), (.s 173), (.s 175)]), [], []⟩ (.op ⟨(some (164, false)), 177, (.val (.bin .neq (.s 170) (.s 176))), [], []⟩ (.op ⟨none, 178, (.val (.pick (.s 164) (.c (.bool true)) (.s 177))), [], []⟩ (.op ⟨none, 179, (.val (.mv (.s 178))), [], []⟩ (.op ⟨(some (179, false)), 180, (.val (.mv (.s 5))), [], []⟩ (.op ⟨(some (179, false)), 182, (.val (.mv (.s 7))), [], []⟩ (.op ⟨(some (179, false)), 181, (.call 26 [(.s 180)]), [], []⟩ (.op ⟨(some (179, false)), 183, (.call 27 [(.s 182)]), [], []⟩ (.op ⟨(some (179, false)), 184, (.val (.bin .neq (.s 181) (.s 183))), [], []⟩ (.op ⟨none, 185, (.val (.pick (.s 179) (.c (.bool true)) (.s 184))), [], []⟩ (.op ⟨none, 186, (.val (.mv (.s 185))), [], []⟩ (.op ⟨(some (186, false)), 187, (.val (.mv (.s 5))), [], []⟩ (.op ⟨(some (186, false)), 188, (.val (.fa (.s 10) 1)), [], []⟩ (.op ⟨(some (186, false)), 189, (.val (.ld (.s 188) none)), [], []⟩ (.op ⟨(some (186, false)), 191, (.val (.mv (.s 7))), [], []⟩ (.op ⟨(some (186, false)), 192, (.val (.fa (.s 10) 1)), [], []⟩ (.alt (.op ⟨(some (186, false)), 190, (.call 28 [(.s 187), (.s 189)]), [], []⟩ (.op ⟨(some (186, false)), 193, (.val (.ld (.s 192) none)), [], []⟩ (.op ⟨(some (186, false)), 194, (.call 29 [(.s 191), (.s 193)]), [], []⟩ (.op ⟨(some (186, false)), 195, (.val (.bin .neq (.s 190) (.s 194))), [], []⟩ (.op ⟨none, 196, (.val (.pick (.s 186) (.c (.bool true)) (.s 195))), [], []⟩ .done))))) (.op ⟨(some (186, false)), 193, (.val (.ld (.s 192) none)), [], []⟩ (.op ⟨(some (186, false)), 190, (.call 28 [(.s 187), (.s 189)]), [], []⟩ (.op ⟨(some (186, false)), 194, (.call 29 [(.s 191), (.s 193)]), [], []⟩ (.op ⟨(some (186, false)), 195, (.val (.bin .neq (.s 190) (.s 194))), [], []⟩ (.op ⟨none, 196, (.val (.pick (.s 186) (.c (.bool true)) (.s 195))), [], []⟩ .done)))))))))))))))))))))))))))))))))))))))))))))) (.cond (.s 196) (.seq (.region [⟨none, 4, (.val (.mv (.c (.bool false)))), [], [1, 5, 7, 9, 10, 16, 17, 18, 19, 57, 58, 100, 101, 102, 106, 107, 108, 109, 110, 111, 112, 113, 114, 115, 116, 117, 118, 119, 120, 121, 122, 125, 126, 127, 128, 129, 130, 131, 132, 133, 134, 135, 136, 137, 156, 157, 158, 159, 160, 161, 162, 163, 164, 165, 166, 167, 168, 169, 170, 171, 172, 173, 174, 175, 176, 177, 178, 179, 180, 181, 182, 183, 184, 185, 186, 187, 188, 189, 190, 191, 192, 193, 194, 195, 196]⟩]) .ret) .skip)))))))) (.region [⟨none, 60, (.val (.mv (.s 9))), [9], [9, 10, 16, 17, 18, 19]⟩, ⟨none, 61, (.val (.bin .add (.s 60) (.c (.int .i64 1)))), [], [60]⟩, ⟨none, 9, (.val (.mv (.s 61))), [61], [61]⟩])))))) (.seq (.region [⟨none, 4, (.val (.mv (.c (.bool true)))), [], [1, 5, 7, 9, 57, 58, 59, 100, 101, 102, 106, 107, 108, 109, 110, 111, 112, 113, 114, 115, 116, 117, 118, 119, 120, 121, 122, 125, 126, 127, 128, 129, 130, 131, 132, 133, 134, 135, 136, 137, 156, 157, 158, 159, 160, 161, 162, 163, 164, 165, 166, 167, 168, 169, 170, 171, 172, 173, 174, 175, 176, 177, 178, 179, 180, 181, 182, 183, 184, 185, 186, 187, 188, 189, 190, 191, 192, 193, 194, 195, 196]⟩]) .ret))))))
theorem ok3 : FnOk Try.prog 3 cc3 [4] 2 197 := ⟨⟨_, Try.func3, by kernel_rfl, by kernel_rfl, by kernel_rfl⟩, by decide, by decide, by decide⟩


theorem timesS_le (o : OpT) : timesS o ≤ 600 := by
  unfold timesS
  repeat' split
  all_goals omega
theorem Sim2.new {n : Nat} (hn : n ≤ 8) : Sim2 (newM n n) n (List.replicate 64 none) := ⟨Sim.new hn, fun f t _ _ _ => by
  rw [List.getElem?_replicate]; split <;> rfl⟩

theorem busDoes_own (os : List OpT) (hos : os.length ≤ 9223372036854775807) (n0 : Int) (F : List Fr) (hF : F = [botFr [.v (.int .i64 n0), .own 5 (opsAV os)]]) :
    ACalls Try.prog 3 [.v (.int .i64 n0), .up (.sl ⟨.sl 1, [], 0⟩ 5 0 os.length)] F (fun r F' => r = .v (.bool true)) := by
  have hF0 : nodeAt F 0 (.sl 1) [] = some (.own 5 (opsAV os)) := by rw [hF]; rfl
  refine ok3.N hmix rfl ?_
  simp only [cc3, AI0, AI1, AI2, AI3, AI4, AI5, AI6, AI7, AI8, AI9, reduceIte, reduceCtorEq, Nat.reduceAdd, Nat.reduceEqDiff, Nat.reduceBEq, Nat.reduceLT, Nat.reduceLeDiff, Nat.reduceMul, Nat.reduceSub, Int.reduceLE, Int.reduceLT, Int.reduceEq, Int.reduceBEq, Int.reduceBNe, Int.reduceToNat, Int.reduceNeg]
  refine (new_c _ n0).mono ?_
  rintro _ _ - ⟨rfl, rfl⟩
  by_cases hn0 : ¬ (1 ≤ n0 ∧ n0 ≤ 8)
  · simp only [AI0, AI1, AI2, AI3, AI4, AI5, AI6, AI7, AI8, AI9, reduceIte, reduceCtorEq, Nat.reduceAdd, Nat.reduceEqDiff, Nat.reduceBEq, Nat.reduceLT, Nat.reduceLeDiff, Nat.reduceMul, Nat.reduceSub, Int.reduceLE, Int.reduceLT, Int.reduceEq, Int.reduceBEq, Int.reduceBNe, Int.reduceToNat, Int.reduceNeg, hn0]
    refine W_of_N [4] hmix ?_
    simp only [AI0, AI1, AI2, AI3, AI4, AI5, AI6, AI7, AI8, AI9, reduceIte, reduceCtorEq, Nat.reduceAdd, Nat.reduceEqDiff, Nat.reduceBEq, Nat.reduceLT, Nat.reduceLeDiff, Nat.reduceMul, Nat.reduceSub, Int.reduceLE, Int.reduceLT, Int.reduceEq, Int.reduceBEq, Int.reduceBNe, Int.reduceToNat, Int.reduceNeg, hn0]
    refine (rnew_c _ n0).mono ?_
    rintro _ _ - ⟨rfl, rfl⟩
    simp only [AI0, AI1, AI2, AI3, AI4, AI5, AI6, AI7, AI8, AI9, reduceIte, reduceCtorEq, Nat.reduceAdd, Nat.reduceEqDiff, Nat.reduceBEq, Nat.reduceLT, Nat.reduceLeDiff, Nat.reduceMul, Nat.reduceSub, Int.reduceLE, Int.reduceLT, Int.reduceEq, Int.reduceBEq, Int.reduceBNe, Int.reduceToNat, Int.reduceNeg, hn0]
    refine W_of_N [4] hmix ?_
    simp only [AI0, AI1, AI2, AI3, AI4, AI5, AI6, AI7, AI8, AI9, reduceIte, reduceCtorEq, Nat.reduceAdd, Nat.reduceEqDiff, Nat.reduceBEq, Nat.reduceLT, Nat.reduceLeDiff, Nat.reduceMul, Nat.reduceSub, Int.reduceLE, Int.reduceLT, Int.reduceEq, Int.reduceBEq, Int.reduceBNe, Int.reduceToNat, Int.reduceNeg, hn0]
  have hn1 : 1 ≤ n0 ∧ n0 ≤ 8 := by omega
  clear hn0
  obtain ⟨n, rfl⟩ : ∃ n : Nat, n0 = n := ⟨n0.toNat, by omega⟩
  have hn8 : n ≤ 8 := by omega
  simp only [AI0, AI1, AI2, AI3, AI4, AI5, AI6, AI7, AI8, AI9, reduceIte, reduceCtorEq, Nat.reduceAdd, Nat.reduceEqDiff, Nat.reduceBEq, Nat.reduceLT, Nat.reduceLeDiff, Nat.reduceMul, Nat.reduceSub, Int.reduceLE, Int.reduceLT, Int.reduceEq, Int.reduceBEq, Int.reduceBNe, Int.reduceToNat, Int.reduceNeg, hn1.1, hn1.2]
  refine W_of_N [4] hmix ?_
  simp only [AI0, AI1, AI2, AI3, AI4, AI5, AI6, AI7, AI8, AI9, reduceIte, reduceCtorEq, Nat.reduceAdd, Nat.reduceEqDiff, Nat.reduceBEq, Nat.reduceLT, Nat.reduceLeDiff, Nat.reduceMul, Nat.reduceSub, Int.reduceLE, Int.reduceLT, Int.reduceEq, Int.reduceBEq, Int.reduceBNe, Int.reduceToNat, Int.reduceNeg, hn1.1, hn1.2, busAV]
  refine (rnew_c _ n).mono ?_
  rintro _ _ - ⟨rfl, rfl⟩
  simp only [AI0, AI1, AI2, AI3, AI4, AI5, AI6, AI7, AI8, AI9, reduceIte, reduceCtorEq, Nat.reduceAdd, Nat.reduceEqDiff, Nat.reduceBEq, Nat.reduceLT, Nat.reduceLeDiff, Nat.reduceMul, Nat.reduceSub, Int.reduceLE, Int.reduceLT, Int.reduceEq, Int.reduceBEq, Int.reduceBNe, Int.reduceToNat, Int.reduceNeg, hn1.1, hn1.2]
  refine W_of_N [4] hmix ?_
  simp only [AI0, AI1, AI2, AI3, AI4, AI5, AI6, AI7, AI8, AI9, reduceIte, reduceCtorEq, Nat.reduceAdd, Nat.reduceEqDiff, Nat.reduceBEq, Nat.reduceLT, Nat.reduceLeDiff, Nat.reduceMul, Nat.reduceSub, Int.reduceLE, Int.reduceLT, Int.reduceEq, Int.reduceBEq, Int.reduceBNe, Int.reduceToNat, Int.reduceNeg, hn1.1, hn1.2, busAV, refAV]
  refine W_loop (fun a : Nat × BusM × List (Option (List ByteArray)) => (⟨[(1, .up (.sl ⟨.sl 1, [], 0⟩ 5 0 os.length)), (5, .obj (busAV a.2.1)), (7, .obj (refAV n a.2.2)), (9, .v (.int .i64 a.1))], [], true⟩, F)) (fun a => a.1 ≤ os.length ∧ a.1 ≤ 60 ∧ Sim2 a.2.1 n a.2.2) (fun a => 60 - a.1) ?_ ?_
  · exact Mid_of (0, newM n n, List.replicate 64 none) ⟨Nat.zero_le _, Nat.zero_le _, Sim2.new hn8⟩ rfl rfl (by simp only [AI0, AI1, AI2, AI3, AI4, AI5, AI6, AI7, AI8, AI9, reduceIte, reduceCtorEq, Nat.reduceAdd, Nat.reduceEqDiff, Nat.reduceBEq, Nat.reduceLT, Nat.reduceLeDiff, Nat.reduceMul, Nat.reduceSub, Int.reduceLE, Int.reduceLT, Int.reduceEq, Int.reduceBEq, Int.reduceBNe, Int.reduceToNat, Int.reduceNeg, busAV, refAV, List.map_replicate, rowC_none]) trivial
  rintro ⟨i, m, L⟩ ⟨hi1, hi2, hm⟩
  simp only at hi1 hi2 hm
  refine W_of_N [4] hmix ?_
  by_cases hlt : ¬ i < os.length
  · have hlt' : ¬ ((i : Int) < os.length) := by omega
    simp only [AI0, AI1, AI2, AI3, AI4, AI5, AI6, AI7, AI8, AI9, reduceIte, reduceCtorEq, Nat.reduceAdd, Nat.reduceEqDiff, Nat.reduceBEq, Nat.reduceLT, Nat.reduceLeDiff, Nat.reduceMul, Nat.reduceSub, Int.reduceLE, Int.reduceLT, Int.reduceEq, Int.reduceBEq, Int.reduceBNe, Int.reduceToNat, Int.reduceNeg, hlt', hF0, opsAV]
  rw [Classical.not_not] at hlt
  have hlt' : (i : Int) < os.length := by omega
  by_cases h60 : ¬ i < 60
  · have h60' : ¬ ((i : Int) < 60) := by omega
    simp only [AI0, AI1, AI2, AI3, AI4, AI5, AI6, AI7, AI8, AI9, reduceIte, reduceCtorEq, Nat.reduceAdd, Nat.reduceEqDiff, Nat.reduceBEq, Nat.reduceLT, Nat.reduceLeDiff, Nat.reduceMul, Nat.reduceSub, Int.reduceLE, Int.reduceLT, Int.reduceEq, Int.reduceBEq, Int.reduceBNe, Int.reduceToNat, Int.reduceNeg, hlt', h60', hF0, opsAV]
  rw [Classical.not_not] at h60
  have h60' : (i : Int) < 60 := by omega
  have hs : os[i]? = some os[i] := List.getElem?_eq_getElem hlt
  have r0 : (0 : Int) ≤ i := by omega
  have w1 : IntKind.i64.wrap ((i : Int) + 1) = ((i + 1 : Nat) : Int) := by rw [wrap_i64 (by omega) (by omega)]; omega
  generalize os[i] = o at hs
  have hT := timesS_le o
  obtain ⟨T, hTe⟩ : ∃ T, T = timesS o := ⟨_, rfl⟩
  have htimes := fun F => times_c F o
  rw [← hTe] at hT htimes
  clear hTe
  obtain ⟨ok, f, t, s, om⟩ := o
  by_cases hsz : 9000 < s.size
  · have hsz' : (9000 : Int) < s.size := by omega
    simp only [AI0, AI1, AI2, AI3, AI4, AI5, AI6, AI7, AI8, AI9, reduceIte, reduceCtorEq, Nat.reduceAdd, Nat.reduceEqDiff, Nat.reduceBEq, Nat.reduceLT, Nat.reduceLeDiff, Nat.reduceMul, Nat.reduceSub, Int.reduceLE, Int.reduceLT, Int.reduceEq, Int.reduceBEq, Int.reduceBNe, Int.reduceToNat, Int.reduceNeg, hlt', h60', hF0, opsAV, opAV, hs, r0, hsz']
  have hsz' : ¬ ((9000 : Int) < s.size) := by omega
  simp only [AI0, AI1, AI2, AI3, AI4, AI5, AI6, AI7, AI8, AI9, reduceIte, reduceCtorEq, Nat.reduceAdd, Nat.reduceEqDiff, Nat.reduceBEq, Nat.reduceLT, Nat.reduceLeDiff, Nat.reduceMul, Nat.reduceSub, Int.reduceLE, Int.reduceLT, Int.reduceEq, Int.reduceBEq, Int.reduceBNe, Int.reduceToNat, Int.reduceNeg, hlt', h60', hF0, opsAV, opAV, hs, r0, hsz']
  refine W_loop (fun a : Nat × BusM × List (Option (List ByteArray)) => (⟨[(1, .up (.sl ⟨.sl 1, [], 0⟩ 5 0 os.length)), (5, .obj (busAV a.2.1)), (7, .obj (refAV n a.2.2)), (9, .v (.int .i64 i)), (10, .obj (opAV ⟨ok, f, t, s, om⟩)), (11, .v (.int .i64 a.1))], [], true⟩, F)) (fun a => a.1 ≤ T ∧ Sim2 a.2.1 n a.2.2) (fun a => T - a.1) ?_ ?_
  · exact Mid_of (0, m, L) ⟨Nat.zero_le _, hm⟩ rfl rfl (by simp only [AI0, AI1, AI2, AI3, AI4, AI5, AI6, AI7, AI8, AI9, reduceIte, reduceCtorEq, Nat.reduceAdd, Nat.reduceEqDiff, Nat.reduceBEq, Nat.reduceLT, Nat.reduceLeDiff, Nat.reduceMul, Nat.reduceSub, Int.reduceLE, Int.reduceLT, Int.reduceEq, Int.reduceBEq, Int.reduceBNe, Int.reduceToNat, Int.reduceNeg, opAV]) trivial
  clear hm L m
  rintro ⟨k, m, L⟩ ⟨hk, hm⟩
  simp only at hk hm
  have hms := hm.s
  have hok := hms.ok
  have hwf := hok.wf
  refine W_of_N [4] hmix ?_
  simp only [AI0, AI1, AI2, AI3, AI4, AI5, AI6, AI7, AI8, AI9, reduceIte, reduceCtorEq, Nat.reduceAdd, Nat.reduceEqDiff, Nat.reduceBEq, Nat.reduceLT, Nat.reduceLeDiff, Nat.reduceMul, Nat.reduceSub, Int.reduceLE, Int.reduceLT, Int.reduceEq, Int.reduceBEq, Int.reduceBNe, Int.reduceToNat, Int.reduceNeg, opAV]
  refine (htimes _).mono ?_
  rintro _ _ - ⟨rfl, rfl⟩
  simp only [AI0, AI1, AI2, AI3, AI4, AI5, AI6, AI7, AI8, AI9, reduceIte, reduceCtorEq, Nat.reduceAdd, Nat.reduceEqDiff, Nat.reduceBEq, Nat.reduceLT, Nat.reduceLeDiff, Nat.reduceMul, Nat.reduceSub, Int.reduceLE, Int.reduceLT, Int.reduceEq, Int.reduceBEq, Int.reduceBNe, Int.reduceToNat, Int.reduceNeg]
  refine W_of_N [4] hmix ?_
  by_cases hkT : k < T
  · have hkT' : (k : Int) < T := by omega
    have w2 : IntKind.i64.wrap ((k : Int) + 1) = ((k + 1 : Nat) : Int) := by rw [wrap_i64 (by omega) (by omega)]; omega
    by_cases hk0 : ok = 0
    · subst hk0
      simp only [AI0, AI1, AI2, AI3, AI4, AI5, AI6, AI7, AI8, AI9, reduceIte, reduceCtorEq, Nat.reduceAdd, Nat.reduceEqDiff, Nat.reduceBEq, Nat.reduceLT, Nat.reduceLeDiff, Nat.reduceMul, Nat.reduceSub, Int.reduceLE, Int.reduceLT, Int.reduceEq, Int.reduceBEq, Int.reduceBNe, Int.reduceToNat, Int.reduceNeg, hkT']
      refine W_drawnCut hmix (fun L' : List (Option (List ByteArray)) => (⟨[(1, .up (.sl ⟨.sl 1, [], 0⟩ 5 0 os.length)), (5, .obj (busAV (sendS m f t s).2)), (7, .obj (refAV n L')), (9, .v (.int .i64 i)), (10, .obj (opAV ⟨0, f, t, s, om⟩)), (11, .v (.int .i64 k)), (122, .v (.bool false))], [], true⟩, F)) (fun L' => Sim2 (sendS m f t s).2 n L') ?_ ?_
      · refine NT_sound _ ?_
        simp only [AI0, AI1, AI2, AI3, AI4, AI5, AI6, AI7, AI8, AI9, reduceIte, reduceCtorEq, Nat.reduceAdd, Nat.reduceEqDiff, Nat.reduceBEq, Nat.reduceLT, Nat.reduceLeDiff, Nat.reduceMul, Nat.reduceSub, Int.reduceLE, Int.reduceLT, Int.reduceEq, Int.reduceBEq, Int.reduceBNe, Int.reduceToNat, Int.reduceNeg]
        repeat' refine And.intro ?_ ?_
        all_goals
          refine (send_c _ 0 (.sl 5) [(0, 0)] m hwf (by simp only [AI0, AI1, AI2, AI3, AI4, AI5, AI6, AI7, AI8, AI9, reduceIte, reduceCtorEq, Nat.reduceAdd, Nat.reduceEqDiff, Nat.reduceBEq, Nat.reduceLT, Nat.reduceLeDiff, Nat.reduceMul, Nat.reduceSub, Int.reduceLE, Int.reduceLT, Int.reduceEq, Int.reduceBEq, Int.reduceBNe, Int.reduceToNat, Int.reduceNeg, busAV]) rfl rfl f t s).mono ?_
          rintro _ _ - ⟨rfl, rfl⟩
          simp only [AI0, AI1, AI2, AI3, AI4, AI5, AI6, AI7, AI8, AI9, reduceIte, reduceCtorEq, Nat.reduceAdd, Nat.reduceEqDiff, Nat.reduceBEq, Nat.reduceLT, Nat.reduceLeDiff, Nat.reduceMul, Nat.reduceSub, Int.reduceLE, Int.reduceLT, Int.reduceEq, Int.reduceBEq, Int.reduceBNe, Int.reduceToNat, Int.reduceNeg]
          refine NT_sound _ ?_
          simp only [AI0, AI1, AI2, AI3, AI4, AI5, AI6, AI7, AI8, AI9, reduceIte, reduceCtorEq, Nat.reduceAdd, Nat.reduceEqDiff, Nat.reduceBEq, Nat.reduceLT, Nat.reduceLeDiff, Nat.reduceMul, Nat.reduceSub, Int.reduceLE, Int.reduceLT, Int.reduceEq, Int.reduceBEq, Int.reduceBNe, Int.reduceToNat, Int.reduceNeg]
          refine (rsend_c _ 0 (.sl 7) [(0, 0)] m n L hm (by simp only [AI0, AI1, AI2, AI3, AI4, AI5, AI6, AI7, AI8, AI9, reduceIte, reduceCtorEq, Nat.reduceAdd, Nat.reduceEqDiff, Nat.reduceBEq, Nat.reduceLT, Nat.reduceLeDiff, Nat.reduceMul, Nat.reduceSub, Int.reduceLE, Int.reduceLT, Int.reduceEq, Int.reduceBEq, Int.reduceBNe, Int.reduceToNat, Int.reduceNeg, refAV]) rfl rfl f t s).mono ?_
          rintro _ _ - ⟨L', ⟨rfl, rfl⟩, hs'⟩
          simp only [AI0, AI1, AI2, AI3, AI4, AI5, AI6, AI7, AI8, AI9, reduceIte, reduceCtorEq, Nat.reduceAdd, Nat.reduceEqDiff, Nat.reduceBEq, Nat.reduceLT, Nat.reduceLeDiff, Nat.reduceMul, Nat.reduceSub, Int.reduceLE, Int.reduceLT, Int.reduceEq, Int.reduceBEq, Int.reduceBNe, Int.reduceToNat, Int.reduceNeg]
          refine NT_sound _ ?_
          simp only [AI0, AI1, AI2, AI3, AI4, AI5, AI6, AI7, AI8, AI9, reduceIte, reduceCtorEq, Nat.reduceAdd, Nat.reduceEqDiff, Nat.reduceBEq, Nat.reduceLT, Nat.reduceLeDiff, Nat.reduceMul, Nat.reduceSub, Int.reduceLE, Int.reduceLT, Int.reduceEq, Int.reduceBEq, Int.reduceBNe, Int.reduceToNat, Int.reduceNeg]
          refine W_of_N [4] hmix ?_
          simp only [AI0, AI1, AI2, AI3, AI4, AI5, AI6, AI7, AI8, AI9, reduceIte, reduceCtorEq, Nat.reduceAdd, Nat.reduceEqDiff, Nat.reduceBEq, Nat.reduceLT, Nat.reduceLeDiff, Nat.reduceMul, Nat.reduceSub, Int.reduceLE, Int.reduceLT, Int.reduceEq, Int.reduceBEq, Int.reduceBNe, Int.reduceToNat, Int.reduceNeg]
          exact Mid_of L' hs' rfl rfl (by simp only [AI0, AI1, AI2, AI3, AI4, AI5, AI6, AI7, AI8, AI9, reduceIte, reduceCtorEq, Nat.reduceAdd, Nat.reduceEqDiff, Nat.reduceBEq, Nat.reduceLT, Nat.reduceLeDiff, Nat.reduceMul, Nat.reduceSub, Int.reduceLE, Int.reduceLT, Int.reduceEq, Int.reduceBEq, Int.reduceBNe, Int.reduceToNat, Int.reduceNeg, opAV]) trivial
      · intro L' hs'
        refine W_of_N [4] hmix ?_
        simp only [AI0, AI1, AI2, AI3, AI4, AI5, AI6, AI7, AI8, AI9, reduceIte, reduceCtorEq, Nat.reduceAdd, Nat.reduceEqDiff, Nat.reduceBEq, Nat.reduceLT, Nat.reduceLeDiff, Nat.reduceMul, Nat.reduceSub, Int.reduceLE, Int.reduceLT, Int.reduceEq, Int.reduceBEq, Int.reduceBNe, Int.reduceToNat, Int.reduceNeg, w2]
        exact Mid_of (k + 1, (sendS m f t s).2, L') ⟨⟨by omega, hs'⟩, by simp only; omega⟩ rfl rfl (by simp only [AI0, AI1, AI2, AI3, AI4, AI5, AI6, AI7, AI8, AI9, reduceIte, reduceCtorEq, Nat.reduceAdd, Nat.reduceEqDiff, Nat.reduceBEq, Nat.reduceLT, Nat.reduceLeDiff, Nat.reduceMul, Nat.reduceSub, Int.reduceLE, Int.reduceLT, Int.reduceEq, Int.reduceBEq, Int.reduceBNe, Int.reduceToNat, Int.reduceNeg, opAV]) trivial
    have hk0' : (ok == 0) = false := by simpa using hk0
    by_cases hk1 : ok = 1
    · subst hk1
      simp only [AI0, AI1, AI2, AI3, AI4, AI5, AI6, AI7, AI8, AI9, reduceIte, reduceCtorEq, Nat.reduceAdd, Nat.reduceEqDiff, Nat.reduceBEq, Nat.reduceLT, Nat.reduceLeDiff, Nat.reduceMul, Nat.reduceSub, Int.reduceLE, Int.reduceLT, Int.reduceEq, Int.reduceBEq, Int.reduceBNe, Int.reduceToNat, Int.reduceNeg, hkT']
      refine W_drawnCut hmix (fun L' : List (Option (List ByteArray)) => (⟨[(1, .up (.sl ⟨.sl 1, [], 0⟩ 5 0 os.length)), (5, .obj (busAV (allS m f s).2)), (7, .obj (refAV n L')), (9, .v (.int .i64 i)), (10, .obj (opAV ⟨1, f, t, s, om⟩)), (11, .v (.int .i64 k)), (137, .v (.bool false))], [], true⟩, F)) (fun L' => Sim2 (allS m f s).2 n L') ?_ ?_
      · refine NT_sound _ ?_
        simp only [AI0, AI1, AI2, AI3, AI4, AI5, AI6, AI7, AI8, AI9, reduceIte, reduceCtorEq, Nat.reduceAdd, Nat.reduceEqDiff, Nat.reduceBEq, Nat.reduceLT, Nat.reduceLeDiff, Nat.reduceMul, Nat.reduceSub, Int.reduceLE, Int.reduceLT, Int.reduceEq, Int.reduceBEq, Int.reduceBNe, Int.reduceToNat, Int.reduceNeg]
        repeat' refine And.intro ?_ ?_
        all_goals
          refine (all_c _ 0 (.sl 5) [(0, 0)] m hok (by simp only [AI0, AI1, AI2, AI3, AI4, AI5, AI6, AI7, AI8, AI9, reduceIte, reduceCtorEq, Nat.reduceAdd, Nat.reduceEqDiff, Nat.reduceBEq, Nat.reduceLT, Nat.reduceLeDiff, Nat.reduceMul, Nat.reduceSub, Int.reduceLE, Int.reduceLT, Int.reduceEq, Int.reduceBEq, Int.reduceBNe, Int.reduceToNat, Int.reduceNeg, busAV]) rfl rfl f s).mono ?_
          rintro _ _ - ⟨rfl, rfl⟩
          simp only [AI0, AI1, AI2, AI3, AI4, AI5, AI6, AI7, AI8, AI9, reduceIte, reduceCtorEq, Nat.reduceAdd, Nat.reduceEqDiff, Nat.reduceBEq, Nat.reduceLT, Nat.reduceLeDiff, Nat.reduceMul, Nat.reduceSub, Int.reduceLE, Int.reduceLT, Int.reduceEq, Int.reduceBEq, Int.reduceBNe, Int.reduceToNat, Int.reduceNeg]
          refine NT_sound _ ?_
          simp only [AI0, AI1, AI2, AI3, AI4, AI5, AI6, AI7, AI8, AI9, reduceIte, reduceCtorEq, Nat.reduceAdd, Nat.reduceEqDiff, Nat.reduceBEq, Nat.reduceLT, Nat.reduceLeDiff, Nat.reduceMul, Nat.reduceSub, Int.reduceLE, Int.reduceLT, Int.reduceEq, Int.reduceBEq, Int.reduceBNe, Int.reduceToNat, Int.reduceNeg]
          refine (rall_c _ 0 (.sl 7) [(0, 0)] m n L hm (by simp only [AI0, AI1, AI2, AI3, AI4, AI5, AI6, AI7, AI8, AI9, reduceIte, reduceCtorEq, Nat.reduceAdd, Nat.reduceEqDiff, Nat.reduceBEq, Nat.reduceLT, Nat.reduceLeDiff, Nat.reduceMul, Nat.reduceSub, Int.reduceLE, Int.reduceLT, Int.reduceEq, Int.reduceBEq, Int.reduceBNe, Int.reduceToNat, Int.reduceNeg, refAV]) rfl rfl f s).mono ?_
          rintro _ _ - ⟨L', ⟨rfl, rfl⟩, hs'⟩
          simp only [AI0, AI1, AI2, AI3, AI4, AI5, AI6, AI7, AI8, AI9, reduceIte, reduceCtorEq, Nat.reduceAdd, Nat.reduceEqDiff, Nat.reduceBEq, Nat.reduceLT, Nat.reduceLeDiff, Nat.reduceMul, Nat.reduceSub, Int.reduceLE, Int.reduceLT, Int.reduceEq, Int.reduceBEq, Int.reduceBNe, Int.reduceToNat, Int.reduceNeg]
          refine NT_sound _ ?_
          simp only [AI0, AI1, AI2, AI3, AI4, AI5, AI6, AI7, AI8, AI9, reduceIte, reduceCtorEq, Nat.reduceAdd, Nat.reduceEqDiff, Nat.reduceBEq, Nat.reduceLT, Nat.reduceLeDiff, Nat.reduceMul, Nat.reduceSub, Int.reduceLE, Int.reduceLT, Int.reduceEq, Int.reduceBEq, Int.reduceBNe, Int.reduceToNat, Int.reduceNeg]
          refine W_of_N [4] hmix ?_
          simp only [AI0, AI1, AI2, AI3, AI4, AI5, AI6, AI7, AI8, AI9, reduceIte, reduceCtorEq, Nat.reduceAdd, Nat.reduceEqDiff, Nat.reduceBEq, Nat.reduceLT, Nat.reduceLeDiff, Nat.reduceMul, Nat.reduceSub, Int.reduceLE, Int.reduceLT, Int.reduceEq, Int.reduceBEq, Int.reduceBNe, Int.reduceToNat, Int.reduceNeg]
          exact Mid_of L' hs' rfl rfl (by simp only [AI0, AI1, AI2, AI3, AI4, AI5, AI6, AI7, AI8, AI9, reduceIte, reduceCtorEq, Nat.reduceAdd, Nat.reduceEqDiff, Nat.reduceBEq, Nat.reduceLT, Nat.reduceLeDiff, Nat.reduceMul, Nat.reduceSub, Int.reduceLE, Int.reduceLT, Int.reduceEq, Int.reduceBEq, Int.reduceBNe, Int.reduceToNat, Int.reduceNeg, opAV]) trivial
      · intro L' hs'
        refine W_of_N [4] hmix ?_
        simp only [AI0, AI1, AI2, AI3, AI4, AI5, AI6, AI7, AI8, AI9, reduceIte, reduceCtorEq, Nat.reduceAdd, Nat.reduceEqDiff, Nat.reduceBEq, Nat.reduceLT, Nat.reduceLeDiff, Nat.reduceMul, Nat.reduceSub, Int.reduceLE, Int.reduceLT, Int.reduceEq, Int.reduceBEq, Int.reduceBNe, Int.reduceToNat, Int.reduceNeg, w2]
        exact Mid_of (k + 1, (allS m f s).2, L') ⟨⟨by omega, hs'⟩, by simp only; omega⟩ rfl rfl (by simp only [AI0, AI1, AI2, AI3, AI4, AI5, AI6, AI7, AI8, AI9, reduceIte, reduceCtorEq, Nat.reduceAdd, Nat.reduceEqDiff, Nat.reduceBEq, Nat.reduceLT, Nat.reduceLeDiff, Nat.reduceMul, Nat.reduceSub, Int.reduceLE, Int.reduceLT, Int.reduceEq, Int.reduceBEq, Int.reduceBNe, Int.reduceToNat, Int.reduceNeg, opAV]) trivial
    have hk1' : (ok == 1) = false := by simpa using hk1
    simp only [AI0, AI1, AI2, AI3, AI4, AI5, AI6, AI7, AI8, AI9, reduceIte, reduceCtorEq, Nat.reduceAdd, Nat.reduceEqDiff, Nat.reduceBEq, Nat.reduceLT, Nat.reduceLeDiff, Nat.reduceMul, Nat.reduceSub, Int.reduceLE, Int.reduceLT, Int.reduceEq, Int.reduceBEq, Int.reduceBNe, Int.reduceToNat, Int.reduceNeg, hkT', hk0, hk1, hk0', hk1']
    refine (take_bus_c _ 0 (.sl 5) [(0, 0)] m hwf (by simp only [AI0, AI1, AI2, AI3, AI4, AI5, AI6, AI7, AI8, AI9, reduceIte, reduceCtorEq, Nat.reduceAdd, Nat.reduceEqDiff, Nat.reduceBEq, Nat.reduceLT, Nat.reduceLeDiff, Nat.reduceMul, Nat.reduceSub, Int.reduceLE, Int.reduceLT, Int.reduceEq, Int.reduceBEq, Int.reduceBNe, Int.reduceToNat, Int.reduceNeg, busAV]) rfl rfl f t).mono ?_
    rintro _ _ - ⟨rfl, rfl⟩
    simp only [AI0, AI1, AI2, AI3, AI4, AI5, AI6, AI7, AI8, AI9, reduceIte, reduceCtorEq, Nat.reduceAdd, Nat.reduceEqDiff, Nat.reduceBEq, Nat.reduceLT, Nat.reduceLeDiff, Nat.reduceMul, Nat.reduceSub, Int.reduceLE, Int.reduceLT, Int.reduceEq, Int.reduceBEq, Int.reduceBNe, Int.reduceToNat, Int.reduceNeg]
    refine W_of_N [4] hmix ?_
    simp only [AI0, AI1, AI2, AI3, AI4, AI5, AI6, AI7, AI8, AI9, reduceIte, reduceCtorEq, Nat.reduceAdd, Nat.reduceEqDiff, Nat.reduceBEq, Nat.reduceLT, Nat.reduceLeDiff, Nat.reduceMul, Nat.reduceSub, Int.reduceLE, Int.reduceLT, Int.reduceEq, Int.reduceBEq, Int.reduceBNe, Int.reduceToNat, Int.reduceNeg]
    refine (rtake_c _ 0 (.sl 7) [(0, 0)] m n L hm (by simp only [AI0, AI1, AI2, AI3, AI4, AI5, AI6, AI7, AI8, AI9, reduceIte, reduceCtorEq, Nat.reduceAdd, Nat.reduceEqDiff, Nat.reduceBEq, Nat.reduceLT, Nat.reduceLeDiff, Nat.reduceMul, Nat.reduceSub, Int.reduceLE, Int.reduceLT, Int.reduceEq, Int.reduceBEq, Int.reduceBNe, Int.reduceToNat, Int.reduceNeg, refAV]) rfl rfl f t).mono ?_
    rintro _ _ - ⟨L', ⟨rfl, rfl⟩, hs'⟩
    simp only [AI0, AI1, AI2, AI3, AI4, AI5, AI6, AI7, AI8, AI9, reduceIte, reduceCtorEq, Nat.reduceAdd, Nat.reduceEqDiff, Nat.reduceBEq, Nat.reduceLT, Nat.reduceLeDiff, Nat.reduceMul, Nat.reduceSub, Int.reduceLE, Int.reduceLT, Int.reduceEq, Int.reduceBEq, Int.reduceBNe, Int.reduceToNat, Int.reduceNeg]
    refine W_of_N [4] hmix ?_
    simp only [AI0, AI1, AI2, AI3, AI4, AI5, AI6, AI7, AI8, AI9, reduceIte, reduceCtorEq, Nat.reduceAdd, Nat.reduceEqDiff, Nat.reduceBEq, Nat.reduceLT, Nat.reduceLeDiff, Nat.reduceMul, Nat.reduceSub, Int.reduceLE, Int.reduceLT, Int.reduceEq, Int.reduceBEq, Int.reduceBNe, Int.reduceToNat, Int.reduceNeg, w2]
    exact Mid_of (k + 1, takeS m f t, L') ⟨⟨by omega, hs'⟩, by simp only; omega⟩ rfl rfl (by simp only [AI0, AI1, AI2, AI3, AI4, AI5, AI6, AI7, AI8, AI9, reduceIte, reduceCtorEq, Nat.reduceAdd, Nat.reduceEqDiff, Nat.reduceBEq, Nat.reduceLT, Nat.reduceLeDiff, Nat.reduceMul, Nat.reduceSub, Int.reduceLE, Int.reduceLT, Int.reduceEq, Int.reduceBEq, Int.reduceBNe, Int.reduceToNat, Int.reduceNeg, opAV]) trivial
  · have hkT' : ¬ ((k : Int) < T) := by omega
    simp only [AI0, AI1, AI2, AI3, AI4, AI5, AI6, AI7, AI8, AI9, reduceIte, reduceCtorEq, Nat.reduceAdd, Nat.reduceEqDiff, Nat.reduceBEq, Nat.reduceLT, Nat.reduceLeDiff, Nat.reduceMul, Nat.reduceSub, Int.reduceLE, Int.reduceLT, Int.reduceEq, Int.reduceBEq, Int.reduceBNe, Int.reduceToNat, Int.reduceNeg, hkT']
    refine (head_c _ 0 (.sl 5) [(0, 0)] m hwf (by simp only [AI0, AI1, AI2, AI3, AI4, AI5, AI6, AI7, AI8, AI9, reduceIte, reduceCtorEq, Nat.reduceAdd, Nat.reduceEqDiff, Nat.reduceBEq, Nat.reduceLT, Nat.reduceLeDiff, Nat.reduceMul, Nat.reduceSub, Int.reduceLE, Int.reduceLT, Int.reduceEq, Int.reduceBEq, Int.reduceBNe, Int.reduceToNat, Int.reduceNeg, busAV]) rfl f t).mono ?_
    rintro _ _ - ⟨rfl, rfl⟩
    simp only [AI0, AI1, AI2, AI3, AI4, AI5, AI6, AI7, AI8, AI9, reduceIte, reduceCtorEq, Nat.reduceAdd, Nat.reduceEqDiff, Nat.reduceBEq, Nat.reduceLT, Nat.reduceLeDiff, Nat.reduceMul, Nat.reduceSub, Int.reduceLE, Int.reduceLT, Int.reduceEq, Int.reduceBEq, Int.reduceBNe, Int.reduceToNat, Int.reduceNeg]
    refine W_of_N [4] hmix ?_
    simp only [AI0, AI1, AI2, AI3, AI4, AI5, AI6, AI7, AI8, AI9, reduceIte, reduceCtorEq, Nat.reduceAdd, Nat.reduceEqDiff, Nat.reduceBEq, Nat.reduceLT, Nat.reduceLeDiff, Nat.reduceMul, Nat.reduceSub, Int.reduceLE, Int.reduceLT, Int.reduceEq, Int.reduceBEq, Int.reduceBNe, Int.reduceToNat, Int.reduceNeg]
    refine (rhead_c _ 0 (.sl 7) [(0, 0)] m n L hms (by simp only [AI0, AI1, AI2, AI3, AI4, AI5, AI6, AI7, AI8, AI9, reduceIte, reduceCtorEq, Nat.reduceAdd, Nat.reduceEqDiff, Nat.reduceBEq, Nat.reduceLT, Nat.reduceLeDiff, Nat.reduceMul, Nat.reduceSub, Int.reduceLE, Int.reduceLT, Int.reduceEq, Int.reduceBEq, Int.reduceBNe, Int.reduceToNat, Int.reduceNeg, refAV]) rfl f t).mono ?_
    rintro _ _ - ⟨rfl, rfl⟩
    simp only [AI0, AI1, AI2, AI3, AI4, AI5, AI6, AI7, AI8, AI9, reduceIte, reduceCtorEq, Nat.reduceAdd, Nat.reduceEqDiff, Nat.reduceBEq, Nat.reduceLT, Nat.reduceLeDiff, Nat.reduceMul, Nat.reduceSub, Int.reduceLE, Int.reduceLT, Int.reduceEq, Int.reduceBEq, Int.reduceBNe, Int.reduceToNat, Int.reduceNeg]
    refine W_of_N [4] hmix ?_
    simp only [AI0, AI1, AI2, AI3, AI4, AI5, AI6, AI7, AI8, AI9, reduceIte, reduceCtorEq, Nat.reduceAdd, Nat.reduceEqDiff, Nat.reduceBEq, Nat.reduceLT, Nat.reduceLeDiff, Nat.reduceMul, Nat.reduceSub, Int.reduceLE, Int.reduceLT, Int.reduceEq, Int.reduceBEq, Int.reduceBNe, Int.reduceToNat, Int.reduceNeg]
    refine W_drawnCut hmix (fun _ : Unit => (⟨[(1, .up (.sl ⟨.sl 1, [], 0⟩ 5 0 os.length)), (5, .obj (busAV m)), (7, .obj (refAV n L)), (9, .v (.int .i64 i)), (196, .v (.bool false))], [], true⟩, F)) (fun _ => True) ?_ ?_
    · refine NT_sound _ ?_
      simp only [AI0, AI1, AI2, AI3, AI4, AI5, AI6, AI7, AI8, AI9, reduceIte, reduceCtorEq, Nat.reduceAdd, Nat.reduceEqDiff, Nat.reduceBEq, Nat.reduceLT, Nat.reduceLeDiff, Nat.reduceMul, Nat.reduceSub, Int.reduceLE, Int.reduceLT, Int.reduceEq, Int.reduceBEq, Int.reduceBNe, Int.reduceToNat, Int.reduceNeg]
      repeat' refine And.intro ?_ ?_
      all_goals
        refine (waits_c _ 0 (.sl 5) [(0, 0)] m hwf (by simp only [AI0, AI1, AI2, AI3, AI4, AI5, AI6, AI7, AI8, AI9, reduceIte, reduceCtorEq, Nat.reduceAdd, Nat.reduceEqDiff, Nat.reduceBEq, Nat.reduceLT, Nat.reduceLeDiff, Nat.reduceMul, Nat.reduceSub, Int.reduceLE, Int.reduceLT, Int.reduceEq, Int.reduceBEq, Int.reduceBNe, Int.reduceToNat, Int.reduceNeg, busAV]) rfl f t).mono ?_
        rintro _ _ - ⟨rfl, rfl⟩
        simp only [AI0, AI1, AI2, AI3, AI4, AI5, AI6, AI7, AI8, AI9, reduceIte, reduceCtorEq, Nat.reduceAdd, Nat.reduceEqDiff, Nat.reduceBEq, Nat.reduceLT, Nat.reduceLeDiff, Nat.reduceMul, Nat.reduceSub, Int.reduceLE, Int.reduceLT, Int.reduceEq, Int.reduceBEq, Int.reduceBNe, Int.reduceToNat, Int.reduceNeg]
        refine NT_sound _ ?_
        simp only [AI0, AI1, AI2, AI3, AI4, AI5, AI6, AI7, AI8, AI9, reduceIte, reduceCtorEq, Nat.reduceAdd, Nat.reduceEqDiff, Nat.reduceBEq, Nat.reduceLT, Nat.reduceLeDiff, Nat.reduceMul, Nat.reduceSub, Int.reduceLE, Int.reduceLT, Int.reduceEq, Int.reduceBEq, Int.reduceBNe, Int.reduceToNat, Int.reduceNeg]
        refine (rwaits_c _ 0 (.sl 7) [(0, 0)] m n L hms (by simp only [AI0, AI1, AI2, AI3, AI4, AI5, AI6, AI7, AI8, AI9, reduceIte, reduceCtorEq, Nat.reduceAdd, Nat.reduceEqDiff, Nat.reduceBEq, Nat.reduceLT, Nat.reduceLeDiff, Nat.reduceMul, Nat.reduceSub, Int.reduceLE, Int.reduceLT, Int.reduceEq, Int.reduceBEq, Int.reduceBNe, Int.reduceToNat, Int.reduceNeg, refAV]) rfl f t).mono ?_
        rintro _ _ - ⟨rfl, rfl⟩
        simp only [AI0, AI1, AI2, AI3, AI4, AI5, AI6, AI7, AI8, AI9, reduceIte, reduceCtorEq, Nat.reduceAdd, Nat.reduceEqDiff, Nat.reduceBEq, Nat.reduceLT, Nat.reduceLeDiff, Nat.reduceMul, Nat.reduceSub, Int.reduceLE, Int.reduceLT, Int.reduceEq, Int.reduceBEq, Int.reduceBNe, Int.reduceToNat, Int.reduceNeg]
        refine NT_sound _ ?_
        simp only [AI0, AI1, AI2, AI3, AI4, AI5, AI6, AI7, AI8, AI9, reduceIte, reduceCtorEq, Nat.reduceAdd, Nat.reduceEqDiff, Nat.reduceBEq, Nat.reduceLT, Nat.reduceLeDiff, Nat.reduceMul, Nat.reduceSub, Int.reduceLE, Int.reduceLT, Int.reduceEq, Int.reduceBEq, Int.reduceBNe, Int.reduceToNat, Int.reduceNeg]
        refine (total_c _ 0 (.sl 5) [(0, 0)] m hok (by simp only [AI0, AI1, AI2, AI3, AI4, AI5, AI6, AI7, AI8, AI9, reduceIte, reduceCtorEq, Nat.reduceAdd, Nat.reduceEqDiff, Nat.reduceBEq, Nat.reduceLT, Nat.reduceLeDiff, Nat.reduceMul, Nat.reduceSub, Int.reduceLE, Int.reduceLT, Int.reduceEq, Int.reduceBEq, Int.reduceBNe, Int.reduceToNat, Int.reduceNeg, busAV]) rfl).mono ?_
        rintro _ _ - ⟨rfl, rfl⟩
        simp only [AI0, AI1, AI2, AI3, AI4, AI5, AI6, AI7, AI8, AI9, reduceIte, reduceCtorEq, Nat.reduceAdd, Nat.reduceEqDiff, Nat.reduceBEq, Nat.reduceLT, Nat.reduceLeDiff, Nat.reduceMul, Nat.reduceSub, Int.reduceLE, Int.reduceLT, Int.reduceEq, Int.reduceBEq, Int.reduceBNe, Int.reduceToNat, Int.reduceNeg]
        refine NT_sound _ ?_
        simp only [AI0, AI1, AI2, AI3, AI4, AI5, AI6, AI7, AI8, AI9, reduceIte, reduceCtorEq, Nat.reduceAdd, Nat.reduceEqDiff, Nat.reduceBEq, Nat.reduceLT, Nat.reduceLeDiff, Nat.reduceMul, Nat.reduceSub, Int.reduceLE, Int.reduceLT, Int.reduceEq, Int.reduceBEq, Int.reduceBNe, Int.reduceToNat, Int.reduceNeg]
        refine (rtotal_c _ 0 (.sl 7) [(0, 0)] m n L hm (by simp only [AI0, AI1, AI2, AI3, AI4, AI5, AI6, AI7, AI8, AI9, reduceIte, reduceCtorEq, Nat.reduceAdd, Nat.reduceEqDiff, Nat.reduceBEq, Nat.reduceLT, Nat.reduceLeDiff, Nat.reduceMul, Nat.reduceSub, Int.reduceLE, Int.reduceLT, Int.reduceEq, Int.reduceBEq, Int.reduceBNe, Int.reduceToNat, Int.reduceNeg, refAV]) rfl).mono ?_
        rintro _ _ - ⟨rfl, rfl⟩
        simp only [AI0, AI1, AI2, AI3, AI4, AI5, AI6, AI7, AI8, AI9, reduceIte, reduceCtorEq, Nat.reduceAdd, Nat.reduceEqDiff, Nat.reduceBEq, Nat.reduceLT, Nat.reduceLeDiff, Nat.reduceMul, Nat.reduceSub, Int.reduceLE, Int.reduceLT, Int.reduceEq, Int.reduceBEq, Int.reduceBNe, Int.reduceToNat, Int.reduceNeg]
        refine NT_sound _ ?_
        simp only [AI0, AI1, AI2, AI3, AI4, AI5, AI6, AI7, AI8, AI9, reduceIte, reduceCtorEq, Nat.reduceAdd, Nat.reduceEqDiff, Nat.reduceBEq, Nat.reduceLT, Nat.reduceLeDiff, Nat.reduceMul, Nat.reduceSub, Int.reduceLE, Int.reduceLT, Int.reduceEq, Int.reduceBEq, Int.reduceBNe, Int.reduceToNat, Int.reduceNeg]
        repeat' refine And.intro ?_ ?_
      all_goals
        refine (free_c _ 0 (.sl 5) [(0, 0)] m hok (by simp only [AI0, AI1, AI2, AI3, AI4, AI5, AI6, AI7, AI8, AI9, reduceIte, reduceCtorEq, Nat.reduceAdd, Nat.reduceEqDiff, Nat.reduceBEq, Nat.reduceLT, Nat.reduceLeDiff, Nat.reduceMul, Nat.reduceSub, Int.reduceLE, Int.reduceLT, Int.reduceEq, Int.reduceBEq, Int.reduceBNe, Int.reduceToNat, Int.reduceNeg, busAV]) rfl f).mono ?_
        rintro _ _ - ⟨rfl, rfl⟩
        simp only [AI0, AI1, AI2, AI3, AI4, AI5, AI6, AI7, AI8, AI9, reduceIte, reduceCtorEq, Nat.reduceAdd, Nat.reduceEqDiff, Nat.reduceBEq, Nat.reduceLT, Nat.reduceLeDiff, Nat.reduceMul, Nat.reduceSub, Int.reduceLE, Int.reduceLT, Int.reduceEq, Int.reduceBEq, Int.reduceBNe, Int.reduceToNat, Int.reduceNeg]
        refine NT_sound _ ?_
        simp only [AI0, AI1, AI2, AI3, AI4, AI5, AI6, AI7, AI8, AI9, reduceIte, reduceCtorEq, Nat.reduceAdd, Nat.reduceEqDiff, Nat.reduceBEq, Nat.reduceLT, Nat.reduceLeDiff, Nat.reduceMul, Nat.reduceSub, Int.reduceLE, Int.reduceLT, Int.reduceEq, Int.reduceBEq, Int.reduceBNe, Int.reduceToNat, Int.reduceNeg]
        refine (rfree_c _ 0 (.sl 7) [(0, 0)] m n L hms (by simp only [AI0, AI1, AI2, AI3, AI4, AI5, AI6, AI7, AI8, AI9, reduceIte, reduceCtorEq, Nat.reduceAdd, Nat.reduceEqDiff, Nat.reduceBEq, Nat.reduceLT, Nat.reduceLeDiff, Nat.reduceMul, Nat.reduceSub, Int.reduceLE, Int.reduceLT, Int.reduceEq, Int.reduceBEq, Int.reduceBNe, Int.reduceToNat, Int.reduceNeg, refAV]) rfl f).mono ?_
        rintro _ _ - ⟨rfl, rfl⟩
        simp only [AI0, AI1, AI2, AI3, AI4, AI5, AI6, AI7, AI8, AI9, reduceIte, reduceCtorEq, Nat.reduceAdd, Nat.reduceEqDiff, Nat.reduceBEq, Nat.reduceLT, Nat.reduceLeDiff, Nat.reduceMul, Nat.reduceSub, Int.reduceLE, Int.reduceLT, Int.reduceEq, Int.reduceBEq, Int.reduceBNe, Int.reduceToNat, Int.reduceNeg]
        refine NT_sound _ ?_
        simp only [AI0, AI1, AI2, AI3, AI4, AI5, AI6, AI7, AI8, AI9, reduceIte, reduceCtorEq, Nat.reduceAdd, Nat.reduceEqDiff, Nat.reduceBEq, Nat.reduceLT, Nat.reduceLeDiff, Nat.reduceMul, Nat.reduceSub, Int.reduceLE, Int.reduceLT, Int.reduceEq, Int.reduceBEq, Int.reduceBNe, Int.reduceToNat, Int.reduceNeg]
        refine W_of_N [4] hmix ?_
        simp only [AI0, AI1, AI2, AI3, AI4, AI5, AI6, AI7, AI8, AI9, reduceIte, reduceCtorEq, Nat.reduceAdd, Nat.reduceEqDiff, Nat.reduceBEq, Nat.reduceLT, Nat.reduceLeDiff, Nat.reduceMul, Nat.reduceSub, Int.reduceLE, Int.reduceLT, Int.reduceEq, Int.reduceBEq, Int.reduceBNe, Int.reduceToNat, Int.reduceNeg]
        exact Mid_of () trivial rfl rfl (by simp only [AI0, AI1, AI2, AI3, AI4, AI5, AI6, AI7, AI8, AI9, reduceIte, reduceCtorEq, Nat.reduceAdd, Nat.reduceEqDiff, Nat.reduceBEq, Nat.reduceLT, Nat.reduceLeDiff, Nat.reduceMul, Nat.reduceSub, Int.reduceLE, Int.reduceLT, Int.reduceEq, Int.reduceBEq, Int.reduceBNe, Int.reduceToNat, Int.reduceNeg]) trivial
    · rintro ⟨⟩ -
      refine W_of_N [4] hmix ?_
      simp only [AI0, AI1, AI2, AI3, AI4, AI5, AI6, AI7, AI8, AI9, reduceIte, reduceCtorEq, Nat.reduceAdd, Nat.reduceEqDiff, Nat.reduceBEq, Nat.reduceLT, Nat.reduceLeDiff, Nat.reduceMul, Nat.reduceSub, Int.reduceLE, Int.reduceLT, Int.reduceEq, Int.reduceBEq, Int.reduceBNe, Int.reduceToNat, Int.reduceNeg, w1]
      exact Mid_of (i + 1, m, L) ⟨⟨by omega, by omega, hm⟩, by simp only; omega⟩ rfl rfl (by simp only [AI0, AI1, AI2, AI3, AI4, AI5, AI6, AI7, AI8, AI9, reduceIte, reduceCtorEq, Nat.reduceAdd, Nat.reduceEqDiff, Nat.reduceBEq, Nat.reduceLT, Nat.reduceLeDiff, Nat.reduceMul, Nat.reduceSub, Int.reduceLE, Int.reduceLT, Int.reduceEq, Int.reduceBEq, Int.reduceBNe, Int.reduceToNat, Int.reduceNeg]) trivial
theorem busDoes_nil (n0 : Int) (F : List Fr) :
    ACalls Try.prog 3 [.v (.int .i64 n0), .v (.slice none 0 0)] F (fun r F' => r = .v (.bool true)) := by
  refine ok3.N hmix rfl ?_
  simp only [cc3, AI0, AI1, AI2, AI3, AI4, AI5, AI6, AI7, AI8, AI9, reduceIte, reduceCtorEq, Nat.reduceAdd, Nat.reduceEqDiff, Nat.reduceBEq, Nat.reduceLT, Nat.reduceLeDiff, Nat.reduceMul, Nat.reduceSub, Int.reduceLE, Int.reduceLT, Int.reduceEq, Int.reduceBEq, Int.reduceBNe, Int.reduceToNat, Int.reduceNeg]
  refine (new_c _ n0).mono ?_
  rintro _ _ - ⟨rfl, rfl⟩
  by_cases hn0 : ¬ (1 ≤ n0 ∧ n0 ≤ 8)
  · simp only [AI0, AI1, AI2, AI3, AI4, AI5, AI6, AI7, AI8, AI9, reduceIte, reduceCtorEq, Nat.reduceAdd, Nat.reduceEqDiff, Nat.reduceBEq, Nat.reduceLT, Nat.reduceLeDiff, Nat.reduceMul, Nat.reduceSub, Int.reduceLE, Int.reduceLT, Int.reduceEq, Int.reduceBEq, Int.reduceBNe, Int.reduceToNat, Int.reduceNeg, hn0]
    refine W_of_N [4] hmix ?_
    simp only [AI0, AI1, AI2, AI3, AI4, AI5, AI6, AI7, AI8, AI9, reduceIte, reduceCtorEq, Nat.reduceAdd, Nat.reduceEqDiff, Nat.reduceBEq, Nat.reduceLT, Nat.reduceLeDiff, Nat.reduceMul, Nat.reduceSub, Int.reduceLE, Int.reduceLT, Int.reduceEq, Int.reduceBEq, Int.reduceBNe, Int.reduceToNat, Int.reduceNeg, hn0]
    refine (rnew_c _ n0).mono ?_
    rintro _ _ - ⟨rfl, rfl⟩
    simp only [AI0, AI1, AI2, AI3, AI4, AI5, AI6, AI7, AI8, AI9, reduceIte, reduceCtorEq, Nat.reduceAdd, Nat.reduceEqDiff, Nat.reduceBEq, Nat.reduceLT, Nat.reduceLeDiff, Nat.reduceMul, Nat.reduceSub, Int.reduceLE, Int.reduceLT, Int.reduceEq, Int.reduceBEq, Int.reduceBNe, Int.reduceToNat, Int.reduceNeg, hn0]
    refine W_of_N [4] hmix ?_
    simp only [AI0, AI1, AI2, AI3, AI4, AI5, AI6, AI7, AI8, AI9, reduceIte, reduceCtorEq, Nat.reduceAdd, Nat.reduceEqDiff, Nat.reduceBEq, Nat.reduceLT, Nat.reduceLeDiff, Nat.reduceMul, Nat.reduceSub, Int.reduceLE, Int.reduceLT, Int.reduceEq, Int.reduceBEq, Int.reduceBNe, Int.reduceToNat, Int.reduceNeg, hn0]
  have hn1 : 1 ≤ n0 ∧ n0 ≤ 8 := by omega
  clear hn0
  simp only [AI0, AI1, AI2, AI3, AI4, AI5, AI6, AI7, AI8, AI9, reduceIte, reduceCtorEq, Nat.reduceAdd, Nat.reduceEqDiff, Nat.reduceBEq, Nat.reduceLT, Nat.reduceLeDiff, Nat.reduceMul, Nat.reduceSub, Int.reduceLE, Int.reduceLT, Int.reduceEq, Int.reduceBEq, Int.reduceBNe, Int.reduceToNat, Int.reduceNeg, hn1.1, hn1.2]
  refine W_of_N [4] hmix ?_
  simp only [AI0, AI1, AI2, AI3, AI4, AI5, AI6, AI7, AI8, AI9, reduceIte, reduceCtorEq, Nat.reduceAdd, Nat.reduceEqDiff, Nat.reduceBEq, Nat.reduceLT, Nat.reduceLeDiff, Nat.reduceMul, Nat.reduceSub, Int.reduceLE, Int.reduceLT, Int.reduceEq, Int.reduceBEq, Int.reduceBNe, Int.reduceToNat, Int.reduceNeg, hn1.1, hn1.2, busAV]
  refine (rnew_c _ n0).mono ?_
  rintro _ _ - ⟨rfl, rfl⟩
  simp only [AI0, AI1, AI2, AI3, AI4, AI5, AI6, AI7, AI8, AI9, reduceIte, reduceCtorEq, Nat.reduceAdd, Nat.reduceEqDiff, Nat.reduceBEq, Nat.reduceLT, Nat.reduceLeDiff, Nat.reduceMul, Nat.reduceSub, Int.reduceLE, Int.reduceLT, Int.reduceEq, Int.reduceBEq, Int.reduceBNe, Int.reduceToNat, Int.reduceNeg, hn1.1, hn1.2]
  refine W_of_N [4] hmix ?_
  simp only [AI0, AI1, AI2, AI3, AI4, AI5, AI6, AI7, AI8, AI9, reduceIte, reduceCtorEq, Nat.reduceAdd, Nat.reduceEqDiff, Nat.reduceBEq, Nat.reduceLT, Nat.reduceLeDiff, Nat.reduceMul, Nat.reduceSub, Int.reduceLE, Int.reduceLT, Int.reduceEq, Int.reduceBEq, Int.reduceBNe, Int.reduceToNat, Int.reduceNeg, hn1.1, hn1.2, busAV, refAV]
  refine W_loop (fun _ : Unit => (⟨[(1, .v (.slice none 0 0)), (9, .v (.int .i64 0))], [], true⟩, F)) (fun _ => True) (fun _ => 0) ?_ ?_
  · exact Mid_of () trivial rfl rfl (by simp only [AI0, AI1, AI2, AI3, AI4, AI5, AI6, AI7, AI8, AI9, reduceIte, reduceCtorEq, Nat.reduceAdd, Nat.reduceEqDiff, Nat.reduceBEq, Nat.reduceLT, Nat.reduceLeDiff, Nat.reduceMul, Nat.reduceSub, Int.reduceLE, Int.reduceLT, Int.reduceEq, Int.reduceBEq, Int.reduceBNe, Int.reduceToNat, Int.reduceNeg]) trivial
  rintro ⟨⟩ -
  refine W_of_N [4] hmix ?_
  simp only [AI0, AI1, AI2, AI3, AI4, AI5, AI6, AI7, AI8, AI9, reduceIte, reduceCtorEq, Nat.reduceAdd, Nat.reduceEqDiff, Nat.reduceBEq, Nat.reduceLT, Nat.reduceLeDiff, Nat.reduceMul, Nat.reduceSub, Int.reduceLE, Int.reduceLT, Int.reduceEq, Int.reduceBEq, Int.reduceBNe, Int.reduceToNat, Int.reduceNeg]
end Go.Proofs.Ythlehngbadianaa.Ai
set_option linter.unusedVariables false
set_option linter.unusedSimpArgs false
set_option linter.unnecessarySimpa false
set_option maxRecDepth 100000
namespace Go.Proofs.Ythlehngbadianaa.Ai
open Go Go.RowKit Go.Proofs
theorem ops_arg {w : World} {v : Value} (h : v = .slice none 0 0 ∨ ∃ (B o cap : Nat) (css : List (List Value)), v = .slice (some ⟨B, o, none⟩) css.length cap ∧ css.length ≤ cap ∧ cap ≤ maxLen ∧ blockOk w false B (o + cap * 5) ∧
      (∀ cs ∈ css, cs.length = 5 ∧ ∃ (k f t : Int) (s : ByteArray) (m : Int), cs = [.int .i64 k, .int .i64 f, .int .i64 t, .string s, .int .i64 m]) ∧
      (∀ (i : Nat) (cs : List Value), css[i]? = some cs → ∀ (j : Nat) (u : Value), cs[j]? = some u → w.cell? ⟨B, o + i * 5 + j, none⟩ = some u)) :
    v = .slice none 0 0 ∨ ∃ os : List OpT, os.length ≤ 9223372036854775807 ∧ InMem w 5 (opsAV os) v := by
  rcases h with h | ⟨B, o, cap, css, rfl, h1, h2, h3, h4, h5⟩
  · exact Or.inl h
  right
  have key : ∃ os : List OpT, css = os.map fun o => [Value.int .i64 o.k, .int .i64 o.f, .int .i64 o.t, .string o.s, .int .i64 o.m] := by
    clear h1 h3 h5
    induction css with
    | nil => exact ⟨[], rfl⟩
    | cons cs css ih =>
      obtain ⟨_, k, f, t, s, m, rfl⟩ := h4 _ (List.mem_cons_self ..)
      obtain ⟨os, rfl⟩ := ih fun c hc => h4 c (List.mem_cons_of_mem _ hc)
      exact ⟨⟨k, f, t, s, m⟩ :: os, rfl⟩
  obtain ⟨os, rfl⟩ := key
  refine ⟨os, ?_, by decide, B, o, cap, by simp [opsAV], by simpa [opsAV] using h1, h3, ?_, ?_⟩
  · simp only [List.length_map] at h1
    have : maxLen = 9223372036854775807 := rfl
    omega
  · intro x hx
    simp only [opsAV, List.mem_map] at hx
    obtain ⟨s, _, rfl⟩ := hx
    exact ⟨rfl, rfl⟩
  · intro i x hx j c hc
    simp only [opsAV, List.getElem?_map, Option.map_eq_some_iff] at hx
    obtain ⟨s, hs, rfl⟩ := hx
    have h6 := h5 i [.int .i64 s.k, .int .i64 s.f, .int .i64 s.t, .string s.s, .int .i64 s.m] (by simp [hs])
    match j with
    | 0 => simp [AV.cells, opAV] at hc; subst hc; exact ⟨_, rfl, rfl, h6 0 _ rfl⟩
    | 1 => simp [AV.cells, opAV] at hc; subst hc; exact ⟨_, rfl, rfl, h6 1 _ rfl⟩
    | 2 => simp [AV.cells, opAV] at hc; subst hc; exact ⟨_, rfl, rfl, h6 2 _ rfl⟩
    | 3 => simp [AV.cells, opAV] at hc; subst hc; exact ⟨_, rfl, rfl, h6 3 _ rfl⟩
    | 4 => simp [AV.cells, opAV] at hc; subst hc; exact ⟨_, rfl, rfl, h6 4 _ rfl⟩
    | j + 5 => simp [AV.cells, opAV] at hc
/-- The element's cells, read as data. -/
theorem op_cells {H : Type} {enc : TypeId × Value → H} {w : World} {n : Nat} {cs : List Value} {y : DataW H × List MemPlace} (h : DataW.trod enc Try.prog w 0 (fun _ => true) true n 31 cs = some y) :
    ∃ (k f t : Int) (s : ByteArray) (m : Int), cs = [.int .i64 k, .int .i64 f, .int .i64 t, .string s, .int .i64 m] := by
  obtain ⟨xs, n', _, _, hl, hx, hf⟩ := DataW.trod_struct Try.underlying31 h
  have hc : Try.prog.cellsOf 31 = 5 := by kernel_rfl
  have c3 : Try.prog.cellsOf 3 = 1 := by kernel_rfl
  have c9 : Try.prog.cellsOf 9 = 1 := by kernel_rfl
  rw [hc] at hl
  obtain ⟨a0, a1, a2, a3, a4, rfl⟩ : ∃ a0 a1 a2 a3 a4, cs = [a0, a1, a2, a3, a4] := by
    match cs, hl with
    | [a0, a1, a2, a3, a4], _ => exact ⟨a0, a1, a2, a3, a4, rfl⟩
  have g0 : DataW.trod enc Try.prog w 0 (fun _ => true) true n' 3 (([a0, a1, a2, a3, a4].drop 0).take (Try.prog.cellsOf 3)) = xs[0]? := hf 0 _ rfl
  have g1 : DataW.trod enc Try.prog w 0 (fun _ => true) true n' 3 (([a0, a1, a2, a3, a4].drop 1).take (Try.prog.cellsOf 3)) = xs[1]? := hf 1 _ rfl
  have g2 : DataW.trod enc Try.prog w 0 (fun _ => true) true n' 3 (([a0, a1, a2, a3, a4].drop 2).take (Try.prog.cellsOf 3)) = xs[2]? := hf 2 _ rfl
  have g3 : DataW.trod enc Try.prog w 0 (fun _ => true) true n' 9 (([a0, a1, a2, a3, a4].drop 3).take (Try.prog.cellsOf 9)) = xs[3]? := hf 3 _ rfl
  have g4 : DataW.trod enc Try.prog w 0 (fun _ => true) true n' 3 (([a0, a1, a2, a3, a4].drop 4).take (Try.prog.cellsOf 3)) = xs[4]? := hf 4 _ rfl
  rw [c3, List.getElem?_eq_getElem (by rw [hx]; decide)] at g0
  rw [c3, List.getElem?_eq_getElem (by rw [hx]; decide)] at g1
  rw [c3, List.getElem?_eq_getElem (by rw [hx]; decide)] at g2
  rw [c9, List.getElem?_eq_getElem (by rw [hx]; decide)] at g3
  rw [c3, List.getElem?_eq_getElem (by rw [hx]; decide)] at g4
  obtain ⟨v0, e0, _⟩ := DataW.trod_int Try.underlying3 g0
  obtain ⟨v1, e1, _⟩ := DataW.trod_int Try.underlying3 g1
  obtain ⟨v2, e2, _⟩ := DataW.trod_int Try.underlying3 g2
  obtain ⟨v3, e3, _⟩ := DataW.trod_string Try.underlying9 g3
  obtain ⟨v4, e4, _⟩ := DataW.trod_int Try.underlying3 g4
  simp at e0 e1 e2 e3 e4
  subst e0 e1 e2 e3 e4
  exact ⟨v0, v1, v2, v3, v4, rfl⟩
end Go.Proofs.Ythlehngbadianaa.Ai
set_option linter.unusedVariables false
namespace Go.Proofs.Ythlehngbadianaa.Ai
open Go Go.RowKit Go.Proofs
theorem busDoes_walk (w : World) (n : Int) (v : Value) (h : v = .slice none 0 0 ∨ ∃ os : List OpT, os.length ≤ 9223372036854775807 ∧ InMem w 5 (opsAV os) v) :
    Calls Try.prog 3 #[.int .i64 n, v] w fun e w' => e = .returned (.bool true) ∧ Below w.heap.size w w' := by
  rcases h with rfl | ⟨os, hl, hin⟩
  · refine entry [.v (.int .i64 n), .v (.slice none 0 0)] _ rfl ?_ (busDoes_nil n _)
    intro i x u hx hu
    match i with
    | 0 => simp at hx hu; subst hx hu; exact Or.inl ⟨rfl, rfl⟩
    | 1 => simp at hx hu; subst hx hu; exact Or.inl ⟨rfl, rfl⟩
    | i + 2 => simp at hx
  · have hlen : (opsAV os).length = os.length := by simp [opsAV]
    refine entry [.v (.int .i64 n), .own 5 (opsAV os)] _ rfl ?_ (by
      have := busDoes_own os hl n _ rfl
      simpa only [argAVs, argAV, hlen] using this)
    intro i x u hx hu
    match i with
    | 0 => simp at hx hu; subst hx hu; exact Or.inl ⟨rfl, rfl⟩
    | 1 => simp at hx hu; subst hx hu; exact Or.inr ⟨5, _, rfl, hin⟩
    | i + 2 => simp at hx
end Go.Proofs.Ythlehngbadianaa.Ai
namespace Go.Proofs.Ythlehngbadianaa
open Go.ChangeShapes Go.WideShapes Go.ChangeAt Go.RowKit
theorem own : ownKnob Try.prog.godebug = none := by kernel_rfl
theorem laidOut : laidOutB Try.prog = true := by kernel_rfl
set_option maxRecDepth 100000 in
theorem busDoes_lifted (os : Os) (started : os.Started) (H : Type) (enc : TypeId × Value → H) :
    ReturnsInHanded {} Try.checked os 3 .any (Rows.busDoesSpec.pre6 enc Try.prog Try.f3 Rows.busDoesRow.domain false) (Rows.busDoesSpec.post enc Try.prog Try.f3 false true false false) := by
  refine returnsInHanded_of_change (C := Try.checked) own started (by kernel_rfl) Try.func3
    (ChangeSpec.witness6 (enc := enc) (C := Try.checked) false ⟨#[], #[.int .i64 0, .slice none 0 0], []⟩ 8 (by kernel_rfl) (by kernel_rfl) (by kernel_rfl) (by kernel_rfl)) ?_
  intro W base args ds gs before hval0 hW hcnd _
  have hval : ∀ (j : Nat) t v, Try.f3.params[j]? = some t → args[j]? = some v → Value.okWide Try.prog W .any base t v := hval0
  have hW' := hW
  obtain ⟨p, q, hA0, hV, rfl, hfz, hnd⟩ := hW
  have hA : DataW.TrodAll enc Try.prog W 0 (fun _ => true) true Try.f3.params.toList args.toList ds p := hA0
  rw [Try.params3] at hA hval
  obtain ⟨v0, vs0, d0, ds0, p0, q0, hargs, rfl, rfl, h0, r0⟩ := trodAll_cons hA
  obtain ⟨v1, vs1, d1, ds1, p1, q1, rfl, rfl, rfl, h1, r1⟩ := trodAll_cons r0
  obtain ⟨rfl, rfl, rfl⟩ := trodAll_nil r1
  obtain rfl : args = #[v0, v1] := by cases args; simp_all
  obtain ⟨rfl, rfl⟩ := trodVars_none hV
  obtain ⟨a0, rfl, rfl, rfl, w0⟩ := open_int Try.underlying3 (hval 0 3 v0 rfl rfl) h0
  have k1 := h1
  have lt1 : ∀ x ∈ p1, x.block < W.heap.size := by obtain ⟨m, hm⟩ := k1; exact DataW.trod_lt m _ _ _ hm
  have hs := Ai.ops_arg (Ai.slice_arg (es := 5) Try.underlying22 (by kernel_rfl) (hval 1 22 v1 rfl rfl) h1 (fun cs => ∃ (k f t : Int) (s : ByteArray) (m : Int), cs = [.int .i64 k, .int .i64 f, .int .i64 t, .string s, .int .i64 m]) (fun n cs y hy => Ai.op_cells hy))
  clear hA0 hval0
  refine (Ai.busDoes_walk W a0 v1 hs).mono fun e W' ⟨he, bel⟩ => ?_
  subst he
  exact ⟨_, rfl, _, _, _, [], _, [], hW', trodAll_mk1 (shut_bool Try.underlying4 _), (trodAll_cons_mk (shut_int Try.underlying3 w0) (trodAll_cons_mk (Below.trod laidOut (by kernel_rfl) (of_decide_eq_true (by kernel_rfl)) k1 bel lt1) trodAll_mk0)), rfl, bel.frame _, fun h => by cases h⟩
theorem busDoes_holds : Rows.BusDoesSaid :=
  OpenClaim.holds_of_wide 3 Try.f3 rfl rfl rfl rfl rfl rfl rfl ⟨rfl, rfl, rfl, rfl, rfl⟩ rfl rfl rfl rfl rfl (by kernel_rfl) Try.func3 (by kernel_rfl)
    (of_decide_eq_true (by kernel_rfl)) (by unfold Func.isWrapper; first | (rw [if_pos (by decide +kernel)]; kernel_rfl) | (rw [if_neg (by decide +kernel)]; exact ⟨rfl, rfl⟩))
    (fun os started H enc _ => busDoes_lifted os started H enc)
#print axioms busDoes_holds
end Go.Proofs.Ythlehngbadianaa
