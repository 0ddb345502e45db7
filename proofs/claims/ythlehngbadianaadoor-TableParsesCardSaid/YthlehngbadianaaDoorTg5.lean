/- What the functions of the program do, each once: contracts of the logic (part g5). -/
import Derived.Test.YthlehngbadianaaDoorTg3g4
set_option linter.unusedVariables false
set_option linter.unusedSimpArgs false
set_option linter.unnecessarySimpa false
set_option maxRecDepth 100000
set_option maxHeartbeats 4000000
namespace Go.Proofs.YthlehngbadianaaDoor.Ow
open Go Go.RowKit Go.Proofs
/- (watershed/graph.Graph).clusters -/
def cc156 : CC := (.seq (.region [⟨none, 1, (.box 0), [0], none, []⟩, ⟨none, 2, (.val (.mv (.c (.int .i64 0)))), [2], none, []⟩]) (.seq (.region [⟨none, 7, .mkMap, [], none, []⟩, ⟨none, 3, (.val (.mv (.s 7))), [7], none, []⟩]) (.seq (.seq (.region [⟨none, 8, (.val (.fa (.s 1) 0)), [1], none, []⟩, ⟨none, 9, (.val (.ld (.s 8) none)), [8], none, []⟩, ⟨none, 10, (.val (.lnl (.s 9) 2)), [], none, []⟩, ⟨none, 11, (.val (.mv (.c (.int .i64 0)))), [], none, []⟩]) (.block 0 (.loop (.seq (.region [⟨none, 12, (.val (.bin .lss (.s 11) (.s 10))), [], none, []⟩]) (.seq (.cond (.s 12) .skip (.exit 0)) (.seq (.block 1 (.seq (.region [⟨none, 13, (.val (.ia (.s 9) (.s 11) 2)), [12], none, []⟩, ⟨none, 14, (.val (.ld (.s 13) (some 2))), [13], none, []⟩, ⟨none, 5, (.alloc (.agg #[(.string ⟨#[]⟩), (.int .i64 0)])), [], none, []⟩, ⟨none, 0, (.store 2 (.s 5) (.s 14)), [14], none, []⟩]) (.seq (.seq (.region [⟨none, 15, (.val (.mv (.s 3))), [], none, []⟩, ⟨none, 16, (.val (.fa (.s 5) 0)), [], none, []⟩, ⟨none, 17, (.val (.ld (.s 16) none)), [16], none, []⟩, ⟨none, 18, (.call 66 [(.s 15), (.s 17)]), [15, 17], (some 0), []⟩, ⟨none, 6, (.val (.mv (.s 18))), [18], none, []⟩]) (.seq (.region [⟨none, 19, (.val (.mv (.s 6))), [], none, []⟩, ⟨none, 20, (.val (.bin .neq (.s 19) (.c (.int .i64 0)))), [19], none, []⟩]) (.cond (.s 20) (.seq (.region [⟨none, 21, (.val (.mv (.s 6))), [3, 5, 6, 9, 10, 11, 20, 26, 27, 28], none, []⟩, ⟨none, 2, (.val (.mv (.s 21))), [21], none, []⟩]) .ret) .skip))) (.seq (.region [⟨none, 22, (.val (.fa (.s 5) 1)), [6, 20], none, []⟩, ⟨none, 23, (.val (.ld (.s 22) none)), [22], none, []⟩, ⟨none, 24, (.val (.bin .lss (.s 23) (.c (.int .i64 1)))), [23], none, []⟩, ⟨none, 25, (.val (.mv (.s 24))), [24], none, []⟩, ⟨(some (25, false)), 26, (.val (.fa (.s 5) 1)), [5], none, []⟩, ⟨(some (25, false)), 27, (.val (.ld (.s 26) none)), [], none, []⟩, ⟨(some (25, false)), 28, (.val (.bin .gtr (.s 27) (.c (.int .i64 4)))), [], none, []⟩, ⟨none, 29, (.val (.pick (.s 25) (.c (.bool true)) (.s 28))), [25], none, []⟩]) (.cond (.s 29) (.seq (.region [⟨none, 2, (.val (.mv (.c (.int .i64 1)))), [3, 9, 10, 11, 26, 27, 28, 29], none, []⟩]) .ret) .skip))))) (.region [⟨none, 30, (.val (.bin .add (.s 11) (.c (.int .i64 1)))), [11, 29], none, []⟩, ⟨none, 11, (.val (.mv (.s 30))), [30], none, []⟩]))))))) (.seq (.region [⟨none, 2, (.val (.mv (.c (.int .i64 0)))), [3, 9, 10, 11, 12, 26, 27, 28], none, []⟩]) .ret))))
theorem ok156 : FnOk Tryd.prog 42 cc156 [(.t 2)] 1 31 := ⟨⟨_, Tryd.func42, by kernel_rfl, by kernel_rfl, by kernel_rfl⟩, by decide, by decide⟩
/- (watershed/graph.Graph).loops -/
def cc157 : CC := (.seq (.region [⟨none, 1, (.box 0), [0], none, []⟩, ⟨none, 2, (.val (.mv (.c (.int .i64 0)))), [2], none, []⟩]) (.seq (.region [⟨none, 7, .mkMap, [], none, []⟩, ⟨none, 3, (.val (.mv (.s 7))), [7], none, []⟩]) (.seq (.seq (.region [⟨none, 8, (.val (.fa (.s 1) 1)), [], none, []⟩, ⟨none, 9, (.val (.ld (.s 8) none)), [8], none, []⟩, ⟨none, 10, (.val (.lnl (.s 9) 3)), [], none, []⟩, ⟨none, 11, (.val (.mv (.c (.int .i64 0)))), [], none, []⟩]) (.block 0 (.loop (.seq (.region [⟨none, 12, (.val (.bin .lss (.s 11) (.s 10))), [], none, []⟩]) (.seq (.cond (.s 12) .skip (.exit 0)) (.seq (.block 1 (.seq (.region [⟨none, 13, (.val (.mv (.s 11))), [12], none, []⟩, ⟨none, 14, (.val (.ia (.s 9) (.s 11) 3)), [], none, []⟩, ⟨none, 15, (.val (.ld (.s 14) (some 3))), [14], none, []⟩, ⟨none, 5, (.alloc (.agg #[(.string ⟨#[]⟩), (.int .i64 0), (.int .i64 0)])), [], none, []⟩, ⟨none, 4, (.val (.mv (.s 13))), [13], none, []⟩, ⟨none, 0, (.store 3 (.s 5) (.s 15)), [15], none, []⟩]) (.seq (.seq (.region [⟨none, 16, (.val (.mv (.s 3))), [], none, []⟩, ⟨none, 17, (.val (.fa (.s 5) 0)), [], none, []⟩, ⟨none, 18, (.val (.ld (.s 17) none)), [17], none, []⟩, ⟨none, 19, (.call 66 [(.s 16), (.s 18)]), [16, 18], (some 0), []⟩, ⟨none, 6, (.val (.mv (.s 19))), [19], none, []⟩]) (.seq (.region [⟨none, 20, (.val (.mv (.s 6))), [], none, []⟩, ⟨none, 21, (.val (.bin .neq (.s 20) (.c (.int .i64 0)))), [20], none, []⟩]) (.cond (.s 21) (.seq (.region [⟨none, 22, (.val (.mv (.s 6))), [1, 3, 4, 5, 6, 9, 10, 11, 21, 27, 28, 29, 30, 33, 34, 35, 38, 39, 40], none, []⟩, ⟨none, 2, (.val (.mv (.s 22))), [22], none, []⟩]) .ret) .skip))) (.seq (.seq (.region [⟨none, 23, (.val (.fa (.s 5) 1)), [6, 21], none, []⟩, ⟨none, 24, (.val (.ld (.s 23) none)), [23], none, []⟩, ⟨none, 25, (.val (.bin .lss (.s 24) (.c (.int .i64 (-1))))), [24], none, []⟩, ⟨none, 26, (.val (.mv (.s 25))), [25], none, []⟩, ⟨(some (26, false)), 27, (.val (.fa (.s 5) 1)), [], none, []⟩, ⟨(some (26, false)), 28, (.val (.ld (.s 27) none)), [], none, []⟩, ⟨(some (26, false)), 29, (.val (.mv (.s 4))), [], none, []⟩, ⟨(some (26, false)), 30, (.val (.bin .geq (.s 28) (.s 29))), [], none, []⟩, ⟨none, 31, (.val (.pick (.s 26) (.c (.bool true)) (.s 30))), [26], none, []⟩, ⟨none, 32, (.val (.mv (.s 31))), [31], none, []⟩, ⟨(some (32, false)), 33, (.val (.fa (.s 5) 2)), [], none, []⟩, ⟨(some (32, false)), 34, (.val (.ld (.s 33) none)), [], none, []⟩, ⟨(some (32, false)), 35, (.val (.bin .lss (.s 34) (.c (.int .i64 1)))), [], none, []⟩, ⟨none, 36, (.val (.pick (.s 32) (.c (.bool true)) (.s 35))), [32], none, []⟩, ⟨none, 37, (.val (.mv (.s 36))), [36], none, []⟩, ⟨(some (37, false)), 38, (.val (.fa (.s 5) 2)), [5], none, []⟩, ⟨(some (37, false)), 39, (.val (.ld (.s 38) none)), [], none, []⟩, ⟨(some (37, false)), 40, (.val (.bin .gtr (.s 39) (.c (.int .i64 8)))), [], none, []⟩, ⟨none, 41, (.val (.pick (.s 37) (.c (.bool true)) (.s 40))), [37], none, []⟩]) (.cond (.s 41) (.seq (.region [⟨none, 2, (.val (.mv (.c (.int .i64 1)))), [1, 3, 4, 9, 10, 11, 27, 28, 29, 30, 33, 34, 35, 38, 39, 40, 41], none, []⟩]) .ret) .skip)) (.seq (.region [⟨none, 42, (.val (.ld (.s 1) (some 4))), [41], none, []⟩, ⟨none, 43, (.val (.mv (.s 4))), [4], none, []⟩, ⟨none, 44, (.callP 67 [(.s 42), (.s 43)]), [42, 43], none, []⟩, ⟨none, 45, (.val (.bin .gtr (.s 44) (.c (.int .i64 3)))), [44], none, []⟩]) (.cond (.s 45) (.seq (.region [⟨none, 2, (.val (.mv (.c (.int .i64 10)))), [1, 3, 9, 10, 11, 27, 28, 29, 30, 33, 34, 35, 38, 39, 40, 45], none, []⟩]) .ret) .skip)))))) (.region [⟨none, 46, (.val (.bin .add (.s 11) (.c (.int .i64 1)))), [11, 45], none, []⟩, ⟨none, 11, (.val (.mv (.s 46))), [46], none, []⟩]))))))) (.seq (.region [⟨none, 2, (.val (.mv (.c (.int .i64 0)))), [1, 3, 9, 10, 11, 12, 27, 28, 29, 30, 33, 34, 35, 38, 39, 40], none, []⟩]) .ret))))
theorem ok157 : FnOk Tryd.prog 43 cc157 [(.t 2)] 1 47 := ⟨⟨_, Tryd.func43, by kernel_rfl, by kernel_rfl, by kernel_rfl⟩, by decide, by decide⟩
theorem nmE_nil : nmE [] = [] := rfl
/-- What is wrong with the clusters, behind names. -/
def clE : List ByteArray → List Cl → Int
  | _, [] => 0
  | sn, c :: l => if seeR c.1 sn ≠ 0 then seeR c.1 sn else if c.2 < 1 ∨ 4 < c.2 then 1 else clE (sn ++ [c.1]) l
theorem seeR0 {s : ByteArray} {l : List ByteArray} (h : seeR s l = 0) : nameB s = true ∧ memB s l = false := by
  unfold seeR at h
  split at h
  · simp at h
  · split at h
    · simp at h
    · rename_i h1 h2
      exact ⟨by simpa using h1, by simpa using h2⟩
theorem seeL0 {s : ByteArray} {l : List ByteArray} (h : seeR s l = 0) : seeL s l = l ++ [s] := by
  obtain ⟨h1, h2⟩ := seeR0 h
  simp [seeL, h1, h2]
def cns (l : List Cl) : List ByteArray := l.map (·.1)
theorem take_snoc {α : Type} {l : List α} {i : Nat} {x : α} (h : l[i]? = some x) : l.take (i + 1) = l.take i ++ [x] := by
  rw [List.take_add_one, h]; rfl
theorem drop_cons {α : Type} {l : List α} {i : Nat} {x : α} (h : l[i]? = some x) : l.drop i = x :: l.drop (i + 1) := by
  obtain ⟨h1, h2⟩ := List.getElem?_eq_some_iff.1 h
  rw [List.drop_eq_getElem_cons h1, h2]
def st156 (I : World → Fp → Value → Fp → Prop) (g : Gr) (b : Nat) (i : Nat) : St :=
  ⟨[(11, .v (.int .i64 i)), (10, .v (.int .i64 g.cl.length)), (9, .lst 2 (g.cl.map clA)), (3, .v (.map (some b)))], [(2007, .ext (MapB b (nmE (cns (g.cl.take i))))), (1001, gA g), (9999, .ext I)], []⟩
theorem c156 (g : Gr) (hl : g.cl.length ≤ 1000000) {Q : AV → Al → Prop} (h : Q (i64A (clE [] g.cl)) []) : ACalls Tryd.prog 42 [] [gA g] Q := by
  refine ok156.N hmix rfl ?_
  intro I
  simp only [cc156, OI, ↓reduceIte, reduceCtorEq, Nat.reduceAdd, Nat.reduceEqDiff, Nat.reduceBEq, Nat.reduceLT, Nat.reduceLeDiff, Nat.reduceMul, Nat.reduceSub, Int.reduceLE, Int.reduceLT, Int.reduceEq, Int.reduceBEq, Int.reduceBNe, Int.reduceToNat, Int.reduceNeg, Nat.reduceBNe, gA]
  intro b
  refine W_loop (st156 I g b) (fun i => i ≤ g.cl.length ∧ clE [] g.cl = clE (cns (g.cl.take i)) (g.cl.drop i)) (fun i => g.cl.length - i) (fun _ _ => rfl) ⟨0, ⟨by omega, rfl⟩, ?_⟩ ?_
  · simp only [OI, ↓reduceIte, reduceCtorEq, Nat.reduceAdd, Nat.reduceEqDiff, Nat.reduceBEq, Nat.reduceLT, Nat.reduceLeDiff, Nat.reduceMul, Nat.reduceSub, Int.reduceLE, Int.reduceLT, Int.reduceEq, Int.reduceBEq, Int.reduceBNe, Int.reduceToNat, Int.reduceNeg, Nat.reduceBNe, st156, gA, cns, nmE_nil]
    try rfl
  rintro i ⟨hi, he⟩
  refine W_of_N ok156.small hmix ?_
  by_cases hil : i < g.cl.length
  · have hil' : (i : Int) < g.cl.length := by omega
    have i0 : (0 : Int) ≤ i := by omega
    have hgi : g.cl[i]? = some g.cl[i] := List.getElem?_eq_getElem hil
    have w1 : IntKind.i64.wrap ((i : Int) + 1) = ((i + 1 : Nat) : Int) := by rw [wrI64 (by omega) (by omega)]; omega
    rw [drop_cons hgi] at he
    generalize hc : g.cl[i] = c at hgi he
    simp only [OI, ↓reduceIte, reduceCtorEq, Nat.reduceAdd, Nat.reduceEqDiff, Nat.reduceBEq, Nat.reduceLT, Nat.reduceLeDiff, Nat.reduceMul, Nat.reduceSub, Int.reduceLE, Int.reduceLT, Int.reduceEq, Int.reduceBEq, Int.reduceBNe, Int.reduceToNat, Int.reduceNeg, Nat.reduceBNe, st156, hil', i0, hgi, w1, clA]
    refine c200 b _ _ ?_
    simp only [clE] at he
    by_cases hr : seeR c.1 (cns (g.cl.take i)) = 0
    · rw [if_neg (by simpa using hr)] at he
      by_cases a1 : c.2 < 1
      · simp only [OI, ↓reduceIte, reduceCtorEq, Nat.reduceAdd, Nat.reduceEqDiff, Nat.reduceBEq, Nat.reduceLT, Nat.reduceLeDiff, Nat.reduceMul, Nat.reduceSub, Int.reduceLE, Int.reduceLT, Int.reduceEq, Int.reduceBEq, Int.reduceBNe, Int.reduceToNat, Int.reduceNeg, Nat.reduceBNe, hr, a1]
        rw [if_pos (.inl a1)] at he
        rw [he] at h; exact h
      · by_cases a2 : 4 < c.2
        · simp only [OI, ↓reduceIte, reduceCtorEq, Nat.reduceAdd, Nat.reduceEqDiff, Nat.reduceBEq, Nat.reduceLT, Nat.reduceLeDiff, Nat.reduceMul, Nat.reduceSub, Int.reduceLE, Int.reduceLT, Int.reduceEq, Int.reduceBEq, Int.reduceBNe, Int.reduceToNat, Int.reduceNeg, Nat.reduceBNe, hr, a1, a2]
          rw [if_pos (.inr a2)] at he
          rw [he] at h; exact h
        · simp only [OI, ↓reduceIte, reduceCtorEq, Nat.reduceAdd, Nat.reduceEqDiff, Nat.reduceBEq, Nat.reduceLT, Nat.reduceLeDiff, Nat.reduceMul, Nat.reduceSub, Int.reduceLE, Int.reduceLT, Int.reduceEq, Int.reduceBEq, Int.reduceBNe, Int.reduceToNat, Int.reduceNeg, Nat.reduceBNe, hr, a1, a2, w1]
          rw [if_neg (by omega)] at he
          refine ⟨i + 1, ⟨⟨by omega, ?_⟩, by omega⟩, ?_⟩
          · rw [he, take_snoc hgi]
            simp only [cns, List.map_append, List.map_cons, List.map_nil]
          · simp only [OI, ↓reduceIte, reduceCtorEq, Nat.reduceAdd, Nat.reduceEqDiff, Nat.reduceBEq, Nat.reduceLT, Nat.reduceLeDiff, Nat.reduceMul, Nat.reduceSub, Int.reduceLE, Int.reduceLT, Int.reduceEq, Int.reduceBEq, Int.reduceBNe, Int.reduceToNat, Int.reduceNeg, Nat.reduceBNe, st156, take_snoc hgi, cns, seeL0 hr, gA]
            have hx := seeL0 hr
            simp only [cns] at hx
            simp only [hx]
    · rw [if_pos hr] at he
      simp only [OI, ↓reduceIte, reduceCtorEq, Nat.reduceAdd, Nat.reduceEqDiff, Nat.reduceBEq, Nat.reduceLT, Nat.reduceLeDiff, Nat.reduceMul, Nat.reduceSub, Int.reduceLE, Int.reduceLT, Int.reduceEq, Int.reduceBEq, Int.reduceBNe, Int.reduceToNat, Int.reduceNeg, Nat.reduceBNe, bneT hr, hr]
      rw [he] at h; exact h
  · obtain rfl : i = g.cl.length := by omega
    simp only [OI, ↓reduceIte, reduceCtorEq, Nat.reduceAdd, Nat.reduceEqDiff, Nat.reduceBEq, Nat.reduceLT, Nat.reduceLeDiff, Nat.reduceMul, Nat.reduceSub, Int.reduceLE, Int.reduceLT, Int.reduceEq, Int.reduceBEq, Int.reduceBNe, Int.reduceToNat, Int.reduceNeg, Nat.reduceBNe, st156, Int.lt_irrefl]
    rw [List.drop_length] at he
    rw [he] at h; exact h
/-- What is wrong with the loops, behind names. -/
def loE (all : List Lo) : List ByteArray → Nat → List Lo → Int
  | _, _, [] => 0
  | sn, i, l :: r => if seeR l.1 sn ≠ 0 then seeR l.1 sn else if l.2.1 < -1 ∨ i ≤ l.2.1 ∨ l.2.2 < 1 ∨ 8 < l.2.2 then 1 else if 3 < deepN all i then 10 else loE all (sn ++ [l.1]) (i + 1) r
def lns (l : List Lo) : List ByteArray := l.map (·.1)
theorem WfL.snoc {lo : List Lo} {i : Nat} {l : Lo} (h : WfL lo i) (hl : lo[i]? = some l) (h1 : -1 ≤ l.2.1) (h2 : l.2.1 < i) : WfL lo (i + 1) := by
  intro k hk
  by_cases he : k = i
  · subst he; exact ⟨l, hl, h1, h2⟩
  · exact h k (by omega)
def st157 (I : World → Fp → Value → Fp → Prop) (g : Gr) (b : Nat) (i : Nat) : St :=
  ⟨[(11, .v (.int .i64 i)), (10, .v (.int .i64 g.lo.length)), (9, .lst 3 (g.lo.map loA)), (3, .v (.map (some b))), (1, .ref ⟨1001, [], 0⟩)], [(2007, .ext (MapB b (nmE (lns (g.lo.take i))))), (1001, gA g), (9999, .ext I)], []⟩
theorem c157 (g : Gr) (hl : g.lo.length ≤ 1000000) {Q : AV → Al → Prop} (h : Q (i64A (loE g.lo [] 0 g.lo)) []) : ACalls Tryd.prog 43 [] [gA g] Q := by
  refine ok157.N hmix rfl ?_
  intro I
  simp only [cc157, OI, ↓reduceIte, reduceCtorEq, Nat.reduceAdd, Nat.reduceEqDiff, Nat.reduceBEq, Nat.reduceLT, Nat.reduceLeDiff, Nat.reduceMul, Nat.reduceSub, Int.reduceLE, Int.reduceLT, Int.reduceEq, Int.reduceBEq, Int.reduceBNe, Int.reduceToNat, Int.reduceNeg, Nat.reduceBNe, gA]
  intro b
  refine W_loop (st157 I g b) (fun i => i ≤ g.lo.length ∧ WfL g.lo i ∧ loE g.lo [] 0 g.lo = loE g.lo (lns (g.lo.take i)) i (g.lo.drop i)) (fun i => g.lo.length - i) (fun _ _ => rfl) ⟨0, ⟨by omega, fun k hk => by omega, rfl⟩, ?_⟩ ?_
  · simp only [OI, ↓reduceIte, reduceCtorEq, Nat.reduceAdd, Nat.reduceEqDiff, Nat.reduceBEq, Nat.reduceLT, Nat.reduceLeDiff, Nat.reduceMul, Nat.reduceSub, Int.reduceLE, Int.reduceLT, Int.reduceEq, Int.reduceBEq, Int.reduceBNe, Int.reduceToNat, Int.reduceNeg, Nat.reduceBNe, st157, gA, lns, nmE_nil]
    try rfl
  rintro i ⟨hi, hW, he⟩
  refine W_of_N ok157.small hmix ?_
  by_cases hil : i < g.lo.length
  · have hil' : (i : Int) < g.lo.length := by omega
    have i0 : (0 : Int) ≤ i := by omega
    have hgi : g.lo[i]? = some g.lo[i] := List.getElem?_eq_getElem hil
    have w1 : IntKind.i64.wrap ((i : Int) + 1) = ((i + 1 : Nat) : Int) := by rw [wrI64 (by omega) (by omega)]; omega
    rw [drop_cons hgi] at he
    generalize hc : g.lo[i] = c at hgi he
    simp only [OI, ↓reduceIte, reduceCtorEq, Nat.reduceAdd, Nat.reduceEqDiff, Nat.reduceBEq, Nat.reduceLT, Nat.reduceLeDiff, Nat.reduceMul, Nat.reduceSub, Int.reduceLE, Int.reduceLT, Int.reduceEq, Int.reduceBEq, Int.reduceBNe, Int.reduceToNat, Int.reduceNeg, Nat.reduceBNe, st157, hil', i0, hgi, w1, loA]
    refine c200 b _ _ ?_
    simp only [loE] at he
    by_cases hr : seeR c.1 (lns (g.lo.take i)) = 0
    · rw [if_neg (by simpa using hr)] at he
      by_cases a1 : c.2.1 < -1
      · simp only [OI, ↓reduceIte, reduceCtorEq, Nat.reduceAdd, Nat.reduceEqDiff, Nat.reduceBEq, Nat.reduceLT, Nat.reduceLeDiff, Nat.reduceMul, Nat.reduceSub, Int.reduceLE, Int.reduceLT, Int.reduceEq, Int.reduceBEq, Int.reduceBNe, Int.reduceToNat, Int.reduceNeg, Nat.reduceBNe, hr, a1]
        rw [if_pos (.inl a1)] at he
        rw [he] at h; exact h
      by_cases a2 : (i : Int) ≤ c.2.1
      · simp only [OI, ↓reduceIte, reduceCtorEq, Nat.reduceAdd, Nat.reduceEqDiff, Nat.reduceBEq, Nat.reduceLT, Nat.reduceLeDiff, Nat.reduceMul, Nat.reduceSub, Int.reduceLE, Int.reduceLT, Int.reduceEq, Int.reduceBEq, Int.reduceBNe, Int.reduceToNat, Int.reduceNeg, Nat.reduceBNe, hr, a1, a2]
        rw [if_pos (.inr (.inl a2))] at he
        rw [he] at h; exact h
      by_cases a3 : c.2.2 < 1
      · simp only [OI, ↓reduceIte, reduceCtorEq, Nat.reduceAdd, Nat.reduceEqDiff, Nat.reduceBEq, Nat.reduceLT, Nat.reduceLeDiff, Nat.reduceMul, Nat.reduceSub, Int.reduceLE, Int.reduceLT, Int.reduceEq, Int.reduceBEq, Int.reduceBNe, Int.reduceToNat, Int.reduceNeg, Nat.reduceBNe, hr, a1, a2, a3]
        rw [if_pos (.inr (.inr (.inl a3)))] at he
        rw [he] at h; exact h
      by_cases a4 : 8 < c.2.2
      · simp only [OI, ↓reduceIte, reduceCtorEq, Nat.reduceAdd, Nat.reduceEqDiff, Nat.reduceBEq, Nat.reduceLT, Nat.reduceLeDiff, Nat.reduceMul, Nat.reduceSub, Int.reduceLE, Int.reduceLT, Int.reduceEq, Int.reduceBEq, Int.reduceBNe, Int.reduceToNat, Int.reduceNeg, Nat.reduceBNe, hr, a1, a2, a3, a4]
        rw [if_pos (.inr (.inr (.inr a4)))] at he
        rw [he] at h; exact h
      rw [if_neg (by omega)] at he
      have hW' := hW.snoc hgi (by omega) (by omega)
      simp only [OI, ↓reduceIte, reduceCtorEq, Nat.reduceAdd, Nat.reduceEqDiff, Nat.reduceBEq, Nat.reduceLT, Nat.reduceLeDiff, Nat.reduceMul, Nat.reduceSub, Int.reduceLE, Int.reduceLT, Int.reduceEq, Int.reduceBEq, Int.reduceBNe, Int.reduceToNat, Int.reduceNeg, Nat.reduceBNe, hr, a1, a2, a3, a4, gA]
      refine c127 g i (i + 1) hW' (by omega) (by omega) (by omega) ?_
      by_cases a5 : 3 < deepN g.lo i
      · simp only [OI, ↓reduceIte, reduceCtorEq, Nat.reduceAdd, Nat.reduceEqDiff, Nat.reduceBEq, Nat.reduceLT, Nat.reduceLeDiff, Nat.reduceMul, Nat.reduceSub, Int.reduceLE, Int.reduceLT, Int.reduceEq, Int.reduceBEq, Int.reduceBNe, Int.reduceToNat, Int.reduceNeg, Nat.reduceBNe, i64A, a5]
        rw [if_pos a5] at he
        rw [he] at h; exact h
      · rw [if_neg a5] at he
        simp only [OI, ↓reduceIte, reduceCtorEq, Nat.reduceAdd, Nat.reduceEqDiff, Nat.reduceBEq, Nat.reduceLT, Nat.reduceLeDiff, Nat.reduceMul, Nat.reduceSub, Int.reduceLE, Int.reduceLT, Int.reduceEq, Int.reduceBEq, Int.reduceBNe, Int.reduceToNat, Int.reduceNeg, Nat.reduceBNe, i64A, a5, w1]
        refine ⟨i + 1, ⟨⟨by omega, hW', ?_⟩, by omega⟩, ?_⟩
        · rw [he, take_snoc hgi]
          simp only [lns, List.map_append, List.map_cons, List.map_nil]
        · have hx := seeL0 hr
          simp only [lns] at hx
          simp only [OI, ↓reduceIte, reduceCtorEq, Nat.reduceAdd, Nat.reduceEqDiff, Nat.reduceBEq, Nat.reduceLT, Nat.reduceLeDiff, Nat.reduceMul, Nat.reduceSub, Int.reduceLE, Int.reduceLT, Int.reduceEq, Int.reduceBEq, Int.reduceBNe, Int.reduceToNat, Int.reduceNeg, Nat.reduceBNe, st157, take_snoc hgi, lns, gA, hx]
    · rw [if_pos hr] at he
      simp only [OI, ↓reduceIte, reduceCtorEq, Nat.reduceAdd, Nat.reduceEqDiff, Nat.reduceBEq, Nat.reduceLT, Nat.reduceLeDiff, Nat.reduceMul, Nat.reduceSub, Int.reduceLE, Int.reduceLT, Int.reduceEq, Int.reduceBEq, Int.reduceBNe, Int.reduceToNat, Int.reduceNeg, Nat.reduceBNe, bneT hr, hr]
      rw [he] at h; exact h
  · obtain rfl : i = g.lo.length := by omega
    simp only [OI, ↓reduceIte, reduceCtorEq, Nat.reduceAdd, Nat.reduceEqDiff, Nat.reduceBEq, Nat.reduceLT, Nat.reduceLeDiff, Nat.reduceMul, Nat.reduceSub, Int.reduceLE, Int.reduceLT, Int.reduceEq, Int.reduceBEq, Int.reduceBNe, Int.reduceToNat, Int.reduceNeg, Nat.reduceBNe, st157, Int.lt_irrefl]
    rw [List.drop_length] at he
    rw [he] at h; exact h
end Go.Proofs.YthlehngbadianaaDoor.Ow
