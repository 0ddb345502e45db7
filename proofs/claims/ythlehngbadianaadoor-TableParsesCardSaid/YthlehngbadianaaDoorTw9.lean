/- What the functions of the program do, each once: contracts of the logic (part w9). -/
import Derived.Test.YthlehngbadianaaDoorTw7w8
import Derived.Test.YthlehngbadianaaDoorTv3
set_option linter.unusedVariables false
set_option linter.unusedSimpArgs false
set_option linter.unnecessarySimpa false
set_option maxRecDepth 100000
set_option maxHeartbeats 8000000
namespace Go.Proofs.YthlehngbadianaaDoor.Ow
open Go Go.RowKit Go.Proofs
/- watershed/watershedlaw18.TableParses -/
def cc1001 : CC := (.seq (.region [⟨none, 3, (.box 1), [1], none, []⟩, ⟨none, 4, (.val (.mv (.c (.bool false)))), [4], none, []⟩]) (.seq (.seq (.region [⟨none, 11, (.val (.ld (.s 3) (some 4))), [], none, []⟩, ⟨none, 12, (.callP 11 [(.s 11)]), [11], none, []⟩, ⟨none, 13, (.val (.mv (.s 12))), [12], none, []⟩, ⟨(some (13, false)), 14, (.val (.mv (.s 0))), [], none, []⟩, ⟨(some (13, false)), 15, (.val (.lns (.s 14))), [14], none, []⟩, ⟨(some (13, false)), 16, (.val (.bin .gtr (.s 15) (.c (.int .i64 5000)))), [15], none, []⟩, ⟨none, 17, (.val (.pick (.s 13) (.c (.bool true)) (.s 16))), [13, 16], none, []⟩]) (.cond (.s 17) (.seq (.region [⟨none, 4, (.val (.mv (.c (.bool true)))), [0, 3, 17], none, []⟩]) .ret) .skip)) (.seq (.region [⟨none, 19, (.val (.mv (.s 0))), [17], none, []⟩, ⟨none, 20, (.val (.ld (.s 3) (some 4))), [], none, []⟩, ⟨none, 21, (.callP 13 [(.s 20)]), [20], none, []⟩, ⟨none, 22, (.callP 12 [(.s 19), (.s 21)]), [19, 21], none, []⟩, ⟨none, 18, (.val (.mv (.s 22))), [22], none, []⟩, ⟨none, 23, (.val (.ext (.s 18) 0)), [], none, []⟩, ⟨none, 24, (.val (.ext (.s 18) 1)), [], none, []⟩, ⟨none, 25, (.val (.ext (.s 18) 2)), [18], none, []⟩, ⟨none, 5, (.alloc (.agg #[(.slice none 0 0), (.slice none 0 0)])), [], none, []⟩, ⟨none, 0, (.store 2 (.s 5) (.s 23)), [23], none, []⟩, ⟨none, 6, (.val (.mv (.s 24))), [24], none, []⟩, ⟨none, 7, (.val (.mv (.s 25))), [25], none, []⟩]) (.seq (.region [⟨none, 27, (.val (.mv (.s 0))), [0], none, []⟩, ⟨none, 28, (.val (.ld (.s 3) (some 4))), [3], none, []⟩, ⟨none, 29, (.callP 14 [(.s 27), (.s 28)]), [27, 28], none, []⟩, ⟨none, 26, (.val (.mv (.s 29))), [29], none, []⟩, ⟨none, 30, (.val (.ext (.s 26) 0)), [], none, []⟩, ⟨none, 31, (.val (.ext (.s 26) 1)), [], none, []⟩, ⟨none, 32, (.val (.ext (.s 26) 2)), [26], none, []⟩, ⟨none, 8, (.alloc (.agg #[(.slice none 0 0), (.slice none 0 0)])), [], none, []⟩, ⟨none, 0, (.store 2 (.s 8) (.s 30)), [30], none, []⟩, ⟨none, 9, (.val (.mv (.s 31))), [31], none, []⟩, ⟨none, 10, (.val (.mv (.s 32))), [32], none, []⟩]) (.seq (.region [⟨none, 33, (.val (.ld (.s 5) (some 2))), [5], none, []⟩, ⟨none, 34, (.val (.ld (.s 8) (some 2))), [8], none, []⟩, ⟨none, 35, (.callP 15 [(.s 33), (.s 34)]), [33, 34], none, []⟩, ⟨none, 36, (.val (.mv (.s 35))), [35], none, []⟩, ⟨(some (36, true)), 37, (.val (.mv (.s 6))), [6], none, []⟩, ⟨(some (36, true)), 38, (.val (.mv (.s 9))), [9], none, []⟩, ⟨(some (36, true)), 39, (.val (.bin .eql (.s 37) (.s 38))), [37, 38], none, []⟩, ⟨none, 40, (.val (.pick (.s 36) (.s 39) (.c (.bool false)))), [36, 39], none, []⟩, ⟨none, 41, (.val (.mv (.s 40))), [40], none, []⟩, ⟨(some (41, true)), 42, (.val (.mv (.s 7))), [7], none, []⟩, ⟨(some (41, true)), 43, (.val (.mv (.s 10))), [10], none, []⟩, ⟨(some (41, true)), 44, (.val (.bin .eql (.s 42) (.s 43))), [42, 43], none, []⟩, ⟨none, 45, (.val (.pick (.s 41) (.s 44) (.c (.bool false)))), [41, 44], none, []⟩, ⟨none, 4, (.val (.mv (.s 45))), [45], none, []⟩]) .ret)))))
theorem ok1001 : FnOk Tryd.prog 4 cc1001 [(.t 4)] 2 46 := ⟨⟨_, Tryd.func4, by kernel_rfl, by kernel_rfl, by kernel_rfl⟩, by decide, by decide⟩
theorem foldM_bd {g : Gr} {B : Nat} : ∀ (ls : List (List UInt8)) (n : Nat) (p : Pn), PBd n B p → (∀ l ∈ ls, l.length + 1 ≤ B) → PBd (n + ls.length) B (foldM g ls n p).1
  | [], n, p, h, _ => h
  | l :: ls, n, p, h, hl => by
    obtain ⟨hwl, hws⟩ := wordsW_sz (hl l (List.mem_cons_self ..))
    have e : n + (l :: ls).length = n + 1 + ls.length := by simp only [List.length_cons]; omega
    rw [foldM, e]
    have hls : ∀ l ∈ ls, l.length + 1 ≤ B := fun l h => hl l (List.mem_cons_of_mem _ h)
    split
    · exact foldM_bd ls (n + 1) p h.up hls
    · rename_i k v hw
      rw [hw] at hwl hws
      simp only [List.length_cons] at hwl
      split
      · exact ⟨by simp, by simp, by simp, by simp⟩
      · exact foldM_bd ls (n + 1) _ (lineM_bd h (by omega) fun s hs => hws s (List.mem_cons_of_mem _ hs)) hls
theorem parR_med (g : Gr) (S : List UInt8) (hS : S.length ≤ 5000) : MedP (parR g S).1 := by
  have e0 : MedP ⟨[], []⟩ := ⟨by simp, by simp, by simp, by simp⟩
  unfold parR
  split
  · exact e0
  split
  · exact e0
  split
  · exact e0
  · have hll := linesL_len S
    have := foldM_bd (g := g) (B := 5001) (linesL S) 0 ⟨[], []⟩ ⟨by simp, by simp, by simp, by simp⟩ (fun l hl => by have := linesL_sz hl; omega)
    exact this.med (by omega) (by omega)
theorem c1001 (S : List UInt8) (g : Gr) {Q : AV → Al → Prop} (h : Q (.v (.bool true)) []) : ACalls Tryd.prog 4 [] [strV S, gA g] Q := by
  refine ok1001.N hmix rfl ?_
  intro I
  have hsz := ba_size S
  simp only [cc1001, OI, ↓reduceIte, reduceCtorEq, Nat.reduceAdd, Nat.reduceEqDiff, Nat.reduceBEq, Nat.reduceLT, Nat.reduceLeDiff, Nat.reduceMul, Nat.reduceSub, Int.reduceLE, Int.reduceLT, Int.reduceEq, Int.reduceBEq, Int.reduceBNe, Int.reduceToNat, Int.reduceNeg, Nat.reduceBNe, gA, strV]
  refine c43 g ?_ fun hs => ?_
  · simp only [OI, ↓reduceIte, reduceCtorEq, Nat.reduceAdd, Nat.reduceEqDiff, Nat.reduceBEq, Nat.reduceLT, Nat.reduceLeDiff, Nat.reduceMul, Nat.reduceSub, Int.reduceLE, Int.reduceLT, Int.reduceEq, Int.reduceBEq, Int.reduceBNe, Int.reduceToNat, Int.reduceNeg, Nat.reduceBNe]
    exact h
  by_cases h5 : (5000 : Int) < S.length
  · simp only [OI, ↓reduceIte, reduceCtorEq, Nat.reduceAdd, Nat.reduceEqDiff, Nat.reduceBEq, Nat.reduceLT, Nat.reduceLeDiff, Nat.reduceMul, Nat.reduceSub, Int.reduceLE, Int.reduceLT, Int.reduceEq, Int.reduceBEq, Int.reduceBNe, Int.reduceToNat, Int.reduceNeg, Nat.reduceBNe, hsz, h5]
    exact h
  simp only [OI, ↓reduceIte, reduceCtorEq, Nat.reduceAdd, Nat.reduceEqDiff, Nat.reduceBEq, Nat.reduceLT, Nat.reduceLeDiff, Nat.reduceMul, Nat.reduceSub, Int.reduceLE, Int.reduceLT, Int.reduceEq, Int.reduceBEq, Int.reduceBNe, Int.reduceToNat, Int.reduceNeg, Nat.reduceBNe, hsz, h5]
  refine c44 g hs ?_
  simp only [OI, ↓reduceIte, reduceCtorEq, Nat.reduceAdd, Nat.reduceEqDiff, Nat.reduceBEq, Nat.reduceLT, Nat.reduceLeDiff, Nat.reduceMul, Nat.reduceSub, Int.reduceLE, Int.reduceLT, Int.reduceEq, Int.reduceBEq, Int.reduceBNe, Int.reduceToNat, Int.reduceNeg, Nat.reduceBNe, gA, strV]
  refine c1006 S g (by omega) ?_
  simp only [OI, ↓reduceIte, reduceCtorEq, Nat.reduceAdd, Nat.reduceEqDiff, Nat.reduceBEq, Nat.reduceLT, Nat.reduceLeDiff, Nat.reduceMul, Nat.reduceSub, Int.reduceLE, Int.reduceLT, Int.reduceEq, Int.reduceBEq, Int.reduceBNe, Int.reduceToNat, Int.reduceNeg, Nat.reduceBNe, gA, plA, i64A]
  refine c1007 S g hs.nm (by omega) ?_
  simp only [OI, ↓reduceIte, reduceCtorEq, Nat.reduceAdd, Nat.reduceEqDiff, Nat.reduceBEq, Nat.reduceLT, Nat.reduceLeDiff, Nat.reduceMul, Nat.reduceSub, Int.reduceLE, Int.reduceLT, Int.reduceEq, Int.reduceBEq, Int.reduceBNe, Int.reduceToNat, Int.reduceNeg, Nat.reduceBNe, gA, plA, i64A]
  refine c77m (parR g S).1 (parR_med g S (by omega)) ?_
  simp only [OI, ↓reduceIte, reduceCtorEq, Nat.reduceAdd, Nat.reduceEqDiff, Nat.reduceBEq, Nat.reduceLT, Nat.reduceLeDiff, Nat.reduceMul, Nat.reduceSub, Int.reduceLE, Int.reduceLT, Int.reduceEq, Int.reduceBEq, Int.reduceBNe, Int.reduceToNat, Int.reduceNeg, Nat.reduceBNe, beq_self_eq_true]
  exact h
end Go.Proofs.YthlehngbadianaaDoor.Ow
