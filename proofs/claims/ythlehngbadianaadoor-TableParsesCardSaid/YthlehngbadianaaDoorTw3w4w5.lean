/- What the functions of the program do, each once: contracts of the logic (part w3 w4 w5). -/
import Derived.Test.YthlehngbadianaaDoorTu4u5
import Derived.Test.YthlehngbadianaaDoorTspsqw1w2
set_option linter.unusedVariables false
set_option linter.unusedSimpArgs false
set_option linter.unnecessarySimpa false
set_option maxRecDepth 100000
set_option maxHeartbeats 4000000
namespace Go.Proofs.YthlehngbadianaaDoor.Ow
open Go Go.RowKit Go.Proofs
/- watershed/table.find$1 -/
def cc1043 : CC := (.seq (.region [⟨none, 2, (.box 0), [0], none, []⟩, ⟨none, 3, (.val (.mv (.c (.bool false)))), [3], none, []⟩]) (.seq (.region [⟨none, 4, (.val (.fa (.s 2) 0)), [2], none, []⟩, ⟨none, 5, (.val (.ld (.s 4) none)), [4], none, []⟩, ⟨none, 6, (.val (.ld (.s 1) none)), [1], none, []⟩, ⟨none, 7, (.val (.bin .eql (.s 5) (.s 6))), [5, 6], none, []⟩, ⟨none, 3, (.val (.mv (.s 7))), [7], none, []⟩]) .ret))
theorem ok1043 : FnOk Tryd.prog 100 cc1043 [(.t 3)] 2 8 := ⟨⟨_, Tryd.func100, by kernel_rfl, by kernel_rfl, by kernel_rfl⟩, by decide, by decide⟩
/- slices.IndexFunc[[]watershed/graph.Cluster,watershed/graph.Cluster] -/
def cc1042 : CC := (.seq (.region [⟨none, 4, (.val (.mv (.c (.int .i64 0)))), [4], none, []⟩]) (.seq (.seq (.region [⟨none, 6, (.val (.mv (.s 0))), [], none, []⟩, ⟨none, 7, (.val (.lnl (.s 6) 2)), [6], none, []⟩, ⟨none, 8, (.val (.mv (.c (.int .i64 0)))), [], none, []⟩]) (.block 0 (.loop (.seq (.region [⟨none, 9, (.val (.bin .lss (.s 8) (.s 7))), [], none, []⟩]) (.seq (.cond (.s 9) .skip (.exit 0)) (.seq (.block 1 (.seq (.region [⟨none, 10, (.val (.mv (.s 8))), [9], none, []⟩, ⟨none, 5, (.val (.mv (.s 10))), [10], none, []⟩]) (.seq (.region [⟨none, 11, (.val (.mv (.s 1))), [], none, []⟩, ⟨none, 12, (.val (.mv (.s 0))), [], none, []⟩, ⟨none, 13, (.val (.mv (.s 5))), [], none, []⟩, ⟨none, 14, (.val (.ia (.s 12) (.s 13) 2)), [12, 13], none, []⟩, ⟨none, 15, (.val (.ld (.s 14) (some 2))), [14], none, []⟩, ⟨none, 16, (.callC (.s 11) [(.s 15)]), [11, 15], none, []⟩]) (.cond (.s 16) (.seq (.region [⟨none, 17, (.val (.mv (.s 5))), [0, 1, 5, 7, 8, 16], none, []⟩, ⟨none, 4, (.val (.mv (.s 17))), [17], none, []⟩]) .ret) .skip)))) (.region [⟨none, 18, (.val (.bin .add (.s 8) (.c (.int .i64 1)))), [5, 8, 16], none, []⟩, ⟨none, 8, (.val (.mv (.s 18))), [18], none, []⟩]))))))) (.seq (.region [⟨none, 4, (.val (.mv (.c (.int .i64 (-1))))), [0, 1, 7, 8, 9], none, []⟩]) .ret)))
theorem ok1042 : FnOk Tryd.prog 99 cc1042 [(.t 4)] 2 19 := ⟨⟨_, Tryd.func99, by kernel_rfl, by kernel_rfl, by kernel_rfl⟩, by decide, by decide⟩
/- slices.Index[[]string,string] -/
def cc1033 : CC := (.seq (.region [⟨none, 4, (.val (.mv (.c (.int .i64 0)))), [4], none, []⟩]) (.seq (.seq (.region [⟨none, 6, (.val (.mv (.s 0))), [], none, []⟩, ⟨none, 7, (.val (.lnl (.s 6) 1)), [6], none, []⟩, ⟨none, 8, (.val (.mv (.c (.int .i64 0)))), [], none, []⟩]) (.block 0 (.loop (.seq (.region [⟨none, 9, (.val (.bin .lss (.s 8) (.s 7))), [], none, []⟩]) (.seq (.cond (.s 9) .skip (.exit 0)) (.seq (.block 1 (.seq (.region [⟨none, 10, (.val (.mv (.s 8))), [9], none, []⟩, ⟨none, 5, (.val (.mv (.s 10))), [10], none, []⟩]) (.seq (.region [⟨none, 11, (.val (.mv (.s 1))), [], none, []⟩, ⟨none, 12, (.val (.mv (.s 0))), [], none, []⟩, ⟨none, 13, (.val (.mv (.s 5))), [], none, []⟩, ⟨none, 14, (.val (.ia (.s 12) (.s 13) 1)), [12, 13], none, []⟩, ⟨none, 15, (.val (.ld (.s 14) none)), [14], none, []⟩, ⟨none, 16, (.val (.bin .eql (.s 11) (.s 15))), [11, 15], none, []⟩]) (.cond (.s 16) (.seq (.region [⟨none, 17, (.val (.mv (.s 5))), [0, 1, 5, 7, 8, 16], none, []⟩, ⟨none, 4, (.val (.mv (.s 17))), [17], none, []⟩]) .ret) .skip)))) (.region [⟨none, 18, (.val (.bin .add (.s 8) (.c (.int .i64 1)))), [5, 8, 16], none, []⟩, ⟨none, 8, (.val (.mv (.s 18))), [18], none, []⟩]))))))) (.seq (.region [⟨none, 4, (.val (.mv (.c (.int .i64 (-1))))), [0, 1, 7, 8, 9], none, []⟩]) .ret)))
theorem ok1033 : FnOk Tryd.prog 76 cc1033 [(.t 4)] 2 19 := ⟨⟨_, Tryd.func76, by kernel_rfl, by kernel_rfl, by kernel_rfl⟩, by decide, by decide⟩
/- watershed/table.find -/
def cc1032 : CC := (.seq (.region [⟨none, 2, (.box 0), [0], none, []⟩, ⟨none, 3, (.box 1), [1], none, []⟩, ⟨none, 4, (.val (.mv (.c (.int .i64 0)))), [4], none, []⟩]) (.seq (.region [⟨none, 5, (.val (.fa (.s 2) 0)), [2], none, []⟩, ⟨none, 6, (.val (.ld (.s 5) none)), [5], none, []⟩, ⟨none, 7, (.val (.fnv 100 [(.s 3)])), [3], none, []⟩, ⟨none, 8, (.call 99 [(.s 6), (.s 7)]), [6, 7], none, []⟩, ⟨none, 4, (.val (.mv (.s 8))), [8], none, []⟩]) .ret))
theorem ok1032 : FnOk Tryd.prog 75 cc1032 [(.t 4)] 2 9 := ⟨⟨_, Tryd.func75, by kernel_rfl, by kernel_rfl, by kernel_rfl⟩, by decide, by decide⟩
def eqB (s t : ByteArray) : Bool := t.toList == s.toList
def eqC (s : ByteArray) (c : Cl) : Bool := c.1.toList == s.toList
theorem idxP_map {α β : Type} (f : α → β) (P : β → Bool) (l : List α) : idxP (l.map f) P = idxP l (fun x => P (f x)) := by
  unfold idxP
  rw [List.findIdx?_map]
  rfl
theorem c1043 (s : ByteArray) (c : Cl) {Q : AV → Al → Prop} (h : Q (.v (.bool (eqC s c))) []) : ACalls Tryd.prog 100 [] [clA c, .fptr (nmA s) 0] Q := by
  refine ok1043.N hmix rfl ?_
  intro I
  simp only [cc1043, OI, ↓reduceIte, reduceCtorEq, Nat.reduceAdd, Nat.reduceEqDiff, Nat.reduceBEq, Nat.reduceLT, Nat.reduceLeDiff, Nat.reduceMul, Nat.reduceSub, Int.reduceLE, Int.reduceLT, Int.reduceEq, Int.reduceBEq, Int.reduceBNe, Int.reduceToNat, Int.reduceNeg, Nat.reduceBNe, clA, nmA]
  exact h
theorem fnGood1043 : fnGood Tryd.prog 100 = true := by kernel_rfl
def st1042 (I : World → Fp → Value → Fp → Prop) (s : ByteArray) (l : List Cl) (i : Nat) : St := ⟨[(8, .v (.int .i64 i)), (7, .v (.int .i64 l.length)), (0, .lst 2 (l.map clA)), (1, .fn 100 [.fptr (nmA s) 0])], [(9999, .ext I)], []⟩
theorem c1042 (s : ByteArray) (l : List Cl) (hl : l.length ≤ 1000000) {Q : AV → Al → Prop} (h : Q (i64A (idxP l (eqC s))) []) : ACalls Tryd.prog 99 [] [.lst 2 (l.map clA), .fn 100 [.fptr (nmA s) 0]] Q := by
  refine ok1042.N hmix rfl ?_
  intro I
  simp only [cc1042, OI, ↓reduceIte, reduceCtorEq, Nat.reduceAdd, Nat.reduceEqDiff, Nat.reduceBEq, Nat.reduceLT, Nat.reduceLeDiff, Nat.reduceMul, Nat.reduceSub, Int.reduceLE, Int.reduceLT, Int.reduceEq, Int.reduceBEq, Int.reduceBNe, Int.reduceToNat, Int.reduceNeg, Nat.reduceBNe, i64A]
  refine W_loop (st1042 I s l) (fun i => i ≤ l.length ∧ ∀ (j : Nat) y, j < i → l[j]? = some y → eqC s y = false) (fun i => l.length - i) (fun _ _ => rfl) ⟨0, ⟨by omega, fun j y hj => by omega⟩, ?_⟩ ?_
  · simp only [OI, ↓reduceIte, reduceCtorEq, Nat.reduceAdd, Nat.reduceEqDiff, Nat.reduceBEq, Nat.reduceLT, Nat.reduceLeDiff, Nat.reduceMul, Nat.reduceSub, Int.reduceLE, Int.reduceLT, Int.reduceEq, Int.reduceBEq, Int.reduceBNe, Int.reduceToNat, Int.reduceNeg, Nat.reduceBNe, st1042, i64A]
    try rfl
  rintro i ⟨hi, hall⟩
  refine W_of_N ok1042.small hmix ?_
  by_cases hil : i < l.length
  · have hil' : (i : Int) < l.length := by omega
    have i0 : (0 : Int) ≤ i := by omega
    have hgi : l[i]? = some l[i] := List.getElem?_eq_getElem hil
    have w1 : IntKind.i64.wrap ((i : Int) + 1) = ((i + 1 : Nat) : Int) := by rw [wrI64 (by omega) (by omega)]; omega
    generalize l[i] = y at hgi
    simp only [OI, ↓reduceIte, reduceCtorEq, Nat.reduceAdd, Nat.reduceEqDiff, Nat.reduceBEq, Nat.reduceLT, Nat.reduceLeDiff, Nat.reduceMul, Nat.reduceSub, Int.reduceLE, Int.reduceLT, Int.reduceEq, Int.reduceBEq, Int.reduceBNe, Int.reduceToNat, Int.reduceNeg, Nat.reduceBNe, st1042, i64A, clA, hil', i0, hgi, fnGood1043, capOk]
    refine c1043 s y ?_
    by_cases hb : eqC s y = true
    · simp only [OI, ↓reduceIte, reduceCtorEq, Nat.reduceAdd, Nat.reduceEqDiff, Nat.reduceBEq, Nat.reduceLT, Nat.reduceLeDiff, Nat.reduceMul, Nat.reduceSub, Int.reduceLE, Int.reduceLT, Int.reduceEq, Int.reduceBEq, Int.reduceBNe, Int.reduceToNat, Int.reduceNeg, Nat.reduceBNe, st1042, i64A, hb]
      rw [idxP_at hgi hb hall] at h
      exact h
    · have hb' : eqC s y = false := by simpa using hb
      simp only [OI, ↓reduceIte, reduceCtorEq, Nat.reduceAdd, Nat.reduceEqDiff, Nat.reduceBEq, Nat.reduceLT, Nat.reduceLeDiff, Nat.reduceMul, Nat.reduceSub, Int.reduceLE, Int.reduceLT, Int.reduceEq, Int.reduceBEq, Int.reduceBNe, Int.reduceToNat, Int.reduceNeg, Nat.reduceBNe, st1042, i64A, hb', w1]
      refine ⟨i + 1, ⟨⟨by omega, fun j z hj hz => ?_⟩, by omega⟩, ?_⟩
      · by_cases he : j = i
        · subst he; rw [hgi] at hz; obtain rfl := Option.some.inj hz; exact hb'
        · exact hall j z (by omega) hz
      · simp only [OI, ↓reduceIte, reduceCtorEq, Nat.reduceAdd, Nat.reduceEqDiff, Nat.reduceBEq, Nat.reduceLT, Nat.reduceLeDiff, Nat.reduceMul, Nat.reduceSub, Int.reduceLE, Int.reduceLT, Int.reduceEq, Int.reduceBEq, Int.reduceBNe, Int.reduceToNat, Int.reduceNeg, Nat.reduceBNe, st1042, i64A, clA]
  · obtain rfl : i = l.length := by omega
    simp only [OI, ↓reduceIte, reduceCtorEq, Nat.reduceAdd, Nat.reduceEqDiff, Nat.reduceBEq, Nat.reduceLT, Nat.reduceLeDiff, Nat.reduceMul, Nat.reduceSub, Int.reduceLE, Int.reduceLT, Int.reduceEq, Int.reduceBEq, Int.reduceBNe, Int.reduceToNat, Int.reduceNeg, Nat.reduceBNe, st1042, i64A, Int.lt_irrefl]
    rw [idxP_no fun j y hy => hall j y (List.getElem?_eq_some_iff.1 hy).1 hy] at h
    exact h
def st1033 (I : World → Fp → Value → Fp → Prop) (l : List ByteArray) (s : ByteArray) (i : Nat) : St := ⟨[(8, .v (.int .i64 i)), (7, .v (.int .i64 l.length)), (0, .lst 1 (l.map nmA)), (1, nmA s)], [(9999, .ext I)], []⟩
theorem c1033 (l : List ByteArray) (s : ByteArray) (hl : l.length ≤ 1000000) {Q : AV → Al → Prop} (h : Q (i64A (idxP l (eqB s))) []) : ACalls Tryd.prog 76 [] [.lst 1 (l.map nmA), nmA s] Q := by
  refine ok1033.N hmix rfl ?_
  intro I
  simp only [cc1033, OI, ↓reduceIte, reduceCtorEq, Nat.reduceAdd, Nat.reduceEqDiff, Nat.reduceBEq, Nat.reduceLT, Nat.reduceLeDiff, Nat.reduceMul, Nat.reduceSub, Int.reduceLE, Int.reduceLT, Int.reduceEq, Int.reduceBEq, Int.reduceBNe, Int.reduceToNat, Int.reduceNeg, Nat.reduceBNe, nmA, i64A]
  refine W_loop (st1033 I l s) (fun i => i ≤ l.length ∧ ∀ (j : Nat) y, j < i → l[j]? = some y → eqB s y = false) (fun i => l.length - i) (fun _ _ => rfl) ⟨0, ⟨by omega, fun j y hj => by omega⟩, ?_⟩ ?_
  · simp only [OI, ↓reduceIte, reduceCtorEq, Nat.reduceAdd, Nat.reduceEqDiff, Nat.reduceBEq, Nat.reduceLT, Nat.reduceLeDiff, Nat.reduceMul, Nat.reduceSub, Int.reduceLE, Int.reduceLT, Int.reduceEq, Int.reduceBEq, Int.reduceBNe, Int.reduceToNat, Int.reduceNeg, Nat.reduceBNe, st1033, nmA, i64A]
    try rfl
  rintro i ⟨hi, hall⟩
  refine W_of_N ok1033.small hmix ?_
  by_cases hil : i < l.length
  · have hil' : (i : Int) < l.length := by omega
    have i0 : (0 : Int) ≤ i := by omega
    obtain ⟨y, hgi⟩ : ∃ y, l[i]? = some y := ⟨_, List.getElem?_eq_getElem hil⟩
    have w1 : IntKind.i64.wrap ((i : Int) + 1) = ((i + 1 : Nat) : Int) := by rw [wrI64 (by omega) (by omega)]; omega
    cases ht : (s.toList == y.toList) with
    | true =>
      have ht' : eqB s y = true := by unfold eqB; rw [beq_iff_eq] at ht ⊢; exact ht.symm
      simp only [OI, ↓reduceIte, reduceCtorEq, Nat.reduceAdd, Nat.reduceEqDiff, Nat.reduceBEq, Nat.reduceLT, Nat.reduceLeDiff, Nat.reduceMul, Nat.reduceSub, Int.reduceLE, Int.reduceLT, Int.reduceEq, Int.reduceBEq, Int.reduceBNe, Int.reduceToNat, Int.reduceNeg, Nat.reduceBNe, st1033, nmA, i64A, hil', i0, hgi, w1, ht]
      rw [idxP_at hgi ht' hall] at h
      exact h
    | false =>
      have ht' : eqB s y = false := by unfold eqB; rw [beq_eq_false_iff_ne] at ht ⊢; exact fun e => ht e.symm
      simp only [OI, ↓reduceIte, reduceCtorEq, Nat.reduceAdd, Nat.reduceEqDiff, Nat.reduceBEq, Nat.reduceLT, Nat.reduceLeDiff, Nat.reduceMul, Nat.reduceSub, Int.reduceLE, Int.reduceLT, Int.reduceEq, Int.reduceBEq, Int.reduceBNe, Int.reduceToNat, Int.reduceNeg, Nat.reduceBNe, st1033, nmA, i64A, hil', i0, hgi, w1, ht]
      refine ⟨i + 1, ⟨⟨by omega, fun j z hj hz => ?_⟩, by omega⟩, ?_⟩
      · by_cases he : j = i
        · subst he; rw [hgi] at hz; obtain rfl := Option.some.inj hz; exact ht'
        · exact hall j z (by omega) hz
      · simp only [OI, ↓reduceIte, reduceCtorEq, Nat.reduceAdd, Nat.reduceEqDiff, Nat.reduceBEq, Nat.reduceLT, Nat.reduceLeDiff, Nat.reduceMul, Nat.reduceSub, Int.reduceLE, Int.reduceLT, Int.reduceEq, Int.reduceBEq, Int.reduceBNe, Int.reduceToNat, Int.reduceNeg, Nat.reduceBNe, st1033, nmA, i64A]
  · obtain rfl : i = l.length := by omega
    simp only [OI, ↓reduceIte, reduceCtorEq, Nat.reduceAdd, Nat.reduceEqDiff, Nat.reduceBEq, Nat.reduceLT, Nat.reduceLeDiff, Nat.reduceMul, Nat.reduceSub, Int.reduceLE, Int.reduceLT, Int.reduceEq, Int.reduceBEq, Int.reduceBNe, Int.reduceToNat, Int.reduceNeg, Nat.reduceBNe, st1033, nmA, i64A, Int.lt_irrefl]
    rw [idxP_no fun j y hy => hall j y (List.getElem?_eq_some_iff.1 hy).1 hy] at h
    exact h
/-- table.find. -/
theorem c1032 (g : Gr) (s : ByteArray) (hl : g.cl.length ≤ 1000000) {Q : AV → Al → Prop} (h : Q (i64A (idxP (cns g.cl) (eqB s))) []) : ACalls Tryd.prog 75 [] [gA g, nmA s] Q := by
  refine ok1032.N hmix rfl ?_
  intro I
  have e : idxP (cns g.cl) (eqB s) = idxP g.cl (eqC s) := idxP_map (fun c : Cl => c.1) (eqB s) g.cl
  rw [e] at h
  simp only [cc1032, OI, ↓reduceIte, reduceCtorEq, Nat.reduceAdd, Nat.reduceEqDiff, Nat.reduceBEq, Nat.reduceLT, Nat.reduceLeDiff, Nat.reduceMul, Nat.reduceSub, Int.reduceLE, Int.reduceLT, Int.reduceEq, Int.reduceBEq, Int.reduceBNe, Int.reduceToNat, Int.reduceNeg, Nat.reduceBNe, gA, nmA, i64A]
  refine c1042 s g.cl hl ?_
  simp only [OI, ↓reduceIte, reduceCtorEq, Nat.reduceAdd, Nat.reduceEqDiff, Nat.reduceBEq, Nat.reduceLT, Nat.reduceLeDiff, Nat.reduceMul, Nat.reduceSub, Int.reduceLE, Int.reduceLT, Int.reduceEq, Int.reduceBEq, Int.reduceBNe, Int.reduceToNat, Int.reduceNeg, Nat.reduceBNe, i64A]
  exact h
end Go.Proofs.YthlehngbadianaaDoor.Ow
set_option maxRecDepth 100000
set_option maxHeartbeats 4000000
namespace Go.Proofs.YthlehngbadianaaDoor.Ow
open Go Go.RowKit Go.Proofs
/- (watershed/table.Plan).readRoute -/
def cc1024 : CC := (.seq (.region [⟨none, 4, (.box 1), [1], none, []⟩, ⟨none, 6, (.val (.mv (.c (.int .i64 0)))), [6], none, []⟩]) (.seq (.seq (.region [⟨none, 11, (.val (.mv (.s 2))), [], none, []⟩, ⟨none, 12, (.val (.lnl (.s 11) 1)), [11], none, []⟩, ⟨none, 13, (.val (.bin .lss (.s 12) (.c (.int .i64 3)))), [12], none, []⟩]) (.cond (.s 13) (.seq (.region [⟨none, 6, (.val (.mv (.c (.int .i64 6)))), [0, 2, 4, 13], none, []⟩]) .ret) .skip)) (.seq (.drawn (.op ⟨none, 14, (.val (.ld (.s 4) (some 4))), [], none, []⟩ (.op ⟨none, 15, (.val (.mv (.s 2))), [], none, []⟩ (.op ⟨none, 16, (.val (.ia (.s 15) (.c (.int .i64 0)) 1)), [], none, []⟩ (.op ⟨none, 17, (.val (.ld (.s 16) none)), [], none, []⟩ (.op ⟨none, 19, (.val (.ld (.s 4) (some 4))), [], none, []⟩ (.op ⟨none, 20, (.val (.mv (.s 2))), [], none, []⟩ (.op ⟨none, 21, (.val (.ia (.s 20) (.c (.int .i64 1)) 1)), [], none, []⟩ (.op ⟨none, 22, (.val (.ld (.s 21) none)), [], none, []⟩ (.alt (.op ⟨none, 18, (.callP 75 [(.s 14), (.s 17)]), [], none, []⟩ (.alt (.op ⟨none, 23, (.callP 75 [(.s 19), (.s 22)]), [], none, []⟩ (.op ⟨none, 24, (.val (.bld [(.int .i64 0), (.int .i64 0), (.slice none 0 0)] [(0, (1, (.s 18))), (1, (1, (.s 23)))])), [], none, []⟩ (.op ⟨none, 7, (.alloc (.agg #[(.int .i64 0), (.int .i64 0), (.slice none 0 0)])), [], none, []⟩ (.op ⟨none, 0, (.store 3 (.s 7) (.s 24)), [], none, []⟩ .done)))) (.op ⟨none, 7, (.alloc (.agg #[(.int .i64 0), (.int .i64 0), (.slice none 0 0)])), [], none, []⟩ (.op ⟨none, 23, (.callP 75 [(.s 19), (.s 22)]), [], none, []⟩ (.op ⟨none, 24, (.val (.bld [(.int .i64 0), (.int .i64 0), (.slice none 0 0)] [(0, (1, (.s 18))), (1, (1, (.s 23)))])), [], none, []⟩ (.op ⟨none, 0, (.store 3 (.s 7) (.s 24)), [], none, []⟩ .done)))))) (.op ⟨none, 7, (.alloc (.agg #[(.int .i64 0), (.int .i64 0), (.slice none 0 0)])), [], none, []⟩ (.op ⟨none, 18, (.callP 75 [(.s 14), (.s 17)]), [], none, []⟩ (.op ⟨none, 23, (.callP 75 [(.s 19), (.s 22)]), [], none, []⟩ (.op ⟨none, 24, (.val (.bld [(.int .i64 0), (.int .i64 0), (.slice none 0 0)] [(0, (1, (.s 18))), (1, (1, (.s 23)))])), [], none, []⟩ (.op ⟨none, 0, (.store 3 (.s 7) (.s 24)), [], none, []⟩ .done))))))))))))))) (.seq (.block 0 (.seq (.region [⟨none, 26, (.val (.fa (.s 7) 0)), [4, 13, 14, 15, 16, 17, 18, 19, 20, 21, 22, 23, 24], none, []⟩, ⟨none, 27, (.val (.ld (.s 26) none)), [26], none, []⟩, ⟨none, 28, (.val (.bin .lss (.s 27) (.c (.int .i64 0)))), [27], none, []⟩, ⟨none, 29, (.val (.mv (.s 28))), [28], none, []⟩, ⟨(some (29, false)), 30, (.val (.fa (.s 7) 1)), [], none, []⟩, ⟨(some (29, false)), 31, (.val (.ld (.s 30) none)), [30], none, []⟩, ⟨(some (29, false)), 32, (.val (.bin .lss (.s 31) (.c (.int .i64 0)))), [31], none, []⟩, ⟨none, 33, (.val (.pick (.s 29) (.c (.bool true)) (.s 32))), [29, 32], none, []⟩, ⟨none, 25, (.val (.mv (.s 33))), [33], none, []⟩]) (.cond (.s 25) (.seq (.region [⟨none, 6, (.val (.mv (.c (.int .i64 3)))), [0, 2, 7, 25], none, []⟩]) .ret) (.seq (.region [⟨none, 35, (.val (.mv (.s 2))), [25], none, []⟩, ⟨none, 36, (.val (.ia (.s 35) (.c (.int .i64 2)) 1)), [35], none, []⟩, ⟨none, 37, (.val (.ld (.s 36) none)), [36], none, []⟩, ⟨none, 38, (.val (.bin .neq (.s 37) (.c (.string ⟨#[118, 105, 97]⟩)))), [37], none, []⟩, ⟨none, 34, (.val (.mv (.s 38))), [38], none, []⟩]) (.cond (.s 34) (.seq (.region [⟨none, 6, (.val (.mv (.c (.int .i64 6)))), [0, 2, 7, 34], none, []⟩]) .ret) .skip))))) (.seq (.seq (.region [⟨none, 39, (.val (.mv (.s 2))), [2, 34], none, []⟩, ⟨none, 40, (.val (.sl (.s 39) (some (.c (.int .i64 3))) none none 1)), [39], none, []⟩, ⟨none, 41, (.val (.lnl (.s 40) 1)), [], none, []⟩, ⟨none, 42, (.val (.mv (.c (.int .i64 0)))), [], none, []⟩]) (.block 1 (.loop (.seq (.region [⟨none, 43, (.val (.bin .lss (.s 42) (.s 41))), [], none, []⟩]) (.seq (.cond (.s 43) .skip (.exit 1)) (.seq (.block 2 (.seq (.region [⟨none, 44, (.val (.ia (.s 40) (.s 42) 1)), [43], none, []⟩, ⟨none, 45, (.val (.ld (.s 44) none)), [44], none, []⟩, ⟨none, 9, (.val (.mv (.s 45))), [45], none, []⟩]) (.seq (.region [⟨none, 46, (.val (.mv (.s 0))), [], none, []⟩, ⟨none, 47, (.val (.nc (.s 46))), [46], none, []⟩, ⟨none, 48, (.val (.fa (.s 47) 0)), [47], none, []⟩, ⟨none, 49, (.val (.ld (.s 48) none)), [48], none, []⟩, ⟨none, 50, (.val (.mv (.s 9))), [9], none, []⟩, ⟨none, 51, (.call 76 [(.s 49), (.s 50)]), [49, 50], none, []⟩, ⟨none, 10, (.val (.mv (.s 51))), [51], none, []⟩]) (.seq (.seq (.region [⟨none, 52, (.val (.mv (.s 10))), [], none, []⟩, ⟨none, 53, (.val (.bin .lss (.s 52) (.c (.int .i64 0)))), [52], none, []⟩]) (.cond (.s 53) (.seq (.region [⟨none, 6, (.val (.mv (.c (.int .i64 3)))), [0, 7, 10, 40, 41, 42, 53], none, []⟩]) .ret) .skip)) (.region [⟨none, 54, (.val (.fa (.s 7) 2)), [53], none, []⟩, ⟨none, 55, (.val (.ld (.s 54) none)), [54], none, []⟩, ⟨none, 56, (.val (.mv (.s 10))), [10], none, []⟩, ⟨none, 57, (.lit 1 [(.s 56)]), [56], none, []⟩, ⟨none, 58, (.app 1 8 false (.s 55) (.s 57)), [55, 57], none, []⟩, ⟨none, 59, (.val (.fa (.s 7) 2)), [], none, []⟩, ⟨none, 0, (.store 1 (.s 59) (.s 58)), [58, 59], none, []⟩]))))) (.region [⟨none, 60, (.val (.bin .add (.s 42) (.c (.int .i64 1)))), [42], none, []⟩, ⟨none, 42, (.val (.mv (.s 60))), [60], none, []⟩]))))))) (.seq (.region [⟨none, 61, (.val (.mv (.s 0))), [40, 41, 42, 43], none, []⟩, ⟨none, 62, (.val (.mv (.s 0))), [0], none, []⟩, ⟨none, 63, (.val (.nc (.s 62))), [62], none, []⟩, ⟨none, 64, (.val (.fa (.s 63) 1)), [63], none, []⟩, ⟨none, 65, (.val (.ld (.s 64) none)), [64], none, []⟩, ⟨none, 66, (.val (.ld (.s 7) (some 3))), [7], none, []⟩, ⟨none, 67, (.lit 3 [(.s 66)]), [66], none, [66]⟩, ⟨none, 68, (.app 3 40 false (.s 65) (.s 67)), [65, 67], none, []⟩, ⟨none, 69, (.val (.nc (.s 61))), [61], none, []⟩, ⟨none, 70, (.val (.fa (.s 69) 1)), [69], none, []⟩, ⟨none, 0, (.store 1 (.s 70) (.s 68)), [68, 70], none, []⟩]) (.seq (.region [⟨none, 6, (.val (.mv (.c (.int .i64 0)))), [], none, []⟩]) .ret)))))))
theorem ok1024 : FnOk Tryd.prog 48 cc1024 [(.t 6)] 3 71 := ⟨⟨_, Tryd.func48, by kernel_rfl, by kernel_rfl, by kernel_rfl⟩, by decide, by decide⟩
def plO (p : Pn) : AV := .agg [.own 1 (p.re.map nmA), .own 3 (p.rt.map rtA)]
def findN (g : Gr) (s : ByteArray) : Int := idxP (cns g.cl) (eqB s)
/-- The relays that words name. -/
def viaR (re : List ByteArray) : List ByteArray → List Int → Int × List Int
  | [], acc => (0, acc)
  | n :: ns, acc => if idxP re (eqB n) < 0 then (3, acc) else viaR re ns (acc ++ [idxP re (eqB n)])
/-- A route's words, laid into a plan. -/
def rrM (p : Pn) (g : Gr) : List ByteArray → Int × Pn
  | a :: b :: c :: r => if findN g a < 0 ∨ findN g b < 0 then (3, p) else if (c.toList == (⟨#[118, 105, 97]⟩ : ByteArray).toList) = false then (6, p) else if (viaR p.re r []).1 ≠ 0 then (3, p) else (0, ⟨p.re, p.rt ++ [⟨findN g a, findN g b, (viaR p.re r []).2⟩]⟩)
  | _ => (6, p)
def st1024a (I : World → Fp → Value → Fp → Prop) (p : Pn) (w : List ByteArray) (f t : Int) : St :=
  ⟨[(7, .ref ⟨1007, [], 0⟩), (2, .lst 1 (w.map nmA)), (0, .ref ⟨0, [], 0⟩)], [(1007, .agg [.v (.int .i64 f), .v (.int .i64 t), .v (.slice none 0 0)]), (0, plO p), (9999, .ext I)], []⟩
def st1024 (I : World → Fp → Value → Fp → Prop) (p : Pn) (r : List ByteArray) (f t : Int) : List Int × Nat → St
  | (acc, i) => ⟨[(42, .v (.int .i64 i)), (41, .v (.int .i64 r.length)), (40, .lst 1 (r.map nmA)), (7, .ref ⟨1007, [], 0⟩), (0, .ref ⟨0, [], 0⟩)], [(1007, .agg [.v (.int .i64 f), .v (.int .i64 t), .own 1 (acc.map i64A)]), (0, plO p), (9999, .ext I)], []⟩
theorem c1024 (p : Pn) (g : Gr) (w : List ByteArray) (hg : g.cl.length ≤ 100000) (hw : w.length ≤ 100000) (hre : p.re.length ≤ 100000) (hrt : p.rt.length ≤ 100000) {Q : AV → Al → Prop} (h : Q (i64A (rrM p g w).1) [(0, plO (rrM p g w).2)]) : ACalls Tryd.prog 48 [(0, plO p)] [.ref ⟨0, [], 0⟩, gA g, .lst 1 (w.map nmA)] Q := by
  refine ok1024.N hmix rfl ?_
  intro I
  by_cases h3 : (w.length : Int) < 3
  · have e : rrM p g w = (6, p) := by
      match w, h3 with
      | [], _ => rfl
      | [_], _ => rfl
      | [_, _], _ => rfl
      | _ :: _ :: _ :: r, h3 => simp only [List.length_cons] at h3; omega
    rw [e] at h
    simp only [cc1024, OI, ↓reduceIte, reduceCtorEq, Nat.reduceAdd, Nat.reduceEqDiff, Nat.reduceBEq, Nat.reduceLT, Nat.reduceLeDiff, Nat.reduceMul, Nat.reduceSub, Int.reduceLE, Int.reduceLT, Int.reduceEq, Int.reduceBEq, Int.reduceBNe, Int.reduceToNat, Int.reduceNeg, Nat.reduceBNe, gA, plO, i64A, h3]
    exact h
  match w, h3, hw, h with
  | [], h3, hw, h => simp at h3
  | [_], h3, hw, h => simp at h3
  | [_, _], h3, hw, h => simp at h3
  | a :: b :: c :: r, h3, hw, h =>
    have h3' : ¬ ((r.length + 1 + 1 + 1 : Nat) : Int) < 3 := by omega
    have l0 : (0 : Int) < ((r.length + 1 + 1 + 1 : Nat) : Int) := by omega
    have l1 : (1 : Int) < ((r.length + 1 + 1 + 1 : Nat) : Int) := by omega
    have l2 : (2 : Int) < ((r.length + 1 + 1 + 1 : Nat) : Int) := by omega
    have hrl : r.length ≤ 100000 := by simp only [List.length_cons] at hw; omega
    simp only [cc1024, OI, ↓reduceIte, reduceCtorEq, Nat.reduceAdd, Nat.reduceEqDiff, Nat.reduceBEq, Nat.reduceLT, Nat.reduceLeDiff, Nat.reduceMul, Nat.reduceSub, Int.reduceLE, Int.reduceLT, Int.reduceEq, Int.reduceBEq, Int.reduceBNe, Int.reduceToNat, Int.reduceNeg, Nat.reduceBNe, gA, plO, i64A, h3', nmA, l0, l1, l2]
    refine W_drawnCut ok1024.small hmix (fun _ : Unit => st1024a I p (a :: b :: c :: r) (findN g a) (findN g b)) (fun _ => True) (fun _ _ => rfl) ?_ ?_
    · apply NT_sound
      simp only [OI, ↓reduceIte, reduceCtorEq, Nat.reduceAdd, Nat.reduceEqDiff, Nat.reduceBEq, Nat.reduceLT, Nat.reduceLeDiff, Nat.reduceMul, Nat.reduceSub, Int.reduceLE, Int.reduceLT, Int.reduceEq, Int.reduceBEq, Int.reduceBNe, Int.reduceToNat, Int.reduceNeg, Nat.reduceBNe, gA, plO, i64A, nmA, l0, l1, l2]
      repeat' first
        | apply And.intro
        | (refine c1032 g a (by omega) ?_; simp only [OI, ↓reduceIte, reduceCtorEq, Nat.reduceAdd, Nat.reduceEqDiff, Nat.reduceBEq, Nat.reduceLT, Nat.reduceLeDiff, Nat.reduceMul, Nat.reduceSub, Int.reduceLE, Int.reduceLT, Int.reduceEq, Int.reduceBEq, Int.reduceBNe, Int.reduceToNat, Int.reduceNeg, Nat.reduceBNe, gA, plO, i64A, nmA, l0, l1, l2])
        | (refine c1032 g b (by omega) ?_; simp only [OI, ↓reduceIte, reduceCtorEq, Nat.reduceAdd, Nat.reduceEqDiff, Nat.reduceBEq, Nat.reduceLT, Nat.reduceLeDiff, Nat.reduceMul, Nat.reduceSub, Int.reduceLE, Int.reduceLT, Int.reduceEq, Int.reduceBEq, Int.reduceBNe, Int.reduceToNat, Int.reduceNeg, Nat.reduceBNe, gA, plO, i64A, nmA, l0, l1, l2])
      all_goals
        refine W_of_N ok1024.small hmix ?_
        simp only [OI, ↓reduceIte, reduceCtorEq, Nat.reduceAdd, Nat.reduceEqDiff, Nat.reduceBEq, Nat.reduceLT, Nat.reduceLeDiff, Nat.reduceMul, Nat.reduceSub, Int.reduceLE, Int.reduceLT, Int.reduceEq, Int.reduceBEq, Int.reduceBNe, Int.reduceToNat, Int.reduceNeg, Nat.reduceBNe]
        refine ⟨(), trivial, ?_⟩
        simp only [OI, ↓reduceIte, reduceCtorEq, Nat.reduceAdd, Nat.reduceEqDiff, Nat.reduceBEq, Nat.reduceLT, Nat.reduceLeDiff, Nat.reduceMul, Nat.reduceSub, Int.reduceLE, Int.reduceLT, Int.reduceEq, Int.reduceBEq, Int.reduceBNe, Int.reduceToNat, Int.reduceNeg, Nat.reduceBNe, st1024a, plO, i64A, nmA, findN]
        try rfl
    intro _ _
    rw [rrM] at h
    generalize findN g a = f at h
    generalize findN g b = t at h
    refine W_nilT 1007 [.v (.int .i64 f), .v (.int .i64 t), .own 1 []] rfl (.same (.same (.own (by decide) .nil))) ?_
    refine W_of_N ok1024.small hmix ?_
    by_cases f0 : f < 0
    · rw [if_pos (.inl f0)] at h
      simp only [OI, ↓reduceIte, reduceCtorEq, Nat.reduceAdd, Nat.reduceEqDiff, Nat.reduceBEq, Nat.reduceLT, Nat.reduceLeDiff, Nat.reduceMul, Nat.reduceSub, Int.reduceLE, Int.reduceLT, Int.reduceEq, Int.reduceBEq, Int.reduceBNe, Int.reduceToNat, Int.reduceNeg, Nat.reduceBNe, st1024a, plO, i64A, nmA, f0]
      exact h
    by_cases t0 : t < 0
    · rw [if_pos (.inr t0)] at h
      simp only [OI, ↓reduceIte, reduceCtorEq, Nat.reduceAdd, Nat.reduceEqDiff, Nat.reduceBEq, Nat.reduceLT, Nat.reduceLeDiff, Nat.reduceMul, Nat.reduceSub, Int.reduceLE, Int.reduceLT, Int.reduceEq, Int.reduceBEq, Int.reduceBNe, Int.reduceToNat, Int.reduceNeg, Nat.reduceBNe, st1024a, plO, i64A, nmA, f0, t0]
      exact h
    rw [if_neg (by omega)] at h
    cases hv : (c.toList == (⟨#[118, 105, 97]⟩ : ByteArray).toList) with
    | false =>
      rw [if_pos hv] at h
      simp only [OI, ↓reduceIte, reduceCtorEq, Nat.reduceAdd, Nat.reduceEqDiff, Nat.reduceBEq, Nat.reduceLT, Nat.reduceLeDiff, Nat.reduceMul, Nat.reduceSub, Int.reduceLE, Int.reduceLT, Int.reduceEq, Int.reduceBEq, Int.reduceBNe, Int.reduceToNat, Int.reduceNeg, Nat.reduceBNe, st1024a, plO, i64A, nmA, f0, t0, l2, hv]
      exact h
    | true =>
      rw [if_neg (by rw [hv]; simp)] at h
      have htk : List.take (r.length + 1 + 1 + 1 - 3) (List.map nmA r) = List.map nmA r := List.take_of_length_le (by simp)
      have l3 : (3 : Int) ≤ ((r.length + 1 + 1 + 1 : Nat) : Int) := by omega
      simp only [OI, ↓reduceIte, reduceCtorEq, Nat.reduceAdd, Nat.reduceEqDiff, Nat.reduceBEq, Nat.reduceLT, Nat.reduceLeDiff, Nat.reduceMul, Nat.reduceSub, Int.reduceLE, Int.reduceLT, Int.reduceEq, Int.reduceBEq, Int.reduceBNe, Int.reduceToNat, Int.reduceNeg, Nat.reduceBNe, st1024a, plO, i64A, nmA, f0, t0, l2, hv, htk, l3]
      refine W_loop (st1024 I p r f t) (fun x => x.2 ≤ r.length ∧ x.1.length = x.2 ∧ viaR p.re r [] = viaR p.re (r.drop x.2) x.1) (fun x => r.length - x.2) (fun _ _ => rfl) ⟨([], 0), ⟨by simp, rfl, by simp⟩, ?_⟩ ?_
      · simp only [OI, ↓reduceIte, reduceCtorEq, Nat.reduceAdd, Nat.reduceEqDiff, Nat.reduceBEq, Nat.reduceLT, Nat.reduceLeDiff, Nat.reduceMul, Nat.reduceSub, Int.reduceLE, Int.reduceLT, Int.reduceEq, Int.reduceBEq, Int.reduceBNe, Int.reduceToNat, Int.reduceNeg, Nat.reduceBNe, st1024, plO, i64A, nmA]
        try rfl
      rintro ⟨acc, i⟩ ⟨hi, hal, hvi⟩
      simp only at hi hal hvi
      refine W_of_N ok1024.small hmix ?_
      have t1 : List.map frz (List.take p.re.length (List.map nmA p.re)) = List.map nmA p.re := fz_map nmA (fun _ => rfl) rfl
      by_cases hil : i < r.length
      · have hil' : (i : Int) < r.length := by omega
        have i0 : (0 : Int) ≤ i := by omega
        obtain ⟨s, hgi⟩ : ∃ s, r[i]? = some s := ⟨_, List.getElem?_eq_getElem hil⟩
        have w1 : IntKind.i64.wrap ((i : Int) + 1) = ((i + 1 : Nat) : Int) := by rw [wrI64 (by omega) (by omega)]; omega
        rw [drop_cons' hgi, viaR] at hvi
        simp only [OI, ↓reduceIte, reduceCtorEq, Nat.reduceAdd, Nat.reduceEqDiff, Nat.reduceBEq, Nat.reduceLT, Nat.reduceLeDiff, Nat.reduceMul, Nat.reduceSub, Int.reduceLE, Int.reduceLT, Int.reduceEq, Int.reduceBEq, Int.reduceBNe, Int.reduceToNat, Int.reduceNeg, Nat.reduceBNe, st1024, plO, i64A, nmA, hil', i0, hgi, t1]
        refine c1033 p.re s (by omega) ?_
        by_cases k0 : idxP p.re (eqB s) < 0
        · rw [if_pos k0] at hvi
          rw [hvi, if_pos (by simp)] at h
          simp only [OI, ↓reduceIte, reduceCtorEq, Nat.reduceAdd, Nat.reduceEqDiff, Nat.reduceBEq, Nat.reduceLT, Nat.reduceLeDiff, Nat.reduceMul, Nat.reduceSub, Int.reduceLE, Int.reduceLT, Int.reduceEq, Int.reduceBEq, Int.reduceBNe, Int.reduceToNat, Int.reduceNeg, Nat.reduceBNe, plO, i64A, nmA, k0]
          exact h
        · rw [if_neg k0] at hvi
          simp only [OI, ↓reduceIte, reduceCtorEq, Nat.reduceAdd, Nat.reduceEqDiff, Nat.reduceBEq, Nat.reduceLT, Nat.reduceLeDiff, Nat.reduceMul, Nat.reduceSub, Int.reduceLE, Int.reduceLT, Int.reduceEq, Int.reduceBEq, Int.reduceBNe, Int.reduceToNat, Int.reduceNeg, Nat.reduceBNe, plO, i64A, nmA, k0, w1, hal]
          refine ⟨⟨by omega, by omega⟩, ?_⟩
          refine ⟨(acc ++ [idxP p.re (eqB s)], i + 1), ⟨⟨by simp only; omega, by simp [hal], hvi⟩, by simp only; omega⟩, ?_⟩
          simp only [OI, ↓reduceIte, reduceCtorEq, Nat.reduceAdd, Nat.reduceEqDiff, Nat.reduceBEq, Nat.reduceLT, Nat.reduceLeDiff, Nat.reduceMul, Nat.reduceSub, Int.reduceLE, Int.reduceLT, Int.reduceEq, Int.reduceBEq, Int.reduceBNe, Int.reduceToNat, Int.reduceNeg, Nat.reduceBNe, st1024, plO, i64A, nmA, List.map_append, List.map_cons, List.map_nil]
          exact List.take_of_length_le (by simp [hal])
      · obtain rfl : i = r.length := by omega
        rw [List.drop_length, viaR] at hvi
        rw [hvi, if_neg (by simp)] at h
        have t2 : List.map frz (List.take acc.length (List.map i64A acc)) = List.map i64A acc := fz_map i64A (fun _ => rfl) rfl
        simp only [OI, ↓reduceIte, reduceCtorEq, Nat.reduceAdd, Nat.reduceEqDiff, Nat.reduceBEq, Nat.reduceLT, Nat.reduceLeDiff, Nat.reduceMul, Nat.reduceSub, Int.reduceLE, Int.reduceLT, Int.reduceEq, Int.reduceBEq, Int.reduceBNe, Int.reduceToNat, Int.reduceNeg, Nat.reduceBNe, N_fzG, st1024, plO, i64A, nmA, Int.lt_irrefl, t2]
        refine ⟨⟨by omega, by omega⟩, ?_⟩
        have e1 : List.map rtA p.rt ++ [AV.agg [.v (.int .i64 f), .v (.int .i64 t), .lst 1 (List.map i64A acc)]] = List.map rtA (p.rt ++ [⟨f, t, acc⟩]) := by rw [List.map_append]; rfl
        have e2 : p.rt.length + 1 = (List.map rtA (p.rt ++ [⟨f, t, acc⟩])).length := by simp
        rw [e1, e2, List.take_length]
        exact h
end Go.Proofs.YthlehngbadianaaDoor.Ow
set_option maxRecDepth 100000
set_option maxHeartbeats 4000000
namespace Go.Proofs.YthlehngbadianaaDoor.Ow
open Go Go.RowKit Go.Proofs
/- (watershed/table.Plan).line -/
def cc1014 : CC := (.seq (.region [⟨none, 4, (.box 1), [1], none, []⟩, ⟨none, 6, (.val (.mv (.c (.int .i64 0)))), [6], none, []⟩]) (.seq (.block 0 (.seq (.region [⟨none, 8, (.val (.mv (.s 2))), [], none, []⟩, ⟨none, 9, (.val (.ia (.s 8) (.c (.int .i64 0)) 1)), [8], none, []⟩, ⟨none, 10, (.val (.ld (.s 9) none)), [9], none, []⟩, ⟨none, 11, (.val (.bin .eql (.s 10) (.c (.string ⟨#[114, 111, 117, 116, 101]⟩)))), [10], none, []⟩, ⟨none, 7, (.val (.mv (.s 11))), [11], none, []⟩]) (.cond (.s 7) (.seq (.region [⟨none, 12, (.val (.mv (.s 0))), [0, 7], none, []⟩, ⟨none, 13, (.val (.ld (.s 4) (some 4))), [4], none, []⟩, ⟨none, 14, (.val (.mv (.s 2))), [2], none, []⟩, ⟨none, 15, (.val (.sl (.s 14) (some (.c (.int .i64 1))) none none 1)), [14], none, []⟩, ⟨none, 16, (.call 48 [(.s 12), (.s 13), (.s 15)]), [12, 13, 15], (some 0), []⟩, ⟨none, 6, (.val (.mv (.s 16))), [16], none, []⟩]) .ret) (.seq (.region [⟨none, 18, (.val (.mv (.s 2))), [4, 7], none, []⟩, ⟨none, 19, (.val (.ia (.s 18) (.c (.int .i64 0)) 1)), [18], none, []⟩, ⟨none, 20, (.val (.ld (.s 19) none)), [19], none, []⟩, ⟨none, 21, (.val (.bin .neq (.s 20) (.c (.string ⟨#[114, 101, 108, 97, 121]⟩)))), [20], none, []⟩, ⟨none, 17, (.val (.mv (.s 21))), [21], none, []⟩]) (.cond (.s 17) (.seq (.region [⟨none, 6, (.val (.mv (.c (.int .i64 70)))), [0, 2, 17], none, []⟩]) .ret) (.seq (.region [⟨none, 23, (.val (.mv (.s 2))), [17], none, []⟩, ⟨none, 24, (.val (.lnl (.s 23) 1)), [23], none, []⟩, ⟨none, 25, (.val (.bin .neq (.s 24) (.c (.int .i64 2)))), [24], none, []⟩, ⟨none, 22, (.val (.mv (.s 25))), [25], none, []⟩]) (.cond (.s 22) (.seq (.region [⟨none, 6, (.val (.mv (.c (.int .i64 6)))), [0, 2, 22], none, []⟩]) .ret) .skip))))))) (.seq (.region [⟨none, 26, (.val (.mv (.s 0))), [22], none, []⟩, ⟨none, 27, (.val (.mv (.s 0))), [0], none, []⟩, ⟨none, 28, (.val (.nc (.s 27))), [27], none, []⟩, ⟨none, 29, (.val (.fa (.s 28) 0)), [28], none, []⟩, ⟨none, 30, (.val (.ld (.s 29) none)), [29], none, []⟩, ⟨none, 31, (.val (.mv (.s 2))), [2], none, []⟩, ⟨none, 32, (.val (.ia (.s 31) (.c (.int .i64 1)) 1)), [31], none, []⟩, ⟨none, 33, (.val (.ld (.s 32) none)), [32], none, []⟩, ⟨none, 34, (.lit 1 [(.s 33)]), [33], none, []⟩, ⟨none, 35, (.app 1 16 false (.s 30) (.s 34)), [30, 34], none, []⟩, ⟨none, 36, (.val (.nc (.s 26))), [26], none, []⟩, ⟨none, 37, (.val (.fa (.s 36) 0)), [36], none, []⟩, ⟨none, 0, (.store 1 (.s 37) (.s 35)), [35, 37], none, []⟩]) (.seq (.region [⟨none, 6, (.val (.mv (.c (.int .i64 0)))), [], none, []⟩]) .ret))))
theorem ok1014 : FnOk Tryd.prog 26 cc1014 [(.t 6)] 3 38 := ⟨⟨_, Tryd.func26, by kernel_rfl, by kernel_rfl, by kernel_rfl⟩, by decide, by decide⟩
def relM (p : Pn) : List ByteArray → Int × Pn
  | [n] => (0, ⟨p.re ++ [n], p.rt⟩)
  | _ => (6, p)
/-- A line's words, laid into a plan. -/
def lineM (p : Pn) (g : Gr) : List ByteArray → Int × Pn
  | [] => (0, p)
  | k :: w => if (k.toList == (⟨#[114, 111, 117, 116, 101]⟩ : ByteArray).toList) = true then rrM p g w else if (k.toList == (⟨#[114, 101, 108, 97, 121]⟩ : ByteArray).toList) = false then (70, p) else relM p w
theorem c1014 (p : Pn) (g : Gr) (k : ByteArray) (w : List ByteArray) (hg : g.cl.length ≤ 100000) (hw : w.length ≤ 99999) (hre : p.re.length ≤ 100000) (hrt : p.rt.length ≤ 100000) {Q : AV → Al → Prop} (h : Q (i64A (lineM p g (k :: w)).1) [(0, plO (lineM p g (k :: w)).2)]) : ACalls Tryd.prog 26 [(0, plO p)] [.ref ⟨0, [], 0⟩, gA g, .lst 1 ((k :: w).map nmA)] Q := by
  refine ok1014.N hmix rfl ?_
  intro I
  have l0 : (0 : Int) < ((w.length + 1 : Nat) : Int) := by omega
  have l1 : (1 : Int) ≤ ((w.length + 1 : Nat) : Int) := by omega
  rw [lineM] at h
  cases hr : (k.toList == (⟨#[114, 111, 117, 116, 101]⟩ : ByteArray).toList) with
  | true =>
    rw [if_pos hr] at h
    have htk : List.take (w.length + 1 - 1) (List.map nmA w) = List.map nmA w := List.take_of_length_le (by simp)
    simp only [cc1014, OI, ↓reduceIte, reduceCtorEq, Nat.reduceAdd, Nat.reduceEqDiff, Nat.reduceBEq, Nat.reduceLT, Nat.reduceLeDiff, Nat.reduceMul, Nat.reduceSub, Int.reduceLE, Int.reduceLT, Int.reduceEq, Int.reduceBEq, Int.reduceBNe, Int.reduceToNat, Int.reduceNeg, Nat.reduceBNe, gA, plO, i64A, nmA, l0, l1, hr, htk]
    refine c1024 p g w hg (by omega) hre hrt ?_
    simp only [OI, ↓reduceIte, reduceCtorEq, Nat.reduceAdd, Nat.reduceEqDiff, Nat.reduceBEq, Nat.reduceLT, Nat.reduceLeDiff, Nat.reduceMul, Nat.reduceSub, Int.reduceLE, Int.reduceLT, Int.reduceEq, Int.reduceBEq, Int.reduceBNe, Int.reduceToNat, Int.reduceNeg, Nat.reduceBNe, plO, i64A]
    exact h
  | false =>
    rw [if_neg (by rw [hr]; simp)] at h
    cases hl : (k.toList == (⟨#[114, 101, 108, 97, 121]⟩ : ByteArray).toList) with
    | false =>
      rw [if_pos hl] at h
      simp only [cc1014, OI, ↓reduceIte, reduceCtorEq, Nat.reduceAdd, Nat.reduceEqDiff, Nat.reduceBEq, Nat.reduceLT, Nat.reduceLeDiff, Nat.reduceMul, Nat.reduceSub, Int.reduceLE, Int.reduceLT, Int.reduceEq, Int.reduceBEq, Int.reduceBNe, Int.reduceToNat, Int.reduceNeg, Nat.reduceBNe, gA, plO, i64A, nmA, l0, l1, hr, hl]
      exact h
    | true =>
      rw [if_neg (by rw [hl]; simp)] at h
      match w, h, hw, l0, l1 with
      | [], h, hw, l0, l1 =>
        simp only [cc1014, OI, ↓reduceIte, reduceCtorEq, Nat.reduceAdd, Nat.reduceEqDiff, Nat.reduceBEq, Nat.reduceLT, Nat.reduceLeDiff, Nat.reduceMul, Nat.reduceSub, Int.reduceLE, Int.reduceLT, Int.reduceEq, Int.reduceBEq, Int.reduceBNe, Int.reduceToNat, Int.reduceNeg, Nat.reduceBNe, gA, plO, i64A, nmA, l0, l1, hr, hl]
        exact h
      | [n], h, hw, l0, l1 =>
        simp only [cc1014, OI, ↓reduceIte, reduceCtorEq, Nat.reduceAdd, Nat.reduceEqDiff, Nat.reduceBEq, Nat.reduceLT, Nat.reduceLeDiff, Nat.reduceMul, Nat.reduceSub, Int.reduceLE, Int.reduceLT, Int.reduceEq, Int.reduceBEq, Int.reduceBNe, Int.reduceToNat, Int.reduceNeg, Nat.reduceBNe, gA, plO, i64A, nmA, l0, l1, hr, hl]
        refine ⟨⟨by omega, by omega⟩, ?_⟩
        have e1 : List.map nmA p.re ++ [AV.v (.string n)] = List.map nmA (p.re ++ [n]) := by rw [List.map_append]; rfl
        have e2 : p.re.length + 1 = (List.map nmA (p.re ++ [n])).length := by simp
        rw [e1, e2, List.take_length]
        exact h
      | a :: b :: r, h, hw, l0, l1 =>
        have l00 : (0 : Int) < ((r.length + 1 + 1 + 1 : Nat) : Int) := by omega
        have ne : (((r.length + 1 + 1 + 1 : Nat) : Int) != 2) = true := by rw [bne_iff_ne]; omega
        simp only [cc1014, OI, ↓reduceIte, reduceCtorEq, Nat.reduceAdd, Nat.reduceEqDiff, Nat.reduceBEq, Nat.reduceLT, Nat.reduceLeDiff, Nat.reduceMul, Nat.reduceSub, Int.reduceLE, Int.reduceLT, Int.reduceEq, Int.reduceBEq, Int.reduceBNe, Int.reduceToNat, Int.reduceNeg, Nat.reduceBNe, gA, plO, i64A, nmA, l0, l1, hr, hl, ne, l00]
        exact h
end Go.Proofs.YthlehngbadianaaDoor.Ow
