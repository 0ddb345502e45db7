/- What the functions of the program do, each once: contracts of the logic (part k3). -/
import Derived.Test.YthlehngbadianaaTk2
import Derived.Test.YthlehngbadianaaTg8
set_option linter.unusedVariables false
set_option linter.unusedSimpArgs false
set_option linter.unnecessarySimpa false
set_option maxRecDepth 100000
set_option maxHeartbeats 4000000
namespace Go.Proofs.Ythlehngbadianaa.Ow
open Go Go.RowKit Go.Proofs
/- (watershed/graph.Graph).opRow -/
def cc151 : CC := (.seq (.region [⟨none, 2, (.box 0), [0], none, []⟩, ⟨none, 3, (.box 1), [1], none, []⟩, ⟨none, 4, (.val (.mv (.c (.string ⟨#[]⟩)))), [4], none, []⟩]) (.seq (.region [⟨none, 10, (.val (.fa (.s 3) 1)), [], none, []⟩, ⟨none, 11, (.val (.ld (.s 10) none)), [10], none, []⟩, ⟨none, 12, (.callP 199 [(.s 11)]), [11], none, []⟩, ⟨none, 9, (.val (.mv (.s 12))), [12], none, []⟩, ⟨none, 13, (.val (.ext (.s 9) 0)), [], none, []⟩, ⟨none, 14, (.val (.ext (.s 9) 1)), [9], none, []⟩, ⟨none, 5, (.alloc (.agg #[(.string ⟨#[]⟩), (.bool false), (.bool false), (.int .i64 0)])), [], none, []⟩, ⟨none, 0, (.store 4 (.s 5) (.s 13)), [13], none, []⟩, ⟨none, 6, (.val (.mv (.s 14))), [6, 14], none, []⟩]) (.seq (.region [⟨none, 15, (.val (.fa (.s 3) 0)), [], none, []⟩, ⟨none, 16, (.val (.ld (.s 15) none)), [15], none, []⟩, ⟨none, 17, (.val (.fa (.s 5) 0)), [], none, []⟩, ⟨none, 18, (.val (.ld (.s 17) none)), [17], none, []⟩, ⟨none, 19, (.val (.ld (.s 2) (some 4))), [], none, []⟩, ⟨none, 20, (.val (.fa (.s 3) 2)), [], none, []⟩, ⟨none, 21, (.val (.ld (.s 20) none)), [20], none, []⟩, ⟨none, 24, (.val (.fa (.s 2) 0)), [2], none, []⟩, ⟨none, 25, (.val (.ld (.s 24) none)), [24], none, []⟩, ⟨none, 26, (.val (.fa (.s 3) 3)), [], none, []⟩, ⟨none, 27, (.val (.ld (.s 26) none)), [26], none, []⟩, ⟨none, 28, (.val (.ia (.s 25) (.s 27) 2)), [25, 27], none, []⟩, ⟨none, 29, (.val (.fa (.s 28) 0)), [28], none, []⟩, ⟨none, 30, (.val (.ld (.s 29) none)), [29], none, []⟩, ⟨none, 31, (.val (.bin .add (.c (.string ⟨#[97, 116, 61]⟩)) (.s 30))), [30], none, []⟩, ⟨none, 22, (.callP 150 [(.s 19), (.s 21)]), [19, 21], none, []⟩, ⟨none, 23, (.val (.bin .add (.c (.string ⟨#[105, 110, 61]⟩)) (.s 22))), [22], none, []⟩, ⟨none, 32, (.lit 1 [(.c (.string ⟨#[111, 112]⟩)), (.s 16), (.s 18), (.s 23), (.s 31)]), [16, 18, 23, 31], none, []⟩, ⟨none, 7, (.val (.mv (.s 32))), [32], none, []⟩]) (.seq (.drawn (.op ⟨none, 33, (.val (.fa (.s 3) 4)), [], none, []⟩ (.op ⟨none, 34, (.val (.ld (.s 33) none)), [], none, []⟩ (.op ⟨none, 37, (.val (.fa (.s 3) 5)), [], none, []⟩ (.op ⟨none, 38, (.val (.ld (.s 37) none)), [], none, []⟩ (.alt (.op ⟨none, 35, (.callP 198 [(.s 34)]), [], none, []⟩ (.op ⟨none, 36, (.val (.bin .add (.c (.string ⟨#[97, 61]⟩)) (.s 35))), [], none, []⟩ (.alt (.op ⟨none, 39, (.callP 198 [(.s 38)]), [], none, []⟩ (.op ⟨none, 40, (.val (.bin .add (.c (.string ⟨#[98, 61]⟩)) (.s 39))), [], none, []⟩ (.op ⟨none, 41, (.val (.bld [(.string ⟨#[]⟩), (.string ⟨#[]⟩)] [(0, (1, (.s 36))), (1, (1, (.s 40)))])), [], none, []⟩ (.op ⟨none, 8, (.alloc (.agg #[(.string ⟨#[]⟩), (.string ⟨#[]⟩)])), [], none, []⟩ (.op ⟨none, 0, (.store 2 (.s 8) (.s 41)), [], none, []⟩ .done))))) (.op ⟨none, 8, (.alloc (.agg #[(.string ⟨#[]⟩), (.string ⟨#[]⟩)])), [], none, []⟩ (.op ⟨none, 39, (.callP 198 [(.s 38)]), [], none, []⟩ (.op ⟨none, 40, (.val (.bin .add (.c (.string ⟨#[98, 61]⟩)) (.s 39))), [], none, []⟩ (.op ⟨none, 41, (.val (.bld [(.string ⟨#[]⟩), (.string ⟨#[]⟩)] [(0, (1, (.s 36))), (1, (1, (.s 40)))])), [], none, []⟩ (.op ⟨none, 0, (.store 2 (.s 8) (.s 41)), [], none, []⟩ .done)))))))) (.op ⟨none, 8, (.alloc (.agg #[(.string ⟨#[]⟩), (.string ⟨#[]⟩)])), [], none, []⟩ (.op ⟨none, 35, (.callP 198 [(.s 34)]), [], none, []⟩ (.op ⟨none, 36, (.val (.bin .add (.c (.string ⟨#[97, 61]⟩)) (.s 35))), [], none, []⟩ (.op ⟨none, 39, (.callP 198 [(.s 38)]), [], none, []⟩ (.op ⟨none, 40, (.val (.bin .add (.c (.string ⟨#[98, 61]⟩)) (.s 39))), [], none, []⟩ (.op ⟨none, 41, (.val (.bld [(.string ⟨#[]⟩), (.string ⟨#[]⟩)] [(0, (1, (.s 36))), (1, (1, (.s 40)))])), [], none, []⟩ (.op ⟨none, 0, (.store 2 (.s 8) (.s 41)), [], none, []⟩ .done))))))))))))) (.seq (.region [⟨none, 42, (.val (.mv (.s 7))), [3, 7, 33, 34, 35, 36, 37, 38, 39, 40, 41], none, []⟩, ⟨none, 43, (.val (.fa (.s 5) 3)), [5], none, []⟩, ⟨none, 44, (.val (.ld (.s 43) none)), [43], none, []⟩, ⟨none, 45, (.val (.sla (.s 8) none (some (.s 44)) none 2 1)), [8, 44], none, []⟩, ⟨none, 46, (.app 1 16 false (.s 42) (.s 45)), [42, 45], none, []⟩, ⟨none, 47, (.call 148 [(.s 46)]), [46], none, []⟩, ⟨none, 4, (.val (.mv (.s 47))), [47], none, []⟩]) .ret)))))
theorem ok151 : FnOk Try.prog 151 cc151 [(.t 4)] 2 48 := ⟨⟨_, Try.func151, by kernel_rfl, by kernel_rfl, by kernel_rfl⟩, by decide, by decide⟩


def inS (g : Gr) (o : O6) : ByteArray := (⟨#[105, 110, 61]⟩ : ByteArray) ++ lpN g o.lo
def atS (c : Cl) : ByteArray := (⟨#[97, 116, 61]⟩ : ByteArray) ++ c.1
def naS (o : O6) : ByteArray := (⟨#[97, 61]⟩ : ByteArray) ++ decB o.a
def nbS (o : O6) : ByteArray := (⟨#[98, 61]⟩ : ByteArray) ++ decB o.b
def st151b (I : World → Fp → Value → Fp → Prop) (g : Gr) (o : O6) (c : Cl) : St :=
  ⟨[(7, .sl ⟨2032, [], 0⟩ 1 0 5), (5, .ref ⟨1005, [], 0⟩), (8, .ref ⟨1008, [], 0⟩)], [(2032, .own 1 [.v (.string ⟨#[111, 112]⟩), .v (.string o.nm), .v (.string (wordOf o.k)), .v (.string (inS g o)), .v (.string (atS c))]), (1005, frmA o.k), (1008, .agg [.v (.string (naS o)), .v (.string (nbS o))]), (9999, .ext I)], []⟩
theorem c151 (g : Gr) (o : O6) (hs : Small g) (hF : OpFine g o) (ho : o.nm.size ≤ 1000) (ha : -9223372036854775808 ≤ o.a ∧ o.a < 9223372036854775808) (hb : -9223372036854775808 ≤ o.b ∧ o.b < 9223372036854775808) {Q : AV → Al → Prop} (h : Q (.v (.string ⟨(opL g o).toArray⟩)) []) : ACalls Try.prog 151 [] [gA g, opA o] Q := by
  refine ok151.N hmix rfl ?_
  intro I
  have hk : 1 ≤ o.k ∧ o.k ≤ 14 := ⟨hF.k1, hF.k2⟩
  have a0 := hF.a1
  have a1 := hF.a2
  obtain ⟨c, hgc⟩ : ∃ c, g.cl[o.at_.toNat]? = some c := ⟨_, List.getElem?_eq_getElem (by omega)⟩
  have s1 : (lpN g o.lo).size ≤ 1000 := by rw [← bs_len]; exact lpN_size hs _
  have s2 : c.1.size ≤ 1000 := hs.ncl _ _ hgc
  have f1 : (if IntKind.i64.max < (((⟨#[105, 110, 61]⟩ : ByteArray).size + (lpN g o.lo).size : Nat) : Int) then none else some (Value.string ((⟨#[105, 110, 61]⟩ : ByteArray) ++ lpN g o.lo))) = some (Value.string (inS g o)) := cat_if (by have e : (⟨#[105, 110, 61]⟩ : ByteArray).size = 3 := rfl; rw [e]; omega)
  have f2 : (if IntKind.i64.max < (((⟨#[97, 116, 61]⟩ : ByteArray).size + c.1.size : Nat) : Int) then none else some (Value.string ((⟨#[97, 116, 61]⟩ : ByteArray) ++ c.1))) = some (Value.string (atS c)) := cat_if (by have e : (⟨#[97, 116, 61]⟩ : ByteArray).size = 3 := rfl; rw [e]; omega)
  have d1 : (decB o.a).size ≤ 20 := by rw [← bs_len, bs_dec]; exact decL_len ha.1 ha.2
  have d2 : (decB o.b).size ≤ 20 := by rw [← bs_len, bs_dec]; exact decL_len hb.1 hb.2
  have f3 : (if IntKind.i64.max < (((⟨#[97, 61]⟩ : ByteArray).size + (decB o.a).size : Nat) : Int) then none else some (Value.string ((⟨#[97, 61]⟩ : ByteArray) ++ decB o.a))) = some (Value.string (naS o)) := cat_if (by have e : (⟨#[97, 61]⟩ : ByteArray).size = 2 := rfl; rw [e]; omega)
  have f4 : (if IntKind.i64.max < (((⟨#[98, 61]⟩ : ByteArray).size + (decB o.b).size : Nat) : Int) then none else some (Value.string ((⟨#[98, 61]⟩ : ByteArray) ++ decB o.b))) = some (Value.string (nbS o)) := cat_if (by have e : (⟨#[98, 61]⟩ : ByteArray).size = 2 := rfl; rw [e]; omega)
  simp only [cc151, OI0, OI1, OI2, OI3, OI4, OI5, OI6, OI7, OI8, OI9, OI10, OI11, OI12, ↓reduceIte, reduceCtorEq, Nat.reduceAdd, Nat.reduceEqDiff, Nat.reduceBEq, Nat.reduceLT, Nat.reduceLeDiff, Nat.reduceMul, Nat.reduceSub, Int.reduceLE, Int.reduceLT, Int.reduceEq, Int.reduceBEq, Int.reduceBNe, Int.reduceToNat, Int.reduceNeg, Nat.reduceBNe, forall_eq_or_imp, gA, opA, i64A]
  refine c199 o.k ?_
  rw [if_pos hk]
  simp only [OI0, OI1, OI2, OI3, OI4, OI5, OI6, OI7, OI8, OI9, OI10, OI11, OI12, ↓reduceIte, reduceCtorEq, Nat.reduceAdd, Nat.reduceEqDiff, Nat.reduceBEq, Nat.reduceLT, Nat.reduceLeDiff, Nat.reduceMul, Nat.reduceSub, Int.reduceLE, Int.reduceLT, Int.reduceEq, Int.reduceBEq, Int.reduceBNe, Int.reduceToNat, Int.reduceNeg, Nat.reduceBNe, forall_eq_or_imp, frmA, a0, a1, hgc, clA, f2]
  refine c150 g o.lo hF.l1 hF.l2 ?_
  simp only [OI0, OI1, OI2, OI3, OI4, OI5, OI6, OI7, OI8, OI9, OI10, OI11, OI12, ↓reduceIte, reduceCtorEq, Nat.reduceAdd, Nat.reduceEqDiff, Nat.reduceBEq, Nat.reduceLT, Nat.reduceLeDiff, Nat.reduceMul, Nat.reduceSub, Int.reduceLE, Int.reduceLT, Int.reduceEq, Int.reduceBEq, Int.reduceBNe, Int.reduceToNat, Int.reduceNeg, Nat.reduceBNe, forall_eq_or_imp, f1]
  refine W_drawnCut ok151.small hmix (fun _ : Unit => st151b I g o c) (fun _ => True) (fun _ _ => rfl) ?_ ?_
  · apply NT_sound
    simp only [OI0, OI1, OI2, OI3, OI4, OI5, OI6, OI7, OI8, OI9, OI10, OI11, OI12, ↓reduceIte, reduceCtorEq, Nat.reduceAdd, Nat.reduceEqDiff, Nat.reduceBEq, Nat.reduceLT, Nat.reduceLeDiff, Nat.reduceMul, Nat.reduceSub, Int.reduceLE, Int.reduceLT, Int.reduceEq, Int.reduceBEq, Int.reduceBNe, Int.reduceToNat, Int.reduceNeg, Nat.reduceBNe, forall_eq_or_imp]
    repeat' apply And.intro
    all_goals
      refine c198 o.a ha.1 ha.2 ?_
      simp only [OI0, OI1, OI2, OI3, OI4, OI5, OI6, OI7, OI8, OI9, OI10, OI11, OI12, ↓reduceIte, reduceCtorEq, Nat.reduceAdd, Nat.reduceEqDiff, Nat.reduceBEq, Nat.reduceLT, Nat.reduceLeDiff, Nat.reduceMul, Nat.reduceSub, Int.reduceLE, Int.reduceLT, Int.reduceEq, Int.reduceBEq, Int.reduceBNe, Int.reduceToNat, Int.reduceNeg, Nat.reduceBNe, forall_eq_or_imp, f3, f4]
      repeat' apply And.intro
      all_goals
        refine c198 o.b hb.1 hb.2 ?_
        simp only [OI0, OI1, OI2, OI3, OI4, OI5, OI6, OI7, OI8, OI9, OI10, OI11, OI12, ↓reduceIte, reduceCtorEq, Nat.reduceAdd, Nat.reduceEqDiff, Nat.reduceBEq, Nat.reduceLT, Nat.reduceLeDiff, Nat.reduceMul, Nat.reduceSub, Int.reduceLE, Int.reduceLT, Int.reduceEq, Int.reduceBEq, Int.reduceBNe, Int.reduceToNat, Int.reduceNeg, Nat.reduceBNe, forall_eq_or_imp, f3, f4]
        refine W_of_N ok151.small hmix ?_
        simp only [OI0, OI1, OI2, OI3, OI4, OI5, OI6, OI7, OI8, OI9, OI10, OI11, OI12, ↓reduceIte, reduceCtorEq, Nat.reduceAdd, Nat.reduceEqDiff, Nat.reduceBEq, Nat.reduceLT, Nat.reduceLeDiff, Nat.reduceMul, Nat.reduceSub, Int.reduceLE, Int.reduceLT, Int.reduceEq, Int.reduceBEq, Int.reduceBNe, Int.reduceToNat, Int.reduceNeg, Nat.reduceBNe, forall_eq_or_imp]
        refine ⟨(), trivial, ?_⟩
        simp only [OI0, OI1, OI2, OI3, OI4, OI5, OI6, OI7, OI8, OI9, OI10, OI11, OI12, ↓reduceIte, reduceCtorEq, Nat.reduceAdd, Nat.reduceEqDiff, Nat.reduceBEq, Nat.reduceLT, Nat.reduceLeDiff, Nat.reduceMul, Nat.reduceSub, Int.reduceLE, Int.reduceLT, Int.reduceEq, Int.reduceBEq, Int.reduceBNe, Int.reduceToNat, Int.reduceNeg, Nat.reduceBNe, forall_eq_or_imp, st151b, frmA]
  · intro _ _
    refine W_of_N ok151.small hmix ?_
    have hrow : rowL ([⟨#[111, 112]⟩, o.nm, wordOf o.k, inS g o, atS c] ++ nuW o) = opL g o := by
      have e : clNm g o.at_ = c.1 := by simp only [clNm, hgc]
      rw [← row_op g o, e]; rfl
    have hn : numsOf o.k = 0 ∨ numsOf o.k = 1 ∨ numsOf o.k = 2 := by
      unfold numsOf
      split
      · exact .inr (.inr rfl)
      · split
        · exact .inr (.inl rfl)
        · exact .inl rfl
    have o2 : okBounds 2 none (some 2) none = some (0, 2, 2) := rfl
    have o1 : okBounds 2 none (some 1) none = some (0, 1, 2) := rfl
    have o0 : okBounds 2 none (some 0) none = some (0, 0, 2) := rfl
    rcases hn with hn | hn | hn
    · have hw : nuW o = [] := by simp [nuW, hn, naS, nbS]
      rw [hw] at hrow
      simp only [OI0, OI1, OI2, OI3, OI4, OI5, OI6, OI7, OI8, OI9, OI10, OI11, OI12, ↓reduceIte, reduceCtorEq, Nat.reduceAdd, Nat.reduceEqDiff, Nat.reduceBEq, Nat.reduceLT, Nat.reduceLeDiff, Nat.reduceMul, Nat.reduceSub, Int.reduceLE, Int.reduceLT, Int.reduceEq, Int.reduceBEq, Int.reduceBNe, Int.reduceToNat, Int.reduceNeg, Nat.reduceBNe, forall_eq_or_imp, st151b, frmA, hn, o0]
      refine c148 [⟨#[111, 112]⟩, o.nm, wordOf o.k, inS g o, atS c] (by simp) (Nat.le_trans (Nat.le_of_eq (congrArg List.length hrow)) (Nat.le_trans (opL_len hs ho ha hb) (by omega))) ?_
      simp only [OI0, OI1, OI2, OI3, OI4, OI5, OI6, OI7, OI8, OI9, OI10, OI11, OI12, ↓reduceIte, reduceCtorEq, Nat.reduceAdd, Nat.reduceEqDiff, Nat.reduceBEq, Nat.reduceLT, Nat.reduceLeDiff, Nat.reduceMul, Nat.reduceSub, Int.reduceLE, Int.reduceLT, Int.reduceEq, Int.reduceBEq, Int.reduceBNe, Int.reduceToNat, Int.reduceNeg, Nat.reduceBNe, forall_eq_or_imp]
      rw [← hrow] at h
      exact h
    · have hw : nuW o = [naS o] := by simp [nuW, hn, naS, nbS]
      rw [hw] at hrow
      simp only [OI0, OI1, OI2, OI3, OI4, OI5, OI6, OI7, OI8, OI9, OI10, OI11, OI12, ↓reduceIte, reduceCtorEq, Nat.reduceAdd, Nat.reduceEqDiff, Nat.reduceBEq, Nat.reduceLT, Nat.reduceLeDiff, Nat.reduceMul, Nat.reduceSub, Int.reduceLE, Int.reduceLT, Int.reduceEq, Int.reduceBEq, Int.reduceBNe, Int.reduceToNat, Int.reduceNeg, Nat.reduceBNe, forall_eq_or_imp, st151b, frmA, hn, o1]
      refine c148 [⟨#[111, 112]⟩, o.nm, wordOf o.k, inS g o, atS c, naS o] (by simp) (Nat.le_trans (Nat.le_of_eq (congrArg List.length hrow)) (Nat.le_trans (opL_len hs ho ha hb) (by omega))) ?_
      simp only [OI0, OI1, OI2, OI3, OI4, OI5, OI6, OI7, OI8, OI9, OI10, OI11, OI12, ↓reduceIte, reduceCtorEq, Nat.reduceAdd, Nat.reduceEqDiff, Nat.reduceBEq, Nat.reduceLT, Nat.reduceLeDiff, Nat.reduceMul, Nat.reduceSub, Int.reduceLE, Int.reduceLT, Int.reduceEq, Int.reduceBEq, Int.reduceBNe, Int.reduceToNat, Int.reduceNeg, Nat.reduceBNe, forall_eq_or_imp]
      rw [← hrow] at h
      exact h
    · have hw : nuW o = [naS o, nbS o] := by simp [nuW, hn, naS, nbS]
      rw [hw] at hrow
      simp only [OI0, OI1, OI2, OI3, OI4, OI5, OI6, OI7, OI8, OI9, OI10, OI11, OI12, ↓reduceIte, reduceCtorEq, Nat.reduceAdd, Nat.reduceEqDiff, Nat.reduceBEq, Nat.reduceLT, Nat.reduceLeDiff, Nat.reduceMul, Nat.reduceSub, Int.reduceLE, Int.reduceLT, Int.reduceEq, Int.reduceBEq, Int.reduceBNe, Int.reduceToNat, Int.reduceNeg, Nat.reduceBNe, forall_eq_or_imp, st151b, frmA, hn, o2]
      refine c148 [⟨#[111, 112]⟩, o.nm, wordOf o.k, inS g o, atS c, naS o, nbS o] (by simp) (Nat.le_trans (Nat.le_of_eq (congrArg List.length hrow)) (Nat.le_trans (opL_len hs ho ha hb) (by omega))) ?_
      simp only [OI0, OI1, OI2, OI3, OI4, OI5, OI6, OI7, OI8, OI9, OI10, OI11, OI12, ↓reduceIte, reduceCtorEq, Nat.reduceAdd, Nat.reduceEqDiff, Nat.reduceBEq, Nat.reduceLT, Nat.reduceLeDiff, Nat.reduceMul, Nat.reduceSub, Int.reduceLE, Int.reduceLT, Int.reduceEq, Int.reduceBEq, Int.reduceBNe, Int.reduceToNat, Int.reduceNeg, Nat.reduceBNe, forall_eq_or_imp]
      rw [← hrow] at h
      exact h
end Go.Proofs.Ythlehngbadianaa.Ow
