/- What the functions of the program do, each once: contracts of the logic (part h7). -/
import Derived.Test.YthlehngbadianaaTh6
set_option linter.unusedVariables false
set_option linter.unusedSimpArgs false
set_option linter.unnecessarySimpa false
set_option maxRecDepth 100000
set_option maxHeartbeats 4000000
namespace Go.Proofs.Ythlehngbadianaa.Ow
open Go Go.RowKit Go.Proofs
/- (watershed/count.Part).add -/
def cc142 : CC := (.seq (.region [⟨none, 4, (.box 1), [1], none, []⟩, ⟨none, 6, (.val (.mv (.c (.int .i64 0)))), [6], none, []⟩]) (.seq (.region [⟨none, 8, (.val (.mv (.s 0))), [], none, []⟩, ⟨none, 9, (.val (.nc (.s 8))), [8], none, []⟩, ⟨none, 10, (.val (.fa (.s 9) 4)), [9], none, []⟩, ⟨none, 11, (.val (.ld (.s 10) none)), [10], none, []⟩, ⟨none, 12, (.val (.lnl (.s 11) 1)), [11], none, []⟩, ⟨none, 7, (.val (.mv (.s 12))), [12], none, []⟩]) (.seq (.region [⟨none, 13, (.val (.mv (.s 7))), [], none, []⟩, ⟨none, 14, (.call 198 [(.s 13)]), [13], none, []⟩, ⟨none, 15, (.val (.bin .add (.c (.string ⟨#[111]⟩)) (.s 14))), [14], none, []⟩, ⟨none, 16, (.val (.fa (.s 4) 0)), [], none, []⟩, ⟨none, 0, (.store 1 (.s 16) (.s 15)), [15, 16], none, []⟩, ⟨none, 17, (.val (.fa (.s 4) 3)), [], none, []⟩, ⟨none, 0, (.store 1 (.s 17) (.c (.int .i64 0))), [17], none, []⟩]) (.seq (.region [⟨none, 18, (.val (.mv (.s 0))), [], none, []⟩, ⟨none, 19, (.val (.mv (.s 0))), [], none, []⟩, ⟨none, 20, (.val (.nc (.s 19))), [19], none, []⟩, ⟨none, 21, (.val (.fa (.s 20) 0)), [20], none, []⟩, ⟨none, 22, (.val (.fa (.s 21) 2)), [21], none, []⟩, ⟨none, 23, (.val (.ld (.s 22) none)), [22], none, []⟩, ⟨none, 24, (.val (.ld (.s 4) (some 6))), [4], none, []⟩, ⟨none, 25, (.lit 6 [(.s 24)]), [24], none, []⟩, ⟨none, 26, (.app 6 56 false (.s 23) (.s 25)), [23, 25], none, []⟩, ⟨none, 27, (.val (.nc (.s 18))), [18], none, []⟩, ⟨none, 28, (.val (.fa (.s 27) 0)), [27], none, []⟩, ⟨none, 29, (.val (.fa (.s 28) 2)), [28], none, []⟩, ⟨none, 0, (.store 1 (.s 29) (.s 26)), [26, 29], none, []⟩]) (.seq (.region [⟨none, 30, (.val (.mv (.s 0))), [], none, []⟩, ⟨none, 31, (.val (.mv (.s 0))), [0], none, []⟩, ⟨none, 32, (.val (.nc (.s 31))), [31], none, []⟩, ⟨none, 33, (.val (.fa (.s 32) 4)), [32], none, []⟩, ⟨none, 34, (.val (.ld (.s 33) none)), [33], none, []⟩, ⟨none, 35, (.val (.mv (.s 2))), [2], none, []⟩, ⟨none, 36, (.lit 1 [(.s 35)]), [35], none, []⟩, ⟨none, 37, (.app 1 8 false (.s 34) (.s 36)), [34, 36], none, []⟩, ⟨none, 38, (.val (.nc (.s 30))), [30], none, []⟩, ⟨none, 39, (.val (.fa (.s 38) 4)), [38], none, []⟩, ⟨none, 0, (.store 1 (.s 39) (.s 37)), [37, 39], none, []⟩]) (.seq (.region [⟨none, 40, (.val (.mv (.s 7))), [7], none, []⟩, ⟨none, 6, (.val (.mv (.s 40))), [40], none, []⟩]) .ret))))))
theorem ok142 : FnOk Try.prog 142 cc142 [(.t 6)] 3 41 := ⟨⟨_, Try.func142, by kernel_rfl, by kernel_rfl, by kernel_rfl⟩, by decide, by decide⟩

/- (watershed/count.Part).end -/
def cc143 : CC := (.seq (.region [⟨none, 4, (.box 1), [1], none, []⟩, ⟨none, 6, (.val (.mv (.c (.int .i64 0)))), [6], none, []⟩]) (.seq (.region [⟨none, 11, (.val (.ld (.s 4) (some 4))), [], none, []⟩, ⟨none, 12, (.val (.fa (.s 4) 3)), [4], none, []⟩, ⟨none, 13, (.val (.ld (.s 12) none)), [12], none, []⟩, ⟨none, 14, (.val (.mv (.s 2))), [2], none, []⟩, ⟨none, 15, (.val (.ia (.s 13) (.s 14) 2)), [13, 14], none, []⟩, ⟨none, 16, (.val (.fa (.s 15) 1)), [15], none, []⟩, ⟨none, 17, (.val (.ld (.s 16) none)), [16], none, []⟩, ⟨none, 18, (.val (.bin .mul (.c (.int .i64 2)) (.s 17))), [17], none, []⟩, ⟨none, 19, (.call 45 [(.s 11), (.s 18)]), [11, 18], none, []⟩, ⟨none, 10, (.val (.mv (.s 19))), [19], none, []⟩, ⟨none, 20, (.val (.ext (.s 10) 0)), [], none, []⟩, ⟨none, 21, (.val (.ext (.s 10) 1)), [], none, []⟩, ⟨none, 22, (.val (.ext (.s 10) 2)), [10], none, []⟩, ⟨none, 7, (.val (.mv (.s 20))), [20], none, []⟩, ⟨none, 8, (.val (.mv (.s 21))), [8, 21], none, []⟩, ⟨none, 9, (.val (.mv (.s 22))), [9, 22], none, []⟩]) (.seq (.region [⟨none, 23, (.val (.mv (.s 0))), [0], none, []⟩, ⟨none, 24, (.val (.mv (.s 7))), [7], none, []⟩, ⟨none, 25, (.val (.bld [(.string ⟨#[]⟩), (.int .i64 0), (.int .i64 0), (.int .i64 0), (.int .i64 0), (.int .i64 0)] [(1, (1, (.c (.int .i64 5)))), (2, (1, (.s 24)))])), [24], none, []⟩, ⟨none, 26, (.call 142 [(.s 23), (.s 25), (.c (.int .i64 (-1)))]), [23, 25], (some 0), []⟩, ⟨none, 6, (.val (.mv (.s 26))), [26], none, []⟩]) .ret)))
theorem ok143 : FnOk Try.prog 143 cc143 [(.t 6)] 3 27 := ⟨⟨_, Try.func143, by kernel_rfl, by kernel_rfl, by kernel_rfl⟩, by decide, by decide⟩

/- (watershed/watershedref21.Part).add -/
def cc144 : CC := (.seq (.region [⟨none, 4, (.box 1), [1], none, []⟩, ⟨none, 6, (.val (.mv (.c (.int .i64 0)))), [6], none, []⟩]) (.seq (.region [⟨none, 8, (.val (.mv (.s 0))), [], none, []⟩, ⟨none, 9, (.val (.nc (.s 8))), [8], none, []⟩, ⟨none, 10, (.val (.fa (.s 9) 0)), [9], none, []⟩, ⟨none, 11, (.val (.fa (.s 10) 2)), [10], none, []⟩, ⟨none, 12, (.val (.ld (.s 11) none)), [11], none, []⟩, ⟨none, 13, (.val (.lnl (.s 12) 6)), [12], none, []⟩, ⟨none, 7, (.val (.mv (.s 13))), [13], none, []⟩]) (.seq (.region [⟨none, 14, (.val (.mv (.s 7))), [], none, []⟩, ⟨none, 15, (.call 152 [(.s 14)]), [14], none, []⟩, ⟨none, 16, (.val (.bin .add (.c (.string ⟨#[111]⟩)) (.s 15))), [15], none, []⟩, ⟨none, 17, (.val (.fa (.s 4) 0)), [], none, []⟩, ⟨none, 0, (.store 1 (.s 17) (.s 16)), [16, 17], none, []⟩]) (.seq (.region [⟨none, 18, (.val (.fa (.s 4) 3)), [], none, []⟩, ⟨none, 0, (.store 1 (.s 18) (.c (.int .i64 0))), [18], none, []⟩]) (.seq (.region [⟨none, 19, (.val (.mv (.s 0))), [], none, []⟩, ⟨none, 20, (.val (.mv (.s 0))), [], none, []⟩, ⟨none, 21, (.val (.nc (.s 20))), [20], none, []⟩, ⟨none, 22, (.val (.fa (.s 21) 0)), [21], none, []⟩, ⟨none, 23, (.val (.fa (.s 22) 2)), [22], none, []⟩, ⟨none, 24, (.val (.ld (.s 23) none)), [23], none, []⟩, ⟨none, 25, (.val (.ld (.s 4) (some 6))), [4], none, []⟩, ⟨none, 26, (.lit 6 [(.s 25)]), [25], none, []⟩, ⟨none, 27, (.app 6 56 false (.s 24) (.s 26)), [24, 26], none, []⟩, ⟨none, 28, (.val (.nc (.s 19))), [19], none, []⟩, ⟨none, 29, (.val (.fa (.s 28) 0)), [28], none, []⟩, ⟨none, 30, (.val (.fa (.s 29) 2)), [29], none, []⟩, ⟨none, 0, (.store 1 (.s 30) (.s 27)), [27, 30], none, []⟩]) (.seq (.region [⟨none, 31, (.val (.mv (.s 0))), [], none, []⟩, ⟨none, 32, (.val (.mv (.s 0))), [0], none, []⟩, ⟨none, 33, (.val (.nc (.s 32))), [32], none, []⟩, ⟨none, 34, (.val (.fa (.s 33) 4)), [33], none, []⟩, ⟨none, 35, (.val (.ld (.s 34) none)), [34], none, []⟩, ⟨none, 36, (.val (.mv (.s 2))), [2], none, []⟩, ⟨none, 37, (.lit 1 [(.s 36)]), [36], none, []⟩, ⟨none, 38, (.app 1 8 false (.s 35) (.s 37)), [35, 37], none, []⟩, ⟨none, 39, (.val (.nc (.s 31))), [31], none, []⟩, ⟨none, 40, (.val (.fa (.s 39) 4)), [39], none, []⟩, ⟨none, 0, (.store 1 (.s 40) (.s 38)), [38, 40], none, []⟩]) (.seq (.region [⟨none, 41, (.val (.mv (.s 7))), [7], none, []⟩, ⟨none, 6, (.val (.mv (.s 41))), [41], none, []⟩]) .ret)))))))
theorem ok144 : FnOk Try.prog 144 cc144 [(.t 6)] 3 42 := ⟨⟨_, Try.func144, by kernel_rfl, by kernel_rfl, by kernel_rfl⟩, by decide, by decide⟩


def pT (m : PM) : AV := .agg [.own 2 (m.g.cl.map clA), .own 3 (m.g.lo.map loA), .own 6 (m.g.op.map opA), .own 2 (m.g.ch.map chA), .own 1 (m.ops.map i64A), .own 1 (m.lv.map i64A), .own 1 (m.ar.map i64A)]
theorem decB_size {v : Int} (h0 : -9223372036854775808 ≤ v) (h1 : v < 9223372036854775808) : (decB v).size ≤ 20 := by
  have := digs_64 h0 h1
  simp only [decB, ByteArray.size, List.size_toArray, decL]
  split
  · simp; omega
  · omega
theorem cat_o {v : Int} (h0 : -9223372036854775808 ≤ v) (h1 : v < 9223372036854775808) : (if IntKind.i64.max < (((⟨#[111]⟩ : ByteArray).size + (decB v).size : Nat) : Int) then none else some (Value.string ((⟨#[111]⟩ : ByteArray) ++ decB v))) = some (Value.string ((⟨#[111]⟩ : ByteArray) ++ decB v)) := cat_if (by have := decB_size h0 h1; have e : (⟨#[111]⟩ : ByteArray).size = 1 := rfl; rw [e]; omega)
theorem tk_len {α β : Type} (f : α → β) (l : List α) : (List.take l.length (List.map f l)).length = l.length := by simp
theorem tk_all {α β : Type} (f : α → β) (l : List α) : List.take l.length (List.map f l) = List.map f l := List.take_of_length_le (by simp)
structure PmS (m : PM) : Prop where
  cl : m.g.cl.length ≤ 1000
  op : m.g.op.length ≤ 1000
  ops : m.ops.length = m.g.op.length
  lv : m.lv.length ≤ 1000
  ar : m.ar.length ≤ 1000
theorem PmS.ok {m : PM} (h : PmS m) : PmOk m := ⟨by have := h.ops; have := h.op; omega, by have := h.lv; omega, by have := h.ar; omega⟩
theorem c142 (m : PM) (o : O6) (w : Int) (hm : PmS m) {Q : AV → Al → Prop} (h : Q (i64A m.ops.length) [(0, pT (addP m o w))]) : ACalls Try.prog 142 [(0, pT m)] [.ref ⟨0, [], 0⟩, opA o, i64A w] Q := by
  have h1 := hm.op
  have h2 := hm.ops
  refine ok142.N hmix rfl ?_
  intro I
  have t1 := tk_len i64A m.ops
  simp only [cc142, OI0, OI1, OI2, OI3, OI4, OI5, OI6, OI7, OI8, OI9, OI10, OI11, OI12, ↓reduceIte, reduceCtorEq, Nat.reduceAdd, Nat.reduceEqDiff, Nat.reduceBEq, Nat.reduceLT, Nat.reduceLeDiff, Nat.reduceMul, Nat.reduceSub, Int.reduceLE, Int.reduceLT, Int.reduceEq, Int.reduceBEq, Int.reduceBNe, Int.reduceToNat, Int.reduceNeg, Nat.reduceBNe, forall_eq_or_imp, pT, opA, i64A, t1]
  refine c198 _ (by omega) (by omega) ?_
  simp only [OI0, OI1, OI2, OI3, OI4, OI5, OI6, OI7, OI8, OI9, OI10, OI11, OI12, ↓reduceIte, reduceCtorEq, Nat.reduceAdd, Nat.reduceEqDiff, Nat.reduceBEq, Nat.reduceLT, Nat.reduceLeDiff, Nat.reduceMul, Nat.reduceSub, Int.reduceLE, Int.reduceLT, Int.reduceEq, Int.reduceBEq, Int.reduceBNe, Int.reduceToNat, Int.reduceNeg, Nat.reduceBNe, forall_eq_or_imp]
  rw [cat_o (by omega) (by omega)]
  refine ⟨_, rfl, ⟨by omega, by omega⟩, ⟨by omega, by omega⟩, ?_⟩
  rw [List.take_of_length_le (by simp), List.take_of_length_le (by simp)]
  simpa only [pT, addP, opA, oNm, i64A, List.map_append, List.map_cons, List.map_nil] using h
theorem c144 (m : PM) (o : O6) (w : Int) (hm : PmS m) {Q : AV → Al → Prop} (h : Q (i64A m.ops.length) [(0, pT (addP m o w))]) : ACalls Try.prog 144 [(0, pT m)] [.ref ⟨0, [], 0⟩, opA o, i64A w] Q := by
  have h1 := hm.op
  have h2 := hm.ops
  refine ok144.N hmix rfl ?_
  intro I
  have t1 := tk_len opA m.g.op
  simp only [cc144, OI0, OI1, OI2, OI3, OI4, OI5, OI6, OI7, OI8, OI9, OI10, OI11, OI12, ↓reduceIte, reduceCtorEq, Nat.reduceAdd, Nat.reduceEqDiff, Nat.reduceBEq, Nat.reduceLT, Nat.reduceLeDiff, Nat.reduceMul, Nat.reduceSub, Int.reduceLE, Int.reduceLT, Int.reduceEq, Int.reduceBEq, Int.reduceBNe, Int.reduceToNat, Int.reduceNeg, Nat.reduceBNe, forall_eq_or_imp, pT, opA, i64A, t1]
  refine c152 _ (by omega) (by omega) ?_
  simp only [OI0, OI1, OI2, OI3, OI4, OI5, OI6, OI7, OI8, OI9, OI10, OI11, OI12, ↓reduceIte, reduceCtorEq, Nat.reduceAdd, Nat.reduceEqDiff, Nat.reduceBEq, Nat.reduceLT, Nat.reduceLeDiff, Nat.reduceMul, Nat.reduceSub, Int.reduceLE, Int.reduceLT, Int.reduceEq, Int.reduceBEq, Int.reduceBNe, Int.reduceToNat, Int.reduceNeg, Nat.reduceBNe, forall_eq_or_imp]
  rw [cat_o (by omega) (by omega)]
  refine ⟨_, rfl, ⟨by omega, by omega⟩, ⟨by omega, by omega⟩, ?_⟩
  rw [List.take_of_length_le (by simp), List.take_of_length_le (by simp)]
  rw [← h2]
  simpa only [pT, addP, opA, oNm, i64A, List.map_append, List.map_cons, List.map_nil] using h
theorem loopTo_of {g : Gr} {f : Int} {i : Nat} {c : Ch} (hf : f = i) (hc : g.ch[i]? = some c) (h0 : 0 ≤ c.2) : loopTo g f = scL g (2 * c.2) := by
  subst hf
  have e : chAt g (i : Int) = c := by simp only [chAt, Int.toNat_natCast, hc]
  simp only [loopTo, e, scL]
  rw [show (2 * c.2) / 2 = c.2 by omega, show ((2 * c.2) % 2).toNat = 0 by omega]
  cases g.op[c.2.toNat]? <;> rfl
theorem c143 (m : PM) (g : Gr) (f : Int) (i : Nat) (c : Ch) (hf : f = i) (hgi : g.ch[i]? = some c) (hg : chk g = 0) (hm : PmS m) {Q : AV → Al → Prop} (h : Q (i64A m.ops.length) [(0, pT (addP m (swapO (loopTo g f)) (-1)))]) : ACalls Try.prog 143 [(0, pT m)] [.ref ⟨0, [], 0⟩, gA g, i64A f] Q := by
  refine ok143.N hmix rfl ?_
  intro I
  have hF := chk0 hg
  obtain ⟨x, y, u1, u2, u3, u4, hx, hy⟩ := hF.ch _ _ hgi
  have h24 := hF.op24
  have i0 : (0 : Int) ≤ f := by omega
  have hil := (List.getElem?_eq_some_iff.1 hgi).1
  have i1 : f < (g.ch.length : Int) := by omega
  have ef : f.toNat = i := by omega
  have w1 : IntKind.i64.wrap (2 * c.2) = 2 * c.2 := wrI64 (by omega) (by omega)
  simp only [cc143, OI0, OI1, OI2, OI3, OI4, OI5, OI6, OI7, OI8, OI9, OI10, OI11, OI12, ↓reduceIte, reduceCtorEq, Nat.reduceAdd, Nat.reduceEqDiff, Nat.reduceBEq, Nat.reduceLT, Nat.reduceLeDiff, Nat.reduceMul, Nat.reduceSub, Int.reduceLE, Int.reduceLT, Int.reduceEq, Int.reduceBEq, Int.reduceBNe, Int.reduceToNat, Int.reduceNeg, Nat.reduceBNe, forall_eq_or_imp, gA, i64A, i0, i1, ef, hgi, chA, w1]
  refine c45 g (2 * c.2) (by omega) ?_
  have e : scR g (2 * c.2) = (scL g (2 * c.2), deepN g.lo (scL g (2 * c.2)), 0) := by
    rw [scR, if_neg (by simpa using hg), if_neg (by omega)]
  rw [e, ← loopTo_of hf hgi u3]
  simp only [OI0, OI1, OI2, OI3, OI4, OI5, OI6, OI7, OI8, OI9, OI10, OI11, OI12, ↓reduceIte, reduceCtorEq, Nat.reduceAdd, Nat.reduceEqDiff, Nat.reduceBEq, Nat.reduceLT, Nat.reduceLeDiff, Nat.reduceMul, Nat.reduceSub, Int.reduceLE, Int.reduceLT, Int.reduceEq, Int.reduceBEq, Int.reduceBNe, Int.reduceToNat, Int.reduceNeg, Nat.reduceBNe, forall_eq_or_imp, i64A]
  refine c142 m (swapO (loopTo g f)) (-1) hm ?_
  simp only [OI0, OI1, OI2, OI3, OI4, OI5, OI6, OI7, OI8, OI9, OI10, OI11, OI12, ↓reduceIte, reduceCtorEq, Nat.reduceAdd, Nat.reduceEqDiff, Nat.reduceBEq, Nat.reduceLT, Nat.reduceLeDiff, Nat.reduceMul, Nat.reduceSub, Int.reduceLE, Int.reduceLT, Int.reduceEq, Int.reduceBEq, Int.reduceBNe, Int.reduceToNat, Int.reduceNeg, Nat.reduceBNe, forall_eq_or_imp, pT, i64A]
  exact h
end Go.Proofs.Ythlehngbadianaa.Ow
