/- What the functions of the program do, each once: contracts of the logic (part d5). -/
import Derived.Test.YthlehngbadianaaTd4
set_option linter.unusedVariables false
set_option linter.unusedSimpArgs false
set_option linter.unnecessarySimpa false
set_option maxRecDepth 100000
set_option maxHeartbeats 4000000
namespace Go.Proofs.Ythlehngbadianaa.Ow
open Go Go.RowKit Go.Proofs
/- watershed/stamp.Read -/
def cc119 : CC := (.seq (.region [⟨none, 2, (.alloc (.agg #[(.int .u32 0), (.int .i64 0), (.int .u32 0), (.int .u32 0), (.int .u32 0)])), [], none, []⟩]) (.seq (.region [⟨none, 5, (.val (.mv (.s 0))), [], none, []⟩, ⟨none, 6, (.call 118 [(.s 5), (.c (.int .i64 3))]), [5], (some 0), []⟩, ⟨none, 7, (.val (.bld [(.int .u32 0), (.int .i64 0), (.int .u32 0), (.int .u32 0), (.int .u32 0)] [(1, (1, (.s 6)))])), [6], none, []⟩, ⟨none, 3, (.alloc (.agg #[(.int .u32 0), (.int .i64 0), (.int .u32 0), (.int .u32 0), (.int .u32 0)])), [], none, []⟩, ⟨none, 0, (.store 5 (.s 3) (.s 7)), [7], none, []⟩]) (.seq (.region [⟨none, 8, (.val (.mv (.s 0))), [], none, []⟩, ⟨none, 9, (.call 118 [(.s 8), (.c (.int .i64 1048576))]), [8], (some 0), []⟩, ⟨none, 10, (.val (.cvi .u32 (.s 9))), [9], none, []⟩, ⟨none, 11, (.val (.fa (.s 3) 0)), [], none, []⟩, ⟨none, 0, (.store 1 (.s 11) (.s 10)), [10, 11], none, []⟩]) (.seq (.seq (.region [⟨none, 12, (.val (.fa (.s 3) 1)), [], none, []⟩, ⟨none, 13, (.val (.ld (.s 12) none)), [12], none, []⟩, ⟨none, 14, (.val (.mv (.c (.int .i64 0)))), [], none, []⟩]) (.block 0 (.loop (.seq (.region [⟨none, 15, (.val (.bin .lss (.s 14) (.s 13))), [], none, []⟩]) (.seq (.cond (.s 15) .skip (.exit 0)) (.seq (.block 1 (.seq (.region [⟨none, 16, (.val (.mv (.s 14))), [15], none, []⟩, ⟨none, 4, (.val (.mv (.s 16))), [16], none, []⟩]) (.region [⟨none, 17, (.val (.mv (.s 4))), [4], none, []⟩, ⟨none, 18, (.val (.mv (.s 0))), [], none, []⟩, ⟨none, 19, (.call 118 [(.s 18), (.c (.int .i64 1048576))]), [18], (some 0), []⟩, ⟨none, 20, (.val (.cvi .u32 (.s 19))), [19], none, []⟩, ⟨none, 21, (.val (.fa (.s 3) 2)), [], none, []⟩, ⟨none, 22, (.val (.iaa (.s 21) (.s 17) 3 1)), [17, 21], none, []⟩, ⟨none, 0, (.store 1 (.s 22) (.s 20)), [20, 22], none, []⟩]))) (.region [⟨none, 23, (.val (.bin .add (.s 14) (.c (.int .i64 1)))), [14], none, []⟩, ⟨none, 14, (.val (.mv (.s 23))), [23], none, []⟩]))))))) (.seq (.seq (.region [⟨none, 24, (.val (.mv (.s 0))), [0, 13, 14, 15], none, []⟩, ⟨none, 25, (.call 40 [(.s 24)]), [24], none, []⟩, ⟨none, 26, (.val (.bin .neq (.s 25) (.c (.int .i64 0)))), [25], none, []⟩]) (.cond (.s 26) (.seq (.region [⟨none, 27, (.val (.bld [(.int .u32 0), (.int .i64 0), (.int .u32 0), (.int .u32 0), (.int .u32 0)] [])), [3, 26], none, []⟩, ⟨none, 0, (.store 5 (.s 2) (.s 27)), [27], none, []⟩]) .ret) .skip)) (.seq (.region [⟨none, 28, (.val (.ld (.s 3) (some 5))), [3, 26], none, []⟩, ⟨none, 0, (.store 5 (.s 2) (.s 28)), [28], none, []⟩]) .ret))))))
theorem ok119 : FnOk Try.prog 119 cc119 [(.c 2 50 (some 5))] 1 29 := ⟨⟨_, Try.func119, by kernel_rfl, by kernel_rfl, by kernel_rfl⟩, by decide, by decide⟩

/- watershed/watershedref04.Read -/
def cc123 : CC := (.seq (.region [⟨none, 2, (.alloc (.agg #[(.int .u32 0), (.int .i64 0), (.int .u32 0), (.int .u32 0), (.int .u32 0)])), [], none, []⟩]) (.seq (.region [⟨none, 5, (.val (.mv (.s 0))), [], none, []⟩, ⟨none, 6, (.call 122 [(.s 5), (.c (.int .i64 3))]), [5], (some 0), []⟩, ⟨none, 7, (.val (.bld [(.int .u32 0), (.int .i64 0), (.int .u32 0), (.int .u32 0), (.int .u32 0)] [(1, (1, (.s 6)))])), [6], none, []⟩, ⟨none, 3, (.alloc (.agg #[(.int .u32 0), (.int .i64 0), (.int .u32 0), (.int .u32 0), (.int .u32 0)])), [], none, []⟩, ⟨none, 0, (.store 5 (.s 3) (.s 7)), [7], none, []⟩]) (.seq (.region [⟨none, 8, (.val (.mv (.s 0))), [], none, []⟩, ⟨none, 9, (.call 122 [(.s 8), (.c (.int .i64 1048576))]), [8], (some 0), []⟩, ⟨none, 10, (.val (.cvi .u32 (.s 9))), [9], none, []⟩, ⟨none, 11, (.val (.fa (.s 3) 0)), [], none, []⟩, ⟨none, 0, (.store 1 (.s 11) (.s 10)), [10, 11], none, []⟩]) (.seq (.seq (.region [⟨none, 4, (.val (.mv (.c (.int .i64 0)))), [], none, []⟩]) (.block 0 (.loop (.seq (.seq (.region [⟨none, 12, (.val (.mv (.s 4))), [], none, []⟩, ⟨none, 13, (.val (.fa (.s 3) 1)), [], none, []⟩, ⟨none, 14, (.val (.ld (.s 13) none)), [13], none, []⟩, ⟨none, 15, (.val (.bin .lss (.s 12) (.s 14))), [12, 14], none, []⟩]) (.cond (.s 15) .skip (.exit 0))) (.seq (.block 1 (.region [⟨none, 18, (.val (.mv (.s 4))), [15], none, []⟩, ⟨none, 19, (.val (.mv (.s 0))), [], none, []⟩, ⟨none, 20, (.call 122 [(.s 19), (.c (.int .i64 1048576))]), [19], (some 0), []⟩, ⟨none, 21, (.val (.cvi .u32 (.s 20))), [20], none, []⟩, ⟨none, 22, (.val (.fa (.s 3) 2)), [], none, []⟩, ⟨none, 23, (.val (.iaa (.s 22) (.s 18) 3 1)), [18, 22], none, []⟩, ⟨none, 0, (.store 1 (.s 23) (.s 21)), [21, 23], none, []⟩])) (.region [⟨none, 16, (.val (.mv (.s 4))), [4], none, []⟩, ⟨none, 17, (.val (.bin .add (.s 16) (.c (.int .i64 1)))), [16], none, []⟩, ⟨none, 4, (.val (.mv (.s 17))), [17], none, []⟩])))))) (.seq (.seq (.region [⟨none, 24, (.val (.mv (.s 0))), [0, 4, 15], none, []⟩, ⟨none, 25, (.val (.nc (.s 24))), [24], none, []⟩, ⟨none, 26, (.val (.fa (.s 25) 2)), [25], none, []⟩, ⟨none, 27, (.val (.ld (.s 26) none)), [26], none, []⟩, ⟨none, 28, (.val (.bin .neq (.s 27) (.c (.int .i64 0)))), [27], none, []⟩]) (.cond (.s 28) (.seq (.region [⟨none, 29, (.val (.bld [(.int .u32 0), (.int .i64 0), (.int .u32 0), (.int .u32 0), (.int .u32 0)] [])), [3, 28], none, []⟩, ⟨none, 0, (.store 5 (.s 2) (.s 29)), [29], none, []⟩]) .ret) .skip)) (.seq (.region [⟨none, 30, (.val (.ld (.s 3) (some 5))), [3, 28], none, []⟩, ⟨none, 0, (.store 5 (.s 2) (.s 30)), [30], none, []⟩]) .ret))))))
theorem ok123 : FnOk Try.prog 123 cc123 [(.c 2 50 (some 5))] 1 31 := ⟨⟨_, Try.func123, by kernel_rfl, by kernel_rfl, by kernel_rfl⟩, by decide, by decide⟩


abbrev X3 := Nat × Nat × Nat
def setX (x : X3) (i v : Nat) : X3 := match i with
  | 0 => (v, x.2.1, x.2.2)
  | 1 => (x.1, v, x.2.2)
  | _ => (x.1, x.2.1, v)
/-- Rounds, read one by one. -/
def tlM (S : List UInt8) : Nat → Nat → X3 → Nat → Int → X3 × Nat × Int
  | 0, _, x, p, e => (x, p, e)
  | n + 1, i, x, p, e => tlM S n (i + 1) (setX x i (intM S 1048576 p e).1) (intM S 1048576 p e).2.1 (intM S 1048576 p e).2.2
def tmA (ep : Nat) (d : Int) (x : X3) : AV := .agg [.v (.int .u32 ep), .v (.int .i64 d), .v (.int .u32 x.1), .v (.int .u32 x.2.1), .v (.int .u32 x.2.2)]
structure Tm where
  ep : Nat
  d : Nat
  x : X3
def Tm.A (t : Tm) : AV := tmA t.ep t.d t.x
def timeM (S : List UInt8) (p : Nat) (e : Int) : Tm × Nat × Int :=
  let a := intM S 3 p e
  let b := intM S 1048576 a.2.1 a.2.2
  let c := tlM S a.1 0 (0, 0, 0) b.2.1 b.2.2
  (if c.2.2 ≠ 0 then ⟨0, 0, (0, 0, 0)⟩ else ⟨b.1, a.1, c.1⟩, c.2.1, c.2.2)
theorem tlM_le {S : List UInt8} : ∀ (n i : Nat) (x : X3) (p : Nat) (e : Int), p ≤ S.length → (tlM S n i x p e).2.1 ≤ S.length
  | 0, _, _, _, _, h => h
  | n + 1, i, x, p, e, h => tlM_le n _ _ _ _ (intM_le h)
theorem timeM_le {S : List UInt8} {p : Nat} {e : Int} (h : p ≤ S.length) : (timeM S p e).2.1 ≤ S.length := tlM_le _ _ _ _ _ (intM_le (intM_le h))
theorem wrap_u32 {x : Nat} (h : x ≤ 1048576) : IntKind.u32.wrap (x : Int) = x := by
  simp only [IntKind.wrap, IntKind.bits, IntKind.signed]
  simp
  omega
def st119 (I : World → Fp → Value → Fp → Prop) (S : List UInt8) (d ep : Nat) : Nat × X3 × Nat × Int → St
  | (i, x, p, e) => ⟨[(0, .ref ⟨0, [], 0⟩), (2, .ref ⟨1002, [], 0⟩), (3, .ref ⟨1003, [], 0⟩), (13, .v (.int .i64 d)), (14, .v (.int .i64 i))], [(0, rdA (S.drop p) e), (1002, tmA 0 0 (0, 0, 0)), (1003, tmA ep d x), (9999, .ext I)], []⟩
theorem c119 (S : List UInt8) (p : Nat) (e : Int) (hS : S.length ≤ 1000000) (hp : p ≤ S.length) {Q : AV → Al → Prop} (h : Q (timeM S p e).1.A [(0, rdA (S.drop (timeM S p e).2.1) (timeM S p e).2.2)]) : ACalls Try.prog 119 [(0, rdA (S.drop p) e)] [.ref ⟨0, [], 0⟩] Q := by
  refine ok119.N hmix rfl ?_
  intro I
  simp only [cc119, OI0, OI1, OI2, OI3, OI4, OI5, OI6, OI7, OI8, OI9, OI10, OI11, OI12, reduceIte, reduceCtorEq, Nat.reduceAdd, Nat.reduceEqDiff, Nat.reduceBEq, Nat.reduceLT, Nat.reduceLeDiff, Nat.reduceMul, Nat.reduceSub, Int.reduceLE, Int.reduceLT, Int.reduceEq, Int.reduceBEq, Int.reduceBNe, Int.reduceToNat, Int.reduceNeg, Nat.reduceBNe, forall_eq_or_imp, rdA]
  refine c118 S 3 p e hS hp (by omega) ?_
  have hq := intM_le (most := 3) (e := e) hp
  have hd3 := intM_most (S := S) (most := 3) (p := p) (e := e)
  unfold timeM at h
  simp only at h
  generalize intM S 3 p e = r at h hq hd3
  obtain ⟨d, q, e1⟩ := r
  simp only at h hq hd3
  simp only [OI0, OI1, OI2, OI3, OI4, OI5, OI6, OI7, OI8, OI9, OI10, OI11, OI12, reduceIte, reduceCtorEq, Nat.reduceAdd, Nat.reduceEqDiff, Nat.reduceBEq, Nat.reduceLT, Nat.reduceLeDiff, Nat.reduceMul, Nat.reduceSub, Int.reduceLE, Int.reduceLT, Int.reduceEq, Int.reduceBEq, Int.reduceBNe, Int.reduceToNat, Int.reduceNeg, Nat.reduceBNe, forall_eq_or_imp, rdA, i64A]
  refine c118 S 1048576 q e1 hS hq (by omega) ?_
  have hq2 := intM_le (most := 1048576) (e := e1) hq
  have hep := intM_most (S := S) (most := 1048576) (p := q) (e := e1)
  generalize intM S 1048576 q e1 = r at h hq2 hep
  obtain ⟨ep, q2, e2⟩ := r
  simp only at h hq2 hep
  simp only [OI0, OI1, OI2, OI3, OI4, OI5, OI6, OI7, OI8, OI9, OI10, OI11, OI12, reduceIte, reduceCtorEq, Nat.reduceAdd, Nat.reduceEqDiff, Nat.reduceBEq, Nat.reduceLT, Nat.reduceLeDiff, Nat.reduceMul, Nat.reduceSub, Int.reduceLE, Int.reduceLT, Int.reduceEq, Int.reduceBEq, Int.reduceBNe, Int.reduceToNat, Int.reduceNeg, Nat.reduceBNe, forall_eq_or_imp, rdA, i64A, wrap_u32 hep]
  generalize hT : tlM S d 0 (0, 0, 0) q2 e2 = T at h
  refine W_loop (st119 I S d ep) (fun a => a.1 ≤ d ∧ tlM S (d - a.1) a.1 a.2.1 a.2.2.1 a.2.2.2 = T ∧ a.2.2.1 ≤ S.length) (fun a => d - a.1) (fun _ _ => rfl) ⟨(0, (0, 0, 0), q2, e2), ⟨by omega, hT, hq2⟩, ?_⟩ ?_
  · simp only [OI0, OI1, OI2, OI3, OI4, OI5, OI6, OI7, OI8, OI9, OI10, OI11, OI12, reduceIte, reduceCtorEq, Nat.reduceAdd, Nat.reduceEqDiff, Nat.reduceBEq, Nat.reduceLT, Nat.reduceLeDiff, Nat.reduceMul, Nat.reduceSub, Int.reduceLE, Int.reduceLT, Int.reduceEq, Int.reduceBEq, Int.reduceBNe, Int.reduceToNat, Int.reduceNeg, Nat.reduceBNe, forall_eq_or_imp, st119, tmA, rdA]
  rintro ⟨i, x, p', e'⟩ ⟨h1, h2, h3⟩
  simp only at h1 h2 h3
  refine W_of_N ok119.small hmix ?_
  by_cases hi : i < d
  · have hi' : (i : Int) < d := by omega
    simp only [OI0, OI1, OI2, OI3, OI4, OI5, OI6, OI7, OI8, OI9, OI10, OI11, OI12, reduceIte, reduceCtorEq, Nat.reduceAdd, Nat.reduceEqDiff, Nat.reduceBEq, Nat.reduceLT, Nat.reduceLeDiff, Nat.reduceMul, Nat.reduceSub, Int.reduceLE, Int.reduceLT, Int.reduceEq, Int.reduceBEq, Int.reduceBNe, Int.reduceToNat, Int.reduceNeg, Nat.reduceBNe, forall_eq_or_imp, st119, tmA, rdA, hi']
    refine c118 S 1048576 p' e' hS h3 (by omega) ?_
    rw [show d - i = (d - (i + 1)) + 1 by omega, tlM] at h2
    have hq3 := intM_le (most := 1048576) (e := e') h3
    have hv := intM_most (S := S) (most := 1048576) (p := p') (e := e')
    generalize intM S 1048576 p' e' = r at h2 hq3 hv
    obtain ⟨v, p2, e3⟩ := r
    simp only at h2 hq3 hv
    have w1 : IntKind.i64.wrap ((i : Int) + 1) = ((i + 1 : Nat) : Int) := by rw [wrap_i64 (by omega) (by omega)]; omega
    have h3i : (i : Int) < 3 := by omega
    have h0i : (0 : Int) ≤ i := by omega
    have hc : i = 0 ∨ i = 1 ∨ i = 2 := by omega
    rcases hc with rfl | rfl | rfl
    · simp only [OI0, OI1, OI2, OI3, OI4, OI5, OI6, OI7, OI8, OI9, OI10, OI11, OI12, reduceIte, reduceCtorEq, Nat.reduceAdd, Nat.reduceEqDiff, Nat.reduceBEq, Nat.reduceLT, Nat.reduceLeDiff, Nat.reduceMul, Nat.reduceSub, Int.reduceLE, Int.reduceLT, Int.reduceEq, Int.reduceBEq, Int.reduceBNe, Int.reduceToNat, Int.reduceNeg, Nat.reduceBNe, forall_eq_or_imp, rdA, i64A, wrap_u32 hv, w1, h3i, h0i, Int.natCast_mul, Int.cast_ofNat_Int]
      refine ⟨(0 + 1, setX x 0 v, p2, e3), ⟨⟨hi, h2, hq3⟩, by simp only; omega⟩, ?_⟩
      simp only [OI0, OI1, OI2, OI3, OI4, OI5, OI6, OI7, OI8, OI9, OI10, OI11, OI12, reduceIte, reduceCtorEq, Nat.reduceAdd, Nat.reduceEqDiff, Nat.reduceBEq, Nat.reduceLT, Nat.reduceLeDiff, Nat.reduceMul, Nat.reduceSub, Int.reduceLE, Int.reduceLT, Int.reduceEq, Int.reduceBEq, Int.reduceBNe, Int.reduceToNat, Int.reduceNeg, Nat.reduceBNe, forall_eq_or_imp, st119, tmA, rdA, setX]
      rfl
    · simp only [OI0, OI1, OI2, OI3, OI4, OI5, OI6, OI7, OI8, OI9, OI10, OI11, OI12, reduceIte, reduceCtorEq, Nat.reduceAdd, Nat.reduceEqDiff, Nat.reduceBEq, Nat.reduceLT, Nat.reduceLeDiff, Nat.reduceMul, Nat.reduceSub, Int.reduceLE, Int.reduceLT, Int.reduceEq, Int.reduceBEq, Int.reduceBNe, Int.reduceToNat, Int.reduceNeg, Nat.reduceBNe, forall_eq_or_imp, rdA, i64A, wrap_u32 hv, w1, h3i, h0i, Int.natCast_mul, Int.cast_ofNat_Int]
      refine ⟨(1 + 1, setX x 1 v, p2, e3), ⟨⟨hi, h2, hq3⟩, by simp only; omega⟩, ?_⟩
      simp only [OI0, OI1, OI2, OI3, OI4, OI5, OI6, OI7, OI8, OI9, OI10, OI11, OI12, reduceIte, reduceCtorEq, Nat.reduceAdd, Nat.reduceEqDiff, Nat.reduceBEq, Nat.reduceLT, Nat.reduceLeDiff, Nat.reduceMul, Nat.reduceSub, Int.reduceLE, Int.reduceLT, Int.reduceEq, Int.reduceBEq, Int.reduceBNe, Int.reduceToNat, Int.reduceNeg, Nat.reduceBNe, forall_eq_or_imp, st119, tmA, rdA, setX]
      rfl
    · simp only [OI0, OI1, OI2, OI3, OI4, OI5, OI6, OI7, OI8, OI9, OI10, OI11, OI12, reduceIte, reduceCtorEq, Nat.reduceAdd, Nat.reduceEqDiff, Nat.reduceBEq, Nat.reduceLT, Nat.reduceLeDiff, Nat.reduceMul, Nat.reduceSub, Int.reduceLE, Int.reduceLT, Int.reduceEq, Int.reduceBEq, Int.reduceBNe, Int.reduceToNat, Int.reduceNeg, Nat.reduceBNe, forall_eq_or_imp, rdA, i64A, wrap_u32 hv, w1, h3i, h0i, Int.natCast_mul, Int.cast_ofNat_Int]
      refine ⟨(2 + 1, setX x 2 v, p2, e3), ⟨⟨hi, h2, hq3⟩, by simp only; omega⟩, ?_⟩
      simp only [OI0, OI1, OI2, OI3, OI4, OI5, OI6, OI7, OI8, OI9, OI10, OI11, OI12, reduceIte, reduceCtorEq, Nat.reduceAdd, Nat.reduceEqDiff, Nat.reduceBEq, Nat.reduceLT, Nat.reduceLeDiff, Nat.reduceMul, Nat.reduceSub, Int.reduceLE, Int.reduceLT, Int.reduceEq, Int.reduceBEq, Int.reduceBNe, Int.reduceToNat, Int.reduceNeg, Nat.reduceBNe, forall_eq_or_imp, st119, tmA, rdA, setX]
      rfl
  · obtain rfl : i = d := by omega
    rw [Nat.sub_self, tlM] at h2
    subst h2
    simp only at h
    simp only [OI0, OI1, OI2, OI3, OI4, OI5, OI6, OI7, OI8, OI9, OI10, OI11, OI12, reduceIte, reduceCtorEq, Nat.reduceAdd, Nat.reduceEqDiff, Nat.reduceBEq, Nat.reduceLT, Nat.reduceLeDiff, Nat.reduceMul, Nat.reduceSub, Int.reduceLE, Int.reduceLT, Int.reduceEq, Int.reduceBEq, Int.reduceBNe, Int.reduceToNat, Int.reduceNeg, Nat.reduceBNe, forall_eq_or_imp, st119, tmA, rdA, Int.lt_irrefl]
    refine c40 (S.drop p') e' ?_
    by_cases he : e' = 0
    · subst he
      simp only [OI0, OI1, OI2, OI3, OI4, OI5, OI6, OI7, OI8, OI9, OI10, OI11, OI12, reduceIte, reduceCtorEq, Nat.reduceAdd, Nat.reduceEqDiff, Nat.reduceBEq, Nat.reduceLT, Nat.reduceLeDiff, Nat.reduceMul, Nat.reduceSub, Int.reduceLE, Int.reduceLT, Int.reduceEq, Int.reduceBEq, Int.reduceBNe, Int.reduceToNat, Int.reduceNeg, Nat.reduceBNe, forall_eq_or_imp, i64A]
      simp only [ne_eq, not_true_eq_false, if_false] at h
      exact h
    · have hb : (e' != 0) = true := by simpa using he
      simp only [OI0, OI1, OI2, OI3, OI4, OI5, OI6, OI7, OI8, OI9, OI10, OI11, OI12, reduceIte, reduceCtorEq, Nat.reduceAdd, Nat.reduceEqDiff, Nat.reduceBEq, Nat.reduceLT, Nat.reduceLeDiff, Nat.reduceMul, Nat.reduceSub, Int.reduceLE, Int.reduceLT, Int.reduceEq, Int.reduceBEq, Int.reduceBNe, Int.reduceToNat, Int.reduceNeg, Nat.reduceBNe, forall_eq_or_imp, i64A, hb]
      simp only [ne_eq, he, not_false_eq_true, if_true] at h
      exact h
def st123 (I : World → Fp → Value → Fp → Prop) (S : List UInt8) (d ep : Nat) : Nat × X3 × Nat × Int → St
  | (i, x, p, e) => ⟨[(0, .ref ⟨0, [], 0⟩), (2, .ref ⟨1002, [], 0⟩), (3, .ref ⟨1003, [], 0⟩), (4, .v (.int .i64 i))], [(0, rfA S p e), (1002, tmA 0 0 (0, 0, 0)), (1003, tmA ep d x), (9999, .ext I)], []⟩
theorem c123 (S : List UInt8) (p : Nat) (e : Int) (hS : S.length ≤ 1000000) (hp : p ≤ S.length) {Q : AV → Al → Prop} (h : Q (timeM S p e).1.A [(0, rfA S (timeM S p e).2.1 (timeM S p e).2.2)]) : ACalls Try.prog 123 [(0, rfA S p e)] [.ref ⟨0, [], 0⟩] Q := by
  refine ok123.N hmix rfl ?_
  intro I
  simp only [cc123, OI0, OI1, OI2, OI3, OI4, OI5, OI6, OI7, OI8, OI9, OI10, OI11, OI12, reduceIte, reduceCtorEq, Nat.reduceAdd, Nat.reduceEqDiff, Nat.reduceBEq, Nat.reduceLT, Nat.reduceLeDiff, Nat.reduceMul, Nat.reduceSub, Int.reduceLE, Int.reduceLT, Int.reduceEq, Int.reduceBEq, Int.reduceBNe, Int.reduceToNat, Int.reduceNeg, Nat.reduceBNe, forall_eq_or_imp, rfA]
  refine c122 S 3 p e hS hp (by omega) ?_
  have hq := intM_le (most := 3) (e := e) hp
  have hd3 := intM_most (S := S) (most := 3) (p := p) (e := e)
  unfold timeM at h
  simp only at h
  generalize intM S 3 p e = r at h hq hd3
  obtain ⟨d, q, e1⟩ := r
  simp only at h hq hd3
  simp only [OI0, OI1, OI2, OI3, OI4, OI5, OI6, OI7, OI8, OI9, OI10, OI11, OI12, reduceIte, reduceCtorEq, Nat.reduceAdd, Nat.reduceEqDiff, Nat.reduceBEq, Nat.reduceLT, Nat.reduceLeDiff, Nat.reduceMul, Nat.reduceSub, Int.reduceLE, Int.reduceLT, Int.reduceEq, Int.reduceBEq, Int.reduceBNe, Int.reduceToNat, Int.reduceNeg, Nat.reduceBNe, forall_eq_or_imp, rfA, i64A]
  refine c122 S 1048576 q e1 hS hq (by omega) ?_
  have hq2 := intM_le (most := 1048576) (e := e1) hq
  have hep := intM_most (S := S) (most := 1048576) (p := q) (e := e1)
  generalize intM S 1048576 q e1 = r at h hq2 hep
  obtain ⟨ep, q2, e2⟩ := r
  simp only at h hq2 hep
  simp only [OI0, OI1, OI2, OI3, OI4, OI5, OI6, OI7, OI8, OI9, OI10, OI11, OI12, reduceIte, reduceCtorEq, Nat.reduceAdd, Nat.reduceEqDiff, Nat.reduceBEq, Nat.reduceLT, Nat.reduceLeDiff, Nat.reduceMul, Nat.reduceSub, Int.reduceLE, Int.reduceLT, Int.reduceEq, Int.reduceBEq, Int.reduceBNe, Int.reduceToNat, Int.reduceNeg, Nat.reduceBNe, forall_eq_or_imp, rfA, i64A, wrap_u32 hep]
  generalize hT : tlM S d 0 (0, 0, 0) q2 e2 = T at h
  refine W_loop (st123 I S d ep) (fun a => a.1 ≤ d ∧ tlM S (d - a.1) a.1 a.2.1 a.2.2.1 a.2.2.2 = T ∧ a.2.2.1 ≤ S.length) (fun a => d - a.1) (fun _ _ => rfl) ⟨(0, (0, 0, 0), q2, e2), ⟨by omega, hT, hq2⟩, ?_⟩ ?_
  · simp only [OI0, OI1, OI2, OI3, OI4, OI5, OI6, OI7, OI8, OI9, OI10, OI11, OI12, reduceIte, reduceCtorEq, Nat.reduceAdd, Nat.reduceEqDiff, Nat.reduceBEq, Nat.reduceLT, Nat.reduceLeDiff, Nat.reduceMul, Nat.reduceSub, Int.reduceLE, Int.reduceLT, Int.reduceEq, Int.reduceBEq, Int.reduceBNe, Int.reduceToNat, Int.reduceNeg, Nat.reduceBNe, forall_eq_or_imp, st123, tmA, rfA]
  rintro ⟨i, x, p', e'⟩ ⟨h1, h2, h3⟩
  simp only at h1 h2 h3
  refine W_of_N ok123.small hmix ?_
  by_cases hi : i < d
  · have hi' : (i : Int) < d := by omega
    simp only [OI0, OI1, OI2, OI3, OI4, OI5, OI6, OI7, OI8, OI9, OI10, OI11, OI12, reduceIte, reduceCtorEq, Nat.reduceAdd, Nat.reduceEqDiff, Nat.reduceBEq, Nat.reduceLT, Nat.reduceLeDiff, Nat.reduceMul, Nat.reduceSub, Int.reduceLE, Int.reduceLT, Int.reduceEq, Int.reduceBEq, Int.reduceBNe, Int.reduceToNat, Int.reduceNeg, Nat.reduceBNe, forall_eq_or_imp, st123, tmA, rfA, hi']
    refine c122 S 1048576 p' e' hS h3 (by omega) ?_
    rw [show d - i = (d - (i + 1)) + 1 by omega, tlM] at h2
    have hq3 := intM_le (most := 1048576) (e := e') h3
    have hv := intM_most (S := S) (most := 1048576) (p := p') (e := e')
    generalize intM S 1048576 p' e' = r at h2 hq3 hv
    obtain ⟨v, p2, e3⟩ := r
    simp only at h2 hq3 hv
    have w1 : IntKind.i64.wrap ((i : Int) + 1) = ((i + 1 : Nat) : Int) := by rw [wrap_i64 (by omega) (by omega)]; omega
    have h3i : (i : Int) < 3 := by omega
    have h0i : (0 : Int) ≤ i := by omega
    have hc : i = 0 ∨ i = 1 ∨ i = 2 := by omega
    rcases hc with rfl | rfl | rfl
    · simp only [OI0, OI1, OI2, OI3, OI4, OI5, OI6, OI7, OI8, OI9, OI10, OI11, OI12, reduceIte, reduceCtorEq, Nat.reduceAdd, Nat.reduceEqDiff, Nat.reduceBEq, Nat.reduceLT, Nat.reduceLeDiff, Nat.reduceMul, Nat.reduceSub, Int.reduceLE, Int.reduceLT, Int.reduceEq, Int.reduceBEq, Int.reduceBNe, Int.reduceToNat, Int.reduceNeg, Nat.reduceBNe, forall_eq_or_imp, rfA, i64A, wrap_u32 hv, w1, h3i, h0i, Int.natCast_mul, Int.cast_ofNat_Int]
      refine ⟨(0 + 1, setX x 0 v, p2, e3), ⟨⟨hi, h2, hq3⟩, by simp only; omega⟩, ?_⟩
      simp only [OI0, OI1, OI2, OI3, OI4, OI5, OI6, OI7, OI8, OI9, OI10, OI11, OI12, reduceIte, reduceCtorEq, Nat.reduceAdd, Nat.reduceEqDiff, Nat.reduceBEq, Nat.reduceLT, Nat.reduceLeDiff, Nat.reduceMul, Nat.reduceSub, Int.reduceLE, Int.reduceLT, Int.reduceEq, Int.reduceBEq, Int.reduceBNe, Int.reduceToNat, Int.reduceNeg, Nat.reduceBNe, forall_eq_or_imp, st123, tmA, rfA, setX]
      rfl
    · simp only [OI0, OI1, OI2, OI3, OI4, OI5, OI6, OI7, OI8, OI9, OI10, OI11, OI12, reduceIte, reduceCtorEq, Nat.reduceAdd, Nat.reduceEqDiff, Nat.reduceBEq, Nat.reduceLT, Nat.reduceLeDiff, Nat.reduceMul, Nat.reduceSub, Int.reduceLE, Int.reduceLT, Int.reduceEq, Int.reduceBEq, Int.reduceBNe, Int.reduceToNat, Int.reduceNeg, Nat.reduceBNe, forall_eq_or_imp, rfA, i64A, wrap_u32 hv, w1, h3i, h0i, Int.natCast_mul, Int.cast_ofNat_Int]
      refine ⟨(1 + 1, setX x 1 v, p2, e3), ⟨⟨hi, h2, hq3⟩, by simp only; omega⟩, ?_⟩
      simp only [OI0, OI1, OI2, OI3, OI4, OI5, OI6, OI7, OI8, OI9, OI10, OI11, OI12, reduceIte, reduceCtorEq, Nat.reduceAdd, Nat.reduceEqDiff, Nat.reduceBEq, Nat.reduceLT, Nat.reduceLeDiff, Nat.reduceMul, Nat.reduceSub, Int.reduceLE, Int.reduceLT, Int.reduceEq, Int.reduceBEq, Int.reduceBNe, Int.reduceToNat, Int.reduceNeg, Nat.reduceBNe, forall_eq_or_imp, st123, tmA, rfA, setX]
      rfl
    · simp only [OI0, OI1, OI2, OI3, OI4, OI5, OI6, OI7, OI8, OI9, OI10, OI11, OI12, reduceIte, reduceCtorEq, Nat.reduceAdd, Nat.reduceEqDiff, Nat.reduceBEq, Nat.reduceLT, Nat.reduceLeDiff, Nat.reduceMul, Nat.reduceSub, Int.reduceLE, Int.reduceLT, Int.reduceEq, Int.reduceBEq, Int.reduceBNe, Int.reduceToNat, Int.reduceNeg, Nat.reduceBNe, forall_eq_or_imp, rfA, i64A, wrap_u32 hv, w1, h3i, h0i, Int.natCast_mul, Int.cast_ofNat_Int]
      refine ⟨(2 + 1, setX x 2 v, p2, e3), ⟨⟨hi, h2, hq3⟩, by simp only; omega⟩, ?_⟩
      simp only [OI0, OI1, OI2, OI3, OI4, OI5, OI6, OI7, OI8, OI9, OI10, OI11, OI12, reduceIte, reduceCtorEq, Nat.reduceAdd, Nat.reduceEqDiff, Nat.reduceBEq, Nat.reduceLT, Nat.reduceLeDiff, Nat.reduceMul, Nat.reduceSub, Int.reduceLE, Int.reduceLT, Int.reduceEq, Int.reduceBEq, Int.reduceBNe, Int.reduceToNat, Int.reduceNeg, Nat.reduceBNe, forall_eq_or_imp, st123, tmA, rfA, setX]
      rfl
  · obtain rfl : i = d := by omega
    rw [Nat.sub_self, tlM] at h2
    subst h2
    simp only at h
    by_cases he : e' = 0
    · subst he
      simp only [OI0, OI1, OI2, OI3, OI4, OI5, OI6, OI7, OI8, OI9, OI10, OI11, OI12, reduceIte, reduceCtorEq, Nat.reduceAdd, Nat.reduceEqDiff, Nat.reduceBEq, Nat.reduceLT, Nat.reduceLeDiff, Nat.reduceMul, Nat.reduceSub, Int.reduceLE, Int.reduceLT, Int.reduceEq, Int.reduceBEq, Int.reduceBNe, Int.reduceToNat, Int.reduceNeg, Nat.reduceBNe, forall_eq_or_imp, st123, tmA, rfA, Int.lt_irrefl]
      simp only [ne_eq, not_true_eq_false, if_false] at h
      exact h
    · have hb : (e' != 0) = true := by simpa using he
      simp only [OI0, OI1, OI2, OI3, OI4, OI5, OI6, OI7, OI8, OI9, OI10, OI11, OI12, reduceIte, reduceCtorEq, Nat.reduceAdd, Nat.reduceEqDiff, Nat.reduceBEq, Nat.reduceLT, Nat.reduceLeDiff, Nat.reduceMul, Nat.reduceSub, Int.reduceLE, Int.reduceLT, Int.reduceEq, Int.reduceBEq, Int.reduceBNe, Int.reduceToNat, Int.reduceNeg, Nat.reduceBNe, forall_eq_or_imp, st123, tmA, rfA, Int.lt_irrefl, hb]
      simp only [ne_eq, he, not_false_eq_true, if_true] at h
      exact h
end Go.Proofs.Ythlehngbadianaa.Ow
