/- What the functions of the program do, each once: contracts of the logic (part d7). -/
import Derived.Test.YthlehngbadianaaTd6
set_option linter.unusedVariables false
set_option linter.unusedSimpArgs false
set_option linter.unnecessarySimpa false
set_option maxRecDepth 100000
set_option maxHeartbeats 4000000
namespace Go.Proofs.Ythlehngbadianaa.Ow
open Go Go.RowKit Go.Proofs
/- watershed/stamp.Write -/
def cc108 : CC := (.seq (.region [⟨none, 1, (.box 0), [0], none, []⟩, ⟨none, 2, (.val (.mv (.c (.string ⟨#[]⟩)))), [2], none, []⟩, ⟨none, 3, (.val (.mv (.c (.int .i64 0)))), [3], none, []⟩]) (.seq (.seq (.region [⟨none, 8, (.val (.ld (.s 1) (some 5))), [], none, []⟩, ⟨none, 9, (.call 116 [(.s 8)]), [8], none, []⟩, ⟨none, 4, (.val (.mv (.s 9))), [9], none, []⟩]) (.seq (.region [⟨none, 10, (.val (.mv (.s 4))), [], none, []⟩, ⟨none, 11, (.val (.bin .neq (.s 10) (.c (.int .i64 0)))), [10], none, []⟩]) (.cond (.s 11) (.seq (.region [⟨none, 12, (.val (.mv (.s 4))), [1, 4, 11], none, []⟩, ⟨none, 2, (.val (.mv (.c (.string ⟨#[]⟩)))), [], none, []⟩, ⟨none, 3, (.val (.mv (.s 12))), [12], none, []⟩]) .ret) .skip))) (.seq (.drawn (.op ⟨none, 13, (.val (.fa (.s 1) 1)), [], none, []⟩ (.op ⟨none, 14, (.val (.ld (.s 13) none)), [], none, []⟩ (.op ⟨none, 15, (.val (.cvi .u64 (.s 14))), [], none, []⟩ (.op ⟨none, 17, (.val (.fa (.s 1) 0)), [], none, []⟩ (.alt (.op ⟨none, 16, (.call 110 [(.s 15)]), [], none, []⟩ (.op ⟨none, 18, (.val (.ld (.s 17) none)), [], none, []⟩ (.op ⟨none, 19, (.val (.cvi .u64 (.s 18))), [], none, []⟩ (.op ⟨none, 20, (.call 110 [(.s 19)]), [], none, []⟩ (.op ⟨none, 21, (.val (.bin .add (.s 16) (.s 20))), [], none, []⟩ (.op ⟨none, 5, (.val (.mv (.s 21))), [], none, []⟩ .done)))))) (.op ⟨none, 18, (.val (.ld (.s 17) none)), [], none, []⟩ (.op ⟨none, 19, (.val (.cvi .u64 (.s 18))), [], none, []⟩ (.op ⟨none, 16, (.call 110 [(.s 15)]), [], none, []⟩ (.op ⟨none, 20, (.call 110 [(.s 19)]), [], none, []⟩ (.op ⟨none, 21, (.val (.bin .add (.s 16) (.s 20))), [], none, []⟩ (.op ⟨none, 5, (.val (.mv (.s 21))), [], none, []⟩ .done)))))))))))) (.seq (.seq (.region [⟨none, 22, (.val (.fa (.s 1) 2)), [4, 11, 13, 14, 15, 16, 17, 18, 19, 20, 21], none, []⟩, ⟨none, 23, (.val (.fa (.s 1) 1)), [1], none, []⟩, ⟨none, 24, (.val (.ld (.s 23) none)), [23], none, []⟩, ⟨none, 25, (.val (.sla (.s 22) none (some (.s 24)) none 3 1)), [22, 24], none, []⟩, ⟨none, 26, (.val (.lnl (.s 25) 1)), [], none, []⟩, ⟨none, 27, (.val (.mv (.c (.int .i64 0)))), [], none, []⟩]) (.block 0 (.loop (.seq (.region [⟨none, 28, (.val (.bin .lss (.s 27) (.s 26))), [], none, []⟩]) (.seq (.cond (.s 28) .skip (.exit 0)) (.seq (.block 1 (.seq (.region [⟨none, 29, (.val (.ia (.s 25) (.s 27) 1)), [28], none, []⟩, ⟨none, 30, (.val (.ld (.s 29) none)), [29], none, []⟩, ⟨none, 7, (.val (.mv (.s 30))), [30], none, []⟩]) (.region [⟨none, 31, (.val (.mv (.s 5))), [5], none, []⟩, ⟨none, 32, (.val (.mv (.s 7))), [7], none, []⟩, ⟨none, 33, (.val (.cvi .u64 (.s 32))), [32], none, []⟩, ⟨none, 34, (.call 110 [(.s 33)]), [33], none, []⟩, ⟨none, 35, (.val (.bin .add (.s 31) (.s 34))), [31, 34], none, []⟩, ⟨none, 5, (.val (.mv (.s 35))), [35], none, []⟩]))) (.region [⟨none, 36, (.val (.bin .add (.s 27) (.c (.int .i64 1)))), [27], none, []⟩, ⟨none, 27, (.val (.mv (.s 36))), [36], none, []⟩]))))))) (.seq (.region [⟨none, 37, (.val (.mv (.s 5))), [5, 25, 26, 27, 28], none, []⟩, ⟨none, 2, (.val (.mv (.s 37))), [37], none, []⟩, ⟨none, 3, (.val (.mv (.c (.int .i64 0)))), [], none, []⟩]) .ret)))))
theorem ok108 : FnOk Try.prog 108 cc108 [(.t 2), (.t 3)] 1 38 := ⟨⟨_, Try.func108, by kernel_rfl, by kernel_rfl, by kernel_rfl⟩, by decide, by decide⟩

/- watershed/watershedref04.Write -/
def cc113 : CC := (.seq (.region [⟨none, 1, (.box 0), [0], none, []⟩, ⟨none, 2, (.val (.mv (.c (.string ⟨#[]⟩)))), [2], none, []⟩, ⟨none, 3, (.val (.mv (.c (.int .i64 0)))), [3], none, []⟩]) (.seq (.region [⟨none, 7, (.val (.ld (.s 1) (some 5))), [], none, []⟩, ⟨none, 8, (.call 117 [(.s 7)]), [7], none, []⟩, ⟨none, 4, (.val (.mv (.s 8))), [8], none, []⟩]) (.seq (.seq (.region [⟨none, 9, (.val (.mv (.s 4))), [], none, []⟩, ⟨none, 10, (.val (.bin .neq (.s 9) (.c (.int .i64 0)))), [9], none, []⟩]) (.cond (.s 10) (.seq (.region [⟨none, 11, (.val (.mv (.s 4))), [1, 4, 10], none, []⟩, ⟨none, 2, (.val (.mv (.c (.string ⟨#[]⟩)))), [], none, []⟩, ⟨none, 3, (.val (.mv (.s 11))), [11], none, []⟩]) .ret) .skip)) (.seq (.drawn (.op ⟨none, 12, (.val (.fa (.s 1) 1)), [], none, []⟩ (.op ⟨none, 13, (.val (.ld (.s 12) none)), [], none, []⟩ (.op ⟨none, 14, (.val (.cvi .u64 (.s 13))), [], none, []⟩ (.op ⟨none, 16, (.val (.fa (.s 1) 0)), [], none, []⟩ (.alt (.op ⟨none, 15, (.call 114 [(.s 14)]), [], none, []⟩ (.op ⟨none, 17, (.val (.ld (.s 16) none)), [], none, []⟩ (.op ⟨none, 18, (.val (.cvi .u64 (.s 17))), [], none, []⟩ (.op ⟨none, 19, (.call 114 [(.s 18)]), [], none, []⟩ (.op ⟨none, 20, (.val (.bin .add (.s 15) (.s 19))), [], none, []⟩ (.op ⟨none, 5, (.val (.mv (.s 20))), [], none, []⟩ .done)))))) (.op ⟨none, 17, (.val (.ld (.s 16) none)), [], none, []⟩ (.op ⟨none, 18, (.val (.cvi .u64 (.s 17))), [], none, []⟩ (.op ⟨none, 15, (.call 114 [(.s 14)]), [], none, []⟩ (.op ⟨none, 19, (.call 114 [(.s 18)]), [], none, []⟩ (.op ⟨none, 20, (.val (.bin .add (.s 15) (.s 19))), [], none, []⟩ (.op ⟨none, 5, (.val (.mv (.s 20))), [], none, []⟩ .done)))))))))))) (.seq (.seq (.region [⟨none, 6, (.val (.mv (.c (.int .i64 0)))), [4, 10, 12, 13, 14, 15, 16, 17, 18, 19, 20], none, []⟩]) (.block 0 (.loop (.seq (.seq (.region [⟨none, 21, (.val (.mv (.s 6))), [], none, []⟩, ⟨none, 22, (.val (.fa (.s 1) 1)), [], none, []⟩, ⟨none, 23, (.val (.ld (.s 22) none)), [22], none, []⟩, ⟨none, 24, (.val (.bin .lss (.s 21) (.s 23))), [21, 23], none, []⟩]) (.cond (.s 24) .skip (.exit 0))) (.seq (.block 1 (.region [⟨none, 27, (.val (.mv (.s 5))), [5, 24], none, []⟩, ⟨none, 28, (.val (.mv (.s 6))), [], none, []⟩, ⟨none, 29, (.val (.fa (.s 1) 2)), [], none, []⟩, ⟨none, 30, (.val (.iaa (.s 29) (.s 28) 3 1)), [28, 29], none, []⟩, ⟨none, 31, (.val (.ld (.s 30) none)), [30], none, []⟩, ⟨none, 32, (.val (.cvi .u64 (.s 31))), [31], none, []⟩, ⟨none, 33, (.call 114 [(.s 32)]), [32], none, []⟩, ⟨none, 34, (.val (.bin .add (.s 27) (.s 33))), [27, 33], none, []⟩, ⟨none, 5, (.val (.mv (.s 34))), [34], none, []⟩])) (.region [⟨none, 25, (.val (.mv (.s 6))), [6], none, []⟩, ⟨none, 26, (.val (.bin .add (.s 25) (.c (.int .i64 1)))), [25], none, []⟩, ⟨none, 6, (.val (.mv (.s 26))), [26], none, []⟩])))))) (.seq (.region [⟨none, 35, (.val (.mv (.s 5))), [1, 5, 6, 24], none, []⟩, ⟨none, 2, (.val (.mv (.s 35))), [35], none, []⟩, ⟨none, 3, (.val (.mv (.c (.int .i64 0)))), [], none, []⟩]) .ret))))))
theorem ok113 : FnOk Try.prog 113 cc113 [(.t 2), (.t 3)] 1 36 := ⟨⟨_, Try.func113, by kernel_rfl, by kernel_rfl, by kernel_rfl⟩, by decide, by decide⟩


theorem sz_mk (l : List UInt8) : (ByteArray.mk l.toArray).size = l.length := rfl
theorem app_mk (l m : List UInt8) : (ByteArray.mk l.toArray) ++ (ByteArray.mk m.toArray) = ⟨(l ++ m).toArray⟩ := by
  apply ByteArray.ext
  simp [ByteArray.data_append]
theorem app_ok {l m : List UInt8} (h : l.length + m.length ≤ 1000000000) : ¬ IntKind.i64.max < ((l.length + m.length : Nat) : Int) := by
  have : IntKind.i64.max = 9223372036854775807 := rfl
  rw [this]; omega
theorem nmax {n : Nat} (h : n ≤ 1000000000) : ¬ IntKind.i64.max < (n : Int) := by
  have : IntKind.i64.max = 9223372036854775807 := rfl
  rw [this]; omega
def lpB (d x y z : Nat) : List UInt8 := match d with
  | 0 => []
  | 1 => numB x
  | 2 => numB x ++ numB y
  | _ => numB x ++ numB y ++ numB z
def timeB (ep d x y z : Nat) : List UInt8 := numB d ++ numB ep ++ lpB d x y z
def st108 (I : World → Fp → Value → Fp → Prop) (ep d x y z : Nat) (i : Nat) : St := ⟨[(5, strV (numB d ++ numB ep ++ lpB i x y z)), (25, .sa ⟨1001, [], 2⟩ 1 d 3), (26, .v (.int .i64 d)), (27, .v (.int .i64 i))], [(1001, tmI ep d x y z), (9999, .ext I)], []⟩
theorem c108 (ep d x y z : Nat) (hep : ep < 4294967296) (h : chkT ep d x y z = 0) {Q : AV → Al → Prop} (hq : Q (.tup [strV (timeB ep d x y z), i64A 0]) []) : ACalls Try.prog 108 [] [tmI ep d x y z] Q := by
  refine ok108.N hmix rfl ?_
  intro I
  have hb : d ≤ 3 ∧ ep ≤ 1048576 ∧ x ≤ 1048576 ∧ y ≤ 1048576 ∧ z ≤ 1048576 := by
    unfold chkT at h
    split at h
    · simp at h
    · split at h
      · simp at h
      · omega
  obtain ⟨b1, b2, b3, b4, b5⟩ := hb
  simp only [cc108, OI0, OI1, OI2, OI3, OI4, OI5, OI6, OI7, OI8, OI9, OI10, OI11, OI12, reduceIte, reduceCtorEq, Nat.reduceAdd, Nat.reduceEqDiff, Nat.reduceBEq, Nat.reduceLT, Nat.reduceLeDiff, Nat.reduceMul, Nat.reduceSub, Int.reduceLE, Int.reduceLT, Int.reduceEq, Int.reduceBEq, Int.reduceBNe, Int.reduceToNat, Int.reduceNeg, Nat.reduceBNe, forall_eq_or_imp, tmI]
  refine c116 ep d x y z ?_
  rw [h]
  simp only [OI0, OI1, OI2, OI3, OI4, OI5, OI6, OI7, OI8, OI9, OI10, OI11, OI12, reduceIte, reduceCtorEq, Nat.reduceAdd, Nat.reduceEqDiff, Nat.reduceBEq, Nat.reduceLT, Nat.reduceLeDiff, Nat.reduceMul, Nat.reduceSub, Int.reduceLE, Int.reduceLT, Int.reduceEq, Int.reduceBEq, Int.reduceBNe, Int.reduceToNat, Int.reduceNeg, Nat.reduceBNe, forall_eq_or_imp, i64A]
  have wd : IntKind.u64.wrap (d : Int) = d := wrap_u64 (by omega) (by omega)
  have we : IntKind.u64.wrap (ep : Int) = ep := wrap_u64 (by omega) (by omega)
  have wx : IntKind.u64.wrap (x : Int) = x := wrap_u64 (by omega) (by omega)
  have wy : IntKind.u64.wrap (y : Int) = y := wrap_u64 (by omega) (by omega)
  have wz : IntKind.u64.wrap (z : Int) = z := wrap_u64 (by omega) (by omega)
  have ld := numB_len64 (v := d) (by omega)
  have le := numB_len64 (v := ep) (by omega)
  have lx := numB_len64 (v := x) (by omega)
  have ly := numB_len64 (v := y) (by omega)
  have lz := numB_len64 (v := z) (by omega)
  have k1 := app_ok (l := numB d) (m := numB ep) (by omega)
  refine W_drawnCut ok108.small hmix (fun _ : Unit => ⟨[(1, .ref ⟨1001, [], 0⟩), (5, strV (numB d ++ numB ep))], [(1001, tmI ep d x y z), (9999, .ext I)], []⟩) (fun _ => True) (fun _ _ => rfl) ?_ ?_
  · apply NT_sound
    simp only [OI0, OI1, OI2, OI3, OI4, OI5, OI6, OI7, OI8, OI9, OI10, OI11, OI12, reduceIte, reduceCtorEq, Nat.reduceAdd, Nat.reduceEqDiff, Nat.reduceBEq, Nat.reduceLT, Nat.reduceLeDiff, Nat.reduceMul, Nat.reduceSub, Int.reduceLE, Int.reduceLT, Int.reduceEq, Int.reduceBEq, Int.reduceBNe, Int.reduceToNat, Int.reduceNeg, Nat.reduceBNe, forall_eq_or_imp, tmI, wd, we]
    refine ⟨c110 d (by omega) ?_, c110 d (by omega) ?_⟩
    · simp only [OI0, OI1, OI2, OI3, OI4, OI5, OI6, OI7, OI8, OI9, OI10, OI11, OI12, reduceIte, reduceCtorEq, Nat.reduceAdd, Nat.reduceEqDiff, Nat.reduceBEq, Nat.reduceLT, Nat.reduceLeDiff, Nat.reduceMul, Nat.reduceSub, Int.reduceLE, Int.reduceLT, Int.reduceEq, Int.reduceBEq, Int.reduceBNe, Int.reduceToNat, Int.reduceNeg, Nat.reduceBNe, forall_eq_or_imp, strV, wd, we]
      refine c110 ep (by omega) ?_
      simp only [OI0, OI1, OI2, OI3, OI4, OI5, OI6, OI7, OI8, OI9, OI10, OI11, OI12, reduceIte, reduceCtorEq, Nat.reduceAdd, Nat.reduceEqDiff, Nat.reduceBEq, Nat.reduceLT, Nat.reduceLeDiff, Nat.reduceMul, Nat.reduceSub, Int.reduceLE, Int.reduceLT, Int.reduceEq, Int.reduceBEq, Int.reduceBNe, Int.reduceToNat, Int.reduceNeg, Nat.reduceBNe, forall_eq_or_imp, strV, sz_mk, app_mk, k1]
      refine W_of_N ok108.small hmix ?_
      simp only [OI0, OI1, OI2, OI3, OI4, OI5, OI6, OI7, OI8, OI9, OI10, OI11, OI12, reduceIte, reduceCtorEq, Nat.reduceAdd, Nat.reduceEqDiff, Nat.reduceBEq, Nat.reduceLT, Nat.reduceLeDiff, Nat.reduceMul, Nat.reduceSub, Int.reduceLE, Int.reduceLT, Int.reduceEq, Int.reduceBEq, Int.reduceBNe, Int.reduceToNat, Int.reduceNeg, Nat.reduceBNe, forall_eq_or_imp]
      refine ⟨(), trivial, ?_⟩
      simp only [OI0, OI1, OI2, OI3, OI4, OI5, OI6, OI7, OI8, OI9, OI10, OI11, OI12, reduceIte, reduceCtorEq, Nat.reduceAdd, Nat.reduceEqDiff, Nat.reduceBEq, Nat.reduceLT, Nat.reduceLeDiff, Nat.reduceMul, Nat.reduceSub, Int.reduceLE, Int.reduceLT, Int.reduceEq, Int.reduceBEq, Int.reduceBNe, Int.reduceToNat, Int.reduceNeg, Nat.reduceBNe, forall_eq_or_imp, tmI, strV]
    · simp only [OI0, OI1, OI2, OI3, OI4, OI5, OI6, OI7, OI8, OI9, OI10, OI11, OI12, reduceIte, reduceCtorEq, Nat.reduceAdd, Nat.reduceEqDiff, Nat.reduceBEq, Nat.reduceLT, Nat.reduceLeDiff, Nat.reduceMul, Nat.reduceSub, Int.reduceLE, Int.reduceLT, Int.reduceEq, Int.reduceBEq, Int.reduceBNe, Int.reduceToNat, Int.reduceNeg, Nat.reduceBNe, forall_eq_or_imp, strV, wd, we]
      refine c110 ep (by omega) ?_
      simp only [OI0, OI1, OI2, OI3, OI4, OI5, OI6, OI7, OI8, OI9, OI10, OI11, OI12, reduceIte, reduceCtorEq, Nat.reduceAdd, Nat.reduceEqDiff, Nat.reduceBEq, Nat.reduceLT, Nat.reduceLeDiff, Nat.reduceMul, Nat.reduceSub, Int.reduceLE, Int.reduceLT, Int.reduceEq, Int.reduceBEq, Int.reduceBNe, Int.reduceToNat, Int.reduceNeg, Nat.reduceBNe, forall_eq_or_imp, strV, sz_mk, app_mk, k1]
      refine W_of_N ok108.small hmix ?_
      simp only [OI0, OI1, OI2, OI3, OI4, OI5, OI6, OI7, OI8, OI9, OI10, OI11, OI12, reduceIte, reduceCtorEq, Nat.reduceAdd, Nat.reduceEqDiff, Nat.reduceBEq, Nat.reduceLT, Nat.reduceLeDiff, Nat.reduceMul, Nat.reduceSub, Int.reduceLE, Int.reduceLT, Int.reduceEq, Int.reduceBEq, Int.reduceBNe, Int.reduceToNat, Int.reduceNeg, Nat.reduceBNe, forall_eq_or_imp]
      refine ⟨(), trivial, ?_⟩
      simp only [OI0, OI1, OI2, OI3, OI4, OI5, OI6, OI7, OI8, OI9, OI10, OI11, OI12, reduceIte, reduceCtorEq, Nat.reduceAdd, Nat.reduceEqDiff, Nat.reduceBEq, Nat.reduceLT, Nat.reduceLeDiff, Nat.reduceMul, Nat.reduceSub, Int.reduceLE, Int.reduceLT, Int.reduceEq, Int.reduceBEq, Int.reduceBNe, Int.reduceToNat, Int.reduceNeg, Nat.reduceBNe, forall_eq_or_imp, tmI, strV]
  · intro _ _
    refine W_of_N ok108.small hmix ?_
    have od : okBounds 3 none (some (d : Int)) none = some (0, d, 3) := by simp [okBounds]; omega
    have od2 : 2 + d ≤ 5 := by omega
    have hlt : (List.take d [AV.v (Value.int .u32 x), AV.v (Value.int .u32 y), AV.v (Value.int .u32 z)]).length = d := by simp; omega
    simp only [OI0, OI1, OI2, OI3, OI4, OI5, OI6, OI7, OI8, OI9, OI10, OI11, OI12, reduceIte, reduceCtorEq, Nat.reduceAdd, Nat.reduceEqDiff, Nat.reduceBEq, Nat.reduceLT, Nat.reduceLeDiff, Nat.reduceMul, Nat.reduceSub, Int.reduceLE, Int.reduceLT, Int.reduceEq, Int.reduceBEq, Int.reduceBNe, Int.reduceToNat, Int.reduceNeg, Nat.reduceBNe, forall_eq_or_imp, tmI, strV, od, od2, hlt]
    have w0 : IntKind.i64.wrap (0 + 1) = 1 := rfl
    have w1 : IntKind.i64.wrap (1 + 1) = 2 := rfl
    have w2 : IntKind.i64.wrap (2 + 1) = 3 := rfl
    refine W_loop (st108 I ep d x y z) (fun i => i ≤ d) (fun i => d - i) (fun _ _ => rfl) ⟨0, by omega, ?_⟩ ?_
    · simp only [OI0, OI1, OI2, OI3, OI4, OI5, OI6, OI7, OI8, OI9, OI10, OI11, OI12, reduceIte, reduceCtorEq, Nat.reduceAdd, Nat.reduceEqDiff, Nat.reduceBEq, Nat.reduceLT, Nat.reduceLeDiff, Nat.reduceMul, Nat.reduceSub, Int.reduceLE, Int.reduceLT, Int.reduceEq, Int.reduceBEq, Int.reduceBNe, Int.reduceToNat, Int.reduceNeg, Nat.reduceBNe, forall_eq_or_imp, st108, tmI, strV, lpB]
      try rfl
    intro i hi
    refine W_of_N ok108.small hmix ?_
    by_cases hid : i < d
    · have hid' : (i : Int) < d := by omega
      have hc : i = 0 ∨ i = 1 ∨ i = 2 := by omega
      rcases hc with rfl | rfl | rfl
      · have k2 := nmax (n := (numB d).length + (numB ep).length + (numB x).length) (by omega)
        simp only [Int.natCast_zero] at hid'
        simp only [OI0, OI1, OI2, OI3, OI4, OI5, OI6, OI7, OI8, OI9, OI10, OI11, OI12, reduceIte, reduceCtorEq, Nat.reduceAdd, Nat.reduceEqDiff, Nat.reduceBEq, Nat.reduceLT, Nat.reduceLeDiff, Nat.reduceMul, Nat.reduceSub, Int.reduceLE, Int.reduceLT, Int.reduceEq, Int.reduceBEq, Int.reduceBNe, Int.reduceToNat, Int.reduceNeg, Nat.reduceBNe, forall_eq_or_imp, st108, tmI, strV, od2, hlt, hid', Int.natCast_zero, lpB, wx]
        refine c110 x (by omega) ?_
        simp only [OI0, OI1, OI2, OI3, OI4, OI5, OI6, OI7, OI8, OI9, OI10, OI11, OI12, reduceIte, reduceCtorEq, Nat.reduceAdd, Nat.reduceEqDiff, Nat.reduceBEq, Nat.reduceLT, Nat.reduceLeDiff, Nat.reduceMul, Nat.reduceSub, Int.reduceLE, Int.reduceLT, Int.reduceEq, Int.reduceBEq, Int.reduceBNe, Int.reduceToNat, Int.reduceNeg, Nat.reduceBNe, forall_eq_or_imp, strV, sz_mk, app_mk, k2, w0]
        refine ⟨1, ⟨by omega, by omega⟩, ?_⟩
        simp only [OI0, OI1, OI2, OI3, OI4, OI5, OI6, OI7, OI8, OI9, OI10, OI11, OI12, reduceIte, reduceCtorEq, Nat.reduceAdd, Nat.reduceEqDiff, Nat.reduceBEq, Nat.reduceLT, Nat.reduceLeDiff, Nat.reduceMul, Nat.reduceSub, Int.reduceLE, Int.reduceLT, Int.reduceEq, Int.reduceBEq, Int.reduceBNe, Int.reduceToNat, Int.reduceNeg, Nat.reduceBNe, forall_eq_or_imp, st108, tmI, strV, lpB]
        try rfl
      · have k2 := nmax (n := (numB d).length + ((numB ep).length + (numB x).length) + (numB y).length) (by omega)
        simp only [Int.natCast_one] at hid'
        simp only [OI0, OI1, OI2, OI3, OI4, OI5, OI6, OI7, OI8, OI9, OI10, OI11, OI12, reduceIte, reduceCtorEq, Nat.reduceAdd, Nat.reduceEqDiff, Nat.reduceBEq, Nat.reduceLT, Nat.reduceLeDiff, Nat.reduceMul, Nat.reduceSub, Int.reduceLE, Int.reduceLT, Int.reduceEq, Int.reduceBEq, Int.reduceBNe, Int.reduceToNat, Int.reduceNeg, Nat.reduceBNe, forall_eq_or_imp, st108, tmI, strV, od2, hlt, hid', Int.natCast_one, lpB, wy]
        refine c110 y (by omega) ?_
        simp only [OI0, OI1, OI2, OI3, OI4, OI5, OI6, OI7, OI8, OI9, OI10, OI11, OI12, reduceIte, reduceCtorEq, Nat.reduceAdd, Nat.reduceEqDiff, Nat.reduceBEq, Nat.reduceLT, Nat.reduceLeDiff, Nat.reduceMul, Nat.reduceSub, Int.reduceLE, Int.reduceLT, Int.reduceEq, Int.reduceBEq, Int.reduceBNe, Int.reduceToNat, Int.reduceNeg, Nat.reduceBNe, forall_eq_or_imp, strV, sz_mk, app_mk, k2, w1]
        refine ⟨2, ⟨by omega, by omega⟩, ?_⟩
        simp only [OI0, OI1, OI2, OI3, OI4, OI5, OI6, OI7, OI8, OI9, OI10, OI11, OI12, reduceIte, reduceCtorEq, Nat.reduceAdd, Nat.reduceEqDiff, Nat.reduceBEq, Nat.reduceLT, Nat.reduceLeDiff, Nat.reduceMul, Nat.reduceSub, Int.reduceLE, Int.reduceLT, Int.reduceEq, Int.reduceBEq, Int.reduceBNe, Int.reduceToNat, Int.reduceNeg, Nat.reduceBNe, forall_eq_or_imp, st108, tmI, strV, lpB]
        try rfl
      · have k2 := nmax (n := (numB d).length + ((numB ep).length + ((numB x).length + (numB y).length)) + (numB z).length) (by omega)
        simp only [Int.cast_ofNat_Int] at hid'
        simp only [OI0, OI1, OI2, OI3, OI4, OI5, OI6, OI7, OI8, OI9, OI10, OI11, OI12, reduceIte, reduceCtorEq, Nat.reduceAdd, Nat.reduceEqDiff, Nat.reduceBEq, Nat.reduceLT, Nat.reduceLeDiff, Nat.reduceMul, Nat.reduceSub, Int.reduceLE, Int.reduceLT, Int.reduceEq, Int.reduceBEq, Int.reduceBNe, Int.reduceToNat, Int.reduceNeg, Nat.reduceBNe, forall_eq_or_imp, st108, tmI, strV, od2, hlt, hid', lpB, wz]
        refine c110 z (by omega) ?_
        simp only [OI0, OI1, OI2, OI3, OI4, OI5, OI6, OI7, OI8, OI9, OI10, OI11, OI12, reduceIte, reduceCtorEq, Nat.reduceAdd, Nat.reduceEqDiff, Nat.reduceBEq, Nat.reduceLT, Nat.reduceLeDiff, Nat.reduceMul, Nat.reduceSub, Int.reduceLE, Int.reduceLT, Int.reduceEq, Int.reduceBEq, Int.reduceBNe, Int.reduceToNat, Int.reduceNeg, Nat.reduceBNe, forall_eq_or_imp, strV, sz_mk, app_mk, k2, w2]
        refine ⟨3, ⟨by omega, by omega⟩, ?_⟩
        simp only [OI0, OI1, OI2, OI3, OI4, OI5, OI6, OI7, OI8, OI9, OI10, OI11, OI12, reduceIte, reduceCtorEq, Nat.reduceAdd, Nat.reduceEqDiff, Nat.reduceBEq, Nat.reduceLT, Nat.reduceLeDiff, Nat.reduceMul, Nat.reduceSub, Int.reduceLE, Int.reduceLT, Int.reduceEq, Int.reduceBEq, Int.reduceBNe, Int.reduceToNat, Int.reduceNeg, Nat.reduceBNe, forall_eq_or_imp, st108, tmI, strV, lpB]
        try rfl
    · obtain rfl : i = d := by omega
      simp only [OI0, OI1, OI2, OI3, OI4, OI5, OI6, OI7, OI8, OI9, OI10, OI11, OI12, reduceIte, reduceCtorEq, Nat.reduceAdd, Nat.reduceEqDiff, Nat.reduceBEq, Nat.reduceLT, Nat.reduceLeDiff, Nat.reduceMul, Nat.reduceSub, Int.reduceLE, Int.reduceLT, Int.reduceEq, Int.reduceBEq, Int.reduceBNe, Int.reduceToNat, Int.reduceNeg, Nat.reduceBNe, forall_eq_or_imp, st108, tmI, strV, Int.lt_irrefl]
      simpa [timeB, strV, i64A] using hq
def st113 (I : World → Fp → Value → Fp → Prop) (ep d x y z : Nat) (i : Nat) : St := ⟨[(1, .ref ⟨1001, [], 0⟩), (5, strV (numB d ++ numB ep ++ lpB i x y z)), (6, .v (.int .i64 i))], [(1001, tmI ep d x y z), (9999, .ext I)], []⟩
theorem c113 (ep d x y z : Nat) (hep : ep < 4294967296) (h : chkT ep d x y z = 0) {Q : AV → Al → Prop} (hq : Q (.tup [strV (timeB ep d x y z), i64A 0]) []) : ACalls Try.prog 113 [] [tmI ep d x y z] Q := by
  refine ok113.N hmix rfl ?_
  intro I
  have hb : d ≤ 3 ∧ ep ≤ 1048576 ∧ x ≤ 1048576 ∧ y ≤ 1048576 ∧ z ≤ 1048576 := by
    unfold chkT at h
    split at h
    · simp at h
    · split at h
      · simp at h
      · omega
  obtain ⟨b1, b2, b3, b4, b5⟩ := hb
  simp only [cc113, OI0, OI1, OI2, OI3, OI4, OI5, OI6, OI7, OI8, OI9, OI10, OI11, OI12, reduceIte, reduceCtorEq, Nat.reduceAdd, Nat.reduceEqDiff, Nat.reduceBEq, Nat.reduceLT, Nat.reduceLeDiff, Nat.reduceMul, Nat.reduceSub, Int.reduceLE, Int.reduceLT, Int.reduceEq, Int.reduceBEq, Int.reduceBNe, Int.reduceToNat, Int.reduceNeg, Nat.reduceBNe, forall_eq_or_imp, tmI]
  refine c117 ep d x y z ?_
  rw [h]
  simp only [OI0, OI1, OI2, OI3, OI4, OI5, OI6, OI7, OI8, OI9, OI10, OI11, OI12, reduceIte, reduceCtorEq, Nat.reduceAdd, Nat.reduceEqDiff, Nat.reduceBEq, Nat.reduceLT, Nat.reduceLeDiff, Nat.reduceMul, Nat.reduceSub, Int.reduceLE, Int.reduceLT, Int.reduceEq, Int.reduceBEq, Int.reduceBNe, Int.reduceToNat, Int.reduceNeg, Nat.reduceBNe, forall_eq_or_imp, i64A]
  have wd : IntKind.u64.wrap (d : Int) = d := wrap_u64 (by omega) (by omega)
  have we : IntKind.u64.wrap (ep : Int) = ep := wrap_u64 (by omega) (by omega)
  have wx : IntKind.u64.wrap (x : Int) = x := wrap_u64 (by omega) (by omega)
  have wy : IntKind.u64.wrap (y : Int) = y := wrap_u64 (by omega) (by omega)
  have wz : IntKind.u64.wrap (z : Int) = z := wrap_u64 (by omega) (by omega)
  have ld := numB_len64 (v := d) (by omega)
  have le := numB_len64 (v := ep) (by omega)
  have lx := numB_len64 (v := x) (by omega)
  have ly := numB_len64 (v := y) (by omega)
  have lz := numB_len64 (v := z) (by omega)
  have k1 := app_ok (l := numB d) (m := numB ep) (by omega)
  refine W_drawnCut ok113.small hmix (fun _ : Unit => ⟨[(1, .ref ⟨1001, [], 0⟩), (5, strV (numB d ++ numB ep))], [(1001, tmI ep d x y z), (9999, .ext I)], []⟩) (fun _ => True) (fun _ _ => rfl) ?_ ?_
  · apply NT_sound
    simp only [OI0, OI1, OI2, OI3, OI4, OI5, OI6, OI7, OI8, OI9, OI10, OI11, OI12, reduceIte, reduceCtorEq, Nat.reduceAdd, Nat.reduceEqDiff, Nat.reduceBEq, Nat.reduceLT, Nat.reduceLeDiff, Nat.reduceMul, Nat.reduceSub, Int.reduceLE, Int.reduceLT, Int.reduceEq, Int.reduceBEq, Int.reduceBNe, Int.reduceToNat, Int.reduceNeg, Nat.reduceBNe, forall_eq_or_imp, tmI, wd, we]
    refine ⟨c114 d (by omega) ?_, c114 d (by omega) ?_⟩
    · simp only [OI0, OI1, OI2, OI3, OI4, OI5, OI6, OI7, OI8, OI9, OI10, OI11, OI12, reduceIte, reduceCtorEq, Nat.reduceAdd, Nat.reduceEqDiff, Nat.reduceBEq, Nat.reduceLT, Nat.reduceLeDiff, Nat.reduceMul, Nat.reduceSub, Int.reduceLE, Int.reduceLT, Int.reduceEq, Int.reduceBEq, Int.reduceBNe, Int.reduceToNat, Int.reduceNeg, Nat.reduceBNe, forall_eq_or_imp, strV, wd, we]
      refine c114 ep (by omega) ?_
      simp only [OI0, OI1, OI2, OI3, OI4, OI5, OI6, OI7, OI8, OI9, OI10, OI11, OI12, reduceIte, reduceCtorEq, Nat.reduceAdd, Nat.reduceEqDiff, Nat.reduceBEq, Nat.reduceLT, Nat.reduceLeDiff, Nat.reduceMul, Nat.reduceSub, Int.reduceLE, Int.reduceLT, Int.reduceEq, Int.reduceBEq, Int.reduceBNe, Int.reduceToNat, Int.reduceNeg, Nat.reduceBNe, forall_eq_or_imp, strV, sz_mk, app_mk, k1]
      refine W_of_N ok113.small hmix ?_
      simp only [OI0, OI1, OI2, OI3, OI4, OI5, OI6, OI7, OI8, OI9, OI10, OI11, OI12, reduceIte, reduceCtorEq, Nat.reduceAdd, Nat.reduceEqDiff, Nat.reduceBEq, Nat.reduceLT, Nat.reduceLeDiff, Nat.reduceMul, Nat.reduceSub, Int.reduceLE, Int.reduceLT, Int.reduceEq, Int.reduceBEq, Int.reduceBNe, Int.reduceToNat, Int.reduceNeg, Nat.reduceBNe, forall_eq_or_imp]
      refine ⟨(), trivial, ?_⟩
      simp only [OI0, OI1, OI2, OI3, OI4, OI5, OI6, OI7, OI8, OI9, OI10, OI11, OI12, reduceIte, reduceCtorEq, Nat.reduceAdd, Nat.reduceEqDiff, Nat.reduceBEq, Nat.reduceLT, Nat.reduceLeDiff, Nat.reduceMul, Nat.reduceSub, Int.reduceLE, Int.reduceLT, Int.reduceEq, Int.reduceBEq, Int.reduceBNe, Int.reduceToNat, Int.reduceNeg, Nat.reduceBNe, forall_eq_or_imp, tmI, strV]
    · simp only [OI0, OI1, OI2, OI3, OI4, OI5, OI6, OI7, OI8, OI9, OI10, OI11, OI12, reduceIte, reduceCtorEq, Nat.reduceAdd, Nat.reduceEqDiff, Nat.reduceBEq, Nat.reduceLT, Nat.reduceLeDiff, Nat.reduceMul, Nat.reduceSub, Int.reduceLE, Int.reduceLT, Int.reduceEq, Int.reduceBEq, Int.reduceBNe, Int.reduceToNat, Int.reduceNeg, Nat.reduceBNe, forall_eq_or_imp, strV, wd, we]
      refine c114 ep (by omega) ?_
      simp only [OI0, OI1, OI2, OI3, OI4, OI5, OI6, OI7, OI8, OI9, OI10, OI11, OI12, reduceIte, reduceCtorEq, Nat.reduceAdd, Nat.reduceEqDiff, Nat.reduceBEq, Nat.reduceLT, Nat.reduceLeDiff, Nat.reduceMul, Nat.reduceSub, Int.reduceLE, Int.reduceLT, Int.reduceEq, Int.reduceBEq, Int.reduceBNe, Int.reduceToNat, Int.reduceNeg, Nat.reduceBNe, forall_eq_or_imp, strV, sz_mk, app_mk, k1]
      refine W_of_N ok113.small hmix ?_
      simp only [OI0, OI1, OI2, OI3, OI4, OI5, OI6, OI7, OI8, OI9, OI10, OI11, OI12, reduceIte, reduceCtorEq, Nat.reduceAdd, Nat.reduceEqDiff, Nat.reduceBEq, Nat.reduceLT, Nat.reduceLeDiff, Nat.reduceMul, Nat.reduceSub, Int.reduceLE, Int.reduceLT, Int.reduceEq, Int.reduceBEq, Int.reduceBNe, Int.reduceToNat, Int.reduceNeg, Nat.reduceBNe, forall_eq_or_imp]
      refine ⟨(), trivial, ?_⟩
      simp only [OI0, OI1, OI2, OI3, OI4, OI5, OI6, OI7, OI8, OI9, OI10, OI11, OI12, reduceIte, reduceCtorEq, Nat.reduceAdd, Nat.reduceEqDiff, Nat.reduceBEq, Nat.reduceLT, Nat.reduceLeDiff, Nat.reduceMul, Nat.reduceSub, Int.reduceLE, Int.reduceLT, Int.reduceEq, Int.reduceBEq, Int.reduceBNe, Int.reduceToNat, Int.reduceNeg, Nat.reduceBNe, forall_eq_or_imp, tmI, strV]
  · intro _ _
    refine W_of_N ok113.small hmix ?_
    simp only [OI0, OI1, OI2, OI3, OI4, OI5, OI6, OI7, OI8, OI9, OI10, OI11, OI12, reduceIte, reduceCtorEq, Nat.reduceAdd, Nat.reduceEqDiff, Nat.reduceBEq, Nat.reduceLT, Nat.reduceLeDiff, Nat.reduceMul, Nat.reduceSub, Int.reduceLE, Int.reduceLT, Int.reduceEq, Int.reduceBEq, Int.reduceBNe, Int.reduceToNat, Int.reduceNeg, Nat.reduceBNe, forall_eq_or_imp, tmI, strV]
    have w0 : IntKind.i64.wrap (0 + 1) = 1 := rfl
    have w1 : IntKind.i64.wrap (1 + 1) = 2 := rfl
    have w2 : IntKind.i64.wrap (2 + 1) = 3 := rfl
    refine W_loop (st113 I ep d x y z) (fun i => i ≤ d) (fun i => d - i) (fun _ _ => rfl) ⟨0, by omega, ?_⟩ ?_
    · simp only [OI0, OI1, OI2, OI3, OI4, OI5, OI6, OI7, OI8, OI9, OI10, OI11, OI12, reduceIte, reduceCtorEq, Nat.reduceAdd, Nat.reduceEqDiff, Nat.reduceBEq, Nat.reduceLT, Nat.reduceLeDiff, Nat.reduceMul, Nat.reduceSub, Int.reduceLE, Int.reduceLT, Int.reduceEq, Int.reduceBEq, Int.reduceBNe, Int.reduceToNat, Int.reduceNeg, Nat.reduceBNe, forall_eq_or_imp, st113, tmI, strV, lpB]
      try rfl
    intro i hi
    refine W_of_N ok113.small hmix ?_
    by_cases hid : i < d
    · have hid' : (i : Int) < d := by omega
      have i3 : (i : Int) < 3 := by omega
      have hc : i = 0 ∨ i = 1 ∨ i = 2 := by omega
      rcases hc with rfl | rfl | rfl
      · have k2 := nmax (n := (numB d).length + (numB ep).length + (numB x).length) (by omega)
        simp only [Int.natCast_zero] at hid'
        simp only [OI0, OI1, OI2, OI3, OI4, OI5, OI6, OI7, OI8, OI9, OI10, OI11, OI12, reduceIte, reduceCtorEq, Nat.reduceAdd, Nat.reduceEqDiff, Nat.reduceBEq, Nat.reduceLT, Nat.reduceLeDiff, Nat.reduceMul, Nat.reduceSub, Int.reduceLE, Int.reduceLT, Int.reduceEq, Int.reduceBEq, Int.reduceBNe, Int.reduceToNat, Int.reduceNeg, Nat.reduceBNe, forall_eq_or_imp, st113, tmI, strV, hid', i3, Int.natCast_zero, lpB, wx]
        refine c114 x (by omega) ?_
        simp only [OI0, OI1, OI2, OI3, OI4, OI5, OI6, OI7, OI8, OI9, OI10, OI11, OI12, reduceIte, reduceCtorEq, Nat.reduceAdd, Nat.reduceEqDiff, Nat.reduceBEq, Nat.reduceLT, Nat.reduceLeDiff, Nat.reduceMul, Nat.reduceSub, Int.reduceLE, Int.reduceLT, Int.reduceEq, Int.reduceBEq, Int.reduceBNe, Int.reduceToNat, Int.reduceNeg, Nat.reduceBNe, forall_eq_or_imp, strV, sz_mk, app_mk, k2, w0]
        refine ⟨1, ⟨by omega, by omega⟩, ?_⟩
        simp only [OI0, OI1, OI2, OI3, OI4, OI5, OI6, OI7, OI8, OI9, OI10, OI11, OI12, reduceIte, reduceCtorEq, Nat.reduceAdd, Nat.reduceEqDiff, Nat.reduceBEq, Nat.reduceLT, Nat.reduceLeDiff, Nat.reduceMul, Nat.reduceSub, Int.reduceLE, Int.reduceLT, Int.reduceEq, Int.reduceBEq, Int.reduceBNe, Int.reduceToNat, Int.reduceNeg, Nat.reduceBNe, forall_eq_or_imp, st113, tmI, strV, lpB]
        try rfl
      · have k2 := nmax (n := (numB d).length + ((numB ep).length + (numB x).length) + (numB y).length) (by omega)
        simp only [Int.natCast_one] at hid'
        simp only [OI0, OI1, OI2, OI3, OI4, OI5, OI6, OI7, OI8, OI9, OI10, OI11, OI12, reduceIte, reduceCtorEq, Nat.reduceAdd, Nat.reduceEqDiff, Nat.reduceBEq, Nat.reduceLT, Nat.reduceLeDiff, Nat.reduceMul, Nat.reduceSub, Int.reduceLE, Int.reduceLT, Int.reduceEq, Int.reduceBEq, Int.reduceBNe, Int.reduceToNat, Int.reduceNeg, Nat.reduceBNe, forall_eq_or_imp, st113, tmI, strV, hid', i3, Int.natCast_one, lpB, wy]
        refine c114 y (by omega) ?_
        simp only [OI0, OI1, OI2, OI3, OI4, OI5, OI6, OI7, OI8, OI9, OI10, OI11, OI12, reduceIte, reduceCtorEq, Nat.reduceAdd, Nat.reduceEqDiff, Nat.reduceBEq, Nat.reduceLT, Nat.reduceLeDiff, Nat.reduceMul, Nat.reduceSub, Int.reduceLE, Int.reduceLT, Int.reduceEq, Int.reduceBEq, Int.reduceBNe, Int.reduceToNat, Int.reduceNeg, Nat.reduceBNe, forall_eq_or_imp, strV, sz_mk, app_mk, k2, w1]
        refine ⟨2, ⟨by omega, by omega⟩, ?_⟩
        simp only [OI0, OI1, OI2, OI3, OI4, OI5, OI6, OI7, OI8, OI9, OI10, OI11, OI12, reduceIte, reduceCtorEq, Nat.reduceAdd, Nat.reduceEqDiff, Nat.reduceBEq, Nat.reduceLT, Nat.reduceLeDiff, Nat.reduceMul, Nat.reduceSub, Int.reduceLE, Int.reduceLT, Int.reduceEq, Int.reduceBEq, Int.reduceBNe, Int.reduceToNat, Int.reduceNeg, Nat.reduceBNe, forall_eq_or_imp, st113, tmI, strV, lpB]
        try rfl
      · have k2 := nmax (n := (numB d).length + ((numB ep).length + ((numB x).length + (numB y).length)) + (numB z).length) (by omega)
        simp only [Int.cast_ofNat_Int] at hid'
        simp only [OI0, OI1, OI2, OI3, OI4, OI5, OI6, OI7, OI8, OI9, OI10, OI11, OI12, reduceIte, reduceCtorEq, Nat.reduceAdd, Nat.reduceEqDiff, Nat.reduceBEq, Nat.reduceLT, Nat.reduceLeDiff, Nat.reduceMul, Nat.reduceSub, Int.reduceLE, Int.reduceLT, Int.reduceEq, Int.reduceBEq, Int.reduceBNe, Int.reduceToNat, Int.reduceNeg, Nat.reduceBNe, forall_eq_or_imp, st113, tmI, strV, hid', i3, lpB, wz]
        refine c114 z (by omega) ?_
        simp only [OI0, OI1, OI2, OI3, OI4, OI5, OI6, OI7, OI8, OI9, OI10, OI11, OI12, reduceIte, reduceCtorEq, Nat.reduceAdd, Nat.reduceEqDiff, Nat.reduceBEq, Nat.reduceLT, Nat.reduceLeDiff, Nat.reduceMul, Nat.reduceSub, Int.reduceLE, Int.reduceLT, Int.reduceEq, Int.reduceBEq, Int.reduceBNe, Int.reduceToNat, Int.reduceNeg, Nat.reduceBNe, forall_eq_or_imp, strV, sz_mk, app_mk, k2, w2]
        refine ⟨3, ⟨by omega, by omega⟩, ?_⟩
        simp only [OI0, OI1, OI2, OI3, OI4, OI5, OI6, OI7, OI8, OI9, OI10, OI11, OI12, reduceIte, reduceCtorEq, Nat.reduceAdd, Nat.reduceEqDiff, Nat.reduceBEq, Nat.reduceLT, Nat.reduceLeDiff, Nat.reduceMul, Nat.reduceSub, Int.reduceLE, Int.reduceLT, Int.reduceEq, Int.reduceBEq, Int.reduceBNe, Int.reduceToNat, Int.reduceNeg, Nat.reduceBNe, forall_eq_or_imp, st113, tmI, strV, lpB]
        try rfl
    · obtain rfl : i = d := by omega
      simp only [OI0, OI1, OI2, OI3, OI4, OI5, OI6, OI7, OI8, OI9, OI10, OI11, OI12, reduceIte, reduceCtorEq, Nat.reduceAdd, Nat.reduceEqDiff, Nat.reduceBEq, Nat.reduceLT, Nat.reduceLeDiff, Nat.reduceMul, Nat.reduceSub, Int.reduceLE, Int.reduceLT, Int.reduceEq, Int.reduceBEq, Int.reduceBNe, Int.reduceToNat, Int.reduceNeg, Nat.reduceBNe, forall_eq_or_imp, st113, tmI, strV, Int.lt_irrefl]
      simpa [timeB, strV, i64A] using hq
end Go.Proofs.Ythlehngbadianaa.Ow
