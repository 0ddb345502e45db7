/- What the functions of the program do, each once: contracts of the logic (part m2). -/
import Derived.Test.YthlehngbadianaaTm1
set_option linter.unusedVariables false
set_option linter.unusedSimpArgs false
set_option linter.unnecessarySimpa false
set_option maxRecDepth 100000
set_option maxHeartbeats 4000000
namespace Go.Proofs.Ythlehngbadianaa.Ow
open Go Go.RowKit Go.Proofs
/- watershed/graph.Inner -/
def cc47 : CC := (.seq (.region [⟨none, 2, (.box 0), [0], none, []⟩, ⟨none, 4, (.alloc (.agg #[(.int .i64 0), (.int .i64 0), (.int .u32 0), (.int .u32 0), (.int .u32 0), (.int .u32 0), (.int .i64 0), (.int .u32 0), (.int .u32 0), (.int .u32 0)])), [], none, []⟩, ⟨none, 5, (.val (.mv (.c (.int .i64 0)))), [5], none, []⟩]) (.seq (.seq (.region [⟨none, 9, (.val (.ld (.s 2) (some 4))), [], none, []⟩, ⟨none, 10, (.callP 65 [(.s 9)]), [9], none, []⟩, ⟨none, 6, (.val (.mv (.s 10))), [10], none, []⟩]) (.seq (.region [⟨none, 11, (.val (.mv (.s 6))), [], none, []⟩, ⟨none, 12, (.val (.bin .neq (.s 11) (.c (.int .i64 0)))), [11], none, []⟩]) (.cond (.s 12) (.seq (.region [⟨none, 13, (.val (.bld [(.int .i64 0), (.int .i64 0), (.int .u32 0), (.int .u32 0), (.int .u32 0), (.int .u32 0), (.int .i64 0), (.int .u32 0), (.int .u32 0), (.int .u32 0)] [])), [1, 2, 12], none, []⟩, ⟨none, 14, (.val (.mv (.s 6))), [6], none, []⟩, ⟨none, 0, (.store 10 (.s 4) (.s 13)), [13], none, []⟩, ⟨none, 5, (.val (.mv (.s 14))), [14], none, []⟩]) .ret) .skip))) (.seq (.seq (.region [⟨none, 15, (.val (.mv (.s 1))), [6, 12], none, []⟩, ⟨none, 16, (.val (.bin .lss (.s 15) (.c (.int .i64 0)))), [15], none, []⟩, ⟨none, 17, (.val (.mv (.s 16))), [16], none, []⟩, ⟨(some (17, false)), 18, (.val (.mv (.s 1))), [], none, []⟩, ⟨(some (17, false)), 19, (.val (.fa (.s 2) 2)), [], none, []⟩, ⟨(some (17, false)), 20, (.val (.ld (.s 19) none)), [19], none, []⟩, ⟨(some (17, false)), 21, (.val (.lnl (.s 20) 6)), [20], none, []⟩, ⟨(some (17, false)), 22, (.val (.bin .geq (.s 18) (.s 21))), [18, 21], none, []⟩, ⟨none, 23, (.val (.pick (.s 17) (.c (.bool true)) (.s 22))), [17, 22], none, []⟩]) (.cond (.s 23) (.seq (.region [⟨none, 24, (.val (.bld [(.int .i64 0), (.int .i64 0), (.int .u32 0), (.int .u32 0), (.int .u32 0), (.int .u32 0), (.int .i64 0), (.int .u32 0), (.int .u32 0), (.int .u32 0)] [])), [1, 2, 23], none, []⟩, ⟨none, 0, (.store 10 (.s 4) (.s 24)), [24], none, []⟩, ⟨none, 5, (.val (.mv (.c (.int .i64 1)))), [], none, []⟩]) .ret) .skip)) (.seq (.region [⟨none, 25, (.val (.ld (.s 2) (some 4))), [23], none, []⟩, ⟨none, 26, (.val (.ld (.s 2) (some 4))), [], none, []⟩, ⟨none, 27, (.val (.mv (.s 1))), [], none, []⟩, ⟨none, 28, (.val (.bin .mul (.c (.int .i64 2)) (.s 27))), [27], none, []⟩, ⟨none, 29, (.callP 126 [(.s 26), (.s 28)]), [26, 28], none, []⟩, ⟨none, 30, (.callP 127 [(.s 25), (.s 29)]), [25, 29], none, []⟩, ⟨none, 7, (.val (.mv (.s 30))), [30], none, []⟩]) (.seq (.seq (.region [⟨none, 31, (.val (.fa (.s 2) 2)), [2], none, []⟩, ⟨none, 32, (.val (.ld (.s 31) none)), [31], none, []⟩, ⟨none, 33, (.val (.mv (.s 1))), [1], none, []⟩, ⟨none, 34, (.val (.ia (.s 32) (.s 33) 6)), [32, 33], none, []⟩, ⟨none, 35, (.val (.ld (.s 34) (some 6))), [34], none, []⟩, ⟨none, 8, (.alloc (.agg #[(.string ⟨#[]⟩), (.int .i64 0), (.int .i64 0), (.int .i64 0), (.int .i64 0), (.int .i64 0)])), [], none, []⟩, ⟨none, 0, (.store 6 (.s 8) (.s 35)), [35], none, []⟩]) (.seq (.region [⟨none, 36, (.val (.fa (.s 8) 1)), [], none, []⟩, ⟨none, 37, (.val (.ld (.s 36) none)), [36], none, []⟩]) (.block 0 (.seq (.region [⟨none, 39, (.val (.bin .eql (.s 37) (.c (.int .i64 7)))), [], none, []⟩, ⟨none, 38, (.val (.mv (.s 39))), [39], none, []⟩]) (.cond (.s 38) (.seq (.region [⟨none, 40, (.val (.mv (.s 7))), [7, 8, 37, 38], none, []⟩, ⟨none, 41, (.callP 130 [(.s 40)]), [40], none, []⟩, ⟨none, 42, (.val (.ext (.s 41) 0)), [], none, []⟩, ⟨none, 43, (.val (.ext (.s 41) 1)), [41], none, []⟩, ⟨none, 0, (.store 10 (.s 4) (.s 42)), [42], none, []⟩, ⟨none, 5, (.val (.mv (.s 43))), [43], none, []⟩]) .ret) (.seq (.region [⟨none, 45, (.val (.bin .eql (.s 37) (.c (.int .i64 8)))), [38], none, []⟩, ⟨none, 44, (.val (.mv (.s 45))), [45], none, []⟩]) (.cond (.s 44) (.seq (.region [⟨none, 46, (.val (.mv (.s 7))), [7, 8, 37, 44], none, []⟩, ⟨none, 47, (.callP 131 [(.s 46)]), [46], none, []⟩, ⟨none, 48, (.val (.ext (.s 47) 0)), [], none, []⟩, ⟨none, 49, (.val (.ext (.s 47) 1)), [47], none, []⟩, ⟨none, 0, (.store 10 (.s 4) (.s 48)), [48], none, []⟩, ⟨none, 5, (.val (.mv (.s 49))), [49], none, []⟩]) .ret) (.seq (.region [⟨none, 51, (.val (.bin .eql (.s 37) (.c (.int .i64 9)))), [44], none, []⟩, ⟨none, 50, (.val (.mv (.s 51))), [51], none, []⟩]) (.cond (.s 50) (.seq (.region [⟨none, 52, (.val (.mv (.s 7))), [7, 8, 37, 50], none, []⟩, ⟨none, 53, (.callP 132 [(.s 52)]), [52], none, []⟩, ⟨none, 54, (.val (.ext (.s 53) 0)), [], none, []⟩, ⟨none, 55, (.val (.ext (.s 53) 1)), [53], none, []⟩, ⟨none, 0, (.store 10 (.s 4) (.s 54)), [54], none, []⟩, ⟨none, 5, (.val (.mv (.s 55))), [55], none, []⟩]) .ret) (.seq (.region [⟨none, 57, (.val (.bin .eql (.s 37) (.c (.int .i64 10)))), [37, 50], none, []⟩, ⟨none, 56, (.val (.mv (.s 57))), [57], none, []⟩]) (.cond (.s 56) (.seq (.region [⟨none, 58, (.val (.mv (.s 7))), [7, 56], none, []⟩, ⟨none, 59, (.val (.fa (.s 8) 4)), [8], none, []⟩, ⟨none, 60, (.val (.ld (.s 59) none)), [59], none, []⟩, ⟨none, 61, (.val (.cvi .u32 (.s 60))), [60], none, []⟩, ⟨none, 62, (.callP 133 [(.s 58), (.s 61)]), [58, 61], none, []⟩, ⟨none, 63, (.val (.ext (.s 62) 0)), [], none, []⟩, ⟨none, 64, (.val (.ext (.s 62) 1)), [62], none, []⟩, ⟨none, 0, (.store 10 (.s 4) (.s 63)), [63], none, []⟩, ⟨none, 5, (.val (.mv (.s 64))), [64], none, []⟩]) .ret) .skip))))))))))) (.seq (.region [⟨none, 65, (.val (.mv (.s 7))), [7, 8, 56], none, []⟩, ⟨none, 66, (.callP 134 [(.s 65)]), [65], none, []⟩, ⟨none, 67, (.val (.ext (.s 66) 0)), [], none, []⟩, ⟨none, 68, (.val (.ext (.s 66) 1)), [66], none, []⟩, ⟨none, 0, (.store 10 (.s 4) (.s 67)), [67], none, []⟩, ⟨none, 5, (.val (.mv (.s 68))), [68], none, []⟩]) .ret))))))
theorem ok47 : FnOk Try.prog 47 cc47 [(.c 4 89 (some 10)), (.t 5)] 2 69 := ⟨⟨_, Try.func47, by kernel_rfl, by kernel_rfl, by kernel_rfl⟩, by decide, by decide⟩

/- watershed/watershedref09.Inner -/
def cc48 : CC := (.seq (.region [⟨none, 2, (.box 0), [0], none, []⟩, ⟨none, 4, (.alloc (.agg #[(.int .i64 0), (.int .i64 0), (.int .u32 0), (.int .u32 0), (.int .u32 0), (.int .u32 0), (.int .i64 0), (.int .u32 0), (.int .u32 0), (.int .u32 0)])), [], none, []⟩, ⟨none, 5, (.val (.mv (.c (.int .i64 0)))), [5], none, []⟩]) (.seq (.region [⟨none, 8, (.val (.ld (.s 2) (some 4))), [], none, []⟩, ⟨none, 9, (.callP 66 [(.s 8)]), [8], none, []⟩, ⟨none, 6, (.val (.mv (.s 9))), [9], none, []⟩]) (.seq (.seq (.region [⟨none, 10, (.val (.mv (.s 6))), [], none, []⟩, ⟨none, 11, (.val (.bin .neq (.s 10) (.c (.int .i64 0)))), [10], none, []⟩]) (.cond (.s 11) (.seq (.region [⟨none, 12, (.val (.bld [(.int .i64 0), (.int .i64 0), (.int .u32 0), (.int .u32 0), (.int .u32 0), (.int .u32 0), (.int .i64 0), (.int .u32 0), (.int .u32 0), (.int .u32 0)] [])), [1, 2, 11], none, []⟩, ⟨none, 13, (.val (.mv (.s 6))), [6], none, []⟩, ⟨none, 0, (.store 10 (.s 4) (.s 12)), [12], none, []⟩, ⟨none, 5, (.val (.mv (.s 13))), [13], none, []⟩]) .ret) .skip)) (.seq (.seq (.region [⟨none, 14, (.val (.mv (.s 1))), [6, 11], none, []⟩, ⟨none, 15, (.val (.bin .lss (.s 14) (.c (.int .i64 0)))), [14], none, []⟩, ⟨none, 16, (.val (.mv (.s 15))), [15], none, []⟩, ⟨(some (16, false)), 17, (.val (.mv (.s 1))), [], none, []⟩, ⟨(some (16, false)), 18, (.val (.fa (.s 2) 2)), [], none, []⟩, ⟨(some (16, false)), 19, (.val (.ld (.s 18) none)), [18], none, []⟩, ⟨(some (16, false)), 20, (.val (.lnl (.s 19) 6)), [19], none, []⟩, ⟨(some (16, false)), 21, (.val (.bin .geq (.s 17) (.s 20))), [17, 20], none, []⟩, ⟨none, 22, (.val (.pick (.s 16) (.c (.bool true)) (.s 21))), [16, 21], none, []⟩]) (.cond (.s 22) (.seq (.region [⟨none, 23, (.val (.bld [(.int .i64 0), (.int .i64 0), (.int .u32 0), (.int .u32 0), (.int .u32 0), (.int .u32 0), (.int .i64 0), (.int .u32 0), (.int .u32 0), (.int .u32 0)] [])), [1, 2, 22], none, []⟩, ⟨none, 0, (.store 10 (.s 4) (.s 23)), [23], none, []⟩, ⟨none, 5, (.val (.mv (.c (.int .i64 1)))), [], none, []⟩]) .ret) .skip)) (.seq (.region [⟨none, 24, (.val (.ld (.s 2) (some 4))), [22], none, []⟩, ⟨none, 25, (.val (.ld (.s 2) (some 4))), [], none, []⟩, ⟨none, 26, (.val (.mv (.s 1))), [], none, []⟩, ⟨none, 27, (.val (.bin .mul (.c (.int .i64 2)) (.s 26))), [26], none, []⟩, ⟨none, 28, (.callP 128 [(.s 25), (.s 27)]), [25, 27], none, []⟩, ⟨none, 29, (.callP 129 [(.s 24), (.s 28)]), [24, 28], none, []⟩, ⟨none, 7, (.val (.mv (.s 29))), [29], none, []⟩]) (.seq (.seq (.region [⟨none, 30, (.val (.fa (.s 2) 2)), [], none, []⟩, ⟨none, 31, (.val (.ld (.s 30) none)), [30], none, []⟩, ⟨none, 32, (.val (.mv (.s 1))), [], none, []⟩, ⟨none, 33, (.val (.ia (.s 31) (.s 32) 6)), [31, 32], none, []⟩, ⟨none, 34, (.val (.fa (.s 33) 1)), [33], none, []⟩, ⟨none, 35, (.val (.ld (.s 34) none)), [34], none, []⟩]) (.block 0 (.seq (.region [⟨none, 37, (.val (.bin .eql (.s 35) (.c (.int .i64 7)))), [], none, []⟩, ⟨none, 36, (.val (.mv (.s 37))), [37], none, []⟩]) (.cond (.s 36) (.seq (.region [⟨none, 38, (.val (.mv (.s 7))), [1, 2, 7, 35, 36], none, []⟩, ⟨none, 39, (.callP 135 [(.s 38)]), [38], none, []⟩, ⟨none, 40, (.val (.ext (.s 39) 0)), [], none, []⟩, ⟨none, 41, (.val (.ext (.s 39) 1)), [39], none, []⟩, ⟨none, 0, (.store 10 (.s 4) (.s 40)), [40], none, []⟩, ⟨none, 5, (.val (.mv (.s 41))), [41], none, []⟩]) .ret) (.seq (.region [⟨none, 43, (.val (.bin .eql (.s 35) (.c (.int .i64 8)))), [36], none, []⟩, ⟨none, 42, (.val (.mv (.s 43))), [43], none, []⟩]) (.cond (.s 42) (.seq (.region [⟨none, 44, (.val (.mv (.s 7))), [1, 2, 7, 35, 42], none, []⟩, ⟨none, 45, (.callP 136 [(.s 44)]), [44], none, []⟩, ⟨none, 46, (.val (.ext (.s 45) 0)), [], none, []⟩, ⟨none, 47, (.val (.ext (.s 45) 1)), [45], none, []⟩, ⟨none, 0, (.store 10 (.s 4) (.s 46)), [46], none, []⟩, ⟨none, 5, (.val (.mv (.s 47))), [47], none, []⟩]) .ret) (.seq (.region [⟨none, 49, (.val (.bin .eql (.s 35) (.c (.int .i64 9)))), [42], none, []⟩, ⟨none, 48, (.val (.mv (.s 49))), [49], none, []⟩]) (.cond (.s 48) (.seq (.region [⟨none, 50, (.val (.mv (.s 7))), [1, 2, 7, 35, 48], none, []⟩, ⟨none, 51, (.callP 137 [(.s 50)]), [50], none, []⟩, ⟨none, 52, (.val (.ext (.s 51) 0)), [], none, []⟩, ⟨none, 53, (.val (.ext (.s 51) 1)), [51], none, []⟩, ⟨none, 0, (.store 10 (.s 4) (.s 52)), [52], none, []⟩, ⟨none, 5, (.val (.mv (.s 53))), [53], none, []⟩]) .ret) (.seq (.region [⟨none, 55, (.val (.bin .eql (.s 35) (.c (.int .i64 10)))), [35, 48], none, []⟩, ⟨none, 54, (.val (.mv (.s 55))), [55], none, []⟩]) (.cond (.s 54) (.seq (.region [⟨none, 56, (.val (.mv (.s 7))), [7, 54], none, []⟩, ⟨none, 57, (.val (.fa (.s 2) 2)), [2], none, []⟩, ⟨none, 58, (.val (.ld (.s 57) none)), [57], none, []⟩, ⟨none, 59, (.val (.mv (.s 1))), [1], none, []⟩, ⟨none, 60, (.val (.ia (.s 58) (.s 59) 6)), [58, 59], none, []⟩, ⟨none, 61, (.val (.fa (.s 60) 4)), [60], none, []⟩, ⟨none, 62, (.val (.ld (.s 61) none)), [61], none, []⟩, ⟨none, 63, (.val (.cvi .u32 (.s 62))), [62], none, []⟩, ⟨none, 64, (.callP 138 [(.s 56), (.s 63)]), [56, 63], none, []⟩, ⟨none, 65, (.val (.ext (.s 64) 0)), [], none, []⟩, ⟨none, 66, (.val (.ext (.s 64) 1)), [64], none, []⟩, ⟨none, 0, (.store 10 (.s 4) (.s 65)), [65], none, []⟩, ⟨none, 5, (.val (.mv (.s 66))), [66], none, []⟩]) .ret) .skip)))))))))) (.seq (.region [⟨none, 67, (.val (.mv (.s 7))), [1, 2, 7, 54], none, []⟩, ⟨none, 68, (.callP 139 [(.s 67)]), [67], none, []⟩, ⟨none, 69, (.val (.ext (.s 68) 0)), [], none, []⟩, ⟨none, 70, (.val (.ext (.s 68) 1)), [68], none, []⟩, ⟨none, 0, (.store 10 (.s 4) (.s 69)), [69], none, []⟩, ⟨none, 5, (.val (.mv (.s 70))), [70], none, []⟩]) .ret)))))))
theorem ok48 : FnOk Try.prog 48 cc48 [(.c 4 92 (some 10)), (.t 5)] 2 71 := ⟨⟨_, Try.func48, by kernel_rfl, by kernel_rfl, by kernel_rfl⟩, by decide, by decide⟩


theorem loE_all {all : List Lo} : ∀ (l : List Lo) (sn : List ByteArray) (i : Nat), loE all sn i l = 0 → ∀ (j : Nat) (x : Lo), l[j]? = some x → deepN all ((i + j : Nat) : Int) ≤ 3 ∧ 1 ≤ x.2.2 ∧ x.2.2 ≤ 8
  | [], sn, i, _, j, x, hj => by simp at hj
  | y :: r, sn, i, he, j, x, hj => by
    simp only [loE] at he
    split at he
    · exact absurd he ‹_›
    split at he
    · cases he
    split at he
    · cases he
    rename_i h1 h2 h3
    cases j with
    | zero =>
      simp only [List.getElem?_cons_zero, Option.some.injEq] at hj
      subst hj
      exact ⟨by simpa using Int.not_lt.1 h3, by omega, by omega⟩
    | succ j =>
      have := loE_all r _ (i + 1) he j x (by simpa using hj)
      rw [show i + (j + 1) = i + 1 + j from by omega]; exact this
theorem chk_lo {g : Gr} (h : chk g = 0) : ∀ (j : Nat) (x : Lo), g.lo[j]? = some x → deepN g.lo j ≤ 3 ∧ 1 ≤ x.2.2 ∧ x.2.2 ≤ 8 := by
  unfold chk at h
  split at h
  · cases h
  split at h
  · cases h
  split at h
  · exact absurd h ‹_›
  split at h
  · exact absurd h ‹_›
  rename_i h1 h2 h3 h4
  intro j x hj
  have := loE_all g.lo [] 0 (by simpa using h4) j x hj
  simpa using this
theorem deep4 {g : Gr} (h : chk g = 0) {i : Int} (h0 : -1 ≤ i) (h1 : i < g.lo.length) : D4 (deepN g.lo i) := by
  by_cases hi : 0 ≤ i
  · have a := (chk_lo h i.toNat _ (List.getElem?_eq_getElem (by omega))).1
    have b := deepN_ge g.lo (i.toNat + 1) i (by omega)
    rw [show ((i.toNat : Nat) : Int) = i from by omega] at a
    unfold D4; omega
  · rw [deepN_neg (by omega)]; exact .inl rfl
def fnR (k d a : Int) : P7 × Int := if k = 7 then enR d else if k = 8 then lvR d else if k = 9 then nxR d else if k = 10 then ltR d a else stR d
def innR (g : Gr) (loc : Int) : P7 × Int :=
  if chk g ≠ 0 then (pthA 0 0 0 0 0 0 0, chk g) else if loc < 0 ∨ g.op.length ≤ loc then (pthA 0 0 0 0 0 0 0, 1)
  else match g.op[loc.toNat]? with | some o => fnR o.k (deepN g.lo (loopA g o 0)) o.a | none => (pthA 0 0 0 0 0 0 0, 1)
theorem num10 {o : O6} (hk : o.k = 10) (h : numOk o = true) : 0 ≤ o.a ∧ o.a ≤ 1000 := by
  simp only [numOk, hk] at h
  rw [if_neg (by omega), if_neg (by omega), if_neg (by omega), if_pos trivial] at h
  have := of_decide_eq_true h
  omega
theorem wrU32 {n : Int} (h0 : 0 ≤ n) (h1 : n < 4294967296) : IntKind.u32.wrap n = n := by
  simp only [IntKind.wrap, IntKind.bits, IntKind.signed]
  simp
  omega
def zP : P7 := pthA 0 0 0 0 0 0 0
theorem c47 (g : Gr) (loc : Int) {Q : AV → Al → Prop} (h : Q (.tup [pA (innR g loc).1, i64A (innR g loc).2]) []) : ACalls Try.prog 47 [] [gA g, i64A loc] Q := by
  refine ok47.N hmix rfl ?_
  intro I
  simp only [cc47, OI0, OI1, OI2, OI3, OI4, OI5, OI6, OI7, OI8, OI9, OI10, OI11, OI12, ↓reduceIte, reduceCtorEq, Nat.reduceAdd, Nat.reduceEqDiff, Nat.reduceBEq, Nat.reduceLT, Nat.reduceLeDiff, Nat.reduceMul, Nat.reduceSub, Int.reduceLE, Int.reduceLT, Int.reduceEq, Int.reduceBEq, Int.reduceBNe, Int.reduceToNat, Int.reduceNeg, Nat.reduceBNe, forall_eq_or_imp, gA, i64A]
  refine c65 g ?_
  by_cases hc : chk g = 0
  · have hF := chk0 hc
    have h24 := hF.op24
    have hlo6 := hF.lo6
    rw [innR, if_neg (by simpa using hc)] at h
    simp only [OI0, OI1, OI2, OI3, OI4, OI5, OI6, OI7, OI8, OI9, OI10, OI11, OI12, ↓reduceIte, reduceCtorEq, Nat.reduceAdd, Nat.reduceEqDiff, Nat.reduceBEq, Nat.reduceLT, Nat.reduceLeDiff, Nat.reduceMul, Nat.reduceSub, Int.reduceLE, Int.reduceLT, Int.reduceEq, Int.reduceBEq, Int.reduceBNe, Int.reduceToNat, Int.reduceNeg, Nat.reduceBNe, forall_eq_or_imp, i64A, bneF hc]
    by_cases l0 : loc < 0
    · rw [if_pos (.inl l0)] at h
      simp only [OI0, OI1, OI2, OI3, OI4, OI5, OI6, OI7, OI8, OI9, OI10, OI11, OI12, ↓reduceIte, reduceCtorEq, Nat.reduceAdd, Nat.reduceEqDiff, Nat.reduceBEq, Nat.reduceLT, Nat.reduceLeDiff, Nat.reduceMul, Nat.reduceSub, Int.reduceLE, Int.reduceLT, Int.reduceEq, Int.reduceBEq, Int.reduceBNe, Int.reduceToNat, Int.reduceNeg, Nat.reduceBNe, forall_eq_or_imp, l0]
      exact h
    by_cases l1 : (g.op.length : Int) ≤ loc
    · rw [if_pos (.inr l1)] at h
      simp only [OI0, OI1, OI2, OI3, OI4, OI5, OI6, OI7, OI8, OI9, OI10, OI11, OI12, ↓reduceIte, reduceCtorEq, Nat.reduceAdd, Nat.reduceEqDiff, Nat.reduceBEq, Nat.reduceLT, Nat.reduceLeDiff, Nat.reduceMul, Nat.reduceSub, Int.reduceLE, Int.reduceLT, Int.reduceEq, Int.reduceBEq, Int.reduceBNe, Int.reduceToNat, Int.reduceNeg, Nat.reduceBNe, forall_eq_or_imp, l0, l1]
      exact h
    rw [if_neg (by omega)] at h
    obtain ⟨o, ho⟩ : ∃ o, g.op[loc.toNat]? = some o := ⟨_, List.getElem?_eq_getElem (by omega)⟩
    rw [ho] at h
    simp only at h
    have w1 : IntKind.i64.wrap (2 * loc) = 2 * loc := wrI64 (by omega) (by omega)
    have hin := loopA_in hF ho 0
    have hd := deep4 hc hin.1 hin.2
    have l0' : 0 ≤ loc := by omega
    have l1' : loc < g.op.length := by omega
    simp only [OI0, OI1, OI2, OI3, OI4, OI5, OI6, OI7, OI8, OI9, OI10, OI11, OI12, ↓reduceIte, reduceCtorEq, Nat.reduceAdd, Nat.reduceEqDiff, Nat.reduceBEq, Nat.reduceLT, Nat.reduceLeDiff, Nat.reduceMul, Nat.reduceSub, Int.reduceLE, Int.reduceLT, Int.reduceEq, Int.reduceBEq, Int.reduceBNe, Int.reduceToNat, Int.reduceNeg, Nat.reduceBNe, forall_eq_or_imp, l0, l1, w1]
    refine c126 g _ loc.toNat 0 o (by omega) (by omega) ho (hF.oks _ _ ho) (by omega) ?_
    simp only [OI0, OI1, OI2, OI3, OI4, OI5, OI6, OI7, OI8, OI9, OI10, OI11, OI12, ↓reduceIte, reduceCtorEq, Nat.reduceAdd, Nat.reduceEqDiff, Nat.reduceBEq, Nat.reduceLT, Nat.reduceLeDiff, Nat.reduceMul, Nat.reduceSub, Int.reduceLE, Int.reduceLT, Int.reduceEq, Int.reduceBEq, Int.reduceBNe, Int.reduceToNat, Int.reduceNeg, Nat.reduceBNe, forall_eq_or_imp, i64A]
    refine c127 g _ g.lo.length hF.wf (by omega) (by omega) (by omega) ?_
    have hcase : o.k = 7 ∨ o.k = 8 ∨ o.k = 9 ∨ o.k = 10 ∨ (o.k ≠ 7 ∧ o.k ≠ 8 ∧ o.k ≠ 9 ∧ o.k ≠ 10) := by omega
    rcases hcase with k | k | k | k | k
    · simp only [fnR, k] at h
      simp only [OI0, OI1, OI2, OI3, OI4, OI5, OI6, OI7, OI8, OI9, OI10, OI11, OI12, ↓reduceIte, reduceCtorEq, Nat.reduceAdd, Nat.reduceEqDiff, Nat.reduceBEq, Nat.reduceLT, Nat.reduceLeDiff, Nat.reduceMul, Nat.reduceSub, Int.reduceLE, Int.reduceLT, Int.reduceEq, Int.reduceBEq, Int.reduceBNe, Int.reduceToNat, Int.reduceNeg, Nat.reduceBNe, forall_eq_or_imp, i64A, ho, opA, l0', l1', k, Int.reduceBEq]
      refine c130 _ hd ?_
      simp only [OI0, OI1, OI2, OI3, OI4, OI5, OI6, OI7, OI8, OI9, OI10, OI11, OI12, ↓reduceIte, reduceCtorEq, Nat.reduceAdd, Nat.reduceEqDiff, Nat.reduceBEq, Nat.reduceLT, Nat.reduceLeDiff, Nat.reduceMul, Nat.reduceSub, Int.reduceLE, Int.reduceLT, Int.reduceEq, Int.reduceBEq, Int.reduceBNe, Int.reduceToNat, Int.reduceNeg, Nat.reduceBNe, forall_eq_or_imp, i64A, pA]
      exact h
    · simp only [fnR, k] at h
      simp only [OI0, OI1, OI2, OI3, OI4, OI5, OI6, OI7, OI8, OI9, OI10, OI11, OI12, ↓reduceIte, reduceCtorEq, Nat.reduceAdd, Nat.reduceEqDiff, Nat.reduceBEq, Nat.reduceLT, Nat.reduceLeDiff, Nat.reduceMul, Nat.reduceSub, Int.reduceLE, Int.reduceLT, Int.reduceEq, Int.reduceBEq, Int.reduceBNe, Int.reduceToNat, Int.reduceNeg, Nat.reduceBNe, forall_eq_or_imp, i64A, ho, opA, l0', l1', k, Int.reduceBEq]
      refine c131 _ hd ?_
      simp only [OI0, OI1, OI2, OI3, OI4, OI5, OI6, OI7, OI8, OI9, OI10, OI11, OI12, ↓reduceIte, reduceCtorEq, Nat.reduceAdd, Nat.reduceEqDiff, Nat.reduceBEq, Nat.reduceLT, Nat.reduceLeDiff, Nat.reduceMul, Nat.reduceSub, Int.reduceLE, Int.reduceLT, Int.reduceEq, Int.reduceBEq, Int.reduceBNe, Int.reduceToNat, Int.reduceNeg, Nat.reduceBNe, forall_eq_or_imp, i64A, pA]
      exact h
    · simp only [fnR, k] at h
      simp only [OI0, OI1, OI2, OI3, OI4, OI5, OI6, OI7, OI8, OI9, OI10, OI11, OI12, ↓reduceIte, reduceCtorEq, Nat.reduceAdd, Nat.reduceEqDiff, Nat.reduceBEq, Nat.reduceLT, Nat.reduceLeDiff, Nat.reduceMul, Nat.reduceSub, Int.reduceLE, Int.reduceLT, Int.reduceEq, Int.reduceBEq, Int.reduceBNe, Int.reduceToNat, Int.reduceNeg, Nat.reduceBNe, forall_eq_or_imp, i64A, ho, opA, l0', l1', k, Int.reduceBEq]
      refine c132 _ hd ?_
      simp only [OI0, OI1, OI2, OI3, OI4, OI5, OI6, OI7, OI8, OI9, OI10, OI11, OI12, ↓reduceIte, reduceCtorEq, Nat.reduceAdd, Nat.reduceEqDiff, Nat.reduceBEq, Nat.reduceLT, Nat.reduceLeDiff, Nat.reduceMul, Nat.reduceSub, Int.reduceLE, Int.reduceLT, Int.reduceEq, Int.reduceBEq, Int.reduceBNe, Int.reduceToNat, Int.reduceNeg, Nat.reduceBNe, forall_eq_or_imp, i64A, pA]
      exact h
    · have hnum := num10 k (hF.op _ _ ho).num
      have w2 : IntKind.u32.wrap o.a = o.a := wrU32 (by omega) (by omega)
      simp only [fnR, k] at h
      simp only [OI0, OI1, OI2, OI3, OI4, OI5, OI6, OI7, OI8, OI9, OI10, OI11, OI12, ↓reduceIte, reduceCtorEq, Nat.reduceAdd, Nat.reduceEqDiff, Nat.reduceBEq, Nat.reduceLT, Nat.reduceLeDiff, Nat.reduceMul, Nat.reduceSub, Int.reduceLE, Int.reduceLT, Int.reduceEq, Int.reduceBEq, Int.reduceBNe, Int.reduceToNat, Int.reduceNeg, Nat.reduceBNe, forall_eq_or_imp, i64A, ho, opA, l0', l1', k, Int.reduceBEq, w2]
      refine c133 _ _ hd ?_
      simp only [OI0, OI1, OI2, OI3, OI4, OI5, OI6, OI7, OI8, OI9, OI10, OI11, OI12, ↓reduceIte, reduceCtorEq, Nat.reduceAdd, Nat.reduceEqDiff, Nat.reduceBEq, Nat.reduceLT, Nat.reduceLeDiff, Nat.reduceMul, Nat.reduceSub, Int.reduceLE, Int.reduceLT, Int.reduceEq, Int.reduceBEq, Int.reduceBNe, Int.reduceToNat, Int.reduceNeg, Nat.reduceBNe, forall_eq_or_imp, i64A, pA]
      exact h
    · simp only [fnR, k, if_false] at h
      simp only [OI0, OI1, OI2, OI3, OI4, OI5, OI6, OI7, OI8, OI9, OI10, OI11, OI12, ↓reduceIte, reduceCtorEq, Nat.reduceAdd, Nat.reduceEqDiff, Nat.reduceBEq, Nat.reduceLT, Nat.reduceLeDiff, Nat.reduceMul, Nat.reduceSub, Int.reduceLE, Int.reduceLT, Int.reduceEq, Int.reduceBEq, Int.reduceBNe, Int.reduceToNat, Int.reduceNeg, Nat.reduceBNe, forall_eq_or_imp, i64A, ho, opA, l0', l1', beqF k.1, beqF k.2.1, beqF k.2.2.1, beqF k.2.2.2]
      refine c134 _ hd ?_
      simp only [OI0, OI1, OI2, OI3, OI4, OI5, OI6, OI7, OI8, OI9, OI10, OI11, OI12, ↓reduceIte, reduceCtorEq, Nat.reduceAdd, Nat.reduceEqDiff, Nat.reduceBEq, Nat.reduceLT, Nat.reduceLeDiff, Nat.reduceMul, Nat.reduceSub, Int.reduceLE, Int.reduceLT, Int.reduceEq, Int.reduceBEq, Int.reduceBNe, Int.reduceToNat, Int.reduceNeg, Nat.reduceBNe, forall_eq_or_imp, i64A, pA]
      exact h
  · rw [innR, if_pos hc] at h
    simp only [OI0, OI1, OI2, OI3, OI4, OI5, OI6, OI7, OI8, OI9, OI10, OI11, OI12, ↓reduceIte, reduceCtorEq, Nat.reduceAdd, Nat.reduceEqDiff, Nat.reduceBEq, Nat.reduceLT, Nat.reduceLeDiff, Nat.reduceMul, Nat.reduceSub, Int.reduceLE, Int.reduceLT, Int.reduceEq, Int.reduceBEq, Int.reduceBNe, Int.reduceToNat, Int.reduceNeg, Nat.reduceBNe, forall_eq_or_imp, i64A, bneT hc]
    exact h
theorem c48 (g : Gr) (hn : NmOk g) (loc : Int) {Q : AV → Al → Prop} (h : Q (.tup [pA (innR g loc).1, i64A (innR g loc).2]) []) : ACalls Try.prog 48 [] [gA g, i64A loc] Q := by
  refine ok48.N hmix rfl ?_
  intro I
  simp only [cc48, OI0, OI1, OI2, OI3, OI4, OI5, OI6, OI7, OI8, OI9, OI10, OI11, OI12, ↓reduceIte, reduceCtorEq, Nat.reduceAdd, Nat.reduceEqDiff, Nat.reduceBEq, Nat.reduceLT, Nat.reduceLeDiff, Nat.reduceMul, Nat.reduceSub, Int.reduceLE, Int.reduceLT, Int.reduceEq, Int.reduceBEq, Int.reduceBNe, Int.reduceToNat, Int.reduceNeg, Nat.reduceBNe, forall_eq_or_imp, gA, i64A]
  refine c66 g hn ?_
  by_cases hc : chk g = 0
  · have hF := chk0 hc
    have h24 := hF.op24
    have hlo6 := hF.lo6
    rw [innR, if_neg (by simpa using hc)] at h
    simp only [OI0, OI1, OI2, OI3, OI4, OI5, OI6, OI7, OI8, OI9, OI10, OI11, OI12, ↓reduceIte, reduceCtorEq, Nat.reduceAdd, Nat.reduceEqDiff, Nat.reduceBEq, Nat.reduceLT, Nat.reduceLeDiff, Nat.reduceMul, Nat.reduceSub, Int.reduceLE, Int.reduceLT, Int.reduceEq, Int.reduceBEq, Int.reduceBNe, Int.reduceToNat, Int.reduceNeg, Nat.reduceBNe, forall_eq_or_imp, i64A, bneF hc]
    by_cases l0 : loc < 0
    · rw [if_pos (.inl l0)] at h
      simp only [OI0, OI1, OI2, OI3, OI4, OI5, OI6, OI7, OI8, OI9, OI10, OI11, OI12, ↓reduceIte, reduceCtorEq, Nat.reduceAdd, Nat.reduceEqDiff, Nat.reduceBEq, Nat.reduceLT, Nat.reduceLeDiff, Nat.reduceMul, Nat.reduceSub, Int.reduceLE, Int.reduceLT, Int.reduceEq, Int.reduceBEq, Int.reduceBNe, Int.reduceToNat, Int.reduceNeg, Nat.reduceBNe, forall_eq_or_imp, l0]
      exact h
    by_cases l1 : (g.op.length : Int) ≤ loc
    · rw [if_pos (.inr l1)] at h
      simp only [OI0, OI1, OI2, OI3, OI4, OI5, OI6, OI7, OI8, OI9, OI10, OI11, OI12, ↓reduceIte, reduceCtorEq, Nat.reduceAdd, Nat.reduceEqDiff, Nat.reduceBEq, Nat.reduceLT, Nat.reduceLeDiff, Nat.reduceMul, Nat.reduceSub, Int.reduceLE, Int.reduceLT, Int.reduceEq, Int.reduceBEq, Int.reduceBNe, Int.reduceToNat, Int.reduceNeg, Nat.reduceBNe, forall_eq_or_imp, l0, l1]
      exact h
    rw [if_neg (by omega)] at h
    obtain ⟨o, ho⟩ : ∃ o, g.op[loc.toNat]? = some o := ⟨_, List.getElem?_eq_getElem (by omega)⟩
    rw [ho] at h
    simp only at h
    have w1 : IntKind.i64.wrap (2 * loc) = 2 * loc := wrI64 (by omega) (by omega)
    have hin := loopA_in hF ho 0
    have hd := deep4 hc hin.1 hin.2
    have l0' : 0 ≤ loc := by omega
    have l1' : loc < g.op.length := by omega
    simp only [OI0, OI1, OI2, OI3, OI4, OI5, OI6, OI7, OI8, OI9, OI10, OI11, OI12, ↓reduceIte, reduceCtorEq, Nat.reduceAdd, Nat.reduceEqDiff, Nat.reduceBEq, Nat.reduceLT, Nat.reduceLeDiff, Nat.reduceMul, Nat.reduceSub, Int.reduceLE, Int.reduceLT, Int.reduceEq, Int.reduceBEq, Int.reduceBNe, Int.reduceToNat, Int.reduceNeg, Nat.reduceBNe, forall_eq_or_imp, l0, l1, w1]
    refine c128 g _ loc.toNat 0 o (by omega) (by omega) ho (hF.oks _ _ ho) (by omega) ?_
    simp only [OI0, OI1, OI2, OI3, OI4, OI5, OI6, OI7, OI8, OI9, OI10, OI11, OI12, ↓reduceIte, reduceCtorEq, Nat.reduceAdd, Nat.reduceEqDiff, Nat.reduceBEq, Nat.reduceLT, Nat.reduceLeDiff, Nat.reduceMul, Nat.reduceSub, Int.reduceLE, Int.reduceLT, Int.reduceEq, Int.reduceBEq, Int.reduceBNe, Int.reduceToNat, Int.reduceNeg, Nat.reduceBNe, forall_eq_or_imp, i64A]
    refine c129 g _ g.lo.length hF.wf (by omega) (by omega) (by omega) ?_
    have hcase : o.k = 7 ∨ o.k = 8 ∨ o.k = 9 ∨ o.k = 10 ∨ (o.k ≠ 7 ∧ o.k ≠ 8 ∧ o.k ≠ 9 ∧ o.k ≠ 10) := by omega
    rcases hcase with k | k | k | k | k
    · simp only [fnR, k] at h
      simp only [OI0, OI1, OI2, OI3, OI4, OI5, OI6, OI7, OI8, OI9, OI10, OI11, OI12, ↓reduceIte, reduceCtorEq, Nat.reduceAdd, Nat.reduceEqDiff, Nat.reduceBEq, Nat.reduceLT, Nat.reduceLeDiff, Nat.reduceMul, Nat.reduceSub, Int.reduceLE, Int.reduceLT, Int.reduceEq, Int.reduceBEq, Int.reduceBNe, Int.reduceToNat, Int.reduceNeg, Nat.reduceBNe, forall_eq_or_imp, i64A, ho, opA, l0', l1', k, Int.reduceBEq]
      refine c135 _ hd ?_
      simp only [OI0, OI1, OI2, OI3, OI4, OI5, OI6, OI7, OI8, OI9, OI10, OI11, OI12, ↓reduceIte, reduceCtorEq, Nat.reduceAdd, Nat.reduceEqDiff, Nat.reduceBEq, Nat.reduceLT, Nat.reduceLeDiff, Nat.reduceMul, Nat.reduceSub, Int.reduceLE, Int.reduceLT, Int.reduceEq, Int.reduceBEq, Int.reduceBNe, Int.reduceToNat, Int.reduceNeg, Nat.reduceBNe, forall_eq_or_imp, i64A, pA]
      exact h
    · simp only [fnR, k] at h
      simp only [OI0, OI1, OI2, OI3, OI4, OI5, OI6, OI7, OI8, OI9, OI10, OI11, OI12, ↓reduceIte, reduceCtorEq, Nat.reduceAdd, Nat.reduceEqDiff, Nat.reduceBEq, Nat.reduceLT, Nat.reduceLeDiff, Nat.reduceMul, Nat.reduceSub, Int.reduceLE, Int.reduceLT, Int.reduceEq, Int.reduceBEq, Int.reduceBNe, Int.reduceToNat, Int.reduceNeg, Nat.reduceBNe, forall_eq_or_imp, i64A, ho, opA, l0', l1', k, Int.reduceBEq]
      refine c136 _ hd ?_
      simp only [OI0, OI1, OI2, OI3, OI4, OI5, OI6, OI7, OI8, OI9, OI10, OI11, OI12, ↓reduceIte, reduceCtorEq, Nat.reduceAdd, Nat.reduceEqDiff, Nat.reduceBEq, Nat.reduceLT, Nat.reduceLeDiff, Nat.reduceMul, Nat.reduceSub, Int.reduceLE, Int.reduceLT, Int.reduceEq, Int.reduceBEq, Int.reduceBNe, Int.reduceToNat, Int.reduceNeg, Nat.reduceBNe, forall_eq_or_imp, i64A, pA]
      exact h
    · simp only [fnR, k] at h
      simp only [OI0, OI1, OI2, OI3, OI4, OI5, OI6, OI7, OI8, OI9, OI10, OI11, OI12, ↓reduceIte, reduceCtorEq, Nat.reduceAdd, Nat.reduceEqDiff, Nat.reduceBEq, Nat.reduceLT, Nat.reduceLeDiff, Nat.reduceMul, Nat.reduceSub, Int.reduceLE, Int.reduceLT, Int.reduceEq, Int.reduceBEq, Int.reduceBNe, Int.reduceToNat, Int.reduceNeg, Nat.reduceBNe, forall_eq_or_imp, i64A, ho, opA, l0', l1', k, Int.reduceBEq]
      refine c137 _ hd ?_
      simp only [OI0, OI1, OI2, OI3, OI4, OI5, OI6, OI7, OI8, OI9, OI10, OI11, OI12, ↓reduceIte, reduceCtorEq, Nat.reduceAdd, Nat.reduceEqDiff, Nat.reduceBEq, Nat.reduceLT, Nat.reduceLeDiff, Nat.reduceMul, Nat.reduceSub, Int.reduceLE, Int.reduceLT, Int.reduceEq, Int.reduceBEq, Int.reduceBNe, Int.reduceToNat, Int.reduceNeg, Nat.reduceBNe, forall_eq_or_imp, i64A, pA]
      exact h
    · have hnum := num10 k (hF.op _ _ ho).num
      have w2 : IntKind.u32.wrap o.a = o.a := wrU32 (by omega) (by omega)
      simp only [fnR, k] at h
      simp only [OI0, OI1, OI2, OI3, OI4, OI5, OI6, OI7, OI8, OI9, OI10, OI11, OI12, ↓reduceIte, reduceCtorEq, Nat.reduceAdd, Nat.reduceEqDiff, Nat.reduceBEq, Nat.reduceLT, Nat.reduceLeDiff, Nat.reduceMul, Nat.reduceSub, Int.reduceLE, Int.reduceLT, Int.reduceEq, Int.reduceBEq, Int.reduceBNe, Int.reduceToNat, Int.reduceNeg, Nat.reduceBNe, forall_eq_or_imp, i64A, ho, opA, l0', l1', k, Int.reduceBEq, w2]
      refine c138 _ _ hd ?_
      simp only [OI0, OI1, OI2, OI3, OI4, OI5, OI6, OI7, OI8, OI9, OI10, OI11, OI12, ↓reduceIte, reduceCtorEq, Nat.reduceAdd, Nat.reduceEqDiff, Nat.reduceBEq, Nat.reduceLT, Nat.reduceLeDiff, Nat.reduceMul, Nat.reduceSub, Int.reduceLE, Int.reduceLT, Int.reduceEq, Int.reduceBEq, Int.reduceBNe, Int.reduceToNat, Int.reduceNeg, Nat.reduceBNe, forall_eq_or_imp, i64A, pA]
      exact h
    · simp only [fnR, k, if_false] at h
      simp only [OI0, OI1, OI2, OI3, OI4, OI5, OI6, OI7, OI8, OI9, OI10, OI11, OI12, ↓reduceIte, reduceCtorEq, Nat.reduceAdd, Nat.reduceEqDiff, Nat.reduceBEq, Nat.reduceLT, Nat.reduceLeDiff, Nat.reduceMul, Nat.reduceSub, Int.reduceLE, Int.reduceLT, Int.reduceEq, Int.reduceBEq, Int.reduceBNe, Int.reduceToNat, Int.reduceNeg, Nat.reduceBNe, forall_eq_or_imp, i64A, ho, opA, l0', l1', beqF k.1, beqF k.2.1, beqF k.2.2.1, beqF k.2.2.2]
      refine c139 _ hd ?_
      simp only [OI0, OI1, OI2, OI3, OI4, OI5, OI6, OI7, OI8, OI9, OI10, OI11, OI12, ↓reduceIte, reduceCtorEq, Nat.reduceAdd, Nat.reduceEqDiff, Nat.reduceBEq, Nat.reduceLT, Nat.reduceLeDiff, Nat.reduceMul, Nat.reduceSub, Int.reduceLE, Int.reduceLT, Int.reduceEq, Int.reduceBEq, Int.reduceBNe, Int.reduceToNat, Int.reduceNeg, Nat.reduceBNe, forall_eq_or_imp, i64A, pA]
      exact h
  · rw [innR, if_pos hc] at h
    simp only [OI0, OI1, OI2, OI3, OI4, OI5, OI6, OI7, OI8, OI9, OI10, OI11, OI12, ↓reduceIte, reduceCtorEq, Nat.reduceAdd, Nat.reduceEqDiff, Nat.reduceBEq, Nat.reduceLT, Nat.reduceLeDiff, Nat.reduceMul, Nat.reduceSub, Int.reduceLE, Int.reduceLT, Int.reduceEq, Int.reduceBEq, Int.reduceBNe, Int.reduceToNat, Int.reduceNeg, Nat.reduceBNe, forall_eq_or_imp, i64A, bneT hc]
    exact h
theorem c46f (g : Gr) (hn : NmOk g) (loc : Int) {Q : AV → Al → Prop} (h : Q (.tup [i64A (scR g loc).1, i64A (scR g loc).2.1, i64A (scR g loc).2.2]) []) : ACalls Try.prog 46 [] [gA g, i64A loc] Q := by
  refine ok46.N hmix rfl ?_
  intro I
  simp only [cc46, OI0, OI1, OI2, OI3, OI4, OI5, OI6, OI7, OI8, OI9, OI10, OI11, OI12, ↓reduceIte, reduceCtorEq, Nat.reduceAdd, Nat.reduceEqDiff, Nat.reduceBEq, Nat.reduceLT, Nat.reduceLeDiff, Nat.reduceMul, Nat.reduceSub, Int.reduceLE, Int.reduceLT, Int.reduceEq, Int.reduceBEq, Int.reduceBNe, Int.reduceToNat, Int.reduceNeg, Nat.reduceBNe, forall_eq_or_imp, gA, i64A]
  refine c66 g hn ?_
  by_cases hc : chk g = 0
  · have hF := chk0 hc
    have h24 := hF.op24
    have hlo6 := hF.lo6
    rw [scR, if_neg (by simpa using hc)] at h
    simp only [OI0, OI1, OI2, OI3, OI4, OI5, OI6, OI7, OI8, OI9, OI10, OI11, OI12, ↓reduceIte, reduceCtorEq, Nat.reduceAdd, Nat.reduceEqDiff, Nat.reduceBEq, Nat.reduceLT, Nat.reduceLeDiff, Nat.reduceMul, Nat.reduceSub, Int.reduceLE, Int.reduceLT, Int.reduceEq, Int.reduceBEq, Int.reduceBNe, Int.reduceToNat, Int.reduceNeg, Nat.reduceBNe, forall_eq_or_imp, i64A, bneF hc]
    by_cases l0 : loc < 0
    · rw [if_pos (.inl l0)] at h
      simp only [OI0, OI1, OI2, OI3, OI4, OI5, OI6, OI7, OI8, OI9, OI10, OI11, OI12, ↓reduceIte, reduceCtorEq, Nat.reduceAdd, Nat.reduceEqDiff, Nat.reduceBEq, Nat.reduceLT, Nat.reduceLeDiff, Nat.reduceMul, Nat.reduceSub, Int.reduceLE, Int.reduceLT, Int.reduceEq, Int.reduceBEq, Int.reduceBNe, Int.reduceToNat, Int.reduceNeg, Nat.reduceBNe, forall_eq_or_imp, l0]
      exact h
    have w1 : IntKind.i64.wrap (2 * (g.op.length : Int)) = 2 * g.op.length := wrI64 (by omega) (by omega)
    by_cases l1 : 2 * (g.op.length : Int) ≤ loc
    · rw [if_pos (.inr l1)] at h
      simp only [OI0, OI1, OI2, OI3, OI4, OI5, OI6, OI7, OI8, OI9, OI10, OI11, OI12, ↓reduceIte, reduceCtorEq, Nat.reduceAdd, Nat.reduceEqDiff, Nat.reduceBEq, Nat.reduceLT, Nat.reduceLeDiff, Nat.reduceMul, Nat.reduceSub, Int.reduceLE, Int.reduceLT, Int.reduceEq, Int.reduceBEq, Int.reduceBNe, Int.reduceToNat, Int.reduceNeg, Nat.reduceBNe, forall_eq_or_imp, l0, l1, w1]
      exact h
    rw [if_neg (by omega)] at h
    obtain ⟨o, ho⟩ : ∃ o, g.op[(loc / 2).toNat]? = some o := ⟨_, List.getElem?_eq_getElem (by omega)⟩
    have hs : scL g loc = loopA g o (loc % 2).toNat := by simp only [scL, ho]
    have hin := loopA_in hF ho (loc % 2).toNat
    rw [hs] at h
    simp only [OI0, OI1, OI2, OI3, OI4, OI5, OI6, OI7, OI8, OI9, OI10, OI11, OI12, ↓reduceIte, reduceCtorEq, Nat.reduceAdd, Nat.reduceEqDiff, Nat.reduceBEq, Nat.reduceLT, Nat.reduceLeDiff, Nat.reduceMul, Nat.reduceSub, Int.reduceLE, Int.reduceLT, Int.reduceEq, Int.reduceBEq, Int.reduceBNe, Int.reduceToNat, Int.reduceNeg, Nat.reduceBNe, forall_eq_or_imp, l0, l1, w1]
    refine c128 g loc (loc / 2).toNat (loc % 2).toNat o (by omega) (by omega) ho (hF.oks _ _ ho) (by omega) ?_
    simp only [OI0, OI1, OI2, OI3, OI4, OI5, OI6, OI7, OI8, OI9, OI10, OI11, OI12, ↓reduceIte, reduceCtorEq, Nat.reduceAdd, Nat.reduceEqDiff, Nat.reduceBEq, Nat.reduceLT, Nat.reduceLeDiff, Nat.reduceMul, Nat.reduceSub, Int.reduceLE, Int.reduceLT, Int.reduceEq, Int.reduceBEq, Int.reduceBNe, Int.reduceToNat, Int.reduceNeg, Nat.reduceBNe, forall_eq_or_imp, i64A]
    refine c129 g _ g.lo.length hF.wf (by omega) (by omega) (by omega) ?_
    simp only [OI0, OI1, OI2, OI3, OI4, OI5, OI6, OI7, OI8, OI9, OI10, OI11, OI12, ↓reduceIte, reduceCtorEq, Nat.reduceAdd, Nat.reduceEqDiff, Nat.reduceBEq, Nat.reduceLT, Nat.reduceLeDiff, Nat.reduceMul, Nat.reduceSub, Int.reduceLE, Int.reduceLT, Int.reduceEq, Int.reduceBEq, Int.reduceBNe, Int.reduceToNat, Int.reduceNeg, Nat.reduceBNe, forall_eq_or_imp, i64A]
    exact h
  · rw [scR, if_pos hc] at h
    simp only [OI0, OI1, OI2, OI3, OI4, OI5, OI6, OI7, OI8, OI9, OI10, OI11, OI12, ↓reduceIte, reduceCtorEq, Nat.reduceAdd, Nat.reduceEqDiff, Nat.reduceBEq, Nat.reduceLT, Nat.reduceLeDiff, Nat.reduceMul, Nat.reduceSub, Int.reduceLE, Int.reduceLT, Int.reduceEq, Int.reduceBEq, Int.reduceBNe, Int.reduceToNat, Int.reduceNeg, Nat.reduceBNe, forall_eq_or_imp, i64A, bneT hc]
    exact h
theorem c45f (g : Gr) (loc : Int) {Q : AV → Al → Prop} (h : Q (.tup [i64A (scR g loc).1, i64A (scR g loc).2.1, i64A (scR g loc).2.2]) []) : ACalls Try.prog 45 [] [gA g, i64A loc] Q := by
  refine ok45.N hmix rfl ?_
  intro I
  simp only [cc45, OI0, OI1, OI2, OI3, OI4, OI5, OI6, OI7, OI8, OI9, OI10, OI11, OI12, ↓reduceIte, reduceCtorEq, Nat.reduceAdd, Nat.reduceEqDiff, Nat.reduceBEq, Nat.reduceLT, Nat.reduceLeDiff, Nat.reduceMul, Nat.reduceSub, Int.reduceLE, Int.reduceLT, Int.reduceEq, Int.reduceBEq, Int.reduceBNe, Int.reduceToNat, Int.reduceNeg, Nat.reduceBNe, forall_eq_or_imp, gA, i64A]
  refine c65 g ?_
  by_cases hc : chk g = 0
  · have hF := chk0 hc
    have h24 := hF.op24
    have hlo6 := hF.lo6
    rw [scR, if_neg (by simpa using hc)] at h
    simp only [OI0, OI1, OI2, OI3, OI4, OI5, OI6, OI7, OI8, OI9, OI10, OI11, OI12, ↓reduceIte, reduceCtorEq, Nat.reduceAdd, Nat.reduceEqDiff, Nat.reduceBEq, Nat.reduceLT, Nat.reduceLeDiff, Nat.reduceMul, Nat.reduceSub, Int.reduceLE, Int.reduceLT, Int.reduceEq, Int.reduceBEq, Int.reduceBNe, Int.reduceToNat, Int.reduceNeg, Nat.reduceBNe, forall_eq_or_imp, i64A, bneF hc]
    by_cases l0 : loc < 0
    · rw [if_pos (.inl l0)] at h
      simp only [OI0, OI1, OI2, OI3, OI4, OI5, OI6, OI7, OI8, OI9, OI10, OI11, OI12, ↓reduceIte, reduceCtorEq, Nat.reduceAdd, Nat.reduceEqDiff, Nat.reduceBEq, Nat.reduceLT, Nat.reduceLeDiff, Nat.reduceMul, Nat.reduceSub, Int.reduceLE, Int.reduceLT, Int.reduceEq, Int.reduceBEq, Int.reduceBNe, Int.reduceToNat, Int.reduceNeg, Nat.reduceBNe, forall_eq_or_imp, l0]
      exact h
    have w1 : IntKind.i64.wrap (2 * (g.op.length : Int)) = 2 * g.op.length := wrI64 (by omega) (by omega)
    by_cases l1 : 2 * (g.op.length : Int) ≤ loc
    · rw [if_pos (.inr l1)] at h
      simp only [OI0, OI1, OI2, OI3, OI4, OI5, OI6, OI7, OI8, OI9, OI10, OI11, OI12, ↓reduceIte, reduceCtorEq, Nat.reduceAdd, Nat.reduceEqDiff, Nat.reduceBEq, Nat.reduceLT, Nat.reduceLeDiff, Nat.reduceMul, Nat.reduceSub, Int.reduceLE, Int.reduceLT, Int.reduceEq, Int.reduceBEq, Int.reduceBNe, Int.reduceToNat, Int.reduceNeg, Nat.reduceBNe, forall_eq_or_imp, l0, l1, w1]
      exact h
    rw [if_neg (by omega)] at h
    obtain ⟨o, ho⟩ : ∃ o, g.op[(loc / 2).toNat]? = some o := ⟨_, List.getElem?_eq_getElem (by omega)⟩
    have hs : scL g loc = loopA g o (loc % 2).toNat := by simp only [scL, ho]
    have hin := loopA_in hF ho (loc % 2).toNat
    rw [hs] at h
    simp only [OI0, OI1, OI2, OI3, OI4, OI5, OI6, OI7, OI8, OI9, OI10, OI11, OI12, ↓reduceIte, reduceCtorEq, Nat.reduceAdd, Nat.reduceEqDiff, Nat.reduceBEq, Nat.reduceLT, Nat.reduceLeDiff, Nat.reduceMul, Nat.reduceSub, Int.reduceLE, Int.reduceLT, Int.reduceEq, Int.reduceBEq, Int.reduceBNe, Int.reduceToNat, Int.reduceNeg, Nat.reduceBNe, forall_eq_or_imp, l0, l1, w1]
    refine c126 g loc (loc / 2).toNat (loc % 2).toNat o (by omega) (by omega) ho (hF.oks _ _ ho) (by omega) ?_
    simp only [OI0, OI1, OI2, OI3, OI4, OI5, OI6, OI7, OI8, OI9, OI10, OI11, OI12, ↓reduceIte, reduceCtorEq, Nat.reduceAdd, Nat.reduceEqDiff, Nat.reduceBEq, Nat.reduceLT, Nat.reduceLeDiff, Nat.reduceMul, Nat.reduceSub, Int.reduceLE, Int.reduceLT, Int.reduceEq, Int.reduceBEq, Int.reduceBNe, Int.reduceToNat, Int.reduceNeg, Nat.reduceBNe, forall_eq_or_imp, i64A]
    refine c127 g _ g.lo.length hF.wf (by omega) (by omega) (by omega) ?_
    simp only [OI0, OI1, OI2, OI3, OI4, OI5, OI6, OI7, OI8, OI9, OI10, OI11, OI12, ↓reduceIte, reduceCtorEq, Nat.reduceAdd, Nat.reduceEqDiff, Nat.reduceBEq, Nat.reduceLT, Nat.reduceLeDiff, Nat.reduceMul, Nat.reduceSub, Int.reduceLE, Int.reduceLT, Int.reduceEq, Int.reduceBEq, Int.reduceBNe, Int.reduceToNat, Int.reduceNeg, Nat.reduceBNe, forall_eq_or_imp, i64A]
    exact h
  · rw [scR, if_pos hc] at h
    simp only [OI0, OI1, OI2, OI3, OI4, OI5, OI6, OI7, OI8, OI9, OI10, OI11, OI12, ↓reduceIte, reduceCtorEq, Nat.reduceAdd, Nat.reduceEqDiff, Nat.reduceBEq, Nat.reduceLT, Nat.reduceLeDiff, Nat.reduceMul, Nat.reduceSub, Int.reduceLE, Int.reduceLT, Int.reduceEq, Int.reduceBEq, Int.reduceBNe, Int.reduceToNat, Int.reduceNeg, Nat.reduceBNe, forall_eq_or_imp, i64A, bneT hc]
    exact h
end Go.Proofs.Ythlehngbadianaa.Ow
