/- What the functions of the program do, each once: contracts of the logic (part k5). -/
import Derived.Test.YthlehngbadianaaTk4
set_option linter.unusedVariables false
set_option linter.unusedSimpArgs false
set_option linter.unnecessarySimpa false
set_option maxRecDepth 100000
set_option maxHeartbeats 4000000
namespace Go.Proofs.Ythlehngbadianaa.Ow
open Go Go.RowKit Go.Proofs
/- watershed/watershedref09.Text -/
def cc64 : CC := (.seq (.region [⟨none, 1, (.box 0), [0], none, []⟩, ⟨none, 2, (.val (.mv (.c (.string ⟨#[]⟩)))), [2], none, []⟩, ⟨none, 3, (.val (.mv (.c (.int .i64 0)))), [3], none, []⟩]) (.seq (.region [⟨none, 11, (.val (.ld (.s 1) (some 4))), [], none, []⟩, ⟨none, 12, (.callP 66 [(.s 11)]), [11], none, []⟩, ⟨none, 4, (.val (.mv (.s 12))), [12], none, []⟩]) (.seq (.seq (.region [⟨none, 13, (.val (.mv (.s 4))), [], none, []⟩, ⟨none, 14, (.val (.bin .neq (.s 13) (.c (.int .i64 0)))), [13], none, []⟩]) (.cond (.s 14) (.seq (.region [⟨none, 15, (.val (.mv (.s 4))), [1, 4, 14], none, []⟩, ⟨none, 2, (.val (.mv (.c (.string ⟨#[]⟩)))), [], none, []⟩, ⟨none, 3, (.val (.mv (.s 15))), [15], none, []⟩]) .ret) .skip)) (.seq (.region [⟨none, 5, (.val (.mv (.c (.string ⟨#[]⟩)))), [4, 14], none, []⟩]) (.seq (.seq (.region [⟨none, 6, (.val (.mv (.c (.int .i64 0)))), [], none, []⟩]) (.block 0 (.loop (.seq (.seq (.region [⟨none, 16, (.val (.mv (.s 6))), [], none, []⟩, ⟨none, 17, (.val (.fa (.s 1) 0)), [], none, []⟩, ⟨none, 18, (.val (.ld (.s 17) none)), [17], none, []⟩, ⟨none, 19, (.val (.lnl (.s 18) 2)), [18], none, []⟩, ⟨none, 20, (.val (.bin .lss (.s 16) (.s 19))), [16, 19], none, []⟩]) (.cond (.s 20) .skip (.exit 0))) (.seq (.block 1 (.region [⟨none, 23, (.val (.mv (.s 5))), [5, 20], none, []⟩, ⟨none, 24, (.val (.bin .add (.s 23) (.c (.string ⟨#[99, 108, 117, 115, 116, 101, 114, 32]⟩)))), [23], none, []⟩, ⟨none, 25, (.val (.fa (.s 1) 0)), [], none, []⟩, ⟨none, 26, (.val (.ld (.s 25) none)), [25], none, []⟩, ⟨none, 27, (.val (.mv (.s 6))), [], none, []⟩, ⟨none, 28, (.val (.ia (.s 26) (.s 27) 2)), [26, 27], none, []⟩, ⟨none, 29, (.val (.fa (.s 28) 0)), [28], none, []⟩, ⟨none, 30, (.val (.ld (.s 29) none)), [29], none, []⟩, ⟨none, 31, (.val (.bin .add (.s 24) (.s 30))), [24, 30], none, []⟩, ⟨none, 32, (.val (.bin .add (.s 31) (.c (.string ⟨#[32, 119, 111, 114, 107, 101, 114, 115, 61]⟩)))), [31], none, []⟩, ⟨none, 33, (.val (.fa (.s 1) 0)), [], none, []⟩, ⟨none, 34, (.val (.ld (.s 33) none)), [33], none, []⟩, ⟨none, 35, (.val (.mv (.s 6))), [], none, []⟩, ⟨none, 36, (.val (.ia (.s 34) (.s 35) 2)), [34, 35], none, []⟩, ⟨none, 37, (.val (.fa (.s 36) 1)), [36], none, []⟩, ⟨none, 38, (.val (.ld (.s 37) none)), [37], none, []⟩, ⟨none, 39, (.callP 152 [(.s 38)]), [38], none, []⟩, ⟨none, 40, (.val (.bin .add (.s 32) (.s 39))), [32, 39], none, []⟩, ⟨none, 41, (.val (.bin .add (.s 40) (.c (.string ⟨#[10]⟩)))), [40], none, []⟩, ⟨none, 5, (.val (.mv (.s 41))), [41], none, []⟩])) (.region [⟨none, 21, (.val (.mv (.s 6))), [6], none, []⟩, ⟨none, 22, (.val (.bin .add (.s 21) (.c (.int .i64 1)))), [21], none, []⟩, ⟨none, 6, (.val (.mv (.s 22))), [22], none, []⟩])))))) (.seq (.seq (.region [⟨none, 7, (.val (.mv (.c (.int .i64 0)))), [6, 20], none, []⟩]) (.block 2 (.loop (.seq (.seq (.region [⟨none, 42, (.val (.mv (.s 7))), [], none, []⟩, ⟨none, 43, (.val (.fa (.s 1) 1)), [], none, []⟩, ⟨none, 44, (.val (.ld (.s 43) none)), [43], none, []⟩, ⟨none, 45, (.val (.lnl (.s 44) 3)), [44], none, []⟩, ⟨none, 46, (.val (.bin .lss (.s 42) (.s 45))), [42, 45], none, []⟩]) (.cond (.s 46) .skip (.exit 2))) (.seq (.block 3 (.region [⟨none, 49, (.val (.mv (.s 5))), [5, 46], none, []⟩, ⟨none, 50, (.val (.bin .add (.s 49) (.c (.string ⟨#[108, 111, 111, 112, 32]⟩)))), [49], none, []⟩, ⟨none, 51, (.val (.fa (.s 1) 1)), [], none, []⟩, ⟨none, 52, (.val (.ld (.s 51) none)), [51], none, []⟩, ⟨none, 53, (.val (.mv (.s 7))), [], none, []⟩, ⟨none, 54, (.val (.ia (.s 52) (.s 53) 3)), [52, 53], none, []⟩, ⟨none, 55, (.val (.fa (.s 54) 0)), [54], none, []⟩, ⟨none, 56, (.val (.ld (.s 55) none)), [55], none, []⟩, ⟨none, 57, (.val (.bin .add (.s 50) (.s 56))), [50, 56], none, []⟩, ⟨none, 58, (.val (.bin .add (.s 57) (.c (.string ⟨#[32, 105, 110, 61]⟩)))), [57], none, []⟩, ⟨none, 59, (.val (.ld (.s 1) (some 4))), [], none, []⟩, ⟨none, 60, (.val (.fa (.s 1) 1)), [], none, []⟩, ⟨none, 61, (.val (.ld (.s 60) none)), [60], none, []⟩, ⟨none, 62, (.val (.mv (.s 7))), [], none, []⟩, ⟨none, 63, (.val (.ia (.s 61) (.s 62) 3)), [61, 62], none, []⟩, ⟨none, 64, (.val (.fa (.s 63) 1)), [63], none, []⟩, ⟨none, 65, (.val (.ld (.s 64) none)), [64], none, []⟩, ⟨none, 69, (.val (.fa (.s 1) 1)), [], none, []⟩, ⟨none, 70, (.val (.ld (.s 69) none)), [69], none, []⟩, ⟨none, 71, (.val (.mv (.s 7))), [], none, []⟩, ⟨none, 72, (.val (.ia (.s 70) (.s 71) 3)), [70, 71], none, []⟩, ⟨none, 73, (.val (.fa (.s 72) 2)), [72], none, []⟩, ⟨none, 74, (.val (.ld (.s 73) none)), [73], none, []⟩, ⟨none, 66, (.callP 153 [(.s 59), (.s 65)]), [59, 65], none, []⟩, ⟨none, 67, (.val (.bin .add (.s 58) (.s 66))), [58, 66], none, []⟩, ⟨none, 68, (.val (.bin .add (.s 67) (.c (.string ⟨#[32, 114, 111, 117, 110, 100, 115, 61]⟩)))), [67], none, []⟩, ⟨none, 75, (.callP 152 [(.s 74)]), [74], none, []⟩, ⟨none, 76, (.val (.bin .add (.s 68) (.s 75))), [68, 75], none, []⟩, ⟨none, 77, (.val (.bin .add (.s 76) (.c (.string ⟨#[10]⟩)))), [76], none, []⟩, ⟨none, 5, (.val (.mv (.s 77))), [77], none, []⟩])) (.region [⟨none, 47, (.val (.mv (.s 7))), [7], none, []⟩, ⟨none, 48, (.val (.bin .add (.s 47) (.c (.int .i64 1)))), [47], none, []⟩, ⟨none, 7, (.val (.mv (.s 48))), [48], none, []⟩])))))) (.seq (.seq (.region [⟨none, 8, (.val (.mv (.c (.int .i64 0)))), [7, 46], none, []⟩]) (.block 4 (.loop (.seq (.seq (.region [⟨none, 78, (.val (.mv (.s 8))), [], none, []⟩, ⟨none, 79, (.val (.fa (.s 1) 2)), [], none, []⟩, ⟨none, 80, (.val (.ld (.s 79) none)), [79], none, []⟩, ⟨none, 81, (.val (.lnl (.s 80) 6)), [80], none, []⟩, ⟨none, 82, (.val (.bin .lss (.s 78) (.s 81))), [78, 81], none, []⟩]) (.cond (.s 82) .skip (.exit 4))) (.seq (.block 5 (.seq (.region [⟨none, 85, (.val (.fa (.s 1) 2)), [82], none, []⟩, ⟨none, 86, (.val (.ld (.s 85) none)), [85], none, []⟩, ⟨none, 87, (.val (.mv (.s 8))), [], none, []⟩, ⟨none, 88, (.val (.ia (.s 86) (.s 87) 6)), [86, 87], none, []⟩, ⟨none, 89, (.val (.ld (.s 88) (some 6))), [88], none, []⟩, ⟨none, 9, (.alloc (.agg #[(.string ⟨#[]⟩), (.int .i64 0), (.int .i64 0), (.int .i64 0), (.int .i64 0), (.int .i64 0)])), [], none, []⟩, ⟨none, 0, (.store 6 (.s 9) (.s 89)), [89], none, []⟩]) (.seq (.region [⟨none, 90, (.val (.mv (.s 5))), [5], none, []⟩, ⟨none, 91, (.val (.bin .add (.s 90) (.c (.string ⟨#[111, 112, 32]⟩)))), [90], none, []⟩, ⟨none, 92, (.val (.fa (.s 9) 0)), [], none, []⟩, ⟨none, 93, (.val (.ld (.s 92) none)), [92], none, []⟩, ⟨none, 94, (.val (.bin .add (.s 91) (.s 93))), [91, 93], none, []⟩, ⟨none, 95, (.val (.bin .add (.s 94) (.c (.string ⟨#[32]⟩)))), [94], none, []⟩, ⟨none, 96, (.val (.fa (.s 9) 1)), [], none, []⟩, ⟨none, 97, (.val (.ld (.s 96) none)), [96], none, []⟩, ⟨none, 101, (.val (.ld (.s 1) (some 4))), [], none, []⟩, ⟨none, 102, (.val (.fa (.s 9) 2)), [], none, []⟩, ⟨none, 103, (.val (.ld (.s 102) none)), [102], none, []⟩, ⟨none, 107, (.val (.fa (.s 1) 0)), [], none, []⟩, ⟨none, 108, (.val (.ld (.s 107) none)), [107], none, []⟩, ⟨none, 109, (.val (.fa (.s 9) 3)), [], none, []⟩, ⟨none, 110, (.val (.ld (.s 109) none)), [109], none, []⟩, ⟨none, 111, (.val (.ia (.s 108) (.s 110) 2)), [108, 110], none, []⟩, ⟨none, 112, (.val (.fa (.s 111) 0)), [111], none, []⟩, ⟨none, 113, (.val (.ld (.s 112) none)), [112], none, []⟩, ⟨none, 98, (.callP 154 [(.s 97)]), [97], none, []⟩, ⟨none, 99, (.val (.bin .add (.s 95) (.s 98))), [95, 98], none, []⟩, ⟨none, 100, (.val (.bin .add (.s 99) (.c (.string ⟨#[32, 105, 110, 61]⟩)))), [99], none, []⟩, ⟨none, 104, (.callP 153 [(.s 101), (.s 103)]), [101, 103], none, []⟩, ⟨none, 105, (.val (.bin .add (.s 100) (.s 104))), [100, 104], none, []⟩, ⟨none, 106, (.val (.bin .add (.s 105) (.c (.string ⟨#[32, 97, 116, 61]⟩)))), [105], none, []⟩, ⟨none, 114, (.val (.bin .add (.s 106) (.s 113))), [106, 113], none, []⟩, ⟨none, 5, (.val (.mv (.s 114))), [114], none, []⟩]) (.seq (.seq (.region [⟨none, 115, (.val (.fa (.s 9) 1)), [], none, []⟩, ⟨none, 116, (.val (.ld (.s 115) none)), [115], none, []⟩, ⟨none, 117, (.callP 155 [(.s 116)]), [116], none, []⟩, ⟨none, 118, (.val (.bin .gtr (.s 117) (.c (.int .i64 0)))), [117], none, []⟩]) (.cond (.s 118) (.region [⟨none, 119, (.val (.mv (.s 5))), [5, 118], none, []⟩, ⟨none, 120, (.val (.bin .add (.s 119) (.c (.string ⟨#[32, 97, 61]⟩)))), [119], none, []⟩, ⟨none, 121, (.val (.fa (.s 9) 4)), [], none, []⟩, ⟨none, 122, (.val (.ld (.s 121) none)), [121], none, []⟩, ⟨none, 123, (.callP 152 [(.s 122)]), [122], none, []⟩, ⟨none, 124, (.val (.bin .add (.s 120) (.s 123))), [120, 123], none, []⟩, ⟨none, 5, (.val (.mv (.s 124))), [124], none, []⟩]) .skip)) (.seq (.seq (.region [⟨none, 125, (.val (.fa (.s 9) 1)), [118], none, []⟩, ⟨none, 126, (.val (.ld (.s 125) none)), [125], none, []⟩, ⟨none, 127, (.callP 155 [(.s 126)]), [126], none, []⟩, ⟨none, 128, (.val (.bin .gtr (.s 127) (.c (.int .i64 1)))), [127], none, []⟩]) (.cond (.s 128) (.region [⟨none, 129, (.val (.mv (.s 5))), [5, 128], none, []⟩, ⟨none, 130, (.val (.bin .add (.s 129) (.c (.string ⟨#[32, 98, 61]⟩)))), [129], none, []⟩, ⟨none, 131, (.val (.fa (.s 9) 5)), [9], none, []⟩, ⟨none, 132, (.val (.ld (.s 131) none)), [131], none, []⟩, ⟨none, 133, (.callP 152 [(.s 132)]), [132], none, []⟩, ⟨none, 134, (.val (.bin .add (.s 130) (.s 133))), [130, 133], none, []⟩, ⟨none, 5, (.val (.mv (.s 134))), [134], none, []⟩]) .skip)) (.region [⟨none, 135, (.val (.mv (.s 5))), [5, 9, 128], none, []⟩, ⟨none, 136, (.val (.bin .add (.s 135) (.c (.string ⟨#[10]⟩)))), [135], none, []⟩, ⟨none, 5, (.val (.mv (.s 136))), [136], none, []⟩])))))) (.region [⟨none, 83, (.val (.mv (.s 8))), [8], none, []⟩, ⟨none, 84, (.val (.bin .add (.s 83) (.c (.int .i64 1)))), [83], none, []⟩, ⟨none, 8, (.val (.mv (.s 84))), [84], none, []⟩])))))) (.seq (.seq (.region [⟨none, 10, (.val (.mv (.c (.int .i64 0)))), [8, 82], none, []⟩]) (.block 6 (.loop (.seq (.seq (.region [⟨none, 137, (.val (.mv (.s 10))), [], none, []⟩, ⟨none, 138, (.val (.fa (.s 1) 3)), [], none, []⟩, ⟨none, 139, (.val (.ld (.s 138) none)), [138], none, []⟩, ⟨none, 140, (.val (.lnl (.s 139) 2)), [139], none, []⟩, ⟨none, 141, (.val (.bin .lss (.s 137) (.s 140))), [137, 140], none, []⟩]) (.cond (.s 141) .skip (.exit 6))) (.seq (.block 7 (.region [⟨none, 144, (.val (.mv (.s 5))), [5, 141], none, []⟩, ⟨none, 145, (.val (.bin .add (.s 144) (.c (.string ⟨#[102, 114, 111, 109, 32]⟩)))), [144], none, []⟩, ⟨none, 146, (.val (.fa (.s 1) 2)), [], none, []⟩, ⟨none, 147, (.val (.ld (.s 146) none)), [146], none, []⟩, ⟨none, 148, (.val (.fa (.s 1) 3)), [], none, []⟩, ⟨none, 149, (.val (.ld (.s 148) none)), [148], none, []⟩, ⟨none, 150, (.val (.mv (.s 10))), [], none, []⟩, ⟨none, 151, (.val (.ia (.s 149) (.s 150) 2)), [149, 150], none, []⟩, ⟨none, 152, (.val (.fa (.s 151) 0)), [151], none, []⟩, ⟨none, 153, (.val (.ld (.s 152) none)), [152], none, []⟩, ⟨none, 154, (.val (.ia (.s 147) (.s 153) 6)), [147, 153], none, []⟩, ⟨none, 155, (.val (.fa (.s 154) 0)), [154], none, []⟩, ⟨none, 156, (.val (.ld (.s 155) none)), [155], none, []⟩, ⟨none, 157, (.val (.bin .add (.s 145) (.s 156))), [145, 156], none, []⟩, ⟨none, 158, (.val (.bin .add (.s 157) (.c (.string ⟨#[32, 116, 111, 32]⟩)))), [157], none, []⟩, ⟨none, 159, (.val (.fa (.s 1) 2)), [], none, []⟩, ⟨none, 160, (.val (.ld (.s 159) none)), [159], none, []⟩, ⟨none, 161, (.val (.fa (.s 1) 3)), [], none, []⟩, ⟨none, 162, (.val (.ld (.s 161) none)), [161], none, []⟩, ⟨none, 163, (.val (.mv (.s 10))), [], none, []⟩, ⟨none, 164, (.val (.ia (.s 162) (.s 163) 2)), [162, 163], none, []⟩, ⟨none, 165, (.val (.fa (.s 164) 1)), [164], none, []⟩, ⟨none, 166, (.val (.ld (.s 165) none)), [165], none, []⟩, ⟨none, 167, (.val (.ia (.s 160) (.s 166) 6)), [160, 166], none, []⟩, ⟨none, 168, (.val (.fa (.s 167) 0)), [167], none, []⟩, ⟨none, 169, (.val (.ld (.s 168) none)), [168], none, []⟩, ⟨none, 170, (.val (.bin .add (.s 158) (.s 169))), [158, 169], none, []⟩, ⟨none, 171, (.val (.bin .add (.s 170) (.c (.string ⟨#[10]⟩)))), [170], none, []⟩, ⟨none, 5, (.val (.mv (.s 171))), [171], none, []⟩])) (.region [⟨none, 142, (.val (.mv (.s 10))), [10], none, []⟩, ⟨none, 143, (.val (.bin .add (.s 142) (.c (.int .i64 1)))), [142], none, []⟩, ⟨none, 10, (.val (.mv (.s 143))), [143], none, []⟩])))))) (.seq (.region [⟨none, 172, (.val (.mv (.s 5))), [1, 5, 10, 141], none, []⟩, ⟨none, 2, (.val (.mv (.s 172))), [172], none, []⟩, ⟨none, 3, (.val (.mv (.c (.int .i64 0)))), [], none, []⟩]) .ret)))))))))
theorem ok64 : FnOk Try.prog 64 cc64 [(.t 2), (.t 3)] 1 173 := ⟨⟨_, Try.func64, by kernel_rfl, by kernel_rfl, by kernel_rfl⟩, by decide, by decide⟩


theorem catL {a : List UInt8} {s : ByteArray} (h : a.length + (bsS s).length ≤ 1000000) : (if IntKind.i64.max < (((⟨a.toArray⟩ : ByteArray).size + s.size : Nat) : Int) then none else some (Value.string ((⟨a.toArray⟩ : ByteArray) ++ s))) = some (Value.string ⟨(a ++ bsS s).toArray⟩) := by
  rw [cat_if (by rw [szl, ← bs_len s]; exact h)]
  rw [ba_ext (show bsS ((⟨a.toArray⟩ : ByteArray) ++ s) = a ++ bsS s by rw [bs_app, bs_mk])]
def st64 (I : World → Fp → Value → Fp → Prop) (g : Gr) (a : Nat) (B : Nat → List UInt8) (i : Nat) : St :=
  ⟨[(a, .v (.int .i64 i)), (5, .v (.string ⟨(B i).toArray⟩)), (1, .ref ⟨1001, [], 0⟩)], [(1001, gA g), (9999, .ext I)], []⟩
theorem c64 (g : Gr) (hs : Small g) (hr : Rg g) {Q : AV → Al → Prop} (h : Q (.tup [.v (.string ⟨(txtR g).1.toArray⟩), i64A (txtR g).2]) []) : ACalls Try.prog 64 [] [gA g] Q := by
  refine ok64.N hmix rfl ?_
  intro I
  simp only [cc64, OI0, OI1, OI2, OI3, OI4, OI5, OI6, OI7, OI8, OI9, OI10, OI11, OI12, ↓reduceIte, reduceCtorEq, Nat.reduceAdd, Nat.reduceEqDiff, Nat.reduceBEq, Nat.reduceLT, Nat.reduceLeDiff, Nat.reduceMul, Nat.reduceSub, Int.reduceLE, Int.reduceLT, Int.reduceEq, Int.reduceBEq, Int.reduceBNe, Int.reduceToNat, Int.reduceNeg, Nat.reduceBNe, forall_eq_or_imp, gA]
  refine c66 g hs.nm ?_
  by_cases hc : chk g = 0
  · have hF := chk0 hc
    have hcl4 := hF.cl4
    have hlo6 := hF.lo6
    have h24 := hF.op24
    have h48 := hF.ch48
    have htx : txtR g = (txtL g, 0) := by rw [txtR, if_neg (by simpa using hc)]
    rw [htx] at h
    simp only [OI0, OI1, OI2, OI3, OI4, OI5, OI6, OI7, OI8, OI9, OI10, OI11, OI12, ↓reduceIte, reduceCtorEq, Nat.reduceAdd, Nat.reduceEqDiff, Nat.reduceBEq, Nat.reduceLT, Nat.reduceLeDiff, Nat.reduceMul, Nat.reduceSub, Int.reduceLE, Int.reduceLT, Int.reduceEq, Int.reduceBEq, Int.reduceBNe, Int.reduceToNat, Int.reduceNeg, Nat.reduceBNe, forall_eq_or_imp, i64A, bneF hc]
    have lcl : ∀ x ∈ g.cl, (clL x).length ≤ 4000 := fun x hx => by
      obtain ⟨i, hi⟩ := List.getElem?_of_mem hx
      exact clL_len (hs.ncl _ _ hi) (hr.cl x hx).1 (hr.cl x hx).2
    have llo : ∀ x ∈ g.lo, (loL g x).length ≤ 4000 := fun x hx => by
      obtain ⟨i, hi⟩ := List.getElem?_of_mem hx
      exact loL_len hs (hs.nlo _ _ hi) (hr.lo x hx).1 (hr.lo x hx).2
    have lop : ∀ x ∈ g.op, (opL g x).length ≤ 4000 := fun x hx => by
      obtain ⟨i, hi⟩ := List.getElem?_of_mem hx
      exact opL_len hs (hs.nop _ _ hi) (hr.op x hx).1 (hr.op x hx).2
    have lch : ∀ x ∈ g.ch, (chL g x).length ≤ 4000 := fun x hx => chL_len hs x
    refine W_loop (st64 I g 6 (fun i => tx clL g.cl i)) (fun i => i ≤ g.cl.length) (fun i => g.cl.length - i) (fun _ _ => rfl) ⟨0, by omega, ?_⟩ ?_
    · simp only [OI0, OI1, OI2, OI3, OI4, OI5, OI6, OI7, OI8, OI9, OI10, OI11, OI12, ↓reduceIte, reduceCtorEq, Nat.reduceAdd, Nat.reduceEqDiff, Nat.reduceBEq, Nat.reduceLT, Nat.reduceLeDiff, Nat.reduceMul, Nat.reduceSub, Int.reduceLE, Int.reduceLT, Int.reduceEq, Int.reduceBEq, Int.reduceBNe, Int.reduceToNat, Int.reduceNeg, Nat.reduceBNe, forall_eq_or_imp, st64, gA, tx, List.take_zero, List.map_nil, List.flatten_nil, List.append_nil]
      try rfl
    intro i hi
    refine W_of_N ok64.small hmix ?_
    have hln := tx_len lcl i
    by_cases hil : i < g.cl.length
    · have hil' : (i : Int) < g.cl.length := by omega
      have i0 : (0 : Int) ≤ i := by omega
      have hgi : g.cl[i]? = some g.cl[i] := List.getElem?_eq_getElem hil
      have hmem := List.getElem_mem hil
      have w1 : IntKind.i64.wrap ((i : Int) + 1) = ((i + 1 : Nat) : Int) := by rw [wrI64 (by omega) (by omega)]; omega
      have hsn := fun c h => tx_snoc (f := clL) (l := g.cl) (i := i) (x := c) h
      generalize g.cl[i] = c at hgi hmem
      have hrc := hr.cl c hmem
      have n1 : (bsS c.1).length ≤ 1000 := by rw [bs_len]; exact hs.ncl _ _ hgi
      have n2 : (bsS (decB c.2)).length ≤ 20 := by rw [bs_dec]; exact decL_len hrc.1 hrc.2
      have hlc := lcl c hmem
      have hsn := hsn c hgi
      simp only [OI0, OI1, OI2, OI3, OI4, OI5, OI6, OI7, OI8, OI9, OI10, OI11, OI12, ↓reduceIte, reduceCtorEq, Nat.reduceAdd, Nat.reduceEqDiff, Nat.reduceBEq, Nat.reduceLT, Nat.reduceLeDiff, Nat.reduceMul, Nat.reduceSub, Int.reduceLE, Int.reduceLT, Int.reduceEq, Int.reduceBEq, Int.reduceBNe, Int.reduceToNat, Int.reduceNeg, Nat.reduceBNe, forall_eq_or_imp, st64, gA, hil', i0, hgi, clA]
      refine ⟨_, catL (by simp only [List.length_append, bs_mk, List.length_cons, List.length_nil]; omega), ?_⟩
      simp only [OI0, OI1, OI2, OI3, OI4, OI5, OI6, OI7, OI8, OI9, OI10, OI11, OI12, ↓reduceIte, reduceCtorEq, Nat.reduceAdd, Nat.reduceEqDiff, Nat.reduceBEq, Nat.reduceLT, Nat.reduceLeDiff, Nat.reduceMul, Nat.reduceSub, Int.reduceLE, Int.reduceLT, Int.reduceEq, Int.reduceBEq, Int.reduceBNe, Int.reduceToNat, Int.reduceNeg, Nat.reduceBNe, forall_eq_or_imp, hil', i0, hgi, clA, gA]
      refine ⟨_, catL (by simp only [List.length_append, bs_mk, List.length_cons, List.length_nil]; omega), ?_⟩
      simp only [OI0, OI1, OI2, OI3, OI4, OI5, OI6, OI7, OI8, OI9, OI10, OI11, OI12, ↓reduceIte, reduceCtorEq, Nat.reduceAdd, Nat.reduceEqDiff, Nat.reduceBEq, Nat.reduceLT, Nat.reduceLeDiff, Nat.reduceMul, Nat.reduceSub, Int.reduceLE, Int.reduceLT, Int.reduceEq, Int.reduceBEq, Int.reduceBNe, Int.reduceToNat, Int.reduceNeg, Nat.reduceBNe, forall_eq_or_imp, hil', i0, hgi, clA, gA]
      refine ⟨_, catL (by simp only [List.length_append, bs_mk, List.length_cons, List.length_nil]; omega), ?_⟩
      simp only [OI0, OI1, OI2, OI3, OI4, OI5, OI6, OI7, OI8, OI9, OI10, OI11, OI12, ↓reduceIte, reduceCtorEq, Nat.reduceAdd, Nat.reduceEqDiff, Nat.reduceBEq, Nat.reduceLT, Nat.reduceLeDiff, Nat.reduceMul, Nat.reduceSub, Int.reduceLE, Int.reduceLT, Int.reduceEq, Int.reduceBEq, Int.reduceBNe, Int.reduceToNat, Int.reduceNeg, Nat.reduceBNe, forall_eq_or_imp, hil', i0, hgi, clA, gA]
      refine c152 c.2 hrc.1 hrc.2 ?_
      simp only [OI0, OI1, OI2, OI3, OI4, OI5, OI6, OI7, OI8, OI9, OI10, OI11, OI12, ↓reduceIte, reduceCtorEq, Nat.reduceAdd, Nat.reduceEqDiff, Nat.reduceBEq, Nat.reduceLT, Nat.reduceLeDiff, Nat.reduceMul, Nat.reduceSub, Int.reduceLE, Int.reduceLT, Int.reduceEq, Int.reduceBEq, Int.reduceBNe, Int.reduceToNat, Int.reduceNeg, Nat.reduceBNe, forall_eq_or_imp]
      refine ⟨_, catL (by simp only [List.length_append, bs_mk, List.length_cons, List.length_nil]; omega), ?_⟩
      simp only [OI0, OI1, OI2, OI3, OI4, OI5, OI6, OI7, OI8, OI9, OI10, OI11, OI12, ↓reduceIte, reduceCtorEq, Nat.reduceAdd, Nat.reduceEqDiff, Nat.reduceBEq, Nat.reduceLT, Nat.reduceLeDiff, Nat.reduceMul, Nat.reduceSub, Int.reduceLE, Int.reduceLT, Int.reduceEq, Int.reduceBEq, Int.reduceBNe, Int.reduceToNat, Int.reduceNeg, Nat.reduceBNe, forall_eq_or_imp, w1]
      refine ⟨_, catL (by simp only [List.length_append, bs_mk, List.length_cons, List.length_nil]; omega), ?_⟩
      simp only [OI0, OI1, OI2, OI3, OI4, OI5, OI6, OI7, OI8, OI9, OI10, OI11, OI12, ↓reduceIte, reduceCtorEq, Nat.reduceAdd, Nat.reduceEqDiff, Nat.reduceBEq, Nat.reduceLT, Nat.reduceLeDiff, Nat.reduceMul, Nat.reduceSub, Int.reduceLE, Int.reduceLT, Int.reduceEq, Int.reduceBEq, Int.reduceBNe, Int.reduceToNat, Int.reduceNeg, Nat.reduceBNe, forall_eq_or_imp, w1]
      refine ⟨i + 1, ⟨by omega, by omega⟩, ?_⟩
      have e : tx clL g.cl (i + 1) = tx clL g.cl i ++ [99, 108, 117, 115, 116, 101, 114, 32] ++ bsS c.1 ++ [32, 119, 111, 114, 107, 101, 114, 115, 61] ++ bsS (decB c.2) ++ [10] := by rw [hsn, bs_dec, clL]; simp only [List.append_assoc]
      simp only [OI0, OI1, OI2, OI3, OI4, OI5, OI6, OI7, OI8, OI9, OI10, OI11, OI12, ↓reduceIte, reduceCtorEq, Nat.reduceAdd, Nat.reduceEqDiff, Nat.reduceBEq, Nat.reduceLT, Nat.reduceLeDiff, Nat.reduceMul, Nat.reduceSub, Int.reduceLE, Int.reduceLT, Int.reduceEq, Int.reduceBEq, Int.reduceBNe, Int.reduceToNat, Int.reduceNeg, Nat.reduceBNe, forall_eq_or_imp, st64, gA, e, bs_mk]
    obtain rfl : i = g.cl.length := by omega
    rw [tx_all] at hln
    simp only [OI0, OI1, OI2, OI3, OI4, OI5, OI6, OI7, OI8, OI9, OI10, OI11, OI12, ↓reduceIte, reduceCtorEq, Nat.reduceAdd, Nat.reduceEqDiff, Nat.reduceBEq, Nat.reduceLT, Nat.reduceLeDiff, Nat.reduceMul, Nat.reduceSub, Int.reduceLE, Int.reduceLT, Int.reduceEq, Int.reduceBEq, Int.reduceBNe, Int.reduceToNat, Int.reduceNeg, Nat.reduceBNe, forall_eq_or_imp, st64, gA, Int.lt_irrefl, tx_all]
    have B1n : ((g.cl.map clL).flatten).length ≤ 16000 := by first | (simp only [List.length_append]; omega) | omega
    generalize hB1 : (g.cl.map clL).flatten = B1 at B1n
    clear hln hil hi
    refine W_loop (st64 I g 7 (fun i => B1 ++ tx (loL g) g.lo i)) (fun i => i ≤ g.lo.length) (fun i => g.lo.length - i) (fun _ _ => rfl) ⟨0, by omega, ?_⟩ ?_
    · simp only [OI0, OI1, OI2, OI3, OI4, OI5, OI6, OI7, OI8, OI9, OI10, OI11, OI12, ↓reduceIte, reduceCtorEq, Nat.reduceAdd, Nat.reduceEqDiff, Nat.reduceBEq, Nat.reduceLT, Nat.reduceLeDiff, Nat.reduceMul, Nat.reduceSub, Int.reduceLE, Int.reduceLT, Int.reduceEq, Int.reduceBEq, Int.reduceBNe, Int.reduceToNat, Int.reduceNeg, Nat.reduceBNe, forall_eq_or_imp, st64, gA, tx, List.take_zero, List.map_nil, List.flatten_nil, List.append_nil]
      try rfl
    intro i hi
    refine W_of_N ok64.small hmix ?_
    have hln := tx_len llo i
    by_cases hil : i < g.lo.length
    · have hil' : (i : Int) < g.lo.length := by omega
      have i0 : (0 : Int) ≤ i := by omega
      have hgi : g.lo[i]? = some g.lo[i] := List.getElem?_eq_getElem hil
      have hmem := List.getElem_mem hil
      have w1 : IntKind.i64.wrap ((i : Int) + 1) = ((i + 1 : Nat) : Int) := by rw [wrI64 (by omega) (by omega)]; omega
      have hsn := fun c h => tx_snoc (f := (loL g)) (l := g.lo) (i := i) (x := c) h
      obtain ⟨c', hc', hup1, hup2⟩ := hF.wf i hil
      rw [hgi] at hc'
      obtain rfl := Option.some.inj hc'
      generalize g.lo[i] = c at hgi hmem hup1 hup2
      have hrc := hr.lo c hmem
      have n1 : (bsS c.1).length ≤ 1000 := by rw [bs_len]; exact hs.nlo _ _ hgi
      have n2 : (bsS (decB c.2.2)).length ≤ 20 := by rw [bs_dec]; exact decL_len hrc.1 hrc.2
      have n3 := lpN_size hs c.2.1
      have hlc := llo c hmem
      have hsn := hsn c hgi
      simp only [OI0, OI1, OI2, OI3, OI4, OI5, OI6, OI7, OI8, OI9, OI10, OI11, OI12, ↓reduceIte, reduceCtorEq, Nat.reduceAdd, Nat.reduceEqDiff, Nat.reduceBEq, Nat.reduceLT, Nat.reduceLeDiff, Nat.reduceMul, Nat.reduceSub, Int.reduceLE, Int.reduceLT, Int.reduceEq, Int.reduceBEq, Int.reduceBNe, Int.reduceToNat, Int.reduceNeg, Nat.reduceBNe, forall_eq_or_imp, st64, gA, hil', i0, hgi, loA]
      refine ⟨_, catL (by simp only [List.length_append, bs_mk, List.length_cons, List.length_nil]; omega), ?_⟩
      simp only [OI0, OI1, OI2, OI3, OI4, OI5, OI6, OI7, OI8, OI9, OI10, OI11, OI12, ↓reduceIte, reduceCtorEq, Nat.reduceAdd, Nat.reduceEqDiff, Nat.reduceBEq, Nat.reduceLT, Nat.reduceLeDiff, Nat.reduceMul, Nat.reduceSub, Int.reduceLE, Int.reduceLT, Int.reduceEq, Int.reduceBEq, Int.reduceBNe, Int.reduceToNat, Int.reduceNeg, Nat.reduceBNe, forall_eq_or_imp, hil', i0, hgi, loA, gA]
      refine ⟨_, catL (by simp only [List.length_append, bs_mk, List.length_cons, List.length_nil]; omega), ?_⟩
      simp only [OI0, OI1, OI2, OI3, OI4, OI5, OI6, OI7, OI8, OI9, OI10, OI11, OI12, ↓reduceIte, reduceCtorEq, Nat.reduceAdd, Nat.reduceEqDiff, Nat.reduceBEq, Nat.reduceLT, Nat.reduceLeDiff, Nat.reduceMul, Nat.reduceSub, Int.reduceLE, Int.reduceLT, Int.reduceEq, Int.reduceBEq, Int.reduceBNe, Int.reduceToNat, Int.reduceNeg, Nat.reduceBNe, forall_eq_or_imp, hil', i0, hgi, loA, gA]
      refine ⟨_, catL (by simp only [List.length_append, bs_mk, List.length_cons, List.length_nil]; omega), ?_⟩
      simp only [OI0, OI1, OI2, OI3, OI4, OI5, OI6, OI7, OI8, OI9, OI10, OI11, OI12, ↓reduceIte, reduceCtorEq, Nat.reduceAdd, Nat.reduceEqDiff, Nat.reduceBEq, Nat.reduceLT, Nat.reduceLeDiff, Nat.reduceMul, Nat.reduceSub, Int.reduceLE, Int.reduceLT, Int.reduceEq, Int.reduceBEq, Int.reduceBNe, Int.reduceToNat, Int.reduceNeg, Nat.reduceBNe, forall_eq_or_imp, hil', i0, hgi, loA, gA]
      refine c153 g c.2.1 hup1 (by omega) ?_
      simp only [OI0, OI1, OI2, OI3, OI4, OI5, OI6, OI7, OI8, OI9, OI10, OI11, OI12, ↓reduceIte, reduceCtorEq, Nat.reduceAdd, Nat.reduceEqDiff, Nat.reduceBEq, Nat.reduceLT, Nat.reduceLeDiff, Nat.reduceMul, Nat.reduceSub, Int.reduceLE, Int.reduceLT, Int.reduceEq, Int.reduceBEq, Int.reduceBNe, Int.reduceToNat, Int.reduceNeg, Nat.reduceBNe, forall_eq_or_imp]
      refine ⟨_, catL (by simp only [List.length_append, bs_mk, List.length_cons, List.length_nil]; omega), ?_⟩
      simp only [OI0, OI1, OI2, OI3, OI4, OI5, OI6, OI7, OI8, OI9, OI10, OI11, OI12, ↓reduceIte, reduceCtorEq, Nat.reduceAdd, Nat.reduceEqDiff, Nat.reduceBEq, Nat.reduceLT, Nat.reduceLeDiff, Nat.reduceMul, Nat.reduceSub, Int.reduceLE, Int.reduceLT, Int.reduceEq, Int.reduceBEq, Int.reduceBNe, Int.reduceToNat, Int.reduceNeg, Nat.reduceBNe, forall_eq_or_imp]
      refine ⟨_, catL (by simp only [List.length_append, bs_mk, List.length_cons, List.length_nil]; omega), ?_⟩
      simp only [OI0, OI1, OI2, OI3, OI4, OI5, OI6, OI7, OI8, OI9, OI10, OI11, OI12, ↓reduceIte, reduceCtorEq, Nat.reduceAdd, Nat.reduceEqDiff, Nat.reduceBEq, Nat.reduceLT, Nat.reduceLeDiff, Nat.reduceMul, Nat.reduceSub, Int.reduceLE, Int.reduceLT, Int.reduceEq, Int.reduceBEq, Int.reduceBNe, Int.reduceToNat, Int.reduceNeg, Nat.reduceBNe, forall_eq_or_imp]
      refine c152 c.2.2 hrc.1 hrc.2 ?_
      simp only [OI0, OI1, OI2, OI3, OI4, OI5, OI6, OI7, OI8, OI9, OI10, OI11, OI12, ↓reduceIte, reduceCtorEq, Nat.reduceAdd, Nat.reduceEqDiff, Nat.reduceBEq, Nat.reduceLT, Nat.reduceLeDiff, Nat.reduceMul, Nat.reduceSub, Int.reduceLE, Int.reduceLT, Int.reduceEq, Int.reduceBEq, Int.reduceBNe, Int.reduceToNat, Int.reduceNeg, Nat.reduceBNe, forall_eq_or_imp]
      refine ⟨_, catL (by simp only [List.length_append, bs_mk, List.length_cons, List.length_nil]; omega), ?_⟩
      simp only [OI0, OI1, OI2, OI3, OI4, OI5, OI6, OI7, OI8, OI9, OI10, OI11, OI12, ↓reduceIte, reduceCtorEq, Nat.reduceAdd, Nat.reduceEqDiff, Nat.reduceBEq, Nat.reduceLT, Nat.reduceLeDiff, Nat.reduceMul, Nat.reduceSub, Int.reduceLE, Int.reduceLT, Int.reduceEq, Int.reduceBEq, Int.reduceBNe, Int.reduceToNat, Int.reduceNeg, Nat.reduceBNe, forall_eq_or_imp, w1]
      refine ⟨_, catL (by simp only [List.length_append, bs_mk, List.length_cons, List.length_nil]; omega), ?_⟩
      simp only [OI0, OI1, OI2, OI3, OI4, OI5, OI6, OI7, OI8, OI9, OI10, OI11, OI12, ↓reduceIte, reduceCtorEq, Nat.reduceAdd, Nat.reduceEqDiff, Nat.reduceBEq, Nat.reduceLT, Nat.reduceLeDiff, Nat.reduceMul, Nat.reduceSub, Int.reduceLE, Int.reduceLT, Int.reduceEq, Int.reduceBEq, Int.reduceBNe, Int.reduceToNat, Int.reduceNeg, Nat.reduceBNe, forall_eq_or_imp, w1]
      refine ⟨i + 1, ⟨by omega, by omega⟩, ?_⟩
      have e : B1 ++ tx (loL g) g.lo (i + 1) = B1 ++ tx (loL g) g.lo i ++ [108, 111, 111, 112, 32] ++ bsS c.1 ++ [32, 105, 110, 61] ++ bsS (lpN g c.2.1) ++ [32, 114, 111, 117, 110, 100, 115, 61] ++ bsS (decB c.2.2) ++ [10] := by rw [hsn, bs_dec, loL]; simp only [List.append_assoc]
      simp only [OI0, OI1, OI2, OI3, OI4, OI5, OI6, OI7, OI8, OI9, OI10, OI11, OI12, ↓reduceIte, reduceCtorEq, Nat.reduceAdd, Nat.reduceEqDiff, Nat.reduceBEq, Nat.reduceLT, Nat.reduceLeDiff, Nat.reduceMul, Nat.reduceSub, Int.reduceLE, Int.reduceLT, Int.reduceEq, Int.reduceBEq, Int.reduceBNe, Int.reduceToNat, Int.reduceNeg, Nat.reduceBNe, forall_eq_or_imp, st64, gA, e, bs_mk]
    obtain rfl : i = g.lo.length := by omega
    rw [tx_all] at hln
    simp only [OI0, OI1, OI2, OI3, OI4, OI5, OI6, OI7, OI8, OI9, OI10, OI11, OI12, ↓reduceIte, reduceCtorEq, Nat.reduceAdd, Nat.reduceEqDiff, Nat.reduceBEq, Nat.reduceLT, Nat.reduceLeDiff, Nat.reduceMul, Nat.reduceSub, Int.reduceLE, Int.reduceLT, Int.reduceEq, Int.reduceBEq, Int.reduceBNe, Int.reduceToNat, Int.reduceNeg, Nat.reduceBNe, forall_eq_or_imp, st64, gA, Int.lt_irrefl, tx_all]
    have B2n : (B1 ++ (g.lo.map (loL g)).flatten).length ≤ 40000 := by first | (simp only [List.length_append]; omega) | omega
    generalize hB2 : B1 ++ (g.lo.map (loL g)).flatten = B2 at B2n
    clear hln hil hi
    refine W_loop (st64 I g 8 (fun i => B2 ++ tx (opL g) g.op i)) (fun i => i ≤ g.op.length) (fun i => g.op.length - i) (fun _ _ => rfl) ⟨0, by omega, ?_⟩ ?_
    · simp only [OI0, OI1, OI2, OI3, OI4, OI5, OI6, OI7, OI8, OI9, OI10, OI11, OI12, ↓reduceIte, reduceCtorEq, Nat.reduceAdd, Nat.reduceEqDiff, Nat.reduceBEq, Nat.reduceLT, Nat.reduceLeDiff, Nat.reduceMul, Nat.reduceSub, Int.reduceLE, Int.reduceLT, Int.reduceEq, Int.reduceBEq, Int.reduceBNe, Int.reduceToNat, Int.reduceNeg, Nat.reduceBNe, forall_eq_or_imp, st64, gA, tx, List.take_zero, List.map_nil, List.flatten_nil, List.append_nil]
      try rfl
    intro i hi
    refine W_of_N ok64.small hmix ?_
    have hln := tx_len lop i
    by_cases hil : i < g.op.length
    · have hil' : (i : Int) < g.op.length := by omega
      have i0 : (0 : Int) ≤ i := by omega
      have hgi : g.op[i]? = some g.op[i] := List.getElem?_eq_getElem hil
      have hmem := List.getElem_mem hil
      have w1 : IntKind.i64.wrap ((i : Int) + 1) = ((i + 1 : Nat) : Int) := by rw [wrI64 (by omega) (by omega)]; omega
      have hsn := fun c h => tx_snoc (f := (opL g)) (l := g.op) (i := i) (x := c) h
      generalize g.op[i] = c at hgi hmem
      have hrc := hr.op c hmem
      have hO := hF.op _ _ hgi
      have a0 := hO.a1
      have a1 := hO.a2
      obtain ⟨d, hgc⟩ : ∃ d, g.cl[c.at_.toNat]? = some d := ⟨_, List.getElem?_eq_getElem (by omega)⟩
      have n1 : (bsS c.nm).length ≤ 1000 := by rw [bs_len]; exact hs.nop _ _ hgi
      have n2 : (bsS (decB c.a)).length ≤ 20 := by rw [bs_dec]; exact decL_len hrc.1.1 hrc.1.2
      have n2b : (bsS (decB c.b)).length ≤ 20 := by rw [bs_dec]; exact decL_len hrc.2.1 hrc.2.2
      have n3 := lpN_size hs c.lo
      have n4 := word_len c.k
      have n5 : (bsS d.1).length ≤ 1000 := by rw [bs_len]; exact hs.ncl _ _ hgc
      have ecl : clNm g c.at_ = d.1 := by simp only [clNm, hgc]
      have hlc := lop c hmem
      have hsn := hsn c hgi
      simp only [OI0, OI1, OI2, OI3, OI4, OI5, OI6, OI7, OI8, OI9, OI10, OI11, OI12, ↓reduceIte, reduceCtorEq, Nat.reduceAdd, Nat.reduceEqDiff, Nat.reduceBEq, Nat.reduceLT, Nat.reduceLeDiff, Nat.reduceMul, Nat.reduceSub, Int.reduceLE, Int.reduceLT, Int.reduceEq, Int.reduceBEq, Int.reduceBNe, Int.reduceToNat, Int.reduceNeg, Nat.reduceBNe, forall_eq_or_imp, st64, gA, hil', i0, hgi, opA]
      refine ⟨_, catL (by simp only [List.length_append, bs_mk, List.length_cons, List.length_nil]; omega), ?_⟩
      simp only [OI0, OI1, OI2, OI3, OI4, OI5, OI6, OI7, OI8, OI9, OI10, OI11, OI12, ↓reduceIte, reduceCtorEq, Nat.reduceAdd, Nat.reduceEqDiff, Nat.reduceBEq, Nat.reduceLT, Nat.reduceLeDiff, Nat.reduceMul, Nat.reduceSub, Int.reduceLE, Int.reduceLT, Int.reduceEq, Int.reduceBEq, Int.reduceBNe, Int.reduceToNat, Int.reduceNeg, Nat.reduceBNe, forall_eq_or_imp, hil', i0, hgi, opA, gA, a0, a1, hgc, clA]
      refine ⟨_, catL (by simp only [List.length_append, bs_mk, List.length_cons, List.length_nil]; omega), ?_⟩
      simp only [OI0, OI1, OI2, OI3, OI4, OI5, OI6, OI7, OI8, OI9, OI10, OI11, OI12, ↓reduceIte, reduceCtorEq, Nat.reduceAdd, Nat.reduceEqDiff, Nat.reduceBEq, Nat.reduceLT, Nat.reduceLeDiff, Nat.reduceMul, Nat.reduceSub, Int.reduceLE, Int.reduceLT, Int.reduceEq, Int.reduceBEq, Int.reduceBNe, Int.reduceToNat, Int.reduceNeg, Nat.reduceBNe, forall_eq_or_imp, hil', i0, hgi, opA, gA, a0, a1, hgc, clA]
      refine ⟨_, catL (by simp only [List.length_append, bs_mk, List.length_cons, List.length_nil]; omega), ?_⟩
      simp only [OI0, OI1, OI2, OI3, OI4, OI5, OI6, OI7, OI8, OI9, OI10, OI11, OI12, ↓reduceIte, reduceCtorEq, Nat.reduceAdd, Nat.reduceEqDiff, Nat.reduceBEq, Nat.reduceLT, Nat.reduceLeDiff, Nat.reduceMul, Nat.reduceSub, Int.reduceLE, Int.reduceLT, Int.reduceEq, Int.reduceBEq, Int.reduceBNe, Int.reduceToNat, Int.reduceNeg, Nat.reduceBNe, forall_eq_or_imp, hil', i0, hgi, opA, gA, a0, a1, hgc, clA]
      refine c154 c.k ?_
      simp only [OI0, OI1, OI2, OI3, OI4, OI5, OI6, OI7, OI8, OI9, OI10, OI11, OI12, ↓reduceIte, reduceCtorEq, Nat.reduceAdd, Nat.reduceEqDiff, Nat.reduceBEq, Nat.reduceLT, Nat.reduceLeDiff, Nat.reduceMul, Nat.reduceSub, Int.reduceLE, Int.reduceLT, Int.reduceEq, Int.reduceBEq, Int.reduceBNe, Int.reduceToNat, Int.reduceNeg, Nat.reduceBNe, forall_eq_or_imp]
      refine ⟨_, catL (by simp only [List.length_append, bs_mk, List.length_cons, List.length_nil]; omega), ?_⟩
      simp only [OI0, OI1, OI2, OI3, OI4, OI5, OI6, OI7, OI8, OI9, OI10, OI11, OI12, ↓reduceIte, reduceCtorEq, Nat.reduceAdd, Nat.reduceEqDiff, Nat.reduceBEq, Nat.reduceLT, Nat.reduceLeDiff, Nat.reduceMul, Nat.reduceSub, Int.reduceLE, Int.reduceLT, Int.reduceEq, Int.reduceBEq, Int.reduceBNe, Int.reduceToNat, Int.reduceNeg, Nat.reduceBNe, forall_eq_or_imp]
      refine ⟨_, catL (by simp only [List.length_append, bs_mk, List.length_cons, List.length_nil]; omega), ?_⟩
      simp only [OI0, OI1, OI2, OI3, OI4, OI5, OI6, OI7, OI8, OI9, OI10, OI11, OI12, ↓reduceIte, reduceCtorEq, Nat.reduceAdd, Nat.reduceEqDiff, Nat.reduceBEq, Nat.reduceLT, Nat.reduceLeDiff, Nat.reduceMul, Nat.reduceSub, Int.reduceLE, Int.reduceLT, Int.reduceEq, Int.reduceBEq, Int.reduceBNe, Int.reduceToNat, Int.reduceNeg, Nat.reduceBNe, forall_eq_or_imp]
      refine c153 g c.lo hO.l1 hO.l2 ?_
      simp only [OI0, OI1, OI2, OI3, OI4, OI5, OI6, OI7, OI8, OI9, OI10, OI11, OI12, ↓reduceIte, reduceCtorEq, Nat.reduceAdd, Nat.reduceEqDiff, Nat.reduceBEq, Nat.reduceLT, Nat.reduceLeDiff, Nat.reduceMul, Nat.reduceSub, Int.reduceLE, Int.reduceLT, Int.reduceEq, Int.reduceBEq, Int.reduceBNe, Int.reduceToNat, Int.reduceNeg, Nat.reduceBNe, forall_eq_or_imp]
      refine ⟨_, catL (by simp only [List.length_append, bs_mk, List.length_cons, List.length_nil]; omega), ?_⟩
      simp only [OI0, OI1, OI2, OI3, OI4, OI5, OI6, OI7, OI8, OI9, OI10, OI11, OI12, ↓reduceIte, reduceCtorEq, Nat.reduceAdd, Nat.reduceEqDiff, Nat.reduceBEq, Nat.reduceLT, Nat.reduceLeDiff, Nat.reduceMul, Nat.reduceSub, Int.reduceLE, Int.reduceLT, Int.reduceEq, Int.reduceBEq, Int.reduceBNe, Int.reduceToNat, Int.reduceNeg, Nat.reduceBNe, forall_eq_or_imp]
      refine ⟨_, catL (by simp only [List.length_append, bs_mk, List.length_cons, List.length_nil]; omega), ?_⟩
      simp only [OI0, OI1, OI2, OI3, OI4, OI5, OI6, OI7, OI8, OI9, OI10, OI11, OI12, ↓reduceIte, reduceCtorEq, Nat.reduceAdd, Nat.reduceEqDiff, Nat.reduceBEq, Nat.reduceLT, Nat.reduceLeDiff, Nat.reduceMul, Nat.reduceSub, Int.reduceLE, Int.reduceLT, Int.reduceEq, Int.reduceBEq, Int.reduceBNe, Int.reduceToNat, Int.reduceNeg, Nat.reduceBNe, forall_eq_or_imp]
      refine ⟨_, catL (by simp only [List.length_append, bs_mk, List.length_cons, List.length_nil]; omega), ?_⟩
      simp only [OI0, OI1, OI2, OI3, OI4, OI5, OI6, OI7, OI8, OI9, OI10, OI11, OI12, ↓reduceIte, reduceCtorEq, Nat.reduceAdd, Nat.reduceEqDiff, Nat.reduceBEq, Nat.reduceLT, Nat.reduceLeDiff, Nat.reduceMul, Nat.reduceSub, Int.reduceLE, Int.reduceLT, Int.reduceEq, Int.reduceBEq, Int.reduceBNe, Int.reduceToNat, Int.reduceNeg, Nat.reduceBNe, forall_eq_or_imp]
      have hn : numsOf c.k = 0 ∨ numsOf c.k = 1 ∨ numsOf c.k = 2 := by
        unfold numsOf
        split
        · exact .inr (.inr rfl)
        · split
          · exact .inr (.inl rfl)
          · exact .inl rfl
      refine c155 c.k ?_
      rcases hn with hn | hn | hn
      · simp only [OI0, OI1, OI2, OI3, OI4, OI5, OI6, OI7, OI8, OI9, OI10, OI11, OI12, ↓reduceIte, reduceCtorEq, Nat.reduceAdd, Nat.reduceEqDiff, Nat.reduceBEq, Nat.reduceLT, Nat.reduceLeDiff, Nat.reduceMul, Nat.reduceSub, Int.reduceLE, Int.reduceLT, Int.reduceEq, Int.reduceBEq, Int.reduceBNe, Int.reduceToNat, Int.reduceNeg, Nat.reduceBNe, forall_eq_or_imp, i64A, hn]
        refine c155 c.k ?_
        simp only [OI0, OI1, OI2, OI3, OI4, OI5, OI6, OI7, OI8, OI9, OI10, OI11, OI12, ↓reduceIte, reduceCtorEq, Nat.reduceAdd, Nat.reduceEqDiff, Nat.reduceBEq, Nat.reduceLT, Nat.reduceLeDiff, Nat.reduceMul, Nat.reduceSub, Int.reduceLE, Int.reduceLT, Int.reduceEq, Int.reduceBEq, Int.reduceBNe, Int.reduceToNat, Int.reduceNeg, Nat.reduceBNe, forall_eq_or_imp, i64A, hn]
        refine ⟨_, catL (by simp only [List.length_append, bs_mk, List.length_cons, List.length_nil]; omega), ?_⟩
        simp only [OI0, OI1, OI2, OI3, OI4, OI5, OI6, OI7, OI8, OI9, OI10, OI11, OI12, ↓reduceIte, reduceCtorEq, Nat.reduceAdd, Nat.reduceEqDiff, Nat.reduceBEq, Nat.reduceLT, Nat.reduceLeDiff, Nat.reduceMul, Nat.reduceSub, Int.reduceLE, Int.reduceLT, Int.reduceEq, Int.reduceBEq, Int.reduceBNe, Int.reduceToNat, Int.reduceNeg, Nat.reduceBNe, forall_eq_or_imp, w1]
        refine ⟨i + 1, ⟨by omega, by omega⟩, ?_⟩
        simp only [OI0, OI1, OI2, OI3, OI4, OI5, OI6, OI7, OI8, OI9, OI10, OI11, OI12, ↓reduceIte, reduceCtorEq, Nat.reduceAdd, Nat.reduceEqDiff, Nat.reduceBEq, Nat.reduceLT, Nat.reduceLeDiff, Nat.reduceMul, Nat.reduceSub, Int.reduceLE, Int.reduceLT, Int.reduceEq, Int.reduceBEq, Int.reduceBNe, Int.reduceToNat, Int.reduceNeg, Nat.reduceBNe, forall_eq_or_imp, st64, gA, hsn, opL, nuL, hn, bs_mk, bs_dec, ecl, List.append_assoc, List.nil_append, List.append_nil]
      · simp only [OI0, OI1, OI2, OI3, OI4, OI5, OI6, OI7, OI8, OI9, OI10, OI11, OI12, ↓reduceIte, reduceCtorEq, Nat.reduceAdd, Nat.reduceEqDiff, Nat.reduceBEq, Nat.reduceLT, Nat.reduceLeDiff, Nat.reduceMul, Nat.reduceSub, Int.reduceLE, Int.reduceLT, Int.reduceEq, Int.reduceBEq, Int.reduceBNe, Int.reduceToNat, Int.reduceNeg, Nat.reduceBNe, forall_eq_or_imp, i64A, hn]
        refine ⟨_, catL (by simp only [List.length_append, bs_mk, List.length_cons, List.length_nil]; omega), ?_⟩
        simp only [OI0, OI1, OI2, OI3, OI4, OI5, OI6, OI7, OI8, OI9, OI10, OI11, OI12, ↓reduceIte, reduceCtorEq, Nat.reduceAdd, Nat.reduceEqDiff, Nat.reduceBEq, Nat.reduceLT, Nat.reduceLeDiff, Nat.reduceMul, Nat.reduceSub, Int.reduceLE, Int.reduceLT, Int.reduceEq, Int.reduceBEq, Int.reduceBNe, Int.reduceToNat, Int.reduceNeg, Nat.reduceBNe, forall_eq_or_imp]
        refine c152 c.a hrc.1.1 hrc.1.2 ?_
        simp only [OI0, OI1, OI2, OI3, OI4, OI5, OI6, OI7, OI8, OI9, OI10, OI11, OI12, ↓reduceIte, reduceCtorEq, Nat.reduceAdd, Nat.reduceEqDiff, Nat.reduceBEq, Nat.reduceLT, Nat.reduceLeDiff, Nat.reduceMul, Nat.reduceSub, Int.reduceLE, Int.reduceLT, Int.reduceEq, Int.reduceBEq, Int.reduceBNe, Int.reduceToNat, Int.reduceNeg, Nat.reduceBNe, forall_eq_or_imp]
        refine ⟨_, catL (by simp only [List.length_append, bs_mk, List.length_cons, List.length_nil]; omega), ?_⟩
        simp only [OI0, OI1, OI2, OI3, OI4, OI5, OI6, OI7, OI8, OI9, OI10, OI11, OI12, ↓reduceIte, reduceCtorEq, Nat.reduceAdd, Nat.reduceEqDiff, Nat.reduceBEq, Nat.reduceLT, Nat.reduceLeDiff, Nat.reduceMul, Nat.reduceSub, Int.reduceLE, Int.reduceLT, Int.reduceEq, Int.reduceBEq, Int.reduceBNe, Int.reduceToNat, Int.reduceNeg, Nat.reduceBNe, forall_eq_or_imp]
        refine c155 c.k ?_
        simp only [OI0, OI1, OI2, OI3, OI4, OI5, OI6, OI7, OI8, OI9, OI10, OI11, OI12, ↓reduceIte, reduceCtorEq, Nat.reduceAdd, Nat.reduceEqDiff, Nat.reduceBEq, Nat.reduceLT, Nat.reduceLeDiff, Nat.reduceMul, Nat.reduceSub, Int.reduceLE, Int.reduceLT, Int.reduceEq, Int.reduceBEq, Int.reduceBNe, Int.reduceToNat, Int.reduceNeg, Nat.reduceBNe, forall_eq_or_imp, i64A, hn]
        refine ⟨_, catL (by simp only [List.length_append, bs_mk, List.length_cons, List.length_nil]; omega), ?_⟩
        simp only [OI0, OI1, OI2, OI3, OI4, OI5, OI6, OI7, OI8, OI9, OI10, OI11, OI12, ↓reduceIte, reduceCtorEq, Nat.reduceAdd, Nat.reduceEqDiff, Nat.reduceBEq, Nat.reduceLT, Nat.reduceLeDiff, Nat.reduceMul, Nat.reduceSub, Int.reduceLE, Int.reduceLT, Int.reduceEq, Int.reduceBEq, Int.reduceBNe, Int.reduceToNat, Int.reduceNeg, Nat.reduceBNe, forall_eq_or_imp, w1]
        refine ⟨i + 1, ⟨by omega, by omega⟩, ?_⟩
        simp only [OI0, OI1, OI2, OI3, OI4, OI5, OI6, OI7, OI8, OI9, OI10, OI11, OI12, ↓reduceIte, reduceCtorEq, Nat.reduceAdd, Nat.reduceEqDiff, Nat.reduceBEq, Nat.reduceLT, Nat.reduceLeDiff, Nat.reduceMul, Nat.reduceSub, Int.reduceLE, Int.reduceLT, Int.reduceEq, Int.reduceBEq, Int.reduceBNe, Int.reduceToNat, Int.reduceNeg, Nat.reduceBNe, forall_eq_or_imp, st64, gA, hsn, opL, nuL, hn, bs_mk, bs_dec, ecl, List.append_assoc, List.nil_append, List.append_nil]
      · simp only [OI0, OI1, OI2, OI3, OI4, OI5, OI6, OI7, OI8, OI9, OI10, OI11, OI12, ↓reduceIte, reduceCtorEq, Nat.reduceAdd, Nat.reduceEqDiff, Nat.reduceBEq, Nat.reduceLT, Nat.reduceLeDiff, Nat.reduceMul, Nat.reduceSub, Int.reduceLE, Int.reduceLT, Int.reduceEq, Int.reduceBEq, Int.reduceBNe, Int.reduceToNat, Int.reduceNeg, Nat.reduceBNe, forall_eq_or_imp, i64A, hn]
        refine ⟨_, catL (by simp only [List.length_append, bs_mk, List.length_cons, List.length_nil]; omega), ?_⟩
        simp only [OI0, OI1, OI2, OI3, OI4, OI5, OI6, OI7, OI8, OI9, OI10, OI11, OI12, ↓reduceIte, reduceCtorEq, Nat.reduceAdd, Nat.reduceEqDiff, Nat.reduceBEq, Nat.reduceLT, Nat.reduceLeDiff, Nat.reduceMul, Nat.reduceSub, Int.reduceLE, Int.reduceLT, Int.reduceEq, Int.reduceBEq, Int.reduceBNe, Int.reduceToNat, Int.reduceNeg, Nat.reduceBNe, forall_eq_or_imp]
        refine c152 c.a hrc.1.1 hrc.1.2 ?_
        simp only [OI0, OI1, OI2, OI3, OI4, OI5, OI6, OI7, OI8, OI9, OI10, OI11, OI12, ↓reduceIte, reduceCtorEq, Nat.reduceAdd, Nat.reduceEqDiff, Nat.reduceBEq, Nat.reduceLT, Nat.reduceLeDiff, Nat.reduceMul, Nat.reduceSub, Int.reduceLE, Int.reduceLT, Int.reduceEq, Int.reduceBEq, Int.reduceBNe, Int.reduceToNat, Int.reduceNeg, Nat.reduceBNe, forall_eq_or_imp]
        refine ⟨_, catL (by simp only [List.length_append, bs_mk, List.length_cons, List.length_nil]; omega), ?_⟩
        simp only [OI0, OI1, OI2, OI3, OI4, OI5, OI6, OI7, OI8, OI9, OI10, OI11, OI12, ↓reduceIte, reduceCtorEq, Nat.reduceAdd, Nat.reduceEqDiff, Nat.reduceBEq, Nat.reduceLT, Nat.reduceLeDiff, Nat.reduceMul, Nat.reduceSub, Int.reduceLE, Int.reduceLT, Int.reduceEq, Int.reduceBEq, Int.reduceBNe, Int.reduceToNat, Int.reduceNeg, Nat.reduceBNe, forall_eq_or_imp]
        refine c155 c.k ?_
        simp only [OI0, OI1, OI2, OI3, OI4, OI5, OI6, OI7, OI8, OI9, OI10, OI11, OI12, ↓reduceIte, reduceCtorEq, Nat.reduceAdd, Nat.reduceEqDiff, Nat.reduceBEq, Nat.reduceLT, Nat.reduceLeDiff, Nat.reduceMul, Nat.reduceSub, Int.reduceLE, Int.reduceLT, Int.reduceEq, Int.reduceBEq, Int.reduceBNe, Int.reduceToNat, Int.reduceNeg, Nat.reduceBNe, forall_eq_or_imp, i64A, hn]
        refine ⟨_, catL (by simp only [List.length_append, bs_mk, List.length_cons, List.length_nil]; omega), ?_⟩
        simp only [OI0, OI1, OI2, OI3, OI4, OI5, OI6, OI7, OI8, OI9, OI10, OI11, OI12, ↓reduceIte, reduceCtorEq, Nat.reduceAdd, Nat.reduceEqDiff, Nat.reduceBEq, Nat.reduceLT, Nat.reduceLeDiff, Nat.reduceMul, Nat.reduceSub, Int.reduceLE, Int.reduceLT, Int.reduceEq, Int.reduceBEq, Int.reduceBNe, Int.reduceToNat, Int.reduceNeg, Nat.reduceBNe, forall_eq_or_imp]
        refine c152 c.b hrc.2.1 hrc.2.2 ?_
        simp only [OI0, OI1, OI2, OI3, OI4, OI5, OI6, OI7, OI8, OI9, OI10, OI11, OI12, ↓reduceIte, reduceCtorEq, Nat.reduceAdd, Nat.reduceEqDiff, Nat.reduceBEq, Nat.reduceLT, Nat.reduceLeDiff, Nat.reduceMul, Nat.reduceSub, Int.reduceLE, Int.reduceLT, Int.reduceEq, Int.reduceBEq, Int.reduceBNe, Int.reduceToNat, Int.reduceNeg, Nat.reduceBNe, forall_eq_or_imp]
        refine ⟨_, catL (by simp only [List.length_append, bs_mk, List.length_cons, List.length_nil]; omega), ?_⟩
        simp only [OI0, OI1, OI2, OI3, OI4, OI5, OI6, OI7, OI8, OI9, OI10, OI11, OI12, ↓reduceIte, reduceCtorEq, Nat.reduceAdd, Nat.reduceEqDiff, Nat.reduceBEq, Nat.reduceLT, Nat.reduceLeDiff, Nat.reduceMul, Nat.reduceSub, Int.reduceLE, Int.reduceLT, Int.reduceEq, Int.reduceBEq, Int.reduceBNe, Int.reduceToNat, Int.reduceNeg, Nat.reduceBNe, forall_eq_or_imp, w1]
        refine ⟨_, catL (by simp only [List.length_append, bs_mk, List.length_cons, List.length_nil]; omega), ?_⟩
        simp only [OI0, OI1, OI2, OI3, OI4, OI5, OI6, OI7, OI8, OI9, OI10, OI11, OI12, ↓reduceIte, reduceCtorEq, Nat.reduceAdd, Nat.reduceEqDiff, Nat.reduceBEq, Nat.reduceLT, Nat.reduceLeDiff, Nat.reduceMul, Nat.reduceSub, Int.reduceLE, Int.reduceLT, Int.reduceEq, Int.reduceBEq, Int.reduceBNe, Int.reduceToNat, Int.reduceNeg, Nat.reduceBNe, forall_eq_or_imp, w1]
        refine ⟨i + 1, ⟨by omega, by omega⟩, ?_⟩
        simp only [OI0, OI1, OI2, OI3, OI4, OI5, OI6, OI7, OI8, OI9, OI10, OI11, OI12, ↓reduceIte, reduceCtorEq, Nat.reduceAdd, Nat.reduceEqDiff, Nat.reduceBEq, Nat.reduceLT, Nat.reduceLeDiff, Nat.reduceMul, Nat.reduceSub, Int.reduceLE, Int.reduceLT, Int.reduceEq, Int.reduceBEq, Int.reduceBNe, Int.reduceToNat, Int.reduceNeg, Nat.reduceBNe, forall_eq_or_imp, st64, gA, hsn, opL, nuL, hn, bs_mk, bs_dec, ecl, List.append_assoc, List.nil_append, List.append_nil]
    obtain rfl : i = g.op.length := by omega
    rw [tx_all] at hln
    simp only [OI0, OI1, OI2, OI3, OI4, OI5, OI6, OI7, OI8, OI9, OI10, OI11, OI12, ↓reduceIte, reduceCtorEq, Nat.reduceAdd, Nat.reduceEqDiff, Nat.reduceBEq, Nat.reduceLT, Nat.reduceLeDiff, Nat.reduceMul, Nat.reduceSub, Int.reduceLE, Int.reduceLT, Int.reduceEq, Int.reduceBEq, Int.reduceBNe, Int.reduceToNat, Int.reduceNeg, Nat.reduceBNe, forall_eq_or_imp, st64, gA, Int.lt_irrefl, tx_all]
    have B3n : (B2 ++ (g.op.map (opL g)).flatten).length ≤ 140000 := by simp only [List.length_append]; omega
    generalize hB3 : B2 ++ (g.op.map (opL g)).flatten = B3 at B3n
    clear hln hil hi
    refine W_loop (st64 I g 10 (fun i => B3 ++ tx (chL g) g.ch i)) (fun i => i ≤ g.ch.length) (fun i => g.ch.length - i) (fun _ _ => rfl) ⟨0, by omega, ?_⟩ ?_
    · simp only [OI0, OI1, OI2, OI3, OI4, OI5, OI6, OI7, OI8, OI9, OI10, OI11, OI12, ↓reduceIte, reduceCtorEq, Nat.reduceAdd, Nat.reduceEqDiff, Nat.reduceBEq, Nat.reduceLT, Nat.reduceLeDiff, Nat.reduceMul, Nat.reduceSub, Int.reduceLE, Int.reduceLT, Int.reduceEq, Int.reduceBEq, Int.reduceBNe, Int.reduceToNat, Int.reduceNeg, Nat.reduceBNe, forall_eq_or_imp, st64, gA, tx, List.take_zero, List.map_nil, List.flatten_nil, List.append_nil]
      try rfl
    intro i hi
    refine W_of_N ok64.small hmix ?_
    have hln := tx_len lch i
    by_cases hil : i < g.ch.length
    · have hil' : (i : Int) < g.ch.length := by omega
      have i0 : (0 : Int) ≤ i := by omega
      have hgi : g.ch[i]? = some g.ch[i] := List.getElem?_eq_getElem hil
      have hmem := List.getElem_mem hil
      have w1 : IntKind.i64.wrap ((i : Int) + 1) = ((i + 1 : Nat) : Int) := by rw [wrI64 (by omega) (by omega)]; omega
      have hsn := fun c h => tx_snoc (f := (chL g)) (l := g.ch) (i := i) (x := c) h
      obtain ⟨x, y, u1, u2, u3, u4, hx, hy⟩ := hF.ch _ _ hgi
      generalize g.ch[i] = c at hgi hmem u1 u2 u3 u4 hx hy
      have n1 := opNm_size hs c.1
      have n2 := opNm_size hs c.2
      have ex : opNm g c.1 = x.nm := by simp only [opNm, hx]
      have ey : opNm g c.2 = y.nm := by simp only [opNm, hy]
      rw [ex] at n1
      rw [ey] at n2
      have hlc := lch c hmem
      have hsn := hsn c hgi
      simp only [OI0, OI1, OI2, OI3, OI4, OI5, OI6, OI7, OI8, OI9, OI10, OI11, OI12, ↓reduceIte, reduceCtorEq, Nat.reduceAdd, Nat.reduceEqDiff, Nat.reduceBEq, Nat.reduceLT, Nat.reduceLeDiff, Nat.reduceMul, Nat.reduceSub, Int.reduceLE, Int.reduceLT, Int.reduceEq, Int.reduceBEq, Int.reduceBNe, Int.reduceToNat, Int.reduceNeg, Nat.reduceBNe, forall_eq_or_imp, st64, gA, hil', i0, hgi, chA, opA, u1, u2, u3, u4, hx, hy]
      refine ⟨_, catL (by simp only [List.length_append, bs_mk, List.length_cons, List.length_nil]; omega), ?_⟩
      simp only [OI0, OI1, OI2, OI3, OI4, OI5, OI6, OI7, OI8, OI9, OI10, OI11, OI12, ↓reduceIte, reduceCtorEq, Nat.reduceAdd, Nat.reduceEqDiff, Nat.reduceBEq, Nat.reduceLT, Nat.reduceLeDiff, Nat.reduceMul, Nat.reduceSub, Int.reduceLE, Int.reduceLT, Int.reduceEq, Int.reduceBEq, Int.reduceBNe, Int.reduceToNat, Int.reduceNeg, Nat.reduceBNe, forall_eq_or_imp, hil', i0, hgi, chA, opA, gA, u1, u2, u3, u4, hx, hy, w1]
      refine ⟨_, catL (by simp only [List.length_append, bs_mk, List.length_cons, List.length_nil]; omega), ?_⟩
      simp only [OI0, OI1, OI2, OI3, OI4, OI5, OI6, OI7, OI8, OI9, OI10, OI11, OI12, ↓reduceIte, reduceCtorEq, Nat.reduceAdd, Nat.reduceEqDiff, Nat.reduceBEq, Nat.reduceLT, Nat.reduceLeDiff, Nat.reduceMul, Nat.reduceSub, Int.reduceLE, Int.reduceLT, Int.reduceEq, Int.reduceBEq, Int.reduceBNe, Int.reduceToNat, Int.reduceNeg, Nat.reduceBNe, forall_eq_or_imp, hil', i0, hgi, chA, opA, gA, u1, u2, u3, u4, hx, hy, w1]
      refine ⟨_, catL (by simp only [List.length_append, bs_mk, List.length_cons, List.length_nil]; omega), ?_⟩
      simp only [OI0, OI1, OI2, OI3, OI4, OI5, OI6, OI7, OI8, OI9, OI10, OI11, OI12, ↓reduceIte, reduceCtorEq, Nat.reduceAdd, Nat.reduceEqDiff, Nat.reduceBEq, Nat.reduceLT, Nat.reduceLeDiff, Nat.reduceMul, Nat.reduceSub, Int.reduceLE, Int.reduceLT, Int.reduceEq, Int.reduceBEq, Int.reduceBNe, Int.reduceToNat, Int.reduceNeg, Nat.reduceBNe, forall_eq_or_imp, hil', i0, hgi, chA, opA, gA, u1, u2, u3, u4, hx, hy, w1]
      refine ⟨_, catL (by simp only [List.length_append, bs_mk, List.length_cons, List.length_nil]; omega), ?_⟩
      simp only [OI0, OI1, OI2, OI3, OI4, OI5, OI6, OI7, OI8, OI9, OI10, OI11, OI12, ↓reduceIte, reduceCtorEq, Nat.reduceAdd, Nat.reduceEqDiff, Nat.reduceBEq, Nat.reduceLT, Nat.reduceLeDiff, Nat.reduceMul, Nat.reduceSub, Int.reduceLE, Int.reduceLT, Int.reduceEq, Int.reduceBEq, Int.reduceBNe, Int.reduceToNat, Int.reduceNeg, Nat.reduceBNe, forall_eq_or_imp, hil', i0, hgi, chA, opA, gA, u1, u2, u3, u4, hx, hy, w1]
      refine ⟨_, catL (by simp only [List.length_append, bs_mk, List.length_cons, List.length_nil]; omega), ?_⟩
      simp only [OI0, OI1, OI2, OI3, OI4, OI5, OI6, OI7, OI8, OI9, OI10, OI11, OI12, ↓reduceIte, reduceCtorEq, Nat.reduceAdd, Nat.reduceEqDiff, Nat.reduceBEq, Nat.reduceLT, Nat.reduceLeDiff, Nat.reduceMul, Nat.reduceSub, Int.reduceLE, Int.reduceLT, Int.reduceEq, Int.reduceBEq, Int.reduceBNe, Int.reduceToNat, Int.reduceNeg, Nat.reduceBNe, forall_eq_or_imp, hil', i0, hgi, chA, opA, gA, u1, u2, u3, u4, hx, hy, w1]
      refine ⟨i + 1, ⟨by omega, by omega⟩, ?_⟩
      simp only [OI0, OI1, OI2, OI3, OI4, OI5, OI6, OI7, OI8, OI9, OI10, OI11, OI12, ↓reduceIte, reduceCtorEq, Nat.reduceAdd, Nat.reduceEqDiff, Nat.reduceBEq, Nat.reduceLT, Nat.reduceLeDiff, Nat.reduceMul, Nat.reduceSub, Int.reduceLE, Int.reduceLT, Int.reduceEq, Int.reduceBEq, Int.reduceBNe, Int.reduceToNat, Int.reduceNeg, Nat.reduceBNe, forall_eq_or_imp, st64, gA, hsn, chL, bs_mk, ex, ey, List.append_assoc]
    obtain rfl : i = g.ch.length := by omega
    simp only [OI0, OI1, OI2, OI3, OI4, OI5, OI6, OI7, OI8, OI9, OI10, OI11, OI12, ↓reduceIte, reduceCtorEq, Nat.reduceAdd, Nat.reduceEqDiff, Nat.reduceBEq, Nat.reduceLT, Nat.reduceLeDiff, Nat.reduceMul, Nat.reduceSub, Int.reduceLE, Int.reduceLT, Int.reduceEq, Int.reduceBEq, Int.reduceBNe, Int.reduceToNat, Int.reduceNeg, Nat.reduceBNe, forall_eq_or_imp, st64, gA, Int.lt_irrefl, tx_all]
    have e : txtL g = B3 ++ (g.ch.map (chL g)).flatten := by rw [txtL, hB1, hB2, hB3]
    simp only [e, i64A] at h
    exact h
  · have htx : txtR g = ([], chk g) := by rw [txtR, if_pos hc]
    rw [htx] at h
    simp only [OI0, OI1, OI2, OI3, OI4, OI5, OI6, OI7, OI8, OI9, OI10, OI11, OI12, ↓reduceIte, reduceCtorEq, Nat.reduceAdd, Nat.reduceEqDiff, Nat.reduceBEq, Nat.reduceLT, Nat.reduceLeDiff, Nat.reduceMul, Nat.reduceSub, Int.reduceLE, Int.reduceLT, Int.reduceEq, Int.reduceBEq, Int.reduceBNe, Int.reduceToNat, Int.reduceNeg, Nat.reduceBNe, forall_eq_or_imp, i64A, bneT hc]
    exact h
end Go.Proofs.Ythlehngbadianaa.Ow
