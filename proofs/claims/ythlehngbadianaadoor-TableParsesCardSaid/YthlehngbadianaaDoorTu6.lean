/- What the functions of the program do, each once: contracts of the logic (part u6). -/
import Derived.Test.YthlehngbadianaaDoorTu4u5
set_option linter.unusedVariables false
set_option linter.unusedSimpArgs false
set_option linter.unnecessarySimpa false
set_option maxRecDepth 100000
set_option maxHeartbeats 4000000
namespace Go.Proofs.YthlehngbadianaaDoor.Ow
open Go Go.RowKit Go.Proofs
/- watershed/watershedref18.Check -/
def cc74 : CC := (.seq (.region [⟨none, 2, (.box 0), [0], none, []⟩, ⟨none, 3, (.box 1), [1], none, []⟩, ⟨none, 4, (.val (.mv (.c (.int .i64 0)))), [4], none, []⟩]) (.seq (.region [⟨none, 15, (.val (.ld (.s 3) (some 4))), [], none, []⟩, ⟨none, 16, (.callP 28 [(.s 15)]), [15], none, []⟩, ⟨none, 5, (.val (.mv (.s 16))), [16], none, []⟩]) (.seq (.seq (.region [⟨none, 17, (.val (.mv (.s 5))), [], none, []⟩, ⟨none, 18, (.val (.bin .neq (.s 17) (.c (.int .i64 0)))), [17], none, []⟩]) (.cond (.s 18) (.seq (.region [⟨none, 19, (.val (.mv (.s 5))), [2, 3, 5, 18], none, []⟩, ⟨none, 4, (.val (.mv (.s 19))), [19], none, []⟩]) .ret) .skip)) (.seq (.seq (.region [⟨none, 20, (.val (.fa (.s 2) 0)), [5, 18], none, []⟩, ⟨none, 21, (.val (.ld (.s 20) none)), [20], none, []⟩, ⟨none, 22, (.val (.lnl (.s 21) 1)), [21], none, []⟩, ⟨none, 23, (.val (.bin .gtr (.s 22) (.c (.int .i64 4)))), [22], none, []⟩, ⟨none, 24, (.val (.mv (.s 23))), [23], none, []⟩, ⟨(some (24, false)), 25, (.val (.fa (.s 2) 1)), [], none, []⟩, ⟨(some (24, false)), 26, (.val (.ld (.s 25) none)), [25], none, []⟩, ⟨(some (24, false)), 27, (.val (.lnl (.s 26) 3)), [26], none, []⟩, ⟨(some (24, false)), 28, (.val (.bin .gtr (.s 27) (.c (.int .i64 12)))), [27], none, []⟩, ⟨none, 29, (.val (.pick (.s 24) (.c (.bool true)) (.s 28))), [24, 28], none, []⟩]) (.cond (.s 29) (.seq (.region [⟨none, 4, (.val (.mv (.c (.int .i64 7)))), [2, 3, 29], none, []⟩]) .ret) .skip)) (.seq (.region [⟨none, 30, (.val (.ld (.s 3) (some 4))), [29], none, []⟩, ⟨none, 31, (.callP 56 [(.s 30)]), [30], none, []⟩, ⟨none, 6, (.val (.mv (.s 31))), [31], none, []⟩]) (.seq (.seq (.region [⟨none, 7, (.val (.mv (.c (.int .i64 0)))), [], none, []⟩]) (.block 0 (.loop (.seq (.seq (.region [⟨none, 32, (.val (.mv (.s 7))), [], none, []⟩, ⟨none, 33, (.val (.fa (.s 2) 0)), [], none, []⟩, ⟨none, 34, (.val (.ld (.s 33) none)), [33], none, []⟩, ⟨none, 35, (.val (.lnl (.s 34) 1)), [34], none, []⟩, ⟨none, 36, (.val (.bin .lss (.s 32) (.s 35))), [32, 35], none, []⟩]) (.cond (.s 36) .skip (.exit 0))) (.seq (.block 1 (.seq (.block 2 (.seq (.region [⟨none, 40, (.val (.fa (.s 2) 0)), [36], none, []⟩, ⟨none, 41, (.val (.ld (.s 40) none)), [40], none, []⟩, ⟨none, 42, (.val (.mv (.s 7))), [], none, []⟩, ⟨none, 43, (.val (.ia (.s 41) (.s 42) 1)), [41, 42], none, []⟩, ⟨none, 44, (.val (.ld (.s 43) none)), [43], none, []⟩, ⟨none, 45, (.callP 57 [(.s 44)]), [44], none, []⟩, ⟨none, 46, (.val (.un .not (.s 45))), [45], none, []⟩, ⟨none, 39, (.val (.mv (.s 46))), [46], none, []⟩]) (.cond (.s 39) (.seq (.region [⟨none, 4, (.val (.mv (.c (.int .i64 6)))), [2, 3, 6, 7, 39], none, []⟩]) .ret) (.seq (.region [⟨none, 48, (.val (.mv (.s 6))), [39], none, []⟩, ⟨none, 49, (.val (.fa (.s 2) 0)), [], none, []⟩, ⟨none, 50, (.val (.ld (.s 49) none)), [49], none, []⟩, ⟨none, 51, (.val (.mv (.s 7))), [], none, []⟩, ⟨none, 52, (.val (.ia (.s 50) (.s 51) 1)), [50, 51], none, []⟩, ⟨none, 53, (.val (.ld (.s 52) none)), [52], none, []⟩, ⟨none, 54, (.call 55 [(.s 48), (.s 53)]), [48, 53], none, []⟩, ⟨none, 55, (.val (.bin .geq (.s 54) (.c (.int .i64 0)))), [54], none, []⟩, ⟨none, 47, (.val (.mv (.s 55))), [55], none, []⟩]) (.cond (.s 47) (.seq (.region [⟨none, 4, (.val (.mv (.c (.int .i64 4)))), [2, 3, 6, 7, 47], none, []⟩]) .ret) .skip))))) (.region [⟨none, 56, (.val (.mv (.s 6))), [6, 47], none, []⟩, ⟨none, 57, (.val (.fa (.s 2) 0)), [], none, []⟩, ⟨none, 58, (.val (.ld (.s 57) none)), [57], none, []⟩, ⟨none, 59, (.val (.mv (.s 7))), [], none, []⟩, ⟨none, 60, (.val (.ia (.s 58) (.s 59) 1)), [58, 59], none, []⟩, ⟨none, 61, (.val (.ld (.s 60) none)), [60], none, []⟩, ⟨none, 62, (.lit 1 [(.s 61)]), [61], none, []⟩, ⟨none, 63, (.app 1 16 false (.s 56) (.s 62)), [56, 62], none, []⟩, ⟨none, 6, (.val (.mv (.s 63))), [63], none, []⟩]))) (.region [⟨none, 37, (.val (.mv (.s 7))), [7], none, []⟩, ⟨none, 38, (.val (.bin .add (.s 37) (.c (.int .i64 1)))), [37], none, []⟩, ⟨none, 7, (.val (.mv (.s 38))), [38], none, []⟩])))))) (.seq (.region [⟨none, 64, (.val (.fa (.s 3) 0)), [3, 6, 7, 36], none, []⟩, ⟨none, 65, (.val (.ld (.s 64) none)), [64], none, []⟩, ⟨none, 66, (.val (.lnl (.s 65) 2)), [65], none, []⟩, ⟨none, 8, (.val (.mv (.s 66))), [66], none, []⟩]) (.seq (.seq (.region [⟨none, 9, (.val (.mv (.c (.int .i64 0)))), [], none, []⟩]) (.block 3 (.loop (.seq (.seq (.region [⟨none, 67, (.val (.mv (.s 9))), [], none, []⟩, ⟨none, 68, (.val (.fa (.s 2) 1)), [], none, []⟩, ⟨none, 69, (.val (.ld (.s 68) none)), [68], none, []⟩, ⟨none, 70, (.val (.lnl (.s 69) 3)), [69], none, []⟩, ⟨none, 71, (.val (.bin .lss (.s 67) (.s 70))), [67, 70], none, []⟩]) (.cond (.s 71) .skip (.exit 3))) (.seq (.block 4 (.seq (.region [⟨none, 74, (.val (.fa (.s 2) 1)), [71], none, []⟩, ⟨none, 75, (.val (.ld (.s 74) none)), [74], none, []⟩, ⟨none, 76, (.val (.mv (.s 9))), [], none, []⟩, ⟨none, 77, (.val (.ia (.s 75) (.s 76) 3)), [75, 76], none, []⟩, ⟨none, 78, (.val (.ld (.s 77) (some 3))), [77], none, []⟩, ⟨none, 10, (.alloc (.agg #[(.int .i64 0), (.int .i64 0), (.slice none 0 0)])), [], none, []⟩, ⟨none, 0, (.store 3 (.s 10) (.s 78)), [78], none, []⟩]) (.seq (.seq (.region [⟨none, 79, (.val (.fa (.s 10) 0)), [], none, []⟩, ⟨none, 80, (.val (.ld (.s 79) none)), [79], none, []⟩, ⟨none, 81, (.val (.bin .lss (.s 80) (.c (.int .i64 0)))), [80], none, []⟩, ⟨none, 82, (.val (.mv (.s 81))), [81], none, []⟩, ⟨(some (82, false)), 83, (.val (.fa (.s 10) 0)), [], none, []⟩, ⟨(some (82, false)), 84, (.val (.ld (.s 83) none)), [], none, []⟩, ⟨(some (82, false)), 85, (.val (.mv (.s 8))), [], none, []⟩, ⟨(some (82, false)), 86, (.val (.bin .geq (.s 84) (.s 85))), [], none, []⟩, ⟨none, 87, (.val (.pick (.s 82) (.c (.bool true)) (.s 86))), [82], none, []⟩, ⟨none, 88, (.val (.mv (.s 87))), [87], none, []⟩, ⟨(some (88, false)), 89, (.val (.fa (.s 10) 1)), [], none, []⟩, ⟨(some (88, false)), 90, (.val (.ld (.s 89) none)), [], none, []⟩, ⟨(some (88, false)), 91, (.val (.bin .lss (.s 90) (.c (.int .i64 0)))), [], none, []⟩, ⟨none, 92, (.val (.pick (.s 88) (.c (.bool true)) (.s 91))), [88], none, []⟩, ⟨none, 93, (.val (.mv (.s 92))), [92], none, []⟩, ⟨(some (93, false)), 94, (.val (.fa (.s 10) 1)), [], none, []⟩, ⟨(some (93, false)), 95, (.val (.ld (.s 94) none)), [], none, []⟩, ⟨(some (93, false)), 96, (.val (.mv (.s 8))), [], none, []⟩, ⟨(some (93, false)), 97, (.val (.bin .geq (.s 95) (.s 96))), [], none, []⟩, ⟨none, 98, (.val (.pick (.s 93) (.c (.bool true)) (.s 97))), [93], none, []⟩, ⟨none, 99, (.val (.mv (.s 98))), [98], none, []⟩, ⟨(some (99, false)), 100, (.val (.fa (.s 10) 0)), [], none, []⟩, ⟨(some (99, false)), 101, (.val (.ld (.s 100) none)), [], none, []⟩, ⟨(some (99, false)), 102, (.val (.fa (.s 10) 1)), [], none, []⟩, ⟨(some (99, false)), 103, (.val (.ld (.s 102) none)), [], none, []⟩, ⟨(some (99, false)), 104, (.val (.bin .eql (.s 101) (.s 103))), [], none, []⟩, ⟨none, 105, (.val (.pick (.s 99) (.c (.bool true)) (.s 104))), [99], none, []⟩]) (.cond (.s 105) (.seq (.region [⟨none, 4, (.val (.mv (.c (.int .i64 1)))), [2, 8, 9, 10, 83, 84, 85, 86, 89, 90, 91, 94, 95, 96, 97, 100, 101, 102, 103, 104, 105, 120, 121, 122, 123, 124, 125, 126, 127, 128, 168, 169, 170, 171, 172, 173, 174, 175, 176], none, []⟩]) .ret) .skip)) (.seq (.seq (.region [⟨none, 11, (.val (.mv (.c (.int .i64 0)))), [105], none, []⟩]) (.block 5 (.loop (.seq (.seq (.region [⟨none, 106, (.val (.mv (.s 11))), [], none, []⟩, ⟨none, 107, (.val (.fa (.s 10) 2)), [], none, []⟩, ⟨none, 108, (.val (.ld (.s 107) none)), [107], none, []⟩, ⟨none, 109, (.val (.lnl (.s 108) 1)), [108], none, []⟩, ⟨none, 110, (.val (.bin .lss (.s 106) (.s 109))), [106, 109], none, []⟩]) (.cond (.s 110) .skip (.exit 5))) (.seq (.block 6 (.seq (.region [⟨none, 113, (.val (.fa (.s 10) 2)), [110], none, []⟩, ⟨none, 114, (.val (.ld (.s 113) none)), [113], none, []⟩, ⟨none, 115, (.val (.mv (.s 11))), [], none, []⟩, ⟨none, 116, (.val (.ia (.s 114) (.s 115) 1)), [114, 115], none, []⟩, ⟨none, 117, (.val (.ld (.s 116) none)), [116], none, []⟩, ⟨none, 118, (.val (.bin .lss (.s 117) (.c (.int .i64 0)))), [117], none, []⟩, ⟨none, 119, (.val (.mv (.s 118))), [118], none, []⟩, ⟨(some (119, false)), 120, (.val (.fa (.s 10) 2)), [], none, []⟩, ⟨(some (119, false)), 121, (.val (.ld (.s 120) none)), [], none, []⟩, ⟨(some (119, false)), 122, (.val (.mv (.s 11))), [], none, []⟩, ⟨(some (119, false)), 123, (.val (.ia (.s 121) (.s 122) 1)), [], none, []⟩, ⟨(some (119, false)), 124, (.val (.ld (.s 123) none)), [], none, []⟩, ⟨(some (119, false)), 125, (.val (.fa (.s 2) 0)), [], none, []⟩, ⟨(some (119, false)), 126, (.val (.ld (.s 125) none)), [], none, []⟩, ⟨(some (119, false)), 127, (.val (.lnl (.s 126) 1)), [], none, []⟩, ⟨(some (119, false)), 128, (.val (.bin .geq (.s 124) (.s 127))), [], none, []⟩, ⟨none, 129, (.val (.pick (.s 119) (.c (.bool true)) (.s 128))), [119], none, []⟩]) (.cond (.s 129) (.seq (.region [⟨none, 4, (.val (.mv (.c (.int .i64 1)))), [2, 8, 9, 10, 11, 83, 84, 85, 86, 89, 90, 91, 94, 95, 96, 97, 100, 101, 102, 103, 104, 120, 121, 122, 123, 124, 125, 126, 127, 128, 129, 168, 169, 170, 171, 172, 173, 174, 175, 176], none, []⟩]) .ret) .skip))) (.region [⟨none, 111, (.val (.mv (.s 11))), [11, 129], none, []⟩, ⟨none, 112, (.val (.bin .add (.s 111) (.c (.int .i64 1)))), [111], none, []⟩, ⟨none, 11, (.val (.mv (.s 112))), [112], none, []⟩])))))) (.seq (.seq (.region [⟨none, 12, (.val (.mv (.c (.int .i64 0)))), [11, 110], none, []⟩]) (.block 7 (.loop (.seq (.seq (.region [⟨none, 130, (.val (.mv (.s 12))), [], none, []⟩, ⟨none, 131, (.val (.fa (.s 10) 2)), [], none, []⟩, ⟨none, 132, (.val (.ld (.s 131) none)), [131], none, []⟩, ⟨none, 133, (.val (.lnl (.s 132) 1)), [132], none, []⟩, ⟨none, 134, (.val (.bin .lss (.s 130) (.s 133))), [130, 133], none, []⟩]) (.cond (.s 134) .skip (.exit 7))) (.seq (.block 8 (.seq (.region [⟨none, 13, (.val (.mv (.c (.int .i64 0)))), [134], none, []⟩]) (.block 9 (.loop (.seq (.seq (.region [⟨none, 137, (.val (.mv (.s 13))), [], none, []⟩, ⟨none, 138, (.val (.mv (.s 12))), [], none, []⟩, ⟨none, 139, (.val (.bin .lss (.s 137) (.s 138))), [137, 138], none, []⟩]) (.cond (.s 139) .skip (.exit 9))) (.seq (.block 10 (.seq (.region [⟨none, 142, (.val (.fa (.s 10) 2)), [139], none, []⟩, ⟨none, 143, (.val (.ld (.s 142) none)), [142], none, []⟩, ⟨none, 144, (.val (.mv (.s 13))), [], none, []⟩, ⟨none, 145, (.val (.ia (.s 143) (.s 144) 1)), [143, 144], none, []⟩, ⟨none, 146, (.val (.ld (.s 145) none)), [145], none, []⟩, ⟨none, 147, (.val (.fa (.s 10) 2)), [], none, []⟩, ⟨none, 148, (.val (.ld (.s 147) none)), [147], none, []⟩, ⟨none, 149, (.val (.mv (.s 12))), [], none, []⟩, ⟨none, 150, (.val (.ia (.s 148) (.s 149) 1)), [148, 149], none, []⟩, ⟨none, 151, (.val (.ld (.s 150) none)), [150], none, []⟩, ⟨none, 152, (.val (.bin .eql (.s 146) (.s 151))), [146, 151], none, []⟩]) (.cond (.s 152) (.seq (.region [⟨none, 4, (.val (.mv (.c (.int .i64 4)))), [2, 8, 9, 10, 12, 13, 83, 84, 85, 86, 89, 90, 91, 94, 95, 96, 97, 100, 101, 102, 103, 104, 120, 121, 122, 123, 124, 125, 126, 127, 128, 152, 168, 169, 170, 171, 172, 173, 174, 175, 176], none, []⟩]) .ret) .skip))) (.region [⟨none, 140, (.val (.mv (.s 13))), [13, 152], none, []⟩, ⟨none, 141, (.val (.bin .add (.s 140) (.c (.int .i64 1)))), [140], none, []⟩, ⟨none, 13, (.val (.mv (.s 141))), [141], none, []⟩]))))))) (.region [⟨none, 135, (.val (.mv (.s 12))), [12, 13, 139], none, []⟩, ⟨none, 136, (.val (.bin .add (.s 135) (.c (.int .i64 1)))), [135], none, []⟩, ⟨none, 12, (.val (.mv (.s 136))), [136], none, []⟩])))))) (.seq (.region [⟨none, 14, (.val (.mv (.c (.int .i64 0)))), [12, 134], none, []⟩]) (.block 11 (.loop (.seq (.seq (.region [⟨none, 153, (.val (.mv (.s 14))), [], none, []⟩, ⟨none, 154, (.val (.mv (.s 9))), [], none, []⟩, ⟨none, 155, (.val (.bin .lss (.s 153) (.s 154))), [153, 154], none, []⟩]) (.cond (.s 155) .skip (.exit 11))) (.seq (.block 12 (.seq (.region [⟨none, 158, (.val (.fa (.s 2) 1)), [155], none, []⟩, ⟨none, 159, (.val (.ld (.s 158) none)), [158], none, []⟩, ⟨none, 160, (.val (.mv (.s 14))), [], none, []⟩, ⟨none, 161, (.val (.ia (.s 159) (.s 160) 3)), [159, 160], none, []⟩, ⟨none, 162, (.val (.fa (.s 161) 0)), [161], none, []⟩, ⟨none, 163, (.val (.ld (.s 162) none)), [162], none, []⟩, ⟨none, 164, (.val (.fa (.s 10) 0)), [], none, []⟩, ⟨none, 165, (.val (.ld (.s 164) none)), [164], none, []⟩, ⟨none, 166, (.val (.bin .eql (.s 163) (.s 165))), [163, 165], none, []⟩, ⟨none, 167, (.val (.mv (.s 166))), [166], none, []⟩, ⟨(some (167, true)), 168, (.val (.fa (.s 2) 1)), [], none, []⟩, ⟨(some (167, true)), 169, (.val (.ld (.s 168) none)), [], none, []⟩, ⟨(some (167, true)), 170, (.val (.mv (.s 14))), [], none, []⟩, ⟨(some (167, true)), 171, (.val (.ia (.s 169) (.s 170) 3)), [], none, []⟩, ⟨(some (167, true)), 172, (.val (.fa (.s 171) 1)), [], none, []⟩, ⟨(some (167, true)), 173, (.val (.ld (.s 172) none)), [], none, []⟩, ⟨(some (167, true)), 174, (.val (.fa (.s 10) 1)), [], none, []⟩, ⟨(some (167, true)), 175, (.val (.ld (.s 174) none)), [], none, []⟩, ⟨(some (167, true)), 176, (.val (.bin .eql (.s 173) (.s 175))), [], none, []⟩, ⟨none, 177, (.val (.pick (.s 167) (.s 176) (.c (.bool false)))), [167], none, []⟩]) (.cond (.s 177) (.seq (.region [⟨none, 4, (.val (.mv (.c (.int .i64 4)))), [2, 8, 9, 10, 14, 83, 84, 85, 86, 89, 90, 91, 94, 95, 96, 97, 100, 101, 102, 103, 104, 120, 121, 122, 123, 124, 125, 126, 127, 128, 168, 169, 170, 171, 172, 173, 174, 175, 176, 177], none, []⟩]) .ret) .skip))) (.region [⟨none, 156, (.val (.mv (.s 14))), [14, 177], none, []⟩, ⟨none, 157, (.val (.bin .add (.s 156) (.c (.int .i64 1)))), [156], none, []⟩, ⟨none, 14, (.val (.mv (.s 157))), [157], none, []⟩]))))))))))) (.region [⟨none, 72, (.val (.mv (.s 9))), [9, 10, 14, 155], none, []⟩, ⟨none, 73, (.val (.bin .add (.s 72) (.c (.int .i64 1)))), [72], none, []⟩, ⟨none, 9, (.val (.mv (.s 73))), [73], none, []⟩])))))) (.seq (.region [⟨none, 4, (.val (.mv (.c (.int .i64 0)))), [2, 8, 9, 71, 83, 84, 85, 86, 89, 90, 91, 94, 95, 96, 97, 100, 101, 102, 103, 104, 120, 121, 122, 123, 124, 125, 126, 127, 128, 168, 169, 170, 171, 172, 173, 174, 175, 176], none, []⟩]) .ret)))))))))
theorem ok74 : FnOk Tryd.prog 32 cc74 [(.t 4)] 2 178 := ⟨⟨_, Tryd.func32, by kernel_rfl, by kernel_rfl, by kernel_rfl⟩, by decide, by decide⟩
def nmL (p : Pn) (g : Gr) (i : Nat) : List ByteArray := cns g.cl ++ p.re.take i
theorem nmL_len {p : Pn} {g : Gr} {i : Nat} (h : i ≤ p.re.length) : (nmL p g i).length = g.cl.length + i := by
  rw [nmL, List.length_append, List.length_take, cns, List.length_map]; omega
theorem nmL_succ {p : Pn} {g : Gr} {i : Nat} {y : ByteArray} (h : p.re[i]? = some y) : nmL p g (i + 1) = nmL p g i ++ [y] := by rw [nmL, nmL, List.take_add_one, h, List.append_assoc]; rfl
def st74a (I : World → Fp → Value → Fp → Prop) (p : Pn) (g : Gr) (i : Nat) : St :=
  ⟨[(7, .v (.int .i64 i)), (6, .sl ⟨2063, [], 0⟩ 1 0 (g.cl.length + i)), (3, .ref ⟨1003, [], 0⟩), (2, .ref ⟨1002, [], 0⟩)], [(2063, .own 1 ((nmL p g i).map nmA)), (1003, gA g), (1002, plA p), (9999, .ext I)], []⟩
def st74b (I : World → Fp → Value → Fp → Prop) (p : Pn) (n : Nat) (i : Nat) : St :=
  ⟨[(9, .v (.int .i64 i)), (8, .v (.int .i64 n)), (2, .ref ⟨1002, [], 0⟩)], [(1002, plA p), (9999, .ext I)], []⟩
def st74c (I : World → Fp → Value → Fp → Prop) (p : Pn) (n i : Nat) (r : Rt) (s : Nat) (j : Nat) : St :=
  ⟨[(s, .v (.int .i64 j)), (10, .ref ⟨1010, [], 0⟩), (9, .v (.int .i64 i)), (8, .v (.int .i64 n)), (2, .ref ⟨1002, [], 0⟩)], [(1010, rtA r), (1002, plA p), (9999, .ext I)], []⟩
def st74d (I : World → Fp → Value → Fp → Prop) (p : Pn) (n i : Nat) (r : Rt) (a : Nat) (b : Nat) : St :=
  ⟨[(13, .v (.int .i64 b)), (12, .v (.int .i64 a)), (10, .ref ⟨1010, [], 0⟩), (9, .v (.int .i64 i)), (8, .v (.int .i64 n)), (2, .ref ⟨1002, [], 0⟩)], [(1010, rtA r), (1002, plA p), (9999, .ext I)], []⟩
theorem c74m (p : Pn) (g : Gr) (hn : NmOk g) (hp : MedP p) {Q : AV → Al → Prop} (h : Q (i64A (chkP p g)) []) : ACalls Tryd.prog 32 [] [plA p, gA g] Q := by
  refine ok74.N hmix rfl ?_
  intro I
  have hp1 := hp.re
  have hp2 := hp.rt
  simp only [cc74, OI, ↓reduceIte, reduceCtorEq, Nat.reduceAdd, Nat.reduceEqDiff, Nat.reduceBEq, Nat.reduceLT, Nat.reduceLeDiff, Nat.reduceMul, Nat.reduceSub, Int.reduceLE, Int.reduceLT, Int.reduceEq, Int.reduceBEq, Int.reduceBNe, Int.reduceToNat, Int.reduceNeg, Nat.reduceBNe, plA, gA, i64A]
  refine c66 g hn ?_
  by_cases hc : chk g = 0
  · have hF := chk0 hc
    have h4 := hF.cl4
    rw [chkP, if_neg (by simpa using hc)] at h
    simp only [OI, ↓reduceIte, reduceCtorEq, Nat.reduceAdd, Nat.reduceEqDiff, Nat.reduceBEq, Nat.reduceLT, Nat.reduceLeDiff, Nat.reduceMul, Nat.reduceSub, Int.reduceLE, Int.reduceLT, Int.reduceEq, Int.reduceBEq, Int.reduceBNe, Int.reduceToNat, Int.reduceNeg, Nat.reduceBNe, i64A, bneF hc]
    by_cases k1 : (4 : Int) < p.re.length
    · rw [if_pos (.inl (by omega))] at h
      simp only [OI, ↓reduceIte, reduceCtorEq, Nat.reduceAdd, Nat.reduceEqDiff, Nat.reduceBEq, Nat.reduceLT, Nat.reduceLeDiff, Nat.reduceMul, Nat.reduceSub, Int.reduceLE, Int.reduceLT, Int.reduceEq, Int.reduceBEq, Int.reduceBNe, Int.reduceToNat, Int.reduceNeg, Nat.reduceBNe, k1]
      exact h
    by_cases k2 : (12 : Int) < p.rt.length
    · rw [if_pos (.inr (by omega))] at h
      simp only [OI, ↓reduceIte, reduceCtorEq, Nat.reduceAdd, Nat.reduceEqDiff, Nat.reduceBEq, Nat.reduceLT, Nat.reduceLeDiff, Nat.reduceMul, Nat.reduceSub, Int.reduceLE, Int.reduceLT, Int.reduceEq, Int.reduceBEq, Int.reduceBNe, Int.reduceToNat, Int.reduceNeg, Nat.reduceBNe, k1, k2]
      exact h
    rw [if_neg (by omega)] at h
    simp only [OI, ↓reduceIte, reduceCtorEq, Nat.reduceAdd, Nat.reduceEqDiff, Nat.reduceBEq, Nat.reduceLT, Nat.reduceLeDiff, Nat.reduceMul, Nat.reduceSub, Int.reduceLE, Int.reduceLT, Int.reduceEq, Int.reduceBEq, Int.reduceBNe, Int.reduceToNat, Int.reduceNeg, Nat.reduceBNe, k1, k2]
    refine c166 g (by omega) ?_
    have hcl : (cns g.cl).length = g.cl.length := by simp [cns]
    simp only [OI, ↓reduceIte, reduceCtorEq, Nat.reduceAdd, Nat.reduceEqDiff, Nat.reduceBEq, Nat.reduceLT, Nat.reduceLeDiff, Nat.reduceMul, Nat.reduceSub, Int.reduceLE, Int.reduceLT, Int.reduceEq, Int.reduceBEq, Int.reduceBNe, Int.reduceToNat, Int.reduceNeg, Nat.reduceBNe, i64A, List.length_map, hcl]
    refine W_mv 6 2031 2063 rfl rfl rfl (by decide) (by decide) rfl rfl ?_
    refine W_loop (st74a I p g) (fun i => i ≤ p.re.length ∧ relE (cns g.cl) p.re = relE (nmL p g i) (p.re.drop i)) (fun i => p.re.length - i) (fun _ _ => rfl) ⟨0, ⟨by omega, by simp [nmL]⟩, ?_⟩ ?_
    · have h0 : nmL p g 0 = cns g.cl := by simp [nmL]
      simp only [OI, ↓reduceIte, reduceCtorEq, Nat.reduceAdd, Nat.reduceEqDiff, Nat.reduceBEq, Nat.reduceLT, Nat.reduceLeDiff, Nat.reduceMul, Nat.reduceSub, Int.reduceLE, Int.reduceLT, Int.reduceEq, Int.reduceBEq, Int.reduceBNe, Int.reduceToNat, Int.reduceNeg, Nat.reduceBNe, st74a, plA, gA, h0, Nat.add_zero]
      try rfl
    rintro i ⟨hi, he⟩
    refine W_of_N ok74.small hmix ?_
    by_cases hil : i < p.re.length
    · have hil' : (i : Int) < p.re.length := by omega
      have i0 : (0 : Int) ≤ i := by omega
      obtain ⟨y, hgi⟩ : ∃ y, p.re[i]? = some y := ⟨_, List.getElem?_eq_getElem hil⟩
      have hdr : p.re.drop i = y :: p.re.drop (i + 1) := by
        obtain ⟨h1, h2⟩ := List.getElem?_eq_some_iff.1 hgi
        rw [List.drop_eq_getElem_cons h1, h2]
      have htk := nmL_succ (g := g) hgi
      have hlen := nmL_len (g := g) hi
      have t1 : List.map frz (List.take (g.cl.length + i) (List.map nmA (nmL p g i))) = List.map nmA (nmL p g i) := by rw [← hlen]; exact fz_map nmA (fun _ => rfl) rfl
      have w1 : IntKind.i64.wrap ((i : Int) + 1) = ((i + 1 : Nat) : Int) := by rw [wrI64 (by omega) (by omega)]; omega
      have hsz := hp.nm i y hgi
      rw [hdr, relE] at he
      simp only [OI, ↓reduceIte, reduceCtorEq, Nat.reduceAdd, Nat.reduceEqDiff, Nat.reduceBEq, Nat.reduceLT, Nat.reduceLeDiff, Nat.reduceMul, Nat.reduceSub, Int.reduceLE, Int.reduceLT, Int.reduceEq, Int.reduceBEq, Int.reduceBNe, Int.reduceToNat, Int.reduceNeg, Nat.reduceBNe, st74a, plA, gA, hil', i0, hgi, nmA]
      refine c167 y (by omega) ?_
      cases hnb : nameB y with
      | false =>
        rw [if_pos hnb] at he
        simp only [OI, ↓reduceIte, reduceCtorEq, Nat.reduceAdd, Nat.reduceEqDiff, Nat.reduceBEq, Nat.reduceLT, Nat.reduceLeDiff, Nat.reduceMul, Nat.reduceSub, Int.reduceLE, Int.reduceLT, Int.reduceEq, Int.reduceBEq, Int.reduceBNe, Int.reduceToNat, Int.reduceNeg, Nat.reduceBNe]
        rw [he, if_pos (by decide)] at h
        exact h
      | true =>
        rw [if_neg (by rw [hnb]; simp)] at he
        simp only [OI, ↓reduceIte, reduceCtorEq, Nat.reduceAdd, Nat.reduceEqDiff, Nat.reduceBEq, Nat.reduceLT, Nat.reduceLeDiff, Nat.reduceMul, Nat.reduceSub, Int.reduceLE, Int.reduceLT, Int.reduceEq, Int.reduceBEq, Int.reduceBNe, Int.reduceToNat, Int.reduceNeg, Nat.reduceBNe, hil', i0, hgi, nmA, t1, List.length_map, hlen, Nat.le_refl]
        refine c168 (nmL p g i) y (by omega) ?_
        by_cases hm : memB y (nmL p g i) = true
        · rw [if_pos hm] at he
          have hm' : decide (0 ≤ idxP (nmL p g i) fun t => t.toList == y.toList) = true := by rw [idxP_any]; exact hm
          simp only [OI, ↓reduceIte, reduceCtorEq, Nat.reduceAdd, Nat.reduceEqDiff, Nat.reduceBEq, Nat.reduceLT, Nat.reduceLeDiff, Nat.reduceMul, Nat.reduceSub, Int.reduceLE, Int.reduceLT, Int.reduceEq, Int.reduceBEq, Int.reduceBNe, Int.reduceToNat, Int.reduceNeg, Nat.reduceBNe, i64A, hm']
          rw [he, if_pos (by decide)] at h
          exact h
        · rw [if_neg hm, ← htk] at he
          have hm' : decide (0 ≤ idxP (nmL p g i) fun t => t.toList == y.toList) = false := by rw [idxP_any]; simpa [memB] using hm
          simp only [OI, ↓reduceIte, reduceCtorEq, Nat.reduceAdd, Nat.reduceEqDiff, Nat.reduceBEq, Nat.reduceLT, Nat.reduceLeDiff, Nat.reduceMul, Nat.reduceSub, Int.reduceLE, Int.reduceLT, Int.reduceEq, Int.reduceBEq, Int.reduceBNe, Int.reduceToNat, Int.reduceNeg, Nat.reduceBNe, i64A, hm', hil', i0, hgi, w1, List.length_map, hlen, nmA]
          refine ⟨⟨by omega, by omega⟩, ?_⟩
          refine ⟨i + 1, ⟨⟨by omega, he⟩, by omega⟩, ?_⟩
          simp only [OI, ↓reduceIte, reduceCtorEq, Nat.reduceAdd, Nat.reduceEqDiff, Nat.reduceBEq, Nat.reduceLT, Nat.reduceLeDiff, Nat.reduceMul, Nat.reduceSub, Int.reduceLE, Int.reduceLT, Int.reduceEq, Int.reduceBEq, Int.reduceBNe, Int.reduceToNat, Int.reduceNeg, Nat.reduceBNe, st74a, plA, gA, htk, nmA, List.map_append, List.map_cons, List.map_nil, Nat.add_assoc]
          try rfl
    · obtain rfl : i = p.re.length := by omega
      rw [List.drop_length, relE] at he
      rw [he, if_neg (by simp)] at h
      simp only [OI, ↓reduceIte, reduceCtorEq, Nat.reduceAdd, Nat.reduceEqDiff, Nat.reduceBEq, Nat.reduceLT, Nat.reduceLeDiff, Nat.reduceMul, Nat.reduceSub, Int.reduceLE, Int.reduceLT, Int.reduceEq, Int.reduceBEq, Int.reduceBNe, Int.reduceToNat, Int.reduceNeg, Nat.reduceBNe, st74a, plA, gA, Int.lt_irrefl]
      refine W_loop (st74b I p g.cl.length) (fun i => i ≤ p.rt.length ∧ rtE g.cl.length p.re.length [] p.rt = rtE g.cl.length p.re.length (p.rt.take i) (p.rt.drop i)) (fun i => p.rt.length - i) (fun _ _ => rfl) ⟨0, ⟨by omega, by simp⟩, ?_⟩ ?_
      · simp only [OI, ↓reduceIte, reduceCtorEq, Nat.reduceAdd, Nat.reduceEqDiff, Nat.reduceBEq, Nat.reduceLT, Nat.reduceLeDiff, Nat.reduceMul, Nat.reduceSub, Int.reduceLE, Int.reduceLT, Int.reduceEq, Int.reduceBEq, Int.reduceBNe, Int.reduceToNat, Int.reduceNeg, Nat.reduceBNe, st74b, plA]
        try rfl
      rintro i ⟨hi, he⟩
      refine W_of_N ok74.small hmix ?_
      by_cases hil : i < p.rt.length
      · have hil' : (i : Int) < p.rt.length := by omega
        have i0 : (0 : Int) ≤ i := by omega
        obtain ⟨y, hgi⟩ : ∃ y, p.rt[i]? = some y := ⟨_, List.getElem?_eq_getElem hil⟩
        have hdr : p.rt.drop i = y :: p.rt.drop (i + 1) := by
          obtain ⟨h1, h2⟩ := List.getElem?_eq_some_iff.1 hgi
          rw [List.drop_eq_getElem_cons h1, h2]
        have htk : p.rt.take (i + 1) = p.rt.take i ++ [y] := by rw [List.take_add_one, hgi]; rfl
        have w1 : IntKind.i64.wrap ((i : Int) + 1) = ((i + 1 : Nat) : Int) := by rw [wrI64 (by omega) (by omega)]; omega
        have hvia := hp.via i y hgi
        rw [hdr, rtE, ← htk] at he
        have stop : ∀ m : Int, m ≠ 0 → rtR g.cl.length p.re.length (p.rt.take i) y = m → Q (.v (.int .i64 m)) [] := by
          intro m hm e
          rw [e, if_pos hm] at he
          rw [he] at h; exact h
        by_cases b1 : y.f < 0
        · simp only [OI, ↓reduceIte, reduceCtorEq, Nat.reduceAdd, Nat.reduceEqDiff, Nat.reduceBEq, Nat.reduceLT, Nat.reduceLeDiff, Nat.reduceMul, Nat.reduceSub, Int.reduceLE, Int.reduceLT, Int.reduceEq, Int.reduceBEq, Int.reduceBNe, Int.reduceToNat, Int.reduceNeg, Nat.reduceBNe, st74b, plA, hil', i0, hgi, rtA, b1]
          exact stop 1 (by decide) (by rw [rtR, if_pos (.inl b1)])
        by_cases b2 : (g.cl.length : Int) ≤ y.f
        · simp only [OI, ↓reduceIte, reduceCtorEq, Nat.reduceAdd, Nat.reduceEqDiff, Nat.reduceBEq, Nat.reduceLT, Nat.reduceLeDiff, Nat.reduceMul, Nat.reduceSub, Int.reduceLE, Int.reduceLT, Int.reduceEq, Int.reduceBEq, Int.reduceBNe, Int.reduceToNat, Int.reduceNeg, Nat.reduceBNe, st74b, plA, hil', i0, hgi, rtA, b1, b2]
          exact stop 1 (by decide) (by rw [rtR, if_pos (.inr (.inl b2))])
        by_cases b3 : y.t < 0
        · simp only [OI, ↓reduceIte, reduceCtorEq, Nat.reduceAdd, Nat.reduceEqDiff, Nat.reduceBEq, Nat.reduceLT, Nat.reduceLeDiff, Nat.reduceMul, Nat.reduceSub, Int.reduceLE, Int.reduceLT, Int.reduceEq, Int.reduceBEq, Int.reduceBNe, Int.reduceToNat, Int.reduceNeg, Nat.reduceBNe, st74b, plA, hil', i0, hgi, rtA, b1, b2, b3]
          exact stop 1 (by decide) (by rw [rtR, if_pos (.inr (.inr (.inl b3)))])
        by_cases b4 : (g.cl.length : Int) ≤ y.t
        · simp only [OI, ↓reduceIte, reduceCtorEq, Nat.reduceAdd, Nat.reduceEqDiff, Nat.reduceBEq, Nat.reduceLT, Nat.reduceLeDiff, Nat.reduceMul, Nat.reduceSub, Int.reduceLE, Int.reduceLT, Int.reduceEq, Int.reduceBEq, Int.reduceBNe, Int.reduceToNat, Int.reduceNeg, Nat.reduceBNe, st74b, plA, hil', i0, hgi, rtA, b1, b2, b3, b4]
          exact stop 1 (by decide) (by rw [rtR, if_pos (.inr (.inr (.inr (.inl b4))))])
        by_cases b5 : y.f = y.t
        · simp only [OI, ↓reduceIte, reduceCtorEq, Nat.reduceAdd, Nat.reduceEqDiff, Nat.reduceBEq, Nat.reduceLT, Nat.reduceLeDiff, Nat.reduceMul, Nat.reduceSub, Int.reduceLE, Int.reduceLT, Int.reduceEq, Int.reduceBEq, Int.reduceBNe, Int.reduceToNat, Int.reduceNeg, Nat.reduceBNe, st74b, plA, hil', i0, hgi, rtA, b1, b2, b3, b4, beqT b5]
          exact stop 1 (by decide) (by rw [rtR, if_pos (.inr (.inr (.inr (.inr (.inl b5)))))])
        simp only [OI, ↓reduceIte, reduceCtorEq, Nat.reduceAdd, Nat.reduceEqDiff, Nat.reduceBEq, Nat.reduceLT, Nat.reduceLeDiff, Nat.reduceMul, Nat.reduceSub, Int.reduceLE, Int.reduceLT, Int.reduceEq, Int.reduceBEq, Int.reduceBNe, Int.reduceToNat, Int.reduceNeg, Nat.reduceBNe, st74b, plA, hil', i0, hgi, rtA, b1, b2, b3, b4, beqF b5]
        have hR : rtR g.cl.length p.re.length (p.rt.take i) y = if y.via.any (badK p.re.length) = true then 1 else if dupF [] y.via = true then 4 else if (p.rt.take i).any (sameK y) = true then 4 else 0 := by
          by_cases hb : y.via.any (badK p.re.length) = true
          · rw [rtR, if_pos (.inr (.inr (.inr (.inr (.inr hb))))), if_pos hb]
          · rw [rtR, if_neg (by rintro (h | h | h | h | h | h) <;> contradiction), if_neg hb]
        have wj : ∀ j : Nat, j ≤ 100000 → IntKind.i64.wrap ((j : Int) + 1) = ((j + 1 : Nat) : Int) := fun j hj => by rw [wrI64 (by omega) (by omega)]; omega
        refine W_loop (st74c I p g.cl.length i y 11) (fun j => j ≤ y.via.length ∧ ∀ (k : Nat) x, k < j → y.via[k]? = some x → badK p.re.length x = false) (fun j => y.via.length - j) (fun _ _ => rfl) ⟨0, ⟨by omega, fun k x hk => by omega⟩, ?_⟩ ?_
        · simp only [OI, ↓reduceIte, reduceCtorEq, Nat.reduceAdd, Nat.reduceEqDiff, Nat.reduceBEq, Nat.reduceLT, Nat.reduceLeDiff, Nat.reduceMul, Nat.reduceSub, Int.reduceLE, Int.reduceLT, Int.reduceEq, Int.reduceBEq, Int.reduceBNe, Int.reduceToNat, Int.reduceNeg, Nat.reduceBNe, st74c, plA, rtA]
          try rfl
        rintro j ⟨hj, hjall⟩
        refine W_of_N ok74.small hmix ?_
        by_cases hjl : j < y.via.length
        · have hjl' : (j : Int) < y.via.length := by omega
          have j0 : (0 : Int) ≤ j := by omega
          obtain ⟨x, hxi⟩ : ∃ x, y.via[j]? = some x := ⟨_, List.getElem?_eq_getElem hjl⟩
          have wj1 := wj j (by omega)
          have bad : badK p.re.length x = true → Q (.v (.int .i64 1)) [] := by
            intro hb
            refine stop 1 (by decide) ?_
            rw [hR, if_pos]
            rw [List.any_eq_true]
            exact ⟨x, List.mem_of_getElem? hxi, hb⟩
          by_cases x1 : x < 0
          · simp only [OI, ↓reduceIte, reduceCtorEq, Nat.reduceAdd, Nat.reduceEqDiff, Nat.reduceBEq, Nat.reduceLT, Nat.reduceLeDiff, Nat.reduceMul, Nat.reduceSub, Int.reduceLE, Int.reduceLT, Int.reduceEq, Int.reduceBEq, Int.reduceBNe, Int.reduceToNat, Int.reduceNeg, Nat.reduceBNe, st74c, plA, rtA, i64A, hjl', j0, hxi, x1]
            exact bad (by simp [badK, x1])
          by_cases x2 : (p.re.length : Int) ≤ x
          · simp only [OI, ↓reduceIte, reduceCtorEq, Nat.reduceAdd, Nat.reduceEqDiff, Nat.reduceBEq, Nat.reduceLT, Nat.reduceLeDiff, Nat.reduceMul, Nat.reduceSub, Int.reduceLE, Int.reduceLT, Int.reduceEq, Int.reduceBEq, Int.reduceBNe, Int.reduceToNat, Int.reduceNeg, Nat.reduceBNe, st74c, plA, rtA, i64A, hjl', j0, hxi, x1, x2]
            exact bad (by simp [badK, x2])
          simp only [OI, ↓reduceIte, reduceCtorEq, Nat.reduceAdd, Nat.reduceEqDiff, Nat.reduceBEq, Nat.reduceLT, Nat.reduceLeDiff, Nat.reduceMul, Nat.reduceSub, Int.reduceLE, Int.reduceLT, Int.reduceEq, Int.reduceBEq, Int.reduceBNe, Int.reduceToNat, Int.reduceNeg, Nat.reduceBNe, st74c, plA, rtA, i64A, hjl', j0, hxi, x1, x2, wj1]
          refine ⟨j + 1, ⟨⟨by omega, fun k z hk hz => ?_⟩, by omega⟩, ?_⟩
          · by_cases hkj : k = j
            · subst hkj; rw [hxi] at hz; obtain rfl := Option.some.inj hz; simp only [badK]; exact decide_eq_false (by omega)
            · exact hjall k z (by omega) hz
          · simp only [OI, ↓reduceIte, reduceCtorEq, Nat.reduceAdd, Nat.reduceEqDiff, Nat.reduceBEq, Nat.reduceLT, Nat.reduceLeDiff, Nat.reduceMul, Nat.reduceSub, Int.reduceLE, Int.reduceLT, Int.reduceEq, Int.reduceBEq, Int.reduceBNe, Int.reduceToNat, Int.reduceNeg, Nat.reduceBNe, st74c, plA, rtA, i64A]
            try rfl
        obtain rfl : j = y.via.length := by omega
        have hvb : y.via.any (badK p.re.length) = false := by
          rw [List.any_eq_false]
          intro x hx
          obtain ⟨k, hk⟩ := List.getElem?_of_mem hx
          rw [hjall k x (List.getElem?_eq_some_iff.1 hk).1 hk]; simp
        rw [hvb] at hR
        simp only [Bool.false_eq_true, if_false] at hR
        simp only [OI, ↓reduceIte, reduceCtorEq, Nat.reduceAdd, Nat.reduceEqDiff, Nat.reduceBEq, Nat.reduceLT, Nat.reduceLeDiff, Nat.reduceMul, Nat.reduceSub, Int.reduceLE, Int.reduceLT, Int.reduceEq, Int.reduceBEq, Int.reduceBNe, Int.reduceToNat, Int.reduceNeg, Nat.reduceBNe, st74c, plA, rtA, Int.lt_irrefl]
        refine W_loop (st74c I p g.cl.length i y 12) (fun a => a ≤ y.via.length ∧ dupF [] y.via = dupF (y.via.take a) (y.via.drop a)) (fun a => y.via.length - a) (fun _ _ => rfl) ⟨0, ⟨by omega, by simp⟩, ?_⟩ ?_
        · simp only [OI, ↓reduceIte, reduceCtorEq, Nat.reduceAdd, Nat.reduceEqDiff, Nat.reduceBEq, Nat.reduceLT, Nat.reduceLeDiff, Nat.reduceMul, Nat.reduceSub, Int.reduceLE, Int.reduceLT, Int.reduceEq, Int.reduceBEq, Int.reduceBNe, Int.reduceToNat, Int.reduceNeg, Nat.reduceBNe, st74c, plA, rtA]
          try rfl
        rintro a ⟨ha, hda⟩
        refine W_of_N ok74.small hmix ?_
        by_cases hal : a < y.via.length
        · have hal' : (a : Int) < y.via.length := by omega
          have a0 : (0 : Int) ≤ a := by omega
          obtain ⟨x, hxi⟩ : ∃ x, y.via[a]? = some x := ⟨_, List.getElem?_eq_getElem hal⟩
          have wa1 := wj a (by omega)
          have hadr : y.via.drop a = x :: y.via.drop (a + 1) := by
            obtain ⟨h1, h2⟩ := List.getElem?_eq_some_iff.1 hxi
            rw [List.drop_eq_getElem_cons h1, h2]
          have hatk : y.via.take (a + 1) = y.via.take a ++ [x] := by rw [List.take_add_one, hxi]; rfl
          rw [hadr, dupF, ← hatk] at hda
          simp only [OI, ↓reduceIte, reduceCtorEq, Nat.reduceAdd, Nat.reduceEqDiff, Nat.reduceBEq, Nat.reduceLT, Nat.reduceLeDiff, Nat.reduceMul, Nat.reduceSub, Int.reduceLE, Int.reduceLT, Int.reduceEq, Int.reduceBEq, Int.reduceBNe, Int.reduceToNat, Int.reduceNeg, Nat.reduceBNe, st74c, plA, rtA, hal']
          refine W_loop (st74d I p g.cl.length i y a) (fun b => b ≤ a ∧ ∀ (k : Nat) z, k < b → y.via[k]? = some z → ¬ z = x) (fun b => a - b) (fun _ _ => rfl) ⟨0, ⟨by omega, fun k z hk => by omega⟩, ?_⟩ ?_
          · simp only [OI, ↓reduceIte, reduceCtorEq, Nat.reduceAdd, Nat.reduceEqDiff, Nat.reduceBEq, Nat.reduceLT, Nat.reduceLeDiff, Nat.reduceMul, Nat.reduceSub, Int.reduceLE, Int.reduceLT, Int.reduceEq, Int.reduceBEq, Int.reduceBNe, Int.reduceToNat, Int.reduceNeg, Nat.reduceBNe, st74d, plA, rtA]
            try rfl
          rintro b ⟨hb, hball⟩
          refine W_of_N ok74.small hmix ?_
          by_cases hbl : b < a
          · have hbl' : (b : Int) < a := by omega
            have hbl2 : (b : Int) < y.via.length := by omega
            have b0 : (0 : Int) ≤ b := by omega
            obtain ⟨z, hzi⟩ : ∃ z, y.via[b]? = some z := ⟨_, List.getElem?_eq_getElem (by omega)⟩
            have wb1 := wj b (by omega)
            by_cases hzx : z = x
            · simp only [OI, ↓reduceIte, reduceCtorEq, Nat.reduceAdd, Nat.reduceEqDiff, Nat.reduceBEq, Nat.reduceLT, Nat.reduceLeDiff, Nat.reduceMul, Nat.reduceSub, Int.reduceLE, Int.reduceLT, Int.reduceEq, Int.reduceBEq, Int.reduceBNe, Int.reduceToNat, Int.reduceNeg, Nat.reduceBNe, st74d, plA, rtA, i64A, hbl', hbl2, b0, hzi, hal', a0, hxi, beqT hzx]
              refine stop 4 (by decide) ?_
              have hany : (y.via.take a).any (eqZ x) = true := by
                rw [List.any_eq_true]
                refine ⟨z, List.mem_of_getElem? (i := b) (by rw [List.getElem?_take, if_pos hbl]; exact hzi), by simp [eqZ, hzx]⟩
              rw [if_pos hany] at hda
              rw [hR, hda, if_pos rfl]
            · simp only [OI, ↓reduceIte, reduceCtorEq, Nat.reduceAdd, Nat.reduceEqDiff, Nat.reduceBEq, Nat.reduceLT, Nat.reduceLeDiff, Nat.reduceMul, Nat.reduceSub, Int.reduceLE, Int.reduceLT, Int.reduceEq, Int.reduceBEq, Int.reduceBNe, Int.reduceToNat, Int.reduceNeg, Nat.reduceBNe, st74d, plA, rtA, i64A, hbl', hbl2, b0, hzi, hal', a0, hxi, beqF hzx, wb1]
              refine ⟨b + 1, ⟨⟨by omega, fun k t hk ht => ?_⟩, by omega⟩, ?_⟩
              · by_cases hkb : k = b
                · subst hkb; rw [hzi] at ht; obtain rfl := Option.some.inj ht; exact hzx
                · exact hball k t (by omega) ht
              · simp only [OI, ↓reduceIte, reduceCtorEq, Nat.reduceAdd, Nat.reduceEqDiff, Nat.reduceBEq, Nat.reduceLT, Nat.reduceLeDiff, Nat.reduceMul, Nat.reduceSub, Int.reduceLE, Int.reduceLT, Int.reduceEq, Int.reduceBEq, Int.reduceBNe, Int.reduceToNat, Int.reduceNeg, Nat.reduceBNe, st74d, plA, rtA, i64A]
                try rfl
          obtain rfl : b = a := by omega
          have hno : ¬ (y.via.take b).any (eqZ x) = true := by
            rw [List.any_eq_true]
            rintro ⟨z, hz, hzx⟩
            obtain ⟨k, hk⟩ := List.getElem?_of_mem hz
            have hkb : k < b := by
              have := (List.getElem?_eq_some_iff.1 hk).1
              rw [List.length_take] at this; omega
            rw [List.getElem?_take, if_pos hkb] at hk
            exact hball k z hkb hk (by simpa [eqZ] using hzx)
          rw [if_neg hno] at hda
          simp only [OI, ↓reduceIte, reduceCtorEq, Nat.reduceAdd, Nat.reduceEqDiff, Nat.reduceBEq, Nat.reduceLT, Nat.reduceLeDiff, Nat.reduceMul, Nat.reduceSub, Int.reduceLE, Int.reduceLT, Int.reduceEq, Int.reduceBEq, Int.reduceBNe, Int.reduceToNat, Int.reduceNeg, Nat.reduceBNe, st74d, plA, rtA, Int.lt_irrefl, wa1]
          refine ⟨b + 1, ⟨⟨by omega, hda⟩, by omega⟩, ?_⟩
          simp only [OI, ↓reduceIte, reduceCtorEq, Nat.reduceAdd, Nat.reduceEqDiff, Nat.reduceBEq, Nat.reduceLT, Nat.reduceLeDiff, Nat.reduceMul, Nat.reduceSub, Int.reduceLE, Int.reduceLT, Int.reduceEq, Int.reduceBEq, Int.reduceBNe, Int.reduceToNat, Int.reduceNeg, Nat.reduceBNe, st74c, plA, rtA]
          try rfl
        obtain rfl : a = y.via.length := by omega
        rw [List.drop_length, dupF] at hda
        rw [hda] at hR
        simp only [Bool.false_eq_true, if_false] at hR
        simp only [OI, ↓reduceIte, reduceCtorEq, Nat.reduceAdd, Nat.reduceEqDiff, Nat.reduceBEq, Nat.reduceLT, Nat.reduceLeDiff, Nat.reduceMul, Nat.reduceSub, Int.reduceLE, Int.reduceLT, Int.reduceEq, Int.reduceBEq, Int.reduceBNe, Int.reduceToNat, Int.reduceNeg, Nat.reduceBNe, st74c, plA, rtA, Int.lt_irrefl]
        refine W_loop (st74c I p g.cl.length i y 14) (fun j => j ≤ i ∧ ∀ (k : Nat) z, k < j → p.rt[k]? = some z → sameK y z = false) (fun j => i - j) (fun _ _ => rfl) ⟨0, ⟨by omega, fun k x hk => by omega⟩, ?_⟩ ?_
        · simp only [OI, ↓reduceIte, reduceCtorEq, Nat.reduceAdd, Nat.reduceEqDiff, Nat.reduceBEq, Nat.reduceLT, Nat.reduceLeDiff, Nat.reduceMul, Nat.reduceSub, Int.reduceLE, Int.reduceLT, Int.reduceEq, Int.reduceBEq, Int.reduceBNe, Int.reduceToNat, Int.reduceNeg, Nat.reduceBNe, st74c, plA, rtA]
          try rfl
        rintro j ⟨hj2, hj2all⟩
        refine W_of_N ok74.small hmix ?_
        by_cases hjl2 : j < i
        · have hjl' : (j : Int) < i := by omega
          have hjl3 : (j : Int) < p.rt.length := by omega
          have j0 : (0 : Int) ≤ j := by omega
          obtain ⟨z, hzi⟩ : ∃ z, p.rt[j]? = some z := ⟨_, List.getElem?_eq_getElem (by omega)⟩
          have wj1 := wj j (by omega)
          have next : sameK y z = false → ∀ (k : Nat) t, k < j + 1 → p.rt[k]? = some t → sameK y t = false := by
            intro hs k t hk ht
            by_cases hkj : k = j
            · subst hkj; rw [hzi] at ht; obtain rfl := Option.some.inj ht; exact hs
            · exact hj2all k t (by omega) ht
          by_cases z1 : z.f = y.f
          · by_cases z2 : z.t = y.t
            · simp only [OI, ↓reduceIte, reduceCtorEq, Nat.reduceAdd, Nat.reduceEqDiff, Nat.reduceBEq, Nat.reduceLT, Nat.reduceLeDiff, Nat.reduceMul, Nat.reduceSub, Int.reduceLE, Int.reduceLT, Int.reduceEq, Int.reduceBEq, Int.reduceBNe, Int.reduceToNat, Int.reduceNeg, Nat.reduceBNe, st74c, plA, rtA, hjl', hjl3, j0, hzi, beqT z1, beqT z2]
              refine stop 4 (by decide) ?_
              rw [hR, if_pos]
              rw [List.any_eq_true]
              exact ⟨z, List.mem_of_getElem? (i := j) (by rw [List.getElem?_take, if_pos hjl2]; exact hzi), by simp [sameK, z1, z2]⟩
            · simp only [OI, ↓reduceIte, reduceCtorEq, Nat.reduceAdd, Nat.reduceEqDiff, Nat.reduceBEq, Nat.reduceLT, Nat.reduceLeDiff, Nat.reduceMul, Nat.reduceSub, Int.reduceLE, Int.reduceLT, Int.reduceEq, Int.reduceBEq, Int.reduceBNe, Int.reduceToNat, Int.reduceNeg, Nat.reduceBNe, st74c, plA, rtA, hjl', hjl3, j0, hzi, beqT z1, beqF z2, wj1]
              refine ⟨j + 1, ⟨⟨by omega, next (by simp [sameK, z2])⟩, by omega⟩, ?_⟩
              simp only [OI, ↓reduceIte, reduceCtorEq, Nat.reduceAdd, Nat.reduceEqDiff, Nat.reduceBEq, Nat.reduceLT, Nat.reduceLeDiff, Nat.reduceMul, Nat.reduceSub, Int.reduceLE, Int.reduceLT, Int.reduceEq, Int.reduceBEq, Int.reduceBNe, Int.reduceToNat, Int.reduceNeg, Nat.reduceBNe, st74c, plA, rtA]
              try rfl
          · simp only [OI, ↓reduceIte, reduceCtorEq, Nat.reduceAdd, Nat.reduceEqDiff, Nat.reduceBEq, Nat.reduceLT, Nat.reduceLeDiff, Nat.reduceMul, Nat.reduceSub, Int.reduceLE, Int.reduceLT, Int.reduceEq, Int.reduceBEq, Int.reduceBNe, Int.reduceToNat, Int.reduceNeg, Nat.reduceBNe, st74c, plA, rtA, hjl', hjl3, j0, hzi, beqF z1, wj1]
            refine ⟨j + 1, ⟨⟨by omega, next (by simp [sameK, z1])⟩, by omega⟩, ?_⟩
            simp only [OI, ↓reduceIte, reduceCtorEq, Nat.reduceAdd, Nat.reduceEqDiff, Nat.reduceBEq, Nat.reduceLT, Nat.reduceLeDiff, Nat.reduceMul, Nat.reduceSub, Int.reduceLE, Int.reduceLT, Int.reduceEq, Int.reduceBEq, Int.reduceBNe, Int.reduceToNat, Int.reduceNeg, Nat.reduceBNe, st74c, plA, rtA]
            try rfl
        obtain rfl : j = i := by omega
        have hns : ¬ (p.rt.take j).any (sameK y) = true := by
          rw [List.any_eq_true]
          rintro ⟨z, hz, hzx⟩
          obtain ⟨k, hk⟩ := List.getElem?_of_mem hz
          have hkb : k < j := by
            have := (List.getElem?_eq_some_iff.1 hk).1
            rw [List.length_take] at this; omega
          rw [List.getElem?_take, if_pos hkb] at hk
          rw [hj2all k z hkb hk] at hzx; cases hzx
        rw [if_neg hns] at hR
        rw [hR] at he
        simp only [ne_eq, not_true_eq_false, if_false] at he
        simp only [OI, ↓reduceIte, reduceCtorEq, Nat.reduceAdd, Nat.reduceEqDiff, Nat.reduceBEq, Nat.reduceLT, Nat.reduceLeDiff, Nat.reduceMul, Nat.reduceSub, Int.reduceLE, Int.reduceLT, Int.reduceEq, Int.reduceBEq, Int.reduceBNe, Int.reduceToNat, Int.reduceNeg, Nat.reduceBNe, st74c, plA, rtA, Int.lt_irrefl, w1]
        refine ⟨j + 1, ⟨⟨by omega, he⟩, by omega⟩, ?_⟩
        simp only [OI, ↓reduceIte, reduceCtorEq, Nat.reduceAdd, Nat.reduceEqDiff, Nat.reduceBEq, Nat.reduceLT, Nat.reduceLeDiff, Nat.reduceMul, Nat.reduceSub, Int.reduceLE, Int.reduceLT, Int.reduceEq, Int.reduceBEq, Int.reduceBNe, Int.reduceToNat, Int.reduceNeg, Nat.reduceBNe, st74b, plA]
        try rfl
      · obtain rfl : i = p.rt.length := by omega
        rw [List.drop_length, rtE] at he
        rw [he] at h
        simp only [OI, ↓reduceIte, reduceCtorEq, Nat.reduceAdd, Nat.reduceEqDiff, Nat.reduceBEq, Nat.reduceLT, Nat.reduceLeDiff, Nat.reduceMul, Nat.reduceSub, Int.reduceLE, Int.reduceLT, Int.reduceEq, Int.reduceBEq, Int.reduceBNe, Int.reduceToNat, Int.reduceNeg, Nat.reduceBNe, st74b, plA, Int.lt_irrefl]
        exact h
  · rw [chkP, if_pos hc] at h
    simp only [OI, ↓reduceIte, reduceCtorEq, Nat.reduceAdd, Nat.reduceEqDiff, Nat.reduceBEq, Nat.reduceLT, Nat.reduceLeDiff, Nat.reduceMul, Nat.reduceSub, Int.reduceLE, Int.reduceLT, Int.reduceEq, Int.reduceBEq, Int.reduceBNe, Int.reduceToNat, Int.reduceNeg, Nat.reduceBNe, i64A, bneT hc]
    exact h
end Go.Proofs.YthlehngbadianaaDoor.Ow
