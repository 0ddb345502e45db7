/- What the functions of the program do, each once: contracts of the logic (part h2). -/
import Derived.Test.YthlehngbadianaaDoorOwWeakNil
import Derived.Test.YthlehngbadianaaDoorTg7g8h1
set_option linter.unusedVariables false
set_option linter.unusedSimpArgs false
set_option linter.unnecessarySimpa false
set_option maxRecDepth 100000
set_option maxHeartbeats 4000000
namespace Go.Proofs.YthlehngbadianaaDoor.Ow
open Go Go.RowKit Go.Proofs
/- watershed/graph.Check -/
def cc65 : CC := (.seq (.region [⟨none, 1, (.box 0), [0], none, []⟩, ⟨none, 2, (.val (.mv (.c (.int .i64 0)))), [2], none, []⟩]) (.seq (.block 0 (.seq (.region [⟨none, 7, (.val (.fa (.s 1) 0)), [], none, []⟩, ⟨none, 8, (.val (.ld (.s 7) none)), [7], none, []⟩, ⟨none, 9, (.val (.lnl (.s 8) 2)), [8], none, []⟩, ⟨none, 10, (.val (.bin .gtr (.s 9) (.c (.int .i64 4)))), [9], none, []⟩, ⟨none, 11, (.val (.mv (.s 10))), [10], none, []⟩, ⟨(some (11, false)), 12, (.val (.fa (.s 1) 1)), [], none, []⟩, ⟨(some (11, false)), 13, (.val (.ld (.s 12) none)), [12], none, []⟩, ⟨(some (11, false)), 14, (.val (.lnl (.s 13) 3)), [13], none, []⟩, ⟨(some (11, false)), 15, (.val (.bin .gtr (.s 14) (.c (.int .i64 6)))), [14], none, []⟩, ⟨none, 16, (.val (.pick (.s 11) (.c (.bool true)) (.s 15))), [11, 15], none, []⟩, ⟨none, 17, (.val (.mv (.s 16))), [16], none, []⟩, ⟨(some (17, false)), 18, (.val (.fa (.s 1) 2)), [], none, []⟩, ⟨(some (17, false)), 19, (.val (.ld (.s 18) none)), [18], none, []⟩, ⟨(some (17, false)), 20, (.val (.lnl (.s 19) 6)), [19], none, []⟩, ⟨(some (17, false)), 21, (.val (.bin .gtr (.s 20) (.c (.int .i64 24)))), [20], none, []⟩, ⟨none, 22, (.val (.pick (.s 17) (.c (.bool true)) (.s 21))), [17, 21], none, []⟩, ⟨none, 23, (.val (.mv (.s 22))), [22], none, []⟩, ⟨(some (23, false)), 24, (.val (.fa (.s 1) 3)), [], none, []⟩, ⟨(some (23, false)), 25, (.val (.ld (.s 24) none)), [24], none, []⟩, ⟨(some (23, false)), 26, (.val (.lnl (.s 25) 2)), [25], none, []⟩, ⟨(some (23, false)), 27, (.val (.bin .gtr (.s 26) (.c (.int .i64 48)))), [26], none, []⟩, ⟨none, 28, (.val (.pick (.s 23) (.c (.bool true)) (.s 27))), [23, 27], none, []⟩, ⟨none, 6, (.val (.mv (.s 28))), [28], none, []⟩]) (.cond (.s 6) (.seq (.region [⟨none, 2, (.val (.mv (.c (.int .i64 7)))), [1, 6], none, []⟩]) .ret) (.seq (.region [⟨none, 30, (.val (.fa (.s 1) 0)), [6], none, []⟩, ⟨none, 31, (.val (.ld (.s 30) none)), [30], none, []⟩, ⟨none, 32, (.val (.lnl (.s 31) 2)), [31], none, []⟩, ⟨none, 33, (.val (.bin .eql (.s 32) (.c (.int .i64 0)))), [32], none, []⟩, ⟨none, 34, (.val (.mv (.s 33))), [33], none, []⟩, ⟨(some (34, false)), 35, (.val (.fa (.s 1) 2)), [], none, []⟩, ⟨(some (34, false)), 36, (.val (.ld (.s 35) none)), [35], none, []⟩, ⟨(some (34, false)), 37, (.val (.lnl (.s 36) 6)), [36], none, []⟩, ⟨(some (34, false)), 38, (.val (.bin .eql (.s 37) (.c (.int .i64 0)))), [37], none, []⟩, ⟨none, 39, (.val (.pick (.s 34) (.c (.bool true)) (.s 38))), [34, 38], none, []⟩, ⟨none, 29, (.val (.mv (.s 39))), [39], none, []⟩]) (.cond (.s 29) (.seq (.region [⟨none, 2, (.val (.mv (.c (.int .i64 3)))), [1, 29], none, []⟩]) .ret) .skip))))) (.seq (.seq (.region [⟨none, 40, (.val (.ld (.s 1) (some 4))), [29], none, []⟩, ⟨none, 41, (.callP 42 [(.s 40)]), [40], none, []⟩, ⟨none, 3, (.val (.mv (.s 41))), [41], none, []⟩]) (.seq (.region [⟨none, 42, (.val (.mv (.s 3))), [], none, []⟩, ⟨none, 43, (.val (.bin .neq (.s 42) (.c (.int .i64 0)))), [42], none, []⟩]) (.cond (.s 43) (.seq (.region [⟨none, 44, (.val (.mv (.s 3))), [1, 3, 43], none, []⟩, ⟨none, 2, (.val (.mv (.s 44))), [44], none, []⟩]) .ret) .skip))) (.seq (.seq (.region [⟨none, 45, (.val (.ld (.s 1) (some 4))), [3, 43], none, []⟩, ⟨none, 46, (.callP 43 [(.s 45)]), [45], none, []⟩, ⟨none, 4, (.val (.mv (.s 46))), [46], none, []⟩]) (.seq (.region [⟨none, 47, (.val (.mv (.s 4))), [], none, []⟩, ⟨none, 48, (.val (.bin .neq (.s 47) (.c (.int .i64 0)))), [47], none, []⟩]) (.cond (.s 48) (.seq (.region [⟨none, 49, (.val (.mv (.s 4))), [1, 4, 48], none, []⟩, ⟨none, 2, (.val (.mv (.s 49))), [49], none, []⟩]) .ret) .skip))) (.seq (.seq (.region [⟨none, 50, (.val (.ld (.s 1) (some 4))), [4, 48], none, []⟩, ⟨none, 51, (.callP 44 [(.s 50)]), [50], none, []⟩, ⟨none, 5, (.val (.mv (.s 51))), [51], none, []⟩]) (.seq (.region [⟨none, 52, (.val (.mv (.s 5))), [], none, []⟩, ⟨none, 53, (.val (.bin .neq (.s 52) (.c (.int .i64 0)))), [52], none, []⟩]) (.cond (.s 53) (.seq (.region [⟨none, 54, (.val (.mv (.s 5))), [1, 5, 53], none, []⟩, ⟨none, 2, (.val (.mv (.s 54))), [54], none, []⟩]) .ret) .skip))) (.seq (.region [⟨none, 55, (.val (.ld (.s 1) (some 4))), [1, 5, 53], none, []⟩, ⟨none, 56, (.callP 45 [(.s 55)]), [55], none, []⟩, ⟨none, 2, (.val (.mv (.s 56))), [56], none, []⟩]) .ret))))))
theorem ok65 : FnOk Tryd.prog 23 cc65 [(.t 2)] 1 57 := ⟨⟨_, Tryd.func23, by kernel_rfl, by kernel_rfl, by kernel_rfl⟩, by decide, by decide⟩
/- watershed/watershedref09.Check -/
def cc66 : CC := (.seq (.region [⟨none, 1, (.box 0), [0], none, []⟩, ⟨none, 2, (.val (.mv (.c (.int .i64 0)))), [2], none, []⟩]) (.seq (.block 0 (.seq (.region [⟨none, 14, (.val (.fa (.s 1) 0)), [], none, []⟩, ⟨none, 15, (.val (.ld (.s 14) none)), [14], none, []⟩, ⟨none, 16, (.val (.lnl (.s 15) 2)), [15], none, []⟩, ⟨none, 17, (.val (.bin .gtr (.s 16) (.c (.int .i64 4)))), [16], none, []⟩, ⟨none, 18, (.val (.mv (.s 17))), [17], none, []⟩, ⟨(some (18, false)), 19, (.val (.fa (.s 1) 1)), [], none, []⟩, ⟨(some (18, false)), 20, (.val (.ld (.s 19) none)), [19], none, []⟩, ⟨(some (18, false)), 21, (.val (.lnl (.s 20) 3)), [20], none, []⟩, ⟨(some (18, false)), 22, (.val (.bin .gtr (.s 21) (.c (.int .i64 6)))), [21], none, []⟩, ⟨none, 23, (.val (.pick (.s 18) (.c (.bool true)) (.s 22))), [18, 22], none, []⟩, ⟨none, 24, (.val (.mv (.s 23))), [23], none, []⟩, ⟨(some (24, false)), 25, (.val (.fa (.s 1) 2)), [], none, []⟩, ⟨(some (24, false)), 26, (.val (.ld (.s 25) none)), [25], none, []⟩, ⟨(some (24, false)), 27, (.val (.lnl (.s 26) 6)), [26], none, []⟩, ⟨(some (24, false)), 28, (.val (.bin .gtr (.s 27) (.c (.int .i64 24)))), [27], none, []⟩, ⟨none, 29, (.val (.pick (.s 24) (.c (.bool true)) (.s 28))), [24, 28], none, []⟩, ⟨none, 30, (.val (.mv (.s 29))), [29], none, []⟩, ⟨(some (30, false)), 31, (.val (.fa (.s 1) 3)), [], none, []⟩, ⟨(some (30, false)), 32, (.val (.ld (.s 31) none)), [31], none, []⟩, ⟨(some (30, false)), 33, (.val (.lnl (.s 32) 2)), [32], none, []⟩, ⟨(some (30, false)), 34, (.val (.bin .gtr (.s 33) (.c (.int .i64 48)))), [33], none, []⟩, ⟨none, 35, (.val (.pick (.s 30) (.c (.bool true)) (.s 34))), [30, 34], none, []⟩, ⟨none, 13, (.val (.mv (.s 35))), [35], none, []⟩]) (.cond (.s 13) (.seq (.region [⟨none, 2, (.val (.mv (.c (.int .i64 7)))), [1, 13], none, []⟩]) .ret) (.seq (.region [⟨none, 37, (.val (.fa (.s 1) 0)), [13], none, []⟩, ⟨none, 38, (.val (.ld (.s 37) none)), [37], none, []⟩, ⟨none, 39, (.val (.lnl (.s 38) 2)), [38], none, []⟩, ⟨none, 40, (.val (.bin .eql (.s 39) (.c (.int .i64 0)))), [39], none, []⟩, ⟨none, 41, (.val (.mv (.s 40))), [40], none, []⟩, ⟨(some (41, false)), 42, (.val (.fa (.s 1) 2)), [], none, []⟩, ⟨(some (41, false)), 43, (.val (.ld (.s 42) none)), [42], none, []⟩, ⟨(some (41, false)), 44, (.val (.lnl (.s 43) 6)), [43], none, []⟩, ⟨(some (41, false)), 45, (.val (.bin .eql (.s 44) (.c (.int .i64 0)))), [44], none, []⟩, ⟨none, 46, (.val (.pick (.s 41) (.c (.bool true)) (.s 45))), [41, 45], none, []⟩, ⟨none, 36, (.val (.mv (.s 46))), [46], none, []⟩]) (.cond (.s 36) (.seq (.region [⟨none, 2, (.val (.mv (.c (.int .i64 3)))), [1, 36], none, []⟩]) .ret) .skip))))) (.seq (.region [⟨none, 3, (.val (.mv (.c (.slice none 0 0)))), [36], none, []⟩]) (.seq (.seq (.region [⟨none, 4, (.val (.mv (.c (.int .i64 0)))), [], none, []⟩]) (.block 1 (.loop (.seq (.seq (.region [⟨none, 47, (.val (.mv (.s 4))), [], none, []⟩, ⟨none, 48, (.val (.fa (.s 1) 0)), [], none, []⟩, ⟨none, 49, (.val (.ld (.s 48) none)), [48], none, []⟩, ⟨none, 50, (.val (.lnl (.s 49) 2)), [49], none, []⟩, ⟨none, 51, (.val (.bin .lss (.s 47) (.s 50))), [47, 50], none, []⟩]) (.cond (.s 51) .skip (.exit 1))) (.seq (.block 2 (.seq (.region [⟨none, 54, (.val (.fa (.s 1) 0)), [51], none, []⟩, ⟨none, 55, (.val (.ld (.s 54) none)), [54], none, []⟩, ⟨none, 56, (.val (.mv (.s 4))), [], none, []⟩, ⟨none, 57, (.val (.ia (.s 55) (.s 56) 2)), [55, 56], none, []⟩, ⟨none, 58, (.val (.fa (.s 57) 0)), [57], none, []⟩, ⟨none, 59, (.val (.ld (.s 58) none)), [58], none, []⟩, ⟨none, 60, (.val (.mv (.s 3))), [], none, []⟩, ⟨none, 61, (.call 51 [(.s 59), (.s 60)]), [59, 60], none, []⟩, ⟨none, 5, (.val (.mv (.s 61))), [61], none, []⟩]) (.seq (.seq (.region [⟨none, 62, (.val (.mv (.s 5))), [], none, []⟩, ⟨none, 63, (.val (.bin .neq (.s 62) (.c (.int .i64 0)))), [62], none, []⟩]) (.cond (.s 63) (.seq (.region [⟨none, 64, (.val (.mv (.s 5))), [1, 3, 4, 5, 63, 82, 83, 84, 85, 86, 87, 88], none, []⟩, ⟨none, 2, (.val (.mv (.s 64))), [64], none, []⟩]) .ret) .skip)) (.seq (.region [⟨none, 65, (.val (.mv (.s 3))), [3, 5, 63], none, []⟩, ⟨none, 66, (.val (.fa (.s 1) 0)), [], none, []⟩, ⟨none, 67, (.val (.ld (.s 66) none)), [66], none, []⟩, ⟨none, 68, (.val (.mv (.s 4))), [], none, []⟩, ⟨none, 69, (.val (.ia (.s 67) (.s 68) 2)), [67, 68], none, []⟩, ⟨none, 70, (.val (.fa (.s 69) 0)), [69], none, []⟩, ⟨none, 71, (.val (.ld (.s 70) none)), [70], none, []⟩, ⟨none, 72, (.lit 1 [(.s 71)]), [71], none, []⟩, ⟨none, 73, (.app 1 16 false (.s 65) (.s 72)), [65, 72], none, []⟩, ⟨none, 3, (.val (.mv (.s 73))), [73], none, []⟩]) (.seq (.region [⟨none, 74, (.val (.fa (.s 1) 0)), [], none, []⟩, ⟨none, 75, (.val (.ld (.s 74) none)), [74], none, []⟩, ⟨none, 76, (.val (.mv (.s 4))), [], none, []⟩, ⟨none, 77, (.val (.ia (.s 75) (.s 76) 2)), [75, 76], none, []⟩, ⟨none, 78, (.val (.fa (.s 77) 1)), [77], none, []⟩, ⟨none, 79, (.val (.ld (.s 78) none)), [78], none, []⟩, ⟨none, 80, (.val (.bin .lss (.s 79) (.c (.int .i64 1)))), [79], none, []⟩, ⟨none, 81, (.val (.mv (.s 80))), [80], none, []⟩, ⟨(some (81, false)), 82, (.val (.fa (.s 1) 0)), [], none, []⟩, ⟨(some (81, false)), 83, (.val (.ld (.s 82) none)), [], none, []⟩, ⟨(some (81, false)), 84, (.val (.mv (.s 4))), [], none, []⟩, ⟨(some (81, false)), 85, (.val (.ia (.s 83) (.s 84) 2)), [], none, []⟩, ⟨(some (81, false)), 86, (.val (.fa (.s 85) 1)), [], none, []⟩, ⟨(some (81, false)), 87, (.val (.ld (.s 86) none)), [], none, []⟩, ⟨(some (81, false)), 88, (.val (.bin .gtr (.s 87) (.c (.int .i64 4)))), [], none, []⟩, ⟨none, 89, (.val (.pick (.s 81) (.c (.bool true)) (.s 88))), [81], none, []⟩]) (.cond (.s 89) (.seq (.region [⟨none, 2, (.val (.mv (.c (.int .i64 1)))), [1, 3, 4, 82, 83, 84, 85, 86, 87, 88, 89], none, []⟩]) .ret) .skip)))))) (.region [⟨none, 52, (.val (.mv (.s 4))), [4, 89], none, []⟩, ⟨none, 53, (.val (.bin .add (.s 52) (.c (.int .i64 1)))), [52], none, []⟩, ⟨none, 4, (.val (.mv (.s 53))), [53], none, []⟩])))))) (.seq (.region [⟨none, 3, (.val (.mv (.c (.slice none 0 0)))), [4, 51, 82, 83, 84, 85, 86, 87, 88], none, []⟩]) (.seq (.seq (.region [⟨none, 6, (.val (.mv (.c (.int .i64 0)))), [], none, []⟩]) (.block 3 (.loop (.seq (.seq (.region [⟨none, 90, (.val (.mv (.s 6))), [], none, []⟩, ⟨none, 91, (.val (.fa (.s 1) 1)), [], none, []⟩, ⟨none, 92, (.val (.ld (.s 91) none)), [91], none, []⟩, ⟨none, 93, (.val (.lnl (.s 92) 3)), [92], none, []⟩, ⟨none, 94, (.val (.bin .lss (.s 90) (.s 93))), [90, 93], none, []⟩]) (.cond (.s 94) .skip (.exit 3))) (.seq (.block 4 (.seq (.region [⟨none, 97, (.val (.fa (.s 1) 1)), [94], none, []⟩, ⟨none, 98, (.val (.ld (.s 97) none)), [97], none, []⟩, ⟨none, 99, (.val (.mv (.s 6))), [], none, []⟩, ⟨none, 100, (.val (.ia (.s 98) (.s 99) 3)), [98, 99], none, []⟩, ⟨none, 101, (.val (.ld (.s 100) (some 3))), [100], none, []⟩, ⟨none, 7, (.alloc (.agg #[(.string ⟨#[]⟩), (.int .i64 0), (.int .i64 0)])), [], none, []⟩, ⟨none, 0, (.store 3 (.s 7) (.s 101)), [101], none, []⟩]) (.seq (.region [⟨none, 102, (.val (.fa (.s 7) 0)), [], none, []⟩, ⟨none, 103, (.val (.ld (.s 102) none)), [102], none, []⟩, ⟨none, 104, (.val (.mv (.s 3))), [], none, []⟩, ⟨none, 105, (.call 51 [(.s 103), (.s 104)]), [103, 104], none, []⟩, ⟨none, 8, (.val (.mv (.s 105))), [105], none, []⟩]) (.seq (.seq (.region [⟨none, 106, (.val (.mv (.s 8))), [], none, []⟩, ⟨none, 107, (.val (.bin .neq (.s 106) (.c (.int .i64 0)))), [106], none, []⟩]) (.cond (.s 107) (.seq (.region [⟨none, 108, (.val (.mv (.s 8))), [1, 3, 6, 7, 8, 107, 118, 119, 120, 121, 124, 125, 126, 129, 130, 131], none, []⟩, ⟨none, 2, (.val (.mv (.s 108))), [108], none, []⟩]) .ret) .skip)) (.seq (.region [⟨none, 109, (.val (.mv (.s 3))), [3, 8, 107], none, []⟩, ⟨none, 110, (.val (.fa (.s 7) 0)), [], none, []⟩, ⟨none, 111, (.val (.ld (.s 110) none)), [110], none, []⟩, ⟨none, 112, (.lit 1 [(.s 111)]), [111], none, []⟩, ⟨none, 113, (.app 1 16 false (.s 109) (.s 112)), [109, 112], none, []⟩, ⟨none, 3, (.val (.mv (.s 113))), [113], none, []⟩]) (.seq (.seq (.region [⟨none, 114, (.val (.fa (.s 7) 1)), [], none, []⟩, ⟨none, 115, (.val (.ld (.s 114) none)), [114], none, []⟩, ⟨none, 116, (.val (.bin .lss (.s 115) (.c (.int .i64 (-1))))), [115], none, []⟩, ⟨none, 117, (.val (.mv (.s 116))), [116], none, []⟩, ⟨(some (117, false)), 118, (.val (.fa (.s 7) 1)), [], none, []⟩, ⟨(some (117, false)), 119, (.val (.ld (.s 118) none)), [], none, []⟩, ⟨(some (117, false)), 120, (.val (.mv (.s 6))), [], none, []⟩, ⟨(some (117, false)), 121, (.val (.bin .geq (.s 119) (.s 120))), [], none, []⟩, ⟨none, 122, (.val (.pick (.s 117) (.c (.bool true)) (.s 121))), [117], none, []⟩, ⟨none, 123, (.val (.mv (.s 122))), [122], none, []⟩, ⟨(some (123, false)), 124, (.val (.fa (.s 7) 2)), [], none, []⟩, ⟨(some (123, false)), 125, (.val (.ld (.s 124) none)), [], none, []⟩, ⟨(some (123, false)), 126, (.val (.bin .lss (.s 125) (.c (.int .i64 1)))), [], none, []⟩, ⟨none, 127, (.val (.pick (.s 123) (.c (.bool true)) (.s 126))), [123], none, []⟩, ⟨none, 128, (.val (.mv (.s 127))), [127], none, []⟩, ⟨(some (128, false)), 129, (.val (.fa (.s 7) 2)), [7], none, []⟩, ⟨(some (128, false)), 130, (.val (.ld (.s 129) none)), [], none, []⟩, ⟨(some (128, false)), 131, (.val (.bin .gtr (.s 130) (.c (.int .i64 8)))), [], none, []⟩, ⟨none, 132, (.val (.pick (.s 128) (.c (.bool true)) (.s 131))), [128], none, []⟩]) (.cond (.s 132) (.seq (.region [⟨none, 2, (.val (.mv (.c (.int .i64 1)))), [1, 3, 6, 118, 119, 120, 121, 124, 125, 126, 129, 130, 131, 132], none, []⟩]) .ret) .skip)) (.seq (.region [⟨none, 133, (.val (.ld (.s 1) (some 4))), [132], none, []⟩, ⟨none, 134, (.val (.mv (.s 6))), [], none, []⟩, ⟨none, 135, (.callP 52 [(.s 133), (.s 134)]), [133, 134], none, []⟩, ⟨none, 136, (.val (.bin .gtr (.s 135) (.c (.int .i64 3)))), [135], none, []⟩]) (.cond (.s 136) (.seq (.region [⟨none, 2, (.val (.mv (.c (.int .i64 10)))), [1, 3, 6, 118, 119, 120, 121, 124, 125, 126, 129, 130, 131, 136], none, []⟩]) .ret) .skip)))))))) (.region [⟨none, 95, (.val (.mv (.s 6))), [6, 136], none, []⟩, ⟨none, 96, (.val (.bin .add (.s 95) (.c (.int .i64 1)))), [95], none, []⟩, ⟨none, 6, (.val (.mv (.s 96))), [96], none, []⟩])))))) (.seq (.region [⟨none, 3, (.val (.mv (.c (.slice none 0 0)))), [6, 94, 118, 119, 120, 121, 124, 125, 126, 129, 130, 131], none, []⟩]) (.seq (.seq (.region [⟨none, 9, (.val (.mv (.c (.int .i64 0)))), [], none, []⟩]) (.block 5 (.loop (.seq (.seq (.region [⟨none, 137, (.val (.mv (.s 9))), [], none, []⟩, ⟨none, 138, (.val (.fa (.s 1) 2)), [], none, []⟩, ⟨none, 139, (.val (.ld (.s 138) none)), [138], none, []⟩, ⟨none, 140, (.val (.lnl (.s 139) 6)), [139], none, []⟩, ⟨none, 141, (.val (.bin .lss (.s 137) (.s 140))), [137, 140], none, []⟩]) (.cond (.s 141) .skip (.exit 5))) (.seq (.block 6 (.seq (.region [⟨none, 144, (.val (.fa (.s 1) 2)), [141], none, []⟩, ⟨none, 145, (.val (.ld (.s 144) none)), [144], none, []⟩, ⟨none, 146, (.val (.mv (.s 9))), [], none, []⟩, ⟨none, 147, (.val (.ia (.s 145) (.s 146) 6)), [145, 146], none, []⟩, ⟨none, 148, (.val (.fa (.s 147) 0)), [147], none, []⟩, ⟨none, 149, (.val (.ld (.s 148) none)), [148], none, []⟩, ⟨none, 150, (.val (.mv (.s 3))), [], none, []⟩, ⟨none, 151, (.call 51 [(.s 149), (.s 150)]), [149, 150], none, []⟩, ⟨none, 10, (.val (.mv (.s 151))), [151], none, []⟩]) (.seq (.seq (.region [⟨none, 152, (.val (.mv (.s 10))), [], none, []⟩, ⟨none, 153, (.val (.bin .eql (.s 152) (.c (.int .i64 0)))), [152], none, []⟩]) (.cond (.s 153) (.region [⟨none, 154, (.val (.ld (.s 1) (some 4))), [10, 153], none, []⟩, ⟨none, 155, (.val (.fa (.s 1) 2)), [], none, []⟩, ⟨none, 156, (.val (.ld (.s 155) none)), [155], none, []⟩, ⟨none, 157, (.val (.mv (.s 9))), [], none, []⟩, ⟨none, 158, (.val (.ia (.s 156) (.s 157) 6)), [156, 157], none, []⟩, ⟨none, 159, (.val (.ld (.s 158) (some 6))), [158], none, []⟩, ⟨none, 160, (.callP 53 [(.s 154), (.s 159)]), [154, 159], none, []⟩, ⟨none, 10, (.val (.mv (.s 160))), [160], none, []⟩]) .skip)) (.seq (.seq (.region [⟨none, 161, (.val (.mv (.s 10))), [153], none, []⟩, ⟨none, 162, (.val (.bin .neq (.s 161) (.c (.int .i64 0)))), [161], none, []⟩]) (.cond (.s 162) (.seq (.region [⟨none, 163, (.val (.mv (.s 10))), [1, 3, 9, 10, 162], none, []⟩, ⟨none, 2, (.val (.mv (.s 163))), [163], none, []⟩]) .ret) .skip)) (.region [⟨none, 164, (.val (.mv (.s 3))), [3, 10, 162], none, []⟩, ⟨none, 165, (.val (.fa (.s 1) 2)), [], none, []⟩, ⟨none, 166, (.val (.ld (.s 165) none)), [165], none, []⟩, ⟨none, 167, (.val (.mv (.s 9))), [], none, []⟩, ⟨none, 168, (.val (.ia (.s 166) (.s 167) 6)), [166, 167], none, []⟩, ⟨none, 169, (.val (.fa (.s 168) 0)), [168], none, []⟩, ⟨none, 170, (.val (.ld (.s 169) none)), [169], none, []⟩, ⟨none, 171, (.lit 1 [(.s 170)]), [170], none, []⟩, ⟨none, 172, (.app 1 16 false (.s 164) (.s 171)), [164, 171], none, []⟩, ⟨none, 3, (.val (.mv (.s 172))), [172], none, []⟩]))))) (.region [⟨none, 142, (.val (.mv (.s 9))), [9], none, []⟩, ⟨none, 143, (.val (.bin .add (.s 142) (.c (.int .i64 1)))), [142], none, []⟩, ⟨none, 9, (.val (.mv (.s 143))), [143], none, []⟩])))))) (.seq (.seq (.region [⟨none, 11, (.val (.mv (.c (.int .i64 0)))), [3, 9, 141], none, []⟩]) (.block 7 (.loop (.seq (.seq (.region [⟨none, 173, (.val (.mv (.s 11))), [], none, []⟩, ⟨none, 174, (.val (.fa (.s 1) 3)), [], none, []⟩, ⟨none, 175, (.val (.ld (.s 174) none)), [174], none, []⟩, ⟨none, 176, (.val (.lnl (.s 175) 2)), [175], none, []⟩, ⟨none, 177, (.val (.bin .lss (.s 173) (.s 176))), [173, 176], none, []⟩]) (.cond (.s 177) .skip (.exit 7))) (.seq (.block 8 (.seq (.region [⟨none, 180, (.val (.ld (.s 1) (some 4))), [177], none, []⟩, ⟨none, 181, (.val (.mv (.s 11))), [], none, []⟩, ⟨none, 182, (.callP 54 [(.s 180), (.s 181)]), [180, 181], none, []⟩, ⟨none, 12, (.val (.mv (.s 182))), [182], none, []⟩]) (.seq (.region [⟨none, 183, (.val (.mv (.s 12))), [], none, []⟩, ⟨none, 184, (.val (.bin .neq (.s 183) (.c (.int .i64 0)))), [183], none, []⟩]) (.cond (.s 184) (.seq (.region [⟨none, 185, (.val (.mv (.s 12))), [1, 11, 12, 184], none, []⟩, ⟨none, 2, (.val (.mv (.s 185))), [185], none, []⟩]) .ret) .skip)))) (.region [⟨none, 178, (.val (.mv (.s 11))), [11, 12, 184], none, []⟩, ⟨none, 179, (.val (.bin .add (.s 178) (.c (.int .i64 1)))), [178], none, []⟩, ⟨none, 11, (.val (.mv (.s 179))), [179], none, []⟩])))))) (.seq (.region [⟨none, 2, (.val (.mv (.c (.int .i64 0)))), [1, 11, 177], none, []⟩]) .ret))))))))))
theorem ok66 : FnOk Tryd.prog 28 cc66 [(.t 2)] 1 186 := ⟨⟨_, Tryd.func28, by kernel_rfl, by kernel_rfl, by kernel_rfl⟩, by decide, by decide⟩
theorem c65 (g : Gr) {Q : AV → Al → Prop} (h : Q (i64A (chk g)) []) : ACalls Tryd.prog 23 [] [gA g] Q := by
  refine ok65.N hmix rfl ?_
  intro I
  have long : (4 < g.cl.length ∨ 6 < g.lo.length ∨ 24 < g.op.length ∨ 48 < g.ch.length) → Q (.v (.int .i64 7)) [] := by
    intro hl; simpa [chk, hl, i64A] using h
  by_cases a1 : (4 : Int) < g.cl.length
  · simp only [cc65, OI, ↓reduceIte, reduceCtorEq, Nat.reduceAdd, Nat.reduceEqDiff, Nat.reduceBEq, Nat.reduceLT, Nat.reduceLeDiff, Nat.reduceMul, Nat.reduceSub, Int.reduceLE, Int.reduceLT, Int.reduceEq, Int.reduceBEq, Int.reduceBNe, Int.reduceToNat, Int.reduceNeg, Nat.reduceBNe, gA, a1]
    exact long (by omega)
  by_cases a2 : (6 : Int) < g.lo.length
  · simp only [cc65, OI, ↓reduceIte, reduceCtorEq, Nat.reduceAdd, Nat.reduceEqDiff, Nat.reduceBEq, Nat.reduceLT, Nat.reduceLeDiff, Nat.reduceMul, Nat.reduceSub, Int.reduceLE, Int.reduceLT, Int.reduceEq, Int.reduceBEq, Int.reduceBNe, Int.reduceToNat, Int.reduceNeg, Nat.reduceBNe, gA, a1, a2]
    exact long (by omega)
  by_cases a3 : (24 : Int) < g.op.length
  · simp only [cc65, OI, ↓reduceIte, reduceCtorEq, Nat.reduceAdd, Nat.reduceEqDiff, Nat.reduceBEq, Nat.reduceLT, Nat.reduceLeDiff, Nat.reduceMul, Nat.reduceSub, Int.reduceLE, Int.reduceLT, Int.reduceEq, Int.reduceBEq, Int.reduceBNe, Int.reduceToNat, Int.reduceNeg, Nat.reduceBNe, gA, a1, a2, a3]
    exact long (by omega)
  by_cases a4 : (48 : Int) < g.ch.length
  · simp only [cc65, OI, ↓reduceIte, reduceCtorEq, Nat.reduceAdd, Nat.reduceEqDiff, Nat.reduceBEq, Nat.reduceLT, Nat.reduceLeDiff, Nat.reduceMul, Nat.reduceSub, Int.reduceLE, Int.reduceLT, Int.reduceEq, Int.reduceBEq, Int.reduceBNe, Int.reduceToNat, Int.reduceNeg, Nat.reduceBNe, gA, a1, a2, a3, a4]
    exact long (by omega)
  have hc : chk g = if g.cl.length = 0 ∨ g.op.length = 0 then 3 else if clE [] g.cl ≠ 0 then clE [] g.cl else if loE g.lo [] 0 g.lo ≠ 0 then loE g.lo [] 0 g.lo else if opE g [] g.op ≠ 0 then opE g [] g.op else chE g 0 g.ch := by
    rw [chk, if_neg (by omega)]
  rw [hc] at h
  by_cases b1 : (g.cl.length : Int) = 0
  · rw [if_pos (.inl (by omega))] at h
    simp only [cc65, OI, ↓reduceIte, reduceCtorEq, Nat.reduceAdd, Nat.reduceEqDiff, Nat.reduceBEq, Nat.reduceLT, Nat.reduceLeDiff, Nat.reduceMul, Nat.reduceSub, Int.reduceLE, Int.reduceLT, Int.reduceEq, Int.reduceBEq, Int.reduceBNe, Int.reduceToNat, Int.reduceNeg, Nat.reduceBNe, gA, a1, a2, a3, a4, beqT b1]
    exact h
  by_cases b2 : (g.op.length : Int) = 0
  · rw [if_pos (.inr (by omega))] at h
    simp only [cc65, OI, ↓reduceIte, reduceCtorEq, Nat.reduceAdd, Nat.reduceEqDiff, Nat.reduceBEq, Nat.reduceLT, Nat.reduceLeDiff, Nat.reduceMul, Nat.reduceSub, Int.reduceLE, Int.reduceLT, Int.reduceEq, Int.reduceBEq, Int.reduceBNe, Int.reduceToNat, Int.reduceNeg, Nat.reduceBNe, gA, a1, a2, a3, a4, beqF b1, beqT b2]
    exact h
  rw [if_neg (by omega)] at h
  simp only [cc65, OI, ↓reduceIte, reduceCtorEq, Nat.reduceAdd, Nat.reduceEqDiff, Nat.reduceBEq, Nat.reduceLT, Nat.reduceLeDiff, Nat.reduceMul, Nat.reduceSub, Int.reduceLE, Int.reduceLT, Int.reduceEq, Int.reduceBEq, Int.reduceBNe, Int.reduceToNat, Int.reduceNeg, Nat.reduceBNe, gA, a1, a2, a3, a4, beqF b1, beqF b2]
  refine c156 g (by omega) ?_
  by_cases e1 : clE [] g.cl = 0
  · rw [if_neg (by simpa using e1)] at h
    simp only [OI, ↓reduceIte, reduceCtorEq, Nat.reduceAdd, Nat.reduceEqDiff, Nat.reduceBEq, Nat.reduceLT, Nat.reduceLeDiff, Nat.reduceMul, Nat.reduceSub, Int.reduceLE, Int.reduceLT, Int.reduceEq, Int.reduceBEq, Int.reduceBNe, Int.reduceToNat, Int.reduceNeg, Nat.reduceBNe, i64A, bneF e1]
    refine c157 g (by omega) ?_
    by_cases e2 : loE g.lo [] 0 g.lo = 0
    · rw [if_neg (by simpa using e2)] at h
      simp only [OI, ↓reduceIte, reduceCtorEq, Nat.reduceAdd, Nat.reduceEqDiff, Nat.reduceBEq, Nat.reduceLT, Nat.reduceLeDiff, Nat.reduceMul, Nat.reduceSub, Int.reduceLE, Int.reduceLT, Int.reduceEq, Int.reduceBEq, Int.reduceBNe, Int.reduceToNat, Int.reduceNeg, Nat.reduceBNe, i64A, bneF e2]
      refine c158 g (by omega) ?_
      by_cases e3 : opE g [] g.op = 0
      · rw [if_neg (by simpa using e3)] at h
        simp only [OI, ↓reduceIte, reduceCtorEq, Nat.reduceAdd, Nat.reduceEqDiff, Nat.reduceBEq, Nat.reduceLT, Nat.reduceLeDiff, Nat.reduceMul, Nat.reduceSub, Int.reduceLE, Int.reduceLT, Int.reduceEq, Int.reduceBEq, Int.reduceBNe, Int.reduceToNat, Int.reduceNeg, Nat.reduceBNe, i64A, bneF e3]
        refine c159 g (by omega) (by omega) (opE0_oks e3) ?_
        simp only [OI, ↓reduceIte, reduceCtorEq, Nat.reduceAdd, Nat.reduceEqDiff, Nat.reduceBEq, Nat.reduceLT, Nat.reduceLeDiff, Nat.reduceMul, Nat.reduceSub, Int.reduceLE, Int.reduceLT, Int.reduceEq, Int.reduceBEq, Int.reduceBNe, Int.reduceToNat, Int.reduceNeg, Nat.reduceBNe, i64A]
        exact h
      · rw [if_pos e3] at h
        simp only [OI, ↓reduceIte, reduceCtorEq, Nat.reduceAdd, Nat.reduceEqDiff, Nat.reduceBEq, Nat.reduceLT, Nat.reduceLeDiff, Nat.reduceMul, Nat.reduceSub, Int.reduceLE, Int.reduceLT, Int.reduceEq, Int.reduceBEq, Int.reduceBNe, Int.reduceToNat, Int.reduceNeg, Nat.reduceBNe, i64A, bneT e3]
        exact h
    · rw [if_pos e2] at h
      simp only [OI, ↓reduceIte, reduceCtorEq, Nat.reduceAdd, Nat.reduceEqDiff, Nat.reduceBEq, Nat.reduceLT, Nat.reduceLeDiff, Nat.reduceMul, Nat.reduceSub, Int.reduceLE, Int.reduceLT, Int.reduceEq, Int.reduceBEq, Int.reduceBNe, Int.reduceToNat, Int.reduceNeg, Nat.reduceBNe, i64A, bneT e2]
      exact h
  · rw [if_pos e1] at h
    simp only [OI, ↓reduceIte, reduceCtorEq, Nat.reduceAdd, Nat.reduceEqDiff, Nat.reduceBEq, Nat.reduceLT, Nat.reduceLeDiff, Nat.reduceMul, Nat.reduceSub, Int.reduceLE, Int.reduceLT, Int.reduceEq, Int.reduceBEq, Int.reduceBNe, Int.reduceToNat, Int.reduceNeg, Nat.reduceBNe, i64A, bneT e1]
    exact h
/-- Names are not too long to be counted. -/
structure NmOk (g : Gr) : Prop where
  cl : ∀ (i : Nat) c, g.cl[i]? = some c → c.1.size ≤ 1000000
  lo : ∀ (i : Nat) c, g.lo[i]? = some c → c.1.size ≤ 1000000
  op : ∀ (i : Nat) c, g.op[i]? = some c → c.nm.size ≤ 1000000
theorem view_str {l : List ByteArray} {i : Nat} (h : l.length = i) : List.map frz (List.take i (List.map strA l)) = List.map strA l := by
  rw [List.take_of_length_le (by simp [h]), List.map_map]
  exact List.map_congr_left fun _ _ => rfl
def st66a (I : World → Fp → Value → Fp → Prop) (g : Gr) (i : Nat) : St :=
  ⟨[(4, .v (.int .i64 i)), (3, .sl ⟨2073, [], 0⟩ 1 0 i), (1, .ref ⟨1001, [], 0⟩)], [(2073, .own 1 ((cns (g.cl.take i)).map strA)), (1001, gA g), (9999, .ext I)], []⟩
def st66b (I : World → Fp → Value → Fp → Prop) (g : Gr) (i : Nat) : St :=
  ⟨[(6, .v (.int .i64 i)), (3, .sl ⟨2113, [], 0⟩ 1 0 i), (1, .ref ⟨1001, [], 0⟩)], [(2113, .own 1 ((lns (g.lo.take i)).map strA)), (1001, gA g), (9999, .ext I)], []⟩
def st66c (I : World → Fp → Value → Fp → Prop) (g : Gr) (i : Nat) : St :=
  ⟨[(9, .v (.int .i64 i)), (3, .sl ⟨2172, [], 0⟩ 1 0 i), (1, .ref ⟨1001, [], 0⟩)], [(2172, .own 1 ((ons (g.op.take i)).map strA)), (1001, gA g), (9999, .ext I)], []⟩
def st66d (I : World → Fp → Value → Fp → Prop) (g : Gr) (i : Nat) : St :=
  ⟨[(11, .v (.int .i64 i)), (1, .ref ⟨1001, [], 0⟩)], [(1001, gA g), (9999, .ext I)], []⟩
theorem c66 (g : Gr) (hn : NmOk g) {Q : AV → Al → Prop} (h : Q (i64A (chk g)) []) : ACalls Tryd.prog 28 [] [gA g] Q := by
  refine ok66.N hmix rfl ?_
  intro I
  have long : (4 < g.cl.length ∨ 6 < g.lo.length ∨ 24 < g.op.length ∨ 48 < g.ch.length) → Q (.v (.int .i64 7)) [] := by
    intro hl; simpa [chk, hl, i64A] using h
  by_cases a1 : (4 : Int) < g.cl.length
  · simp only [cc66, OI, ↓reduceIte, reduceCtorEq, Nat.reduceAdd, Nat.reduceEqDiff, Nat.reduceBEq, Nat.reduceLT, Nat.reduceLeDiff, Nat.reduceMul, Nat.reduceSub, Int.reduceLE, Int.reduceLT, Int.reduceEq, Int.reduceBEq, Int.reduceBNe, Int.reduceToNat, Int.reduceNeg, Nat.reduceBNe, gA, a1]
    exact long (by omega)
  by_cases a2 : (6 : Int) < g.lo.length
  · simp only [cc66, OI, ↓reduceIte, reduceCtorEq, Nat.reduceAdd, Nat.reduceEqDiff, Nat.reduceBEq, Nat.reduceLT, Nat.reduceLeDiff, Nat.reduceMul, Nat.reduceSub, Int.reduceLE, Int.reduceLT, Int.reduceEq, Int.reduceBEq, Int.reduceBNe, Int.reduceToNat, Int.reduceNeg, Nat.reduceBNe, gA, a1, a2]
    exact long (by omega)
  by_cases a3 : (24 : Int) < g.op.length
  · simp only [cc66, OI, ↓reduceIte, reduceCtorEq, Nat.reduceAdd, Nat.reduceEqDiff, Nat.reduceBEq, Nat.reduceLT, Nat.reduceLeDiff, Nat.reduceMul, Nat.reduceSub, Int.reduceLE, Int.reduceLT, Int.reduceEq, Int.reduceBEq, Int.reduceBNe, Int.reduceToNat, Int.reduceNeg, Nat.reduceBNe, gA, a1, a2, a3]
    exact long (by omega)
  by_cases a4 : (48 : Int) < g.ch.length
  · simp only [cc66, OI, ↓reduceIte, reduceCtorEq, Nat.reduceAdd, Nat.reduceEqDiff, Nat.reduceBEq, Nat.reduceLT, Nat.reduceLeDiff, Nat.reduceMul, Nat.reduceSub, Int.reduceLE, Int.reduceLT, Int.reduceEq, Int.reduceBEq, Int.reduceBNe, Int.reduceToNat, Int.reduceNeg, Nat.reduceBNe, gA, a1, a2, a3, a4]
    exact long (by omega)
  have hc : chk g = if g.cl.length = 0 ∨ g.op.length = 0 then 3 else if clE [] g.cl ≠ 0 then clE [] g.cl else if loE g.lo [] 0 g.lo ≠ 0 then loE g.lo [] 0 g.lo else if opE g [] g.op ≠ 0 then opE g [] g.op else chE g 0 g.ch := by
    rw [chk, if_neg (by omega)]
  rw [hc] at h
  by_cases b1 : (g.cl.length : Int) = 0
  · rw [if_pos (.inl (by omega))] at h
    simp only [cc66, OI, ↓reduceIte, reduceCtorEq, Nat.reduceAdd, Nat.reduceEqDiff, Nat.reduceBEq, Nat.reduceLT, Nat.reduceLeDiff, Nat.reduceMul, Nat.reduceSub, Int.reduceLE, Int.reduceLT, Int.reduceEq, Int.reduceBEq, Int.reduceBNe, Int.reduceToNat, Int.reduceNeg, Nat.reduceBNe, gA, a1, a2, a3, a4, beqT b1]
    exact h
  by_cases b2 : (g.op.length : Int) = 0
  · rw [if_pos (.inr (by omega))] at h
    simp only [cc66, OI, ↓reduceIte, reduceCtorEq, Nat.reduceAdd, Nat.reduceEqDiff, Nat.reduceBEq, Nat.reduceLT, Nat.reduceLeDiff, Nat.reduceMul, Nat.reduceSub, Int.reduceLE, Int.reduceLT, Int.reduceEq, Int.reduceBEq, Int.reduceBNe, Int.reduceToNat, Int.reduceNeg, Nat.reduceBNe, gA, a1, a2, a3, a4, beqF b1, beqT b2]
    exact h
  rw [if_neg (by omega)] at h
  simp only [cc66, OI, ↓reduceIte, reduceCtorEq, Nat.reduceAdd, Nat.reduceEqDiff, Nat.reduceBEq, Nat.reduceLT, Nat.reduceLeDiff, Nat.reduceMul, Nat.reduceSub, Int.reduceLE, Int.reduceLT, Int.reduceEq, Int.reduceBEq, Int.reduceBNe, Int.reduceToNat, Int.reduceNeg, Nat.reduceBNe, gA, a1, a2, a3, a4, beqF b1, beqF b2]
  refine W_nilS 3 2073 1 (by decide) rfl rfl (by decide) rfl ?_
  refine W_loop (st66a I g) (fun i => i ≤ g.cl.length ∧ clE [] g.cl = clE (cns (g.cl.take i)) (g.cl.drop i)) (fun i => g.cl.length - i) (fun _ _ => rfl) ⟨0, ⟨by omega, rfl⟩, ?_⟩ ?_
  · simp only [OI, ↓reduceIte, reduceCtorEq, Nat.reduceAdd, Nat.reduceEqDiff, Nat.reduceBEq, Nat.reduceLT, Nat.reduceLeDiff, Nat.reduceMul, Nat.reduceSub, Int.reduceLE, Int.reduceLT, Int.reduceEq, Int.reduceBEq, Int.reduceBNe, Int.reduceToNat, Int.reduceNeg, Nat.reduceBNe, st66a, gA, cns]
    try trace_state
  rintro i ⟨hi, he⟩
  refine W_of_N ok66.small hmix ?_
  by_cases hil : i < g.cl.length
  · have hil' : (i : Int) < g.cl.length := by omega
    have i0 : (0 : Int) ≤ i := by omega
    have hgi : g.cl[i]? = some g.cl[i] := List.getElem?_eq_getElem hil
    have w1 : IntKind.i64.wrap ((i : Int) + 1) = ((i + 1 : Nat) : Int) := by rw [wrI64 (by omega) (by omega)]; omega
    rw [drop_cons hgi] at he
    generalize hc : g.cl[i] = c at hgi he
    have hcl : (cns (g.cl.take i)).length = i := by simp [cns]; omega
    simp only [OI, ↓reduceIte, reduceCtorEq, Nat.reduceAdd, Nat.reduceEqDiff, Nat.reduceBEq, Nat.reduceLT, Nat.reduceLeDiff, Nat.reduceMul, Nat.reduceSub, Int.reduceLE, Int.reduceLT, Int.reduceEq, Int.reduceBEq, Int.reduceBNe, Int.reduceToNat, Int.reduceNeg, Nat.reduceBNe, st66a, hil', i0, hgi, w1, clA, gA, hcl, view_str hcl, Nat.le_refl]
    refine c160 c.1 (cns (g.cl.take i)) (hn.cl _ _ hgi) (by omega) ?_
    simp only [clE] at he
    by_cases hr : seeR c.1 (cns (g.cl.take i)) = 0
    · rw [if_neg (by simpa using hr)] at he
      have nxt : cns (g.cl.take (i + 1)) = cns (g.cl.take i) ++ [c.1] := by rw [take_snoc hgi]; simp only [cns, List.map_append, List.map_cons, List.map_nil]
      simp only [OI, ↓reduceIte, reduceCtorEq, Nat.reduceAdd, Nat.reduceEqDiff, Nat.reduceBEq, Nat.reduceLT, Nat.reduceLeDiff, Nat.reduceMul, Nat.reduceSub, Int.reduceLE, Int.reduceLT, Int.reduceEq, Int.reduceBEq, Int.reduceBNe, Int.reduceToNat, Int.reduceNeg, Nat.reduceBNe, i64A, bneF hr, hil', i0, hgi, clA, hcl]
      refine ⟨⟨by omega, by omega⟩, ?_⟩
      by_cases c1 : c.2 < 1
      · simp only [OI, ↓reduceIte, reduceCtorEq, Nat.reduceAdd, Nat.reduceEqDiff, Nat.reduceBEq, Nat.reduceLT, Nat.reduceLeDiff, Nat.reduceMul, Nat.reduceSub, Int.reduceLE, Int.reduceLT, Int.reduceEq, Int.reduceBEq, Int.reduceBNe, Int.reduceToNat, Int.reduceNeg, Nat.reduceBNe, i64A, bneF hr, hil', i0, hgi, clA, hcl, c1]
        rw [if_pos (.inl c1)] at he
        rw [if_pos (by rw [he]; decide), he] at h; exact h
      by_cases c2 : 4 < c.2
      · simp only [OI, ↓reduceIte, reduceCtorEq, Nat.reduceAdd, Nat.reduceEqDiff, Nat.reduceBEq, Nat.reduceLT, Nat.reduceLeDiff, Nat.reduceMul, Nat.reduceSub, Int.reduceLE, Int.reduceLT, Int.reduceEq, Int.reduceBEq, Int.reduceBNe, Int.reduceToNat, Int.reduceNeg, Nat.reduceBNe, i64A, bneF hr, hil', i0, hgi, clA, hcl, c1, c2]
        rw [if_pos (.inr c2)] at he
        rw [if_pos (by rw [he]; decide), he] at h; exact h
      rw [if_neg (by omega)] at he
      simp only [OI, ↓reduceIte, reduceCtorEq, Nat.reduceAdd, Nat.reduceEqDiff, Nat.reduceBEq, Nat.reduceLT, Nat.reduceLeDiff, Nat.reduceMul, Nat.reduceSub, Int.reduceLE, Int.reduceLT, Int.reduceEq, Int.reduceBEq, Int.reduceBNe, Int.reduceToNat, Int.reduceNeg, Nat.reduceBNe, i64A, bneF hr, hil', i0, hgi, clA, hcl, c1, c2, w1]
      refine ⟨i + 1, ⟨⟨by omega, by rw [nxt]; exact he⟩, by omega⟩, ?_⟩
      simp only [OI, ↓reduceIte, reduceCtorEq, Nat.reduceAdd, Nat.reduceEqDiff, Nat.reduceBEq, Nat.reduceLT, Nat.reduceLeDiff, Nat.reduceMul, Nat.reduceSub, Int.reduceLE, Int.reduceLT, Int.reduceEq, Int.reduceBEq, Int.reduceBNe, Int.reduceToNat, Int.reduceNeg, Nat.reduceBNe, st66a, gA, nxt, List.map_append, List.map_cons, List.map_nil, strA]
    · rw [if_pos hr] at he
      simp only [OI, ↓reduceIte, reduceCtorEq, Nat.reduceAdd, Nat.reduceEqDiff, Nat.reduceBEq, Nat.reduceLT, Nat.reduceLeDiff, Nat.reduceMul, Nat.reduceSub, Int.reduceLE, Int.reduceLT, Int.reduceEq, Int.reduceBEq, Int.reduceBNe, Int.reduceToNat, Int.reduceNeg, Nat.reduceBNe, i64A, bneT hr]
      rw [if_pos (by rw [he]; exact hr), he] at h; exact h
  obtain rfl : i = g.cl.length := by omega
  rw [List.drop_length] at he
  have he0 : clE [] g.cl = 0 := he
  clear he
  rw [if_neg (by rw [he0]; decide)] at h
  simp only [OI, ↓reduceIte, reduceCtorEq, Nat.reduceAdd, Nat.reduceEqDiff, Nat.reduceBEq, Nat.reduceLT, Nat.reduceLeDiff, Nat.reduceMul, Nat.reduceSub, Int.reduceLE, Int.reduceLT, Int.reduceEq, Int.reduceBEq, Int.reduceBNe, Int.reduceToNat, Int.reduceNeg, Nat.reduceBNe, st66a, Int.lt_irrefl, gA]
  refine W_nilS 3 2113 1 (by decide) rfl rfl (by decide) rfl ?_
  refine W_loop (st66b I g) (fun i => i ≤ g.lo.length ∧ WfL g.lo i ∧ loE g.lo [] 0 g.lo = loE g.lo (lns (g.lo.take i)) i (g.lo.drop i)) (fun i => g.lo.length - i) (fun _ _ => rfl) ⟨0, ⟨by omega, fun k hk => by omega, rfl⟩, ?_⟩ ?_
  · simp only [OI, ↓reduceIte, reduceCtorEq, Nat.reduceAdd, Nat.reduceEqDiff, Nat.reduceBEq, Nat.reduceLT, Nat.reduceLeDiff, Nat.reduceMul, Nat.reduceSub, Int.reduceLE, Int.reduceLT, Int.reduceEq, Int.reduceBEq, Int.reduceBNe, Int.reduceToNat, Int.reduceNeg, Nat.reduceBNe, st66b, gA, lns]
    try trace_state
  rintro i ⟨hi, hW, he⟩
  refine W_of_N ok66.small hmix ?_
  by_cases hil : i < g.lo.length
  · have hil' : (i : Int) < g.lo.length := by omega
    have i0 : (0 : Int) ≤ i := by omega
    have hgi : g.lo[i]? = some g.lo[i] := List.getElem?_eq_getElem hil
    have w1 : IntKind.i64.wrap ((i : Int) + 1) = ((i + 1 : Nat) : Int) := by rw [wrI64 (by omega) (by omega)]; omega
    rw [drop_cons hgi] at he
    generalize hc : g.lo[i] = c at hgi he
    have hcl : (lns (g.lo.take i)).length = i := by simp [lns]; omega
    simp only [OI, ↓reduceIte, reduceCtorEq, Nat.reduceAdd, Nat.reduceEqDiff, Nat.reduceBEq, Nat.reduceLT, Nat.reduceLeDiff, Nat.reduceMul, Nat.reduceSub, Int.reduceLE, Int.reduceLT, Int.reduceEq, Int.reduceBEq, Int.reduceBNe, Int.reduceToNat, Int.reduceNeg, Nat.reduceBNe, st66b, hil', i0, hgi, w1, loA, gA, hcl, view_str hcl, Nat.le_refl]
    refine c160 c.1 (lns (g.lo.take i)) (hn.lo _ _ hgi) (by omega) ?_
    simp only [loE] at he
    by_cases hr : seeR c.1 (lns (g.lo.take i)) = 0
    · rw [if_neg (by simpa using hr)] at he
      have nxt : lns (g.lo.take (i + 1)) = lns (g.lo.take i) ++ [c.1] := by rw [take_snoc hgi]; simp only [lns, List.map_append, List.map_cons, List.map_nil]
      simp only [OI, ↓reduceIte, reduceCtorEq, Nat.reduceAdd, Nat.reduceEqDiff, Nat.reduceBEq, Nat.reduceLT, Nat.reduceLeDiff, Nat.reduceMul, Nat.reduceSub, Int.reduceLE, Int.reduceLT, Int.reduceEq, Int.reduceBEq, Int.reduceBNe, Int.reduceToNat, Int.reduceNeg, Nat.reduceBNe, i64A, bneF hr, hil', i0, hgi, loA, hcl]
      refine ⟨⟨by omega, by omega⟩, ?_⟩
      by_cases c1 : c.2.1 < -1
      · simp only [OI, ↓reduceIte, reduceCtorEq, Nat.reduceAdd, Nat.reduceEqDiff, Nat.reduceBEq, Nat.reduceLT, Nat.reduceLeDiff, Nat.reduceMul, Nat.reduceSub, Int.reduceLE, Int.reduceLT, Int.reduceEq, Int.reduceBEq, Int.reduceBNe, Int.reduceToNat, Int.reduceNeg, Nat.reduceBNe, c1]
        rw [if_pos (.inl c1)] at he
        rw [if_pos (by rw [he]; decide), he] at h; exact h
      by_cases c2 : (i : Int) ≤ c.2.1
      · simp only [OI, ↓reduceIte, reduceCtorEq, Nat.reduceAdd, Nat.reduceEqDiff, Nat.reduceBEq, Nat.reduceLT, Nat.reduceLeDiff, Nat.reduceMul, Nat.reduceSub, Int.reduceLE, Int.reduceLT, Int.reduceEq, Int.reduceBEq, Int.reduceBNe, Int.reduceToNat, Int.reduceNeg, Nat.reduceBNe, c1, c2]
        rw [if_pos (.inr (.inl c2))] at he
        rw [if_pos (by rw [he]; decide), he] at h; exact h
      by_cases c3 : c.2.2 < 1
      · simp only [OI, ↓reduceIte, reduceCtorEq, Nat.reduceAdd, Nat.reduceEqDiff, Nat.reduceBEq, Nat.reduceLT, Nat.reduceLeDiff, Nat.reduceMul, Nat.reduceSub, Int.reduceLE, Int.reduceLT, Int.reduceEq, Int.reduceBEq, Int.reduceBNe, Int.reduceToNat, Int.reduceNeg, Nat.reduceBNe, c1, c2, c3]
        rw [if_pos (.inr (.inr (.inl c3)))] at he
        rw [if_pos (by rw [he]; decide), he] at h; exact h
      by_cases c4 : 8 < c.2.2
      · simp only [OI, ↓reduceIte, reduceCtorEq, Nat.reduceAdd, Nat.reduceEqDiff, Nat.reduceBEq, Nat.reduceLT, Nat.reduceLeDiff, Nat.reduceMul, Nat.reduceSub, Int.reduceLE, Int.reduceLT, Int.reduceEq, Int.reduceBEq, Int.reduceBNe, Int.reduceToNat, Int.reduceNeg, Nat.reduceBNe, c1, c2, c3, c4]
        rw [if_pos (.inr (.inr (.inr c4)))] at he
        rw [if_pos (by rw [he]; decide), he] at h; exact h
      rw [if_neg (by omega)] at he
      have hW' := hW.snoc hgi (by omega) (by omega)
      simp only [OI, ↓reduceIte, reduceCtorEq, Nat.reduceAdd, Nat.reduceEqDiff, Nat.reduceBEq, Nat.reduceLT, Nat.reduceLeDiff, Nat.reduceMul, Nat.reduceSub, Int.reduceLE, Int.reduceLT, Int.reduceEq, Int.reduceBEq, Int.reduceBNe, Int.reduceToNat, Int.reduceNeg, Nat.reduceBNe, c1, c2, c3, c4]
      refine c129 g i (i + 1) hW' (by omega) (by omega) (by omega) ?_
      by_cases c5 : 3 < deepN g.lo i
      · rw [if_pos c5] at he
        simp only [OI, ↓reduceIte, reduceCtorEq, Nat.reduceAdd, Nat.reduceEqDiff, Nat.reduceBEq, Nat.reduceLT, Nat.reduceLeDiff, Nat.reduceMul, Nat.reduceSub, Int.reduceLE, Int.reduceLT, Int.reduceEq, Int.reduceBEq, Int.reduceBNe, Int.reduceToNat, Int.reduceNeg, Nat.reduceBNe, i64A, c5]
        rw [if_pos (by rw [he]; decide), he] at h; exact h
      rw [if_neg c5] at he
      simp only [OI, ↓reduceIte, reduceCtorEq, Nat.reduceAdd, Nat.reduceEqDiff, Nat.reduceBEq, Nat.reduceLT, Nat.reduceLeDiff, Nat.reduceMul, Nat.reduceSub, Int.reduceLE, Int.reduceLT, Int.reduceEq, Int.reduceBEq, Int.reduceBNe, Int.reduceToNat, Int.reduceNeg, Nat.reduceBNe, i64A, c5, w1]
      refine ⟨i + 1, ⟨⟨by omega, hW', by rw [nxt]; exact he⟩, by omega⟩, ?_⟩
      simp only [OI, ↓reduceIte, reduceCtorEq, Nat.reduceAdd, Nat.reduceEqDiff, Nat.reduceBEq, Nat.reduceLT, Nat.reduceLeDiff, Nat.reduceMul, Nat.reduceSub, Int.reduceLE, Int.reduceLT, Int.reduceEq, Int.reduceBEq, Int.reduceBNe, Int.reduceToNat, Int.reduceNeg, Nat.reduceBNe, st66b, gA, nxt, List.map_append, List.map_cons, List.map_nil, strA]
    · rw [if_pos hr] at he
      simp only [OI, ↓reduceIte, reduceCtorEq, Nat.reduceAdd, Nat.reduceEqDiff, Nat.reduceBEq, Nat.reduceLT, Nat.reduceLeDiff, Nat.reduceMul, Nat.reduceSub, Int.reduceLE, Int.reduceLT, Int.reduceEq, Int.reduceBEq, Int.reduceBNe, Int.reduceToNat, Int.reduceNeg, Nat.reduceBNe, i64A, bneT hr]
      rw [if_pos (by rw [he]; exact hr), he] at h; exact h
  obtain rfl : i = g.lo.length := by omega
  rw [List.drop_length] at he
  have he0 : loE g.lo [] 0 g.lo = 0 := he
  clear he
  rw [if_neg (by rw [he0]; decide)] at h
  simp only [OI, ↓reduceIte, reduceCtorEq, Nat.reduceAdd, Nat.reduceEqDiff, Nat.reduceBEq, Nat.reduceLT, Nat.reduceLeDiff, Nat.reduceMul, Nat.reduceSub, Int.reduceLE, Int.reduceLT, Int.reduceEq, Int.reduceBEq, Int.reduceBNe, Int.reduceToNat, Int.reduceNeg, Nat.reduceBNe, st66b, Int.lt_irrefl, gA]
  refine W_nilS 3 2172 1 (by decide) rfl rfl (by decide) rfl ?_
  refine W_loop (st66c I g) (fun i => i ≤ g.op.length ∧ opE g [] g.op = opE g (ons (g.op.take i)) (g.op.drop i)) (fun i => g.op.length - i) (fun _ _ => rfl) ⟨0, ⟨by omega, rfl⟩, ?_⟩ ?_
  · simp only [OI, ↓reduceIte, reduceCtorEq, Nat.reduceAdd, Nat.reduceEqDiff, Nat.reduceBEq, Nat.reduceLT, Nat.reduceLeDiff, Nat.reduceMul, Nat.reduceSub, Int.reduceLE, Int.reduceLT, Int.reduceEq, Int.reduceBEq, Int.reduceBNe, Int.reduceToNat, Int.reduceNeg, Nat.reduceBNe, st66c, gA, ons]
    try trace_state
  rintro i ⟨hi, he⟩
  refine W_of_N ok66.small hmix ?_
  by_cases hil : i < g.op.length
  · have hil' : (i : Int) < g.op.length := by omega
    have i0 : (0 : Int) ≤ i := by omega
    have hgi : g.op[i]? = some g.op[i] := List.getElem?_eq_getElem hil
    have w1 : IntKind.i64.wrap ((i : Int) + 1) = ((i + 1 : Nat) : Int) := by rw [wrI64 (by omega) (by omega)]; omega
    rw [drop_cons hgi] at he
    generalize hc : g.op[i] = c at hgi he
    have hcl : (ons (g.op.take i)).length = i := by simp [ons]; omega
    simp only [OI, ↓reduceIte, reduceCtorEq, Nat.reduceAdd, Nat.reduceEqDiff, Nat.reduceBEq, Nat.reduceLT, Nat.reduceLeDiff, Nat.reduceMul, Nat.reduceSub, Int.reduceLE, Int.reduceLT, Int.reduceEq, Int.reduceBEq, Int.reduceBNe, Int.reduceToNat, Int.reduceNeg, Nat.reduceBNe, st66c, hil', i0, hgi, w1, opA, gA, hcl, view_str hcl, Nat.le_refl]
    refine c160 c.nm (ons (g.op.take i)) (hn.op _ _ hgi) (by omega) ?_
    simp only [opE] at he
    by_cases hr : seeR c.nm (ons (g.op.take i)) = 0
    · rw [if_neg (by simpa using hr)] at he
      have nxt : ons (g.op.take (i + 1)) = ons (g.op.take i) ++ [c.nm] := by rw [take_snoc hgi]; simp only [ons, List.map_append, List.map_cons, List.map_nil]
      simp only [OI, ↓reduceIte, reduceCtorEq, Nat.reduceAdd, Nat.reduceEqDiff, Nat.reduceBEq, Nat.reduceLT, Nat.reduceLeDiff, Nat.reduceMul, Nat.reduceSub, Int.reduceLE, Int.reduceLT, Int.reduceEq, Int.reduceBEq, Int.reduceBNe, Int.reduceToNat, Int.reduceNeg, Nat.reduceBNe, i64A, beqT hr, hil', i0, hgi, opA, hcl]
      refine c161 g c ?_
      by_cases hq : opR g c = 0
      · rw [if_neg (by simpa using hq)] at he
        simp only [OI, ↓reduceIte, reduceCtorEq, Nat.reduceAdd, Nat.reduceEqDiff, Nat.reduceBEq, Nat.reduceLT, Nat.reduceLeDiff, Nat.reduceMul, Nat.reduceSub, Int.reduceLE, Int.reduceLT, Int.reduceEq, Int.reduceBEq, Int.reduceBNe, Int.reduceToNat, Int.reduceNeg, Nat.reduceBNe, i64A, bneF hq, hil', i0, hgi, opA, hcl]
        refine ⟨⟨by omega, by omega⟩, ?_⟩
        simp only [OI, ↓reduceIte, reduceCtorEq, Nat.reduceAdd, Nat.reduceEqDiff, Nat.reduceBEq, Nat.reduceLT, Nat.reduceLeDiff, Nat.reduceMul, Nat.reduceSub, Int.reduceLE, Int.reduceLT, Int.reduceEq, Int.reduceBEq, Int.reduceBNe, Int.reduceToNat, Int.reduceNeg, Nat.reduceBNe, w1]
        refine ⟨i + 1, ⟨⟨by omega, by rw [nxt]; exact he⟩, by omega⟩, ?_⟩
        simp only [OI, ↓reduceIte, reduceCtorEq, Nat.reduceAdd, Nat.reduceEqDiff, Nat.reduceBEq, Nat.reduceLT, Nat.reduceLeDiff, Nat.reduceMul, Nat.reduceSub, Int.reduceLE, Int.reduceLT, Int.reduceEq, Int.reduceBEq, Int.reduceBNe, Int.reduceToNat, Int.reduceNeg, Nat.reduceBNe, st66c, gA, nxt, List.map_append, List.map_cons, List.map_nil, strA]
      · rw [if_pos hq] at he
        simp only [OI, ↓reduceIte, reduceCtorEq, Nat.reduceAdd, Nat.reduceEqDiff, Nat.reduceBEq, Nat.reduceLT, Nat.reduceLeDiff, Nat.reduceMul, Nat.reduceSub, Int.reduceLE, Int.reduceLT, Int.reduceEq, Int.reduceBEq, Int.reduceBNe, Int.reduceToNat, Int.reduceNeg, Nat.reduceBNe, i64A, bneT hq]
        rw [if_pos (by rw [he]; exact hq), he] at h; exact h
    · rw [if_pos hr] at he
      simp only [OI, ↓reduceIte, reduceCtorEq, Nat.reduceAdd, Nat.reduceEqDiff, Nat.reduceBEq, Nat.reduceLT, Nat.reduceLeDiff, Nat.reduceMul, Nat.reduceSub, Int.reduceLE, Int.reduceLT, Int.reduceEq, Int.reduceBEq, Int.reduceBNe, Int.reduceToNat, Int.reduceNeg, Nat.reduceBNe, i64A, beqF hr, bneT hr]
      rw [if_pos (by rw [he]; exact hr), he] at h; exact h
  obtain rfl : i = g.op.length := by omega
  rw [List.drop_length] at he
  have he0 : opE g [] g.op = 0 := he
  clear he
  rw [if_neg (by rw [he0]; decide)] at h
  have hO := opE0_oks he0
  simp only [OI, ↓reduceIte, reduceCtorEq, Nat.reduceAdd, Nat.reduceEqDiff, Nat.reduceBEq, Nat.reduceLT, Nat.reduceLeDiff, Nat.reduceMul, Nat.reduceSub, Int.reduceLE, Int.reduceLT, Int.reduceEq, Int.reduceBEq, Int.reduceBNe, Int.reduceToNat, Int.reduceNeg, Nat.reduceBNe, st66c, Int.lt_irrefl, gA]
  refine W_loop (st66d I g) (fun i => i ≤ g.ch.length ∧ chE g 0 g.ch = chE g i (g.ch.drop i)) (fun i => g.ch.length - i) (fun _ _ => rfl) ⟨0, ⟨by omega, rfl⟩, ?_⟩ ?_
  · simp only [OI, ↓reduceIte, reduceCtorEq, Nat.reduceAdd, Nat.reduceEqDiff, Nat.reduceBEq, Nat.reduceLT, Nat.reduceLeDiff, Nat.reduceMul, Nat.reduceSub, Int.reduceLE, Int.reduceLT, Int.reduceEq, Int.reduceBEq, Int.reduceBNe, Int.reduceToNat, Int.reduceNeg, Nat.reduceBNe, st66d, gA]
    try trace_state
  rintro i ⟨hi, he⟩
  refine W_of_N ok66.small hmix ?_
  by_cases hil : i < g.ch.length
  · have hil' : (i : Int) < g.ch.length := by omega
    have hgi : g.ch[i]? = some g.ch[i] := List.getElem?_eq_getElem hil
    have w1 : IntKind.i64.wrap ((i : Int) + 1) = ((i + 1 : Nat) : Int) := by rw [wrI64 (by omega) (by omega)]; omega
    rw [drop_cons hgi] at he
    generalize hc : g.ch[i] = c at hgi he
    simp only [OI, ↓reduceIte, reduceCtorEq, Nat.reduceAdd, Nat.reduceEqDiff, Nat.reduceBEq, Nat.reduceLT, Nat.reduceLeDiff, Nat.reduceMul, Nat.reduceSub, Int.reduceLE, Int.reduceLT, Int.reduceEq, Int.reduceBEq, Int.reduceBNe, Int.reduceToNat, Int.reduceNeg, Nat.reduceBNe, st66d, hil', gA]
    refine c162 g i c hgi (by omega) (by omega) hO ?_
    simp only [chE] at he
    by_cases hr : chR g i c = 0
    · rw [if_neg (by simpa using hr)] at he
      simp only [OI, ↓reduceIte, reduceCtorEq, Nat.reduceAdd, Nat.reduceEqDiff, Nat.reduceBEq, Nat.reduceLT, Nat.reduceLeDiff, Nat.reduceMul, Nat.reduceSub, Int.reduceLE, Int.reduceLT, Int.reduceEq, Int.reduceBEq, Int.reduceBNe, Int.reduceToNat, Int.reduceNeg, Nat.reduceBNe, i64A, bneF hr, w1]
      refine ⟨i + 1, ⟨⟨by omega, he⟩, by omega⟩, ?_⟩
      simp only [OI, ↓reduceIte, reduceCtorEq, Nat.reduceAdd, Nat.reduceEqDiff, Nat.reduceBEq, Nat.reduceLT, Nat.reduceLeDiff, Nat.reduceMul, Nat.reduceSub, Int.reduceLE, Int.reduceLT, Int.reduceEq, Int.reduceBEq, Int.reduceBNe, Int.reduceToNat, Int.reduceNeg, Nat.reduceBNe, st66d, gA]
    · rw [if_pos hr] at he
      simp only [OI, ↓reduceIte, reduceCtorEq, Nat.reduceAdd, Nat.reduceEqDiff, Nat.reduceBEq, Nat.reduceLT, Nat.reduceLeDiff, Nat.reduceMul, Nat.reduceSub, Int.reduceLE, Int.reduceLT, Int.reduceEq, Int.reduceBEq, Int.reduceBNe, Int.reduceToNat, Int.reduceNeg, Nat.reduceBNe, i64A, bneT hr]
      rw [he] at h; exact h
  obtain rfl : i = g.ch.length := by omega
  rw [List.drop_length] at he
  simp only [OI, ↓reduceIte, reduceCtorEq, Nat.reduceAdd, Nat.reduceEqDiff, Nat.reduceBEq, Nat.reduceLT, Nat.reduceLeDiff, Nat.reduceMul, Nat.reduceSub, Int.reduceLE, Int.reduceLT, Int.reduceEq, Int.reduceBEq, Int.reduceBNe, Int.reduceToNat, Int.reduceNeg, Nat.reduceBNe, st66d, gA, Int.lt_irrefl]
  rw [he] at h; exact h
end Go.Proofs.YthlehngbadianaaDoor.Ow
