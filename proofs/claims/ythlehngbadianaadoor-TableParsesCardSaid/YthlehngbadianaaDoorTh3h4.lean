/- What the functions of the program do, each once: contracts of the logic (part h3 h4). -/
import Derived.Test.YthlehngbadianaaDoorTh2
set_option linter.unusedVariables false
set_option linter.unusedSimpArgs false
set_option linter.unnecessarySimpa false
set_option maxRecDepth 100000
set_option maxHeartbeats 4000000
namespace Go.Proofs.YthlehngbadianaaDoor.Ow
open Go Go.RowKit Go.Proofs
end Go.Proofs.YthlehngbadianaaDoor.Ow
set_option maxRecDepth 100000
set_option maxHeartbeats 4000000
namespace Go.Proofs.YthlehngbadianaaDoor.Ow
open Go Go.RowKit Go.Proofs
/- watershed/watershedlaw09.Great -/
def cc43 : CC := (.seq (.region [⟨none, 1, (.box 0), [0], none, []⟩, ⟨none, 2, (.val (.mv (.c (.bool false)))), [2], none, []⟩]) (.seq (.seq (.region [⟨none, 6, (.val (.fa (.s 1) 0)), [], none, []⟩, ⟨none, 7, (.val (.ld (.s 6) none)), [6], none, []⟩, ⟨none, 8, (.val (.lnl (.s 7) 2)), [7], none, []⟩, ⟨none, 9, (.val (.bin .gtr (.s 8) (.c (.int .i64 50)))), [8], none, []⟩, ⟨none, 10, (.val (.mv (.s 9))), [9], none, []⟩, ⟨(some (10, false)), 11, (.val (.fa (.s 1) 1)), [], none, []⟩, ⟨(some (10, false)), 12, (.val (.ld (.s 11) none)), [11], none, []⟩, ⟨(some (10, false)), 13, (.val (.lnl (.s 12) 3)), [12], none, []⟩, ⟨(some (10, false)), 14, (.val (.bin .gtr (.s 13) (.c (.int .i64 50)))), [13], none, []⟩, ⟨none, 15, (.val (.pick (.s 10) (.c (.bool true)) (.s 14))), [10, 14], none, []⟩, ⟨none, 16, (.val (.mv (.s 15))), [15], none, []⟩, ⟨(some (16, false)), 17, (.val (.fa (.s 1) 2)), [], none, []⟩, ⟨(some (16, false)), 18, (.val (.ld (.s 17) none)), [17], none, []⟩, ⟨(some (16, false)), 19, (.val (.lnl (.s 18) 6)), [18], none, []⟩, ⟨(some (16, false)), 20, (.val (.bin .gtr (.s 19) (.c (.int .i64 100)))), [19], none, []⟩, ⟨none, 21, (.val (.pick (.s 16) (.c (.bool true)) (.s 20))), [16, 20], none, []⟩, ⟨none, 22, (.val (.mv (.s 21))), [21], none, []⟩, ⟨(some (22, false)), 23, (.val (.fa (.s 1) 3)), [], none, []⟩, ⟨(some (22, false)), 24, (.val (.ld (.s 23) none)), [23], none, []⟩, ⟨(some (22, false)), 25, (.val (.lnl (.s 24) 2)), [24], none, []⟩, ⟨(some (22, false)), 26, (.val (.bin .gtr (.s 25) (.c (.int .i64 100)))), [25], none, []⟩, ⟨none, 27, (.val (.pick (.s 22) (.c (.bool true)) (.s 26))), [22, 26], none, []⟩]) (.cond (.s 27) (.seq (.region [⟨none, 2, (.val (.mv (.c (.bool true)))), [1, 27], none, []⟩]) .ret) .skip)) (.seq (.seq (.region [⟨none, 3, (.val (.mv (.c (.int .i64 0)))), [27], none, []⟩]) (.block 0 (.loop (.seq (.seq (.region [⟨none, 28, (.val (.mv (.s 3))), [], none, []⟩, ⟨none, 29, (.val (.fa (.s 1) 0)), [], none, []⟩, ⟨none, 30, (.val (.ld (.s 29) none)), [29], none, []⟩, ⟨none, 31, (.val (.lnl (.s 30) 2)), [30], none, []⟩, ⟨none, 32, (.val (.bin .lss (.s 28) (.s 31))), [28, 31], none, []⟩]) (.cond (.s 32) .skip (.exit 0))) (.seq (.block 1 (.seq (.region [⟨none, 35, (.val (.fa (.s 1) 0)), [32], none, []⟩, ⟨none, 36, (.val (.ld (.s 35) none)), [35], none, []⟩, ⟨none, 37, (.val (.mv (.s 3))), [], none, []⟩, ⟨none, 38, (.val (.ia (.s 36) (.s 37) 2)), [36, 37], none, []⟩, ⟨none, 39, (.val (.fa (.s 38) 0)), [38], none, []⟩, ⟨none, 40, (.val (.ld (.s 39) none)), [39], none, []⟩, ⟨none, 41, (.val (.lns (.s 40))), [40], none, []⟩, ⟨none, 42, (.val (.bin .gtr (.s 41) (.c (.int .i64 1000)))), [41], none, []⟩]) (.cond (.s 42) (.seq (.region [⟨none, 2, (.val (.mv (.c (.bool true)))), [1, 3, 42], none, []⟩]) .ret) .skip))) (.region [⟨none, 33, (.val (.mv (.s 3))), [3, 42], none, []⟩, ⟨none, 34, (.val (.bin .add (.s 33) (.c (.int .i64 1)))), [33], none, []⟩, ⟨none, 3, (.val (.mv (.s 34))), [34], none, []⟩])))))) (.seq (.seq (.region [⟨none, 4, (.val (.mv (.c (.int .i64 0)))), [3, 32], none, []⟩]) (.block 2 (.loop (.seq (.seq (.region [⟨none, 43, (.val (.mv (.s 4))), [], none, []⟩, ⟨none, 44, (.val (.fa (.s 1) 1)), [], none, []⟩, ⟨none, 45, (.val (.ld (.s 44) none)), [44], none, []⟩, ⟨none, 46, (.val (.lnl (.s 45) 3)), [45], none, []⟩, ⟨none, 47, (.val (.bin .lss (.s 43) (.s 46))), [43, 46], none, []⟩]) (.cond (.s 47) .skip (.exit 2))) (.seq (.block 3 (.seq (.region [⟨none, 50, (.val (.fa (.s 1) 1)), [47], none, []⟩, ⟨none, 51, (.val (.ld (.s 50) none)), [50], none, []⟩, ⟨none, 52, (.val (.mv (.s 4))), [], none, []⟩, ⟨none, 53, (.val (.ia (.s 51) (.s 52) 3)), [51, 52], none, []⟩, ⟨none, 54, (.val (.fa (.s 53) 0)), [53], none, []⟩, ⟨none, 55, (.val (.ld (.s 54) none)), [54], none, []⟩, ⟨none, 56, (.val (.lns (.s 55))), [55], none, []⟩, ⟨none, 57, (.val (.bin .gtr (.s 56) (.c (.int .i64 1000)))), [56], none, []⟩]) (.cond (.s 57) (.seq (.region [⟨none, 2, (.val (.mv (.c (.bool true)))), [1, 4, 57], none, []⟩]) .ret) .skip))) (.region [⟨none, 48, (.val (.mv (.s 4))), [4, 57], none, []⟩, ⟨none, 49, (.val (.bin .add (.s 48) (.c (.int .i64 1)))), [48], none, []⟩, ⟨none, 4, (.val (.mv (.s 49))), [49], none, []⟩])))))) (.seq (.seq (.region [⟨none, 5, (.val (.mv (.c (.int .i64 0)))), [4, 47], none, []⟩]) (.block 4 (.loop (.seq (.seq (.region [⟨none, 58, (.val (.mv (.s 5))), [], none, []⟩, ⟨none, 59, (.val (.fa (.s 1) 2)), [], none, []⟩, ⟨none, 60, (.val (.ld (.s 59) none)), [59], none, []⟩, ⟨none, 61, (.val (.lnl (.s 60) 6)), [60], none, []⟩, ⟨none, 62, (.val (.bin .lss (.s 58) (.s 61))), [58, 61], none, []⟩]) (.cond (.s 62) .skip (.exit 4))) (.seq (.block 5 (.seq (.region [⟨none, 65, (.val (.fa (.s 1) 2)), [62], none, []⟩, ⟨none, 66, (.val (.ld (.s 65) none)), [65], none, []⟩, ⟨none, 67, (.val (.mv (.s 5))), [], none, []⟩, ⟨none, 68, (.val (.ia (.s 66) (.s 67) 6)), [66, 67], none, []⟩, ⟨none, 69, (.val (.fa (.s 68) 0)), [68], none, []⟩, ⟨none, 70, (.val (.ld (.s 69) none)), [69], none, []⟩, ⟨none, 71, (.val (.lns (.s 70))), [70], none, []⟩, ⟨none, 72, (.val (.bin .gtr (.s 71) (.c (.int .i64 1000)))), [71], none, []⟩]) (.cond (.s 72) (.seq (.region [⟨none, 2, (.val (.mv (.c (.bool true)))), [1, 5, 72], none, []⟩]) .ret) .skip))) (.region [⟨none, 63, (.val (.mv (.s 5))), [5, 72], none, []⟩, ⟨none, 64, (.val (.bin .add (.s 63) (.c (.int .i64 1)))), [63], none, []⟩, ⟨none, 5, (.val (.mv (.s 64))), [64], none, []⟩])))))) (.seq (.region [⟨none, 2, (.val (.mv (.c (.bool false)))), [1, 5, 62], none, []⟩]) .ret))))))
theorem ok43 : FnOk Tryd.prog 11 cc43 [(.t 2)] 1 73 := ⟨⟨_, Tryd.func11, by kernel_rfl, by kernel_rfl, by kernel_rfl⟩, by decide, by decide⟩
/- watershed/watershedlaw09.To -/
def cc44 : CC := (.seq (.region [⟨none, 1, (.box 0), [0], none, []⟩, ⟨none, 2, (.alloc (.agg #[(.slice none 0 0), (.slice none 0 0), (.slice none 0 0), (.slice none 0 0)])), [], none, []⟩]) (.seq (.region [⟨none, 3, (.alloc (.agg #[(.slice none 0 0), (.slice none 0 0), (.slice none 0 0), (.slice none 0 0)])), [], none, []⟩]) (.seq (.seq (.region [⟨none, 4, (.val (.mv (.c (.int .i64 0)))), [], none, []⟩]) (.block 0 (.loop (.seq (.seq (.region [⟨none, 9, (.val (.mv (.s 4))), [], none, []⟩, ⟨none, 10, (.val (.fa (.s 1) 0)), [], none, []⟩, ⟨none, 11, (.val (.ld (.s 10) none)), [10], none, []⟩, ⟨none, 12, (.val (.lnl (.s 11) 2)), [11], none, []⟩, ⟨none, 13, (.val (.bin .lss (.s 9) (.s 12))), [9, 12], none, []⟩]) (.cond (.s 13) .skip (.exit 0))) (.seq (.block 1 (.region [⟨none, 16, (.val (.fa (.s 3) 0)), [13], none, []⟩, ⟨none, 17, (.val (.ld (.s 16) none)), [16], none, []⟩, ⟨none, 18, (.val (.fa (.s 1) 0)), [], none, []⟩, ⟨none, 19, (.val (.ld (.s 18) none)), [18], none, []⟩, ⟨none, 20, (.val (.mv (.s 4))), [], none, []⟩, ⟨none, 21, (.val (.ia (.s 19) (.s 20) 2)), [19, 20], none, []⟩, ⟨none, 22, (.val (.fa (.s 21) 0)), [21], none, []⟩, ⟨none, 23, (.val (.ld (.s 22) none)), [22], none, []⟩, ⟨none, 24, (.val (.fa (.s 1) 0)), [], none, []⟩, ⟨none, 25, (.val (.ld (.s 24) none)), [24], none, []⟩, ⟨none, 26, (.val (.mv (.s 4))), [], none, []⟩, ⟨none, 27, (.val (.ia (.s 25) (.s 26) 2)), [25, 26], none, []⟩, ⟨none, 28, (.val (.fa (.s 27) 1)), [27], none, []⟩, ⟨none, 29, (.val (.ld (.s 28) none)), [28], none, []⟩, ⟨none, 30, (.val (.bld [(.string ⟨#[]⟩), (.int .i64 0)] [(0, (1, (.s 23))), (1, (1, (.s 29)))])), [23, 29], none, []⟩, ⟨none, 31, (.lit 2 [(.s 30)]), [30], none, []⟩, ⟨none, 32, (.app 2 24 false (.s 17) (.s 31)), [17, 31], none, []⟩, ⟨none, 33, (.val (.fa (.s 3) 0)), [], none, []⟩, ⟨none, 0, (.store 1 (.s 33) (.s 32)), [32, 33], none, [120]⟩])) (.region [⟨none, 14, (.val (.mv (.s 4))), [4], none, []⟩, ⟨none, 15, (.val (.bin .add (.s 14) (.c (.int .i64 1)))), [14], none, []⟩, ⟨none, 4, (.val (.mv (.s 15))), [15], none, []⟩])))))) (.seq (.seq (.region [⟨none, 5, (.val (.mv (.c (.int .i64 0)))), [4, 13], none, []⟩]) (.block 2 (.loop (.seq (.seq (.region [⟨none, 34, (.val (.mv (.s 5))), [], none, []⟩, ⟨none, 35, (.val (.fa (.s 1) 1)), [], none, []⟩, ⟨none, 36, (.val (.ld (.s 35) none)), [35], none, []⟩, ⟨none, 37, (.val (.lnl (.s 36) 3)), [36], none, []⟩, ⟨none, 38, (.val (.bin .lss (.s 34) (.s 37))), [34, 37], none, []⟩]) (.cond (.s 38) .skip (.exit 2))) (.seq (.block 3 (.region [⟨none, 41, (.val (.fa (.s 3) 1)), [38], none, []⟩, ⟨none, 42, (.val (.ld (.s 41) none)), [41], none, []⟩, ⟨none, 43, (.val (.fa (.s 1) 1)), [], none, []⟩, ⟨none, 44, (.val (.ld (.s 43) none)), [43], none, []⟩, ⟨none, 45, (.val (.mv (.s 5))), [], none, []⟩, ⟨none, 46, (.val (.ia (.s 44) (.s 45) 3)), [44, 45], none, []⟩, ⟨none, 47, (.val (.fa (.s 46) 0)), [46], none, []⟩, ⟨none, 48, (.val (.ld (.s 47) none)), [47], none, []⟩, ⟨none, 49, (.val (.fa (.s 1) 1)), [], none, []⟩, ⟨none, 50, (.val (.ld (.s 49) none)), [49], none, []⟩, ⟨none, 51, (.val (.mv (.s 5))), [], none, []⟩, ⟨none, 52, (.val (.ia (.s 50) (.s 51) 3)), [50, 51], none, []⟩, ⟨none, 53, (.val (.fa (.s 52) 1)), [52], none, []⟩, ⟨none, 54, (.val (.ld (.s 53) none)), [53], none, []⟩, ⟨none, 55, (.val (.fa (.s 1) 1)), [], none, []⟩, ⟨none, 56, (.val (.ld (.s 55) none)), [55], none, []⟩, ⟨none, 57, (.val (.mv (.s 5))), [], none, []⟩, ⟨none, 58, (.val (.ia (.s 56) (.s 57) 3)), [56, 57], none, []⟩, ⟨none, 59, (.val (.fa (.s 58) 2)), [58], none, []⟩, ⟨none, 60, (.val (.ld (.s 59) none)), [59], none, []⟩, ⟨none, 61, (.val (.bld [(.string ⟨#[]⟩), (.int .i64 0), (.int .i64 0)] [(0, (1, (.s 48))), (1, (1, (.s 54))), (2, (1, (.s 60)))])), [48, 54, 60], none, []⟩, ⟨none, 62, (.lit 3 [(.s 61)]), [61], none, []⟩, ⟨none, 63, (.app 3 32 false (.s 42) (.s 62)), [42, 62], none, []⟩, ⟨none, 64, (.val (.fa (.s 3) 1)), [], none, []⟩, ⟨none, 0, (.store 1 (.s 64) (.s 63)), [63, 64], none, [120]⟩])) (.region [⟨none, 39, (.val (.mv (.s 5))), [5], none, []⟩, ⟨none, 40, (.val (.bin .add (.s 39) (.c (.int .i64 1)))), [39], none, []⟩, ⟨none, 5, (.val (.mv (.s 40))), [40], none, []⟩])))))) (.seq (.seq (.region [⟨none, 6, (.val (.mv (.c (.int .i64 0)))), [5, 38], none, []⟩]) (.block 4 (.loop (.seq (.seq (.region [⟨none, 65, (.val (.mv (.s 6))), [], none, []⟩, ⟨none, 66, (.val (.fa (.s 1) 2)), [], none, []⟩, ⟨none, 67, (.val (.ld (.s 66) none)), [66], none, []⟩, ⟨none, 68, (.val (.lnl (.s 67) 6)), [67], none, []⟩, ⟨none, 69, (.val (.bin .lss (.s 65) (.s 68))), [65, 68], none, []⟩]) (.cond (.s 69) .skip (.exit 4))) (.seq (.block 5 (.seq (.region [⟨none, 72, (.val (.fa (.s 1) 2)), [69], none, []⟩, ⟨none, 73, (.val (.ld (.s 72) none)), [72], none, []⟩, ⟨none, 74, (.val (.mv (.s 6))), [], none, []⟩, ⟨none, 75, (.val (.ia (.s 73) (.s 74) 6)), [73, 74], none, []⟩, ⟨none, 76, (.val (.ld (.s 75) (some 6))), [75], none, []⟩, ⟨none, 7, (.alloc (.agg #[(.string ⟨#[]⟩), (.int .i64 0), (.int .i64 0), (.int .i64 0), (.int .i64 0), (.int .i64 0)])), [], none, []⟩, ⟨none, 0, (.store 6 (.s 7) (.s 76)), [76], none, [120]⟩]) (.region [⟨none, 77, (.val (.fa (.s 3) 2)), [], none, []⟩, ⟨none, 78, (.val (.ld (.s 77) none)), [77], none, []⟩, ⟨none, 79, (.val (.fa (.s 7) 0)), [], none, []⟩, ⟨none, 80, (.val (.ld (.s 79) none)), [79], none, []⟩, ⟨none, 81, (.val (.fa (.s 7) 1)), [], none, []⟩, ⟨none, 82, (.val (.ld (.s 81) none)), [81], none, []⟩, ⟨none, 83, (.val (.fa (.s 7) 2)), [], none, []⟩, ⟨none, 84, (.val (.ld (.s 83) none)), [83], none, []⟩, ⟨none, 85, (.val (.fa (.s 7) 3)), [], none, []⟩, ⟨none, 86, (.val (.ld (.s 85) none)), [85], none, []⟩, ⟨none, 87, (.val (.fa (.s 7) 4)), [], none, []⟩, ⟨none, 88, (.val (.ld (.s 87) none)), [87], none, []⟩, ⟨none, 89, (.val (.fa (.s 7) 5)), [7], none, []⟩, ⟨none, 90, (.val (.ld (.s 89) none)), [89], none, []⟩, ⟨none, 91, (.val (.bld [(.string ⟨#[]⟩), (.int .i64 0), (.int .i64 0), (.int .i64 0), (.int .i64 0), (.int .i64 0)] [(0, (1, (.s 80))), (1, (1, (.s 82))), (2, (1, (.s 84))), (3, (1, (.s 86))), (4, (1, (.s 88))), (5, (1, (.s 90)))])), [80, 82, 84, 86, 88, 90], none, []⟩, ⟨none, 92, (.lit 6 [(.s 91)]), [91], none, []⟩, ⟨none, 93, (.app 6 56 false (.s 78) (.s 92)), [78, 92], none, []⟩, ⟨none, 94, (.val (.fa (.s 3) 2)), [], none, []⟩, ⟨none, 0, (.store 1 (.s 94) (.s 93)), [93, 94], none, [120]⟩]))) (.region [⟨none, 70, (.val (.mv (.s 6))), [6], none, []⟩, ⟨none, 71, (.val (.bin .add (.s 70) (.c (.int .i64 1)))), [70], none, []⟩, ⟨none, 6, (.val (.mv (.s 71))), [71], none, []⟩])))))) (.seq (.seq (.region [⟨none, 8, (.val (.mv (.c (.int .i64 0)))), [6, 69], none, []⟩]) (.block 6 (.loop (.seq (.seq (.region [⟨none, 95, (.val (.mv (.s 8))), [], none, []⟩, ⟨none, 96, (.val (.fa (.s 1) 3)), [], none, []⟩, ⟨none, 97, (.val (.ld (.s 96) none)), [96], none, []⟩, ⟨none, 98, (.val (.lnl (.s 97) 2)), [97], none, []⟩, ⟨none, 99, (.val (.bin .lss (.s 95) (.s 98))), [95, 98], none, []⟩]) (.cond (.s 99) .skip (.exit 6))) (.seq (.block 7 (.region [⟨none, 102, (.val (.fa (.s 3) 3)), [99], none, []⟩, ⟨none, 103, (.val (.ld (.s 102) none)), [102], none, []⟩, ⟨none, 104, (.val (.fa (.s 1) 3)), [], none, []⟩, ⟨none, 105, (.val (.ld (.s 104) none)), [104], none, []⟩, ⟨none, 106, (.val (.mv (.s 8))), [], none, []⟩, ⟨none, 107, (.val (.ia (.s 105) (.s 106) 2)), [105, 106], none, []⟩, ⟨none, 108, (.val (.fa (.s 107) 0)), [107], none, []⟩, ⟨none, 109, (.val (.ld (.s 108) none)), [108], none, []⟩, ⟨none, 110, (.val (.fa (.s 1) 3)), [], none, []⟩, ⟨none, 111, (.val (.ld (.s 110) none)), [110], none, []⟩, ⟨none, 112, (.val (.mv (.s 8))), [], none, []⟩, ⟨none, 113, (.val (.ia (.s 111) (.s 112) 2)), [111, 112], none, []⟩, ⟨none, 114, (.val (.fa (.s 113) 1)), [113], none, []⟩, ⟨none, 115, (.val (.ld (.s 114) none)), [114], none, []⟩, ⟨none, 116, (.val (.bld [(.int .i64 0), (.int .i64 0)] [(0, (1, (.s 109))), (1, (1, (.s 115)))])), [109, 115], none, []⟩, ⟨none, 117, (.lit 2 [(.s 116)]), [116], none, []⟩, ⟨none, 118, (.app 2 16 false (.s 103) (.s 117)), [103, 117], none, []⟩, ⟨none, 119, (.val (.fa (.s 3) 3)), [], none, []⟩, ⟨none, 0, (.store 1 (.s 119) (.s 118)), [118, 119], none, [120]⟩])) (.region [⟨none, 100, (.val (.mv (.s 8))), [8], none, []⟩, ⟨none, 101, (.val (.bin .add (.s 100) (.c (.int .i64 1)))), [100], none, []⟩, ⟨none, 8, (.val (.mv (.s 101))), [101], none, []⟩])))))) (.seq (.region [⟨none, 120, (.val (.ld (.s 3) (some 4))), [1, 3, 8, 99], none, []⟩, ⟨none, 0, (.store 4 (.s 2) (.s 120)), [120], none, [120]⟩]) .ret)))))))
theorem ok44 : FnOk Tryd.prog 13 cc44 [(.c 2 48 (some 4))] 1 121 := ⟨⟨_, Tryd.func13, by kernel_rfl, by kernel_rfl, by kernel_rfl⟩, by decide, by decide⟩
/- watershed/watershedref01.Same -/
def cc56 : CC := (.seq (.region [⟨none, 4, (.val (.mv (.c (.bool false)))), [4], none, []⟩]) (.seq (.seq (.region [⟨none, 6, (.val (.mv (.s 0))), [], none, []⟩, ⟨none, 7, (.val (.lnl (.s 6) 1)), [6], none, []⟩, ⟨none, 8, (.val (.mv (.s 1))), [], none, []⟩, ⟨none, 9, (.val (.lnl (.s 8) 1)), [8], none, []⟩, ⟨none, 10, (.val (.bin .neq (.s 7) (.s 9))), [7, 9], none, []⟩]) (.cond (.s 10) (.seq (.region [⟨none, 4, (.val (.mv (.c (.bool false)))), [0, 1, 10], none, []⟩]) .ret) .skip)) (.seq (.seq (.region [⟨none, 5, (.val (.mv (.c (.int .i64 0)))), [10], none, []⟩]) (.block 0 (.loop (.seq (.seq (.region [⟨none, 11, (.val (.mv (.s 5))), [], none, []⟩, ⟨none, 12, (.val (.mv (.s 0))), [], none, []⟩, ⟨none, 13, (.val (.lnl (.s 12) 1)), [12], none, []⟩, ⟨none, 14, (.val (.bin .lss (.s 11) (.s 13))), [11, 13], none, []⟩]) (.cond (.s 14) .skip (.exit 0))) (.seq (.block 1 (.seq (.region [⟨none, 17, (.val (.mv (.s 0))), [14], none, []⟩, ⟨none, 18, (.val (.mv (.s 5))), [], none, []⟩, ⟨none, 19, (.val (.ia (.s 17) (.s 18) 1)), [17, 18], none, []⟩, ⟨none, 20, (.val (.ld (.s 19) none)), [19], none, []⟩, ⟨none, 21, (.val (.mv (.s 1))), [], none, []⟩, ⟨none, 22, (.val (.mv (.s 5))), [], none, []⟩, ⟨none, 23, (.val (.ia (.s 21) (.s 22) 1)), [21, 22], none, []⟩, ⟨none, 24, (.val (.ld (.s 23) none)), [23], none, []⟩, ⟨none, 25, (.val (.bin .neq (.s 20) (.s 24))), [20, 24], none, []⟩]) (.cond (.s 25) (.seq (.region [⟨none, 4, (.val (.mv (.c (.bool false)))), [0, 1, 5, 25], none, []⟩]) .ret) .skip))) (.region [⟨none, 15, (.val (.mv (.s 5))), [5, 25], none, []⟩, ⟨none, 16, (.val (.bin .add (.s 15) (.c (.int .i64 1)))), [15], none, []⟩, ⟨none, 5, (.val (.mv (.s 16))), [16], none, []⟩])))))) (.seq (.region [⟨none, 4, (.val (.mv (.c (.bool true)))), [0, 1, 5, 14], none, []⟩]) .ret))))
theorem ok56 : FnOk Tryd.prog 34 cc56 [(.t 4)] 2 26 := ⟨⟨_, Tryd.func34, by kernel_rfl, by kernel_rfl, by kernel_rfl⟩, by decide, by decide⟩
theorem N_fzG {P : Program} {n : Nat} {Q : Exit → Post} {st : St} {d : Nat} {k : CK} {x : List Nat} {lt : Option Nat} {t : Nat} {z : List Nat} {l : List CO} {ks : List Kn} : N P n (.o (⟨none, d, k, x, lt, t :: z⟩ :: l) :: ks) Q (some st) = N P n (.o (⟨none, d, k, x, lt, []⟩ :: l) :: ks) Q (some (fzS (t :: z) st)) := by
  rw [N_op, N_op]; rfl
/-- Too much to be asked. -/
structure Small (g : Gr) : Prop where
  cl : g.cl.length ≤ 50
  lo : g.lo.length ≤ 50
  op : g.op.length ≤ 100
  ch : g.ch.length ≤ 100
  ncl : ∀ (i : Nat) c, g.cl[i]? = some c → c.1.size ≤ 1000
  nlo : ∀ (i : Nat) c, g.lo[i]? = some c → c.1.size ≤ 1000
  nop : ∀ (i : Nat) c, g.op[i]? = some c → c.nm.size ≤ 1000
theorem Small.nm {g : Gr} (h : Small g) : NmOk g := ⟨fun i c hc => by have := h.ncl i c hc; omega, fun i c hc => by have := h.nlo i c hc; omega, fun i c hc => by have := h.nop i c hc; omega⟩
def st43a (I : World → Fp → Value → Fp → Prop) (g : Gr) (s : Nat) (i : Nat) : St := ⟨[(s, .v (.int .i64 i)), (1, .ref ⟨1001, [], 0⟩)], [(1001, gA g), (9999, .ext I)], []⟩
theorem c43 (g : Gr) {Q : AV → Al → Prop} (h1 : Q (.v (.bool true)) []) (h2 : Small g → Q (.v (.bool false)) []) : ACalls Tryd.prog 11 [] [gA g] Q := by
  refine ok43.N hmix rfl ?_
  intro I
  by_cases a1 : (50 : Int) < g.cl.length
  · simp only [cc43, OI, ↓reduceIte, reduceCtorEq, Nat.reduceAdd, Nat.reduceEqDiff, Nat.reduceBEq, Nat.reduceLT, Nat.reduceLeDiff, Nat.reduceMul, Nat.reduceSub, Int.reduceLE, Int.reduceLT, Int.reduceEq, Int.reduceBEq, Int.reduceBNe, Int.reduceToNat, Int.reduceNeg, Nat.reduceBNe, gA, a1]
    exact h1
  by_cases a2 : (50 : Int) < g.lo.length
  · simp only [cc43, OI, ↓reduceIte, reduceCtorEq, Nat.reduceAdd, Nat.reduceEqDiff, Nat.reduceBEq, Nat.reduceLT, Nat.reduceLeDiff, Nat.reduceMul, Nat.reduceSub, Int.reduceLE, Int.reduceLT, Int.reduceEq, Int.reduceBEq, Int.reduceBNe, Int.reduceToNat, Int.reduceNeg, Nat.reduceBNe, gA, a1, a2]
    exact h1
  by_cases a3 : (100 : Int) < g.op.length
  · simp only [cc43, OI, ↓reduceIte, reduceCtorEq, Nat.reduceAdd, Nat.reduceEqDiff, Nat.reduceBEq, Nat.reduceLT, Nat.reduceLeDiff, Nat.reduceMul, Nat.reduceSub, Int.reduceLE, Int.reduceLT, Int.reduceEq, Int.reduceBEq, Int.reduceBNe, Int.reduceToNat, Int.reduceNeg, Nat.reduceBNe, gA, a1, a2, a3]
    exact h1
  by_cases a4 : (100 : Int) < g.ch.length
  · simp only [cc43, OI, ↓reduceIte, reduceCtorEq, Nat.reduceAdd, Nat.reduceEqDiff, Nat.reduceBEq, Nat.reduceLT, Nat.reduceLeDiff, Nat.reduceMul, Nat.reduceSub, Int.reduceLE, Int.reduceLT, Int.reduceEq, Int.reduceBEq, Int.reduceBNe, Int.reduceToNat, Int.reduceNeg, Nat.reduceBNe, gA, a1, a2, a3, a4]
    exact h1
  simp only [cc43, OI, ↓reduceIte, reduceCtorEq, Nat.reduceAdd, Nat.reduceEqDiff, Nat.reduceBEq, Nat.reduceLT, Nat.reduceLeDiff, Nat.reduceMul, Nat.reduceSub, Int.reduceLE, Int.reduceLT, Int.reduceEq, Int.reduceBEq, Int.reduceBNe, Int.reduceToNat, Int.reduceNeg, Nat.reduceBNe, gA, a1, a2, a3, a4]
  refine W_loop (st43a I g 3) (fun i => i ≤ g.cl.length ∧ ∀ (j : Nat) c, j < i → g.cl[j]? = some c → c.1.size ≤ 1000) (fun i => g.cl.length - i) (fun _ _ => rfl) ⟨0, ⟨by omega, fun j c hj => by omega⟩, ?_⟩ ?_
  · simp only [OI, ↓reduceIte, reduceCtorEq, Nat.reduceAdd, Nat.reduceEqDiff, Nat.reduceBEq, Nat.reduceLT, Nat.reduceLeDiff, Nat.reduceMul, Nat.reduceSub, Int.reduceLE, Int.reduceLT, Int.reduceEq, Int.reduceBEq, Int.reduceBNe, Int.reduceToNat, Int.reduceNeg, Nat.reduceBNe, st43a, gA]
    try rfl
  rintro i ⟨hi, hall⟩
  refine W_of_N ok43.small hmix ?_
  by_cases hil : i < g.cl.length
  · have hil' : (i : Int) < g.cl.length := by omega
    have i0 : (0 : Int) ≤ i := by omega
    have hgi : g.cl[i]? = some g.cl[i] := List.getElem?_eq_getElem hil
    have w1 : IntKind.i64.wrap ((i : Int) + 1) = ((i + 1 : Nat) : Int) := by rw [wrI64 (by omega) (by omega)]; omega
    generalize g.cl[i] = c at hgi
    by_cases hs : (1000 : Int) < c.1.size
    · simp only [OI, ↓reduceIte, reduceCtorEq, Nat.reduceAdd, Nat.reduceEqDiff, Nat.reduceBEq, Nat.reduceLT, Nat.reduceLeDiff, Nat.reduceMul, Nat.reduceSub, Int.reduceLE, Int.reduceLT, Int.reduceEq, Int.reduceBEq, Int.reduceBNe, Int.reduceToNat, Int.reduceNeg, Nat.reduceBNe, st43a, hil', i0, hgi, clA, gA, hs]
      exact h1
    · simp only [OI, ↓reduceIte, reduceCtorEq, Nat.reduceAdd, Nat.reduceEqDiff, Nat.reduceBEq, Nat.reduceLT, Nat.reduceLeDiff, Nat.reduceMul, Nat.reduceSub, Int.reduceLE, Int.reduceLT, Int.reduceEq, Int.reduceBEq, Int.reduceBNe, Int.reduceToNat, Int.reduceNeg, Nat.reduceBNe, st43a, hil', i0, hgi, clA, gA, hs, w1]
      refine ⟨i + 1, ⟨⟨by omega, fun j d hj hd => ?_⟩, by omega⟩, ?_⟩
      · by_cases he : j = i
        · subst he; rw [hgi] at hd; obtain rfl := Option.some.inj hd; omega
        · exact hall j d (by omega) hd
      · simp only [OI, ↓reduceIte, reduceCtorEq, Nat.reduceAdd, Nat.reduceEqDiff, Nat.reduceBEq, Nat.reduceLT, Nat.reduceLeDiff, Nat.reduceMul, Nat.reduceSub, Int.reduceLE, Int.reduceLT, Int.reduceEq, Int.reduceBEq, Int.reduceBNe, Int.reduceToNat, Int.reduceNeg, Nat.reduceBNe, st43a, gA]
  obtain rfl : i = g.cl.length := by omega
  have k1 : ∀ (j : Nat) c, g.cl[j]? = some c → c.1.size ≤ 1000 := fun j c hc => hall j c (List.getElem?_eq_some_iff.1 hc).1 hc
  simp only [OI, ↓reduceIte, reduceCtorEq, Nat.reduceAdd, Nat.reduceEqDiff, Nat.reduceBEq, Nat.reduceLT, Nat.reduceLeDiff, Nat.reduceMul, Nat.reduceSub, Int.reduceLE, Int.reduceLT, Int.reduceEq, Int.reduceBEq, Int.reduceBNe, Int.reduceToNat, Int.reduceNeg, Nat.reduceBNe, st43a, Int.lt_irrefl, gA]
  clear hall hil hi
  refine W_loop (st43a I g 4) (fun i => i ≤ g.lo.length ∧ ∀ (j : Nat) c, j < i → g.lo[j]? = some c → c.1.size ≤ 1000) (fun i => g.lo.length - i) (fun _ _ => rfl) ⟨0, ⟨by omega, fun j c hj => by omega⟩, ?_⟩ ?_
  · simp only [OI, ↓reduceIte, reduceCtorEq, Nat.reduceAdd, Nat.reduceEqDiff, Nat.reduceBEq, Nat.reduceLT, Nat.reduceLeDiff, Nat.reduceMul, Nat.reduceSub, Int.reduceLE, Int.reduceLT, Int.reduceEq, Int.reduceBEq, Int.reduceBNe, Int.reduceToNat, Int.reduceNeg, Nat.reduceBNe, st43a, gA]
    try rfl
  rintro i ⟨hi, hall⟩
  refine W_of_N ok43.small hmix ?_
  by_cases hil : i < g.lo.length
  · have hil' : (i : Int) < g.lo.length := by omega
    have i0 : (0 : Int) ≤ i := by omega
    have hgi : g.lo[i]? = some g.lo[i] := List.getElem?_eq_getElem hil
    have w1 : IntKind.i64.wrap ((i : Int) + 1) = ((i + 1 : Nat) : Int) := by rw [wrI64 (by omega) (by omega)]; omega
    generalize g.lo[i] = c at hgi
    by_cases hs : (1000 : Int) < c.1.size
    · simp only [OI, ↓reduceIte, reduceCtorEq, Nat.reduceAdd, Nat.reduceEqDiff, Nat.reduceBEq, Nat.reduceLT, Nat.reduceLeDiff, Nat.reduceMul, Nat.reduceSub, Int.reduceLE, Int.reduceLT, Int.reduceEq, Int.reduceBEq, Int.reduceBNe, Int.reduceToNat, Int.reduceNeg, Nat.reduceBNe, st43a, hil', i0, hgi, loA, gA, hs]
      exact h1
    · simp only [OI, ↓reduceIte, reduceCtorEq, Nat.reduceAdd, Nat.reduceEqDiff, Nat.reduceBEq, Nat.reduceLT, Nat.reduceLeDiff, Nat.reduceMul, Nat.reduceSub, Int.reduceLE, Int.reduceLT, Int.reduceEq, Int.reduceBEq, Int.reduceBNe, Int.reduceToNat, Int.reduceNeg, Nat.reduceBNe, st43a, hil', i0, hgi, loA, gA, hs, w1]
      refine ⟨i + 1, ⟨⟨by omega, fun j d hj hd => ?_⟩, by omega⟩, ?_⟩
      · by_cases he : j = i
        · subst he; rw [hgi] at hd; obtain rfl := Option.some.inj hd; omega
        · exact hall j d (by omega) hd
      · simp only [OI, ↓reduceIte, reduceCtorEq, Nat.reduceAdd, Nat.reduceEqDiff, Nat.reduceBEq, Nat.reduceLT, Nat.reduceLeDiff, Nat.reduceMul, Nat.reduceSub, Int.reduceLE, Int.reduceLT, Int.reduceEq, Int.reduceBEq, Int.reduceBNe, Int.reduceToNat, Int.reduceNeg, Nat.reduceBNe, st43a, gA]
  obtain rfl : i = g.lo.length := by omega
  have k2 : ∀ (j : Nat) c, g.lo[j]? = some c → c.1.size ≤ 1000 := fun j c hc => hall j c (List.getElem?_eq_some_iff.1 hc).1 hc
  simp only [OI, ↓reduceIte, reduceCtorEq, Nat.reduceAdd, Nat.reduceEqDiff, Nat.reduceBEq, Nat.reduceLT, Nat.reduceLeDiff, Nat.reduceMul, Nat.reduceSub, Int.reduceLE, Int.reduceLT, Int.reduceEq, Int.reduceBEq, Int.reduceBNe, Int.reduceToNat, Int.reduceNeg, Nat.reduceBNe, st43a, Int.lt_irrefl, gA]
  clear hall hil hi
  refine W_loop (st43a I g 5) (fun i => i ≤ g.op.length ∧ ∀ (j : Nat) c, j < i → g.op[j]? = some c → c.nm.size ≤ 1000) (fun i => g.op.length - i) (fun _ _ => rfl) ⟨0, ⟨by omega, fun j c hj => by omega⟩, ?_⟩ ?_
  · simp only [OI, ↓reduceIte, reduceCtorEq, Nat.reduceAdd, Nat.reduceEqDiff, Nat.reduceBEq, Nat.reduceLT, Nat.reduceLeDiff, Nat.reduceMul, Nat.reduceSub, Int.reduceLE, Int.reduceLT, Int.reduceEq, Int.reduceBEq, Int.reduceBNe, Int.reduceToNat, Int.reduceNeg, Nat.reduceBNe, st43a, gA]
    try rfl
  rintro i ⟨hi, hall⟩
  refine W_of_N ok43.small hmix ?_
  by_cases hil : i < g.op.length
  · have hil' : (i : Int) < g.op.length := by omega
    have i0 : (0 : Int) ≤ i := by omega
    have hgi : g.op[i]? = some g.op[i] := List.getElem?_eq_getElem hil
    have w1 : IntKind.i64.wrap ((i : Int) + 1) = ((i + 1 : Nat) : Int) := by rw [wrI64 (by omega) (by omega)]; omega
    generalize g.op[i] = c at hgi
    by_cases hs : (1000 : Int) < c.nm.size
    · simp only [OI, ↓reduceIte, reduceCtorEq, Nat.reduceAdd, Nat.reduceEqDiff, Nat.reduceBEq, Nat.reduceLT, Nat.reduceLeDiff, Nat.reduceMul, Nat.reduceSub, Int.reduceLE, Int.reduceLT, Int.reduceEq, Int.reduceBEq, Int.reduceBNe, Int.reduceToNat, Int.reduceNeg, Nat.reduceBNe, st43a, hil', i0, hgi, opA, gA, hs]
      exact h1
    · simp only [OI, ↓reduceIte, reduceCtorEq, Nat.reduceAdd, Nat.reduceEqDiff, Nat.reduceBEq, Nat.reduceLT, Nat.reduceLeDiff, Nat.reduceMul, Nat.reduceSub, Int.reduceLE, Int.reduceLT, Int.reduceEq, Int.reduceBEq, Int.reduceBNe, Int.reduceToNat, Int.reduceNeg, Nat.reduceBNe, st43a, hil', i0, hgi, opA, gA, hs, w1]
      refine ⟨i + 1, ⟨⟨by omega, fun j d hj hd => ?_⟩, by omega⟩, ?_⟩
      · by_cases he : j = i
        · subst he; rw [hgi] at hd; obtain rfl := Option.some.inj hd; omega
        · exact hall j d (by omega) hd
      · simp only [OI, ↓reduceIte, reduceCtorEq, Nat.reduceAdd, Nat.reduceEqDiff, Nat.reduceBEq, Nat.reduceLT, Nat.reduceLeDiff, Nat.reduceMul, Nat.reduceSub, Int.reduceLE, Int.reduceLT, Int.reduceEq, Int.reduceBEq, Int.reduceBNe, Int.reduceToNat, Int.reduceNeg, Nat.reduceBNe, st43a, gA]
  obtain rfl : i = g.op.length := by omega
  have k3 : ∀ (j : Nat) c, g.op[j]? = some c → c.nm.size ≤ 1000 := fun j c hc => hall j c (List.getElem?_eq_some_iff.1 hc).1 hc
  simp only [OI, ↓reduceIte, reduceCtorEq, Nat.reduceAdd, Nat.reduceEqDiff, Nat.reduceBEq, Nat.reduceLT, Nat.reduceLeDiff, Nat.reduceMul, Nat.reduceSub, Int.reduceLE, Int.reduceLT, Int.reduceEq, Int.reduceBEq, Int.reduceBNe, Int.reduceToNat, Int.reduceNeg, Nat.reduceBNe, st43a, Int.lt_irrefl, gA]
  clear hall hil hi
  exact h2 ⟨by omega, by omega, by omega, by omega, k1, k2, k3⟩
def tkA (g : Gr) (a b c d : Nat) : AV := .agg [.own 2 ((g.cl.take a).map clA), .own 3 ((g.lo.take b).map loA), .own 6 ((g.op.take c).map opA), .own 2 ((g.ch.take d).map chA)]
def st44 (I : World → Fp → Value → Fp → Prop) (g : Gr) (s : Nat) (a b c d : Nat) (i : Nat) : St := ⟨[(s, .v (.int .i64 i)), (1, .ref ⟨1001, [], 0⟩), (2, .ref ⟨1002, [], 0⟩), (3, .ref ⟨1003, [], 0⟩)], [(1003, tkA g a b c d), (1002, .agg [.v (.slice none 0 0), .v (.slice none 0 0), .v (.slice none 0 0), .v (.slice none 0 0)]), (1001, gA g), (9999, .ext I)], []⟩
theorem fz_map {α : Type} (f : α → AV) (hf : ∀ x, frz (f x) = f x) {l : List α} {n : Nat} (h : l.length = n) : List.map frz (List.take n (List.map f l)) = List.map f l := by
  rw [List.take_of_length_le (by simp [h]), List.map_map]
  exact List.map_congr_left fun x _ => hf x
theorem c44g (f ty : Nat) (ok : FnOk Tryd.prog f cc44 [.c 2 ty (some 4)] 1 121) (g : Gr) (hg : Small g) {Q : AV → Al → Prop} (h : Q (gA g) []) : ACalls Tryd.prog f [] [gA g] Q := by
  have hg1 := hg.cl
  have hg2 := hg.lo
  have hg3 := hg.op
  have hg4 := hg.ch
  refine ok.N hmix rfl ?_
  intro I
  simp only [cc44, OI, ↓reduceIte, reduceCtorEq, Nat.reduceAdd, Nat.reduceEqDiff, Nat.reduceBEq, Nat.reduceLT, Nat.reduceLeDiff, Nat.reduceMul, Nat.reduceSub, Int.reduceLE, Int.reduceLT, Int.reduceEq, Int.reduceBEq, Int.reduceBNe, Int.reduceToNat, Int.reduceNeg, Nat.reduceBNe, N_fzG, gA]
  refine W_nilT 1003 [.own 2 [], .own 3 [], .own 6 [], .own 2 []] rfl (.own (by decide) (.own (by decide) (.own (by decide) (.own (by decide) .nil)))) ?_
  refine W_loop (fun i => st44 I g 4 i 0 0 0 i) (fun i => i ≤ g.cl.length) (fun i => g.cl.length - i) (fun _ _ => rfl) ⟨0, by omega, ?_⟩ ?_
  · simp only [OI, ↓reduceIte, reduceCtorEq, Nat.reduceAdd, Nat.reduceEqDiff, Nat.reduceBEq, Nat.reduceLT, Nat.reduceLeDiff, Nat.reduceMul, Nat.reduceSub, Int.reduceLE, Int.reduceLT, Int.reduceEq, Int.reduceBEq, Int.reduceBNe, Int.reduceToNat, Int.reduceNeg, Nat.reduceBNe, st44, gA, tkA, List.take_zero, List.map_nil, List.take_length]
    try rfl
  rintro i hi
  refine W_of_N ok.small hmix ?_
  by_cases hil : i < g.cl.length
  · have hil' : (i : Int) < g.cl.length := by omega
    have i0 : (0 : Int) ≤ i := by omega
    have hgi : g.cl[i]? = some g.cl[i] := List.getElem?_eq_getElem hil
    have w1 : IntKind.i64.wrap ((i : Int) + 1) = ((i + 1 : Nat) : Int) := by rw [wrI64 (by omega) (by omega)]; omega
    have hlen : (g.cl.take i).length = i := by simp; omega
    generalize g.cl[i] = c at hgi
    simp only [OI, ↓reduceIte, reduceCtorEq, Nat.reduceAdd, Nat.reduceEqDiff, Nat.reduceBEq, Nat.reduceLT, Nat.reduceLeDiff, Nat.reduceMul, Nat.reduceSub, Int.reduceLE, Int.reduceLT, Int.reduceEq, Int.reduceBEq, Int.reduceBNe, Int.reduceToNat, Int.reduceNeg, Nat.reduceBNe, N_fzG, st44, tkA, hil', i0, hgi, clA, gA, List.take_zero, List.map_nil, hlen]
    refine ⟨⟨by omega, by omega⟩, ?_⟩
    simp only [OI, ↓reduceIte, reduceCtorEq, Nat.reduceAdd, Nat.reduceEqDiff, Nat.reduceBEq, Nat.reduceLT, Nat.reduceLeDiff, Nat.reduceMul, Nat.reduceSub, Int.reduceLE, Int.reduceLT, Int.reduceEq, Int.reduceBEq, Int.reduceBNe, Int.reduceToNat, Int.reduceNeg, Nat.reduceBNe, w1]
    refine ⟨i + 1, ⟨by omega, by omega⟩, ?_⟩
    simp only [OI, ↓reduceIte, reduceCtorEq, Nat.reduceAdd, Nat.reduceEqDiff, Nat.reduceBEq, Nat.reduceLT, Nat.reduceLeDiff, Nat.reduceMul, Nat.reduceSub, Int.reduceLE, Int.reduceLT, Int.reduceEq, Int.reduceBEq, Int.reduceBNe, Int.reduceToNat, Int.reduceNeg, Nat.reduceBNe, st44, tkA, gA, take_snoc hgi, List.map_append, List.map_cons, List.map_nil, clA, List.take_zero]
    rw [List.take_of_length_le (by simp only [List.length_append, List.length_map, List.length_take, List.length_cons, List.length_nil]; omega)]
  obtain rfl : i = g.cl.length := by omega
  simp only [OI, ↓reduceIte, reduceCtorEq, Nat.reduceAdd, Nat.reduceEqDiff, Nat.reduceBEq, Nat.reduceLT, Nat.reduceLeDiff, Nat.reduceMul, Nat.reduceSub, Int.reduceLE, Int.reduceLT, Int.reduceEq, Int.reduceBEq, Int.reduceBNe, Int.reduceToNat, Int.reduceNeg, Nat.reduceBNe, N_fzG, st44, tkA, Int.lt_irrefl, gA, List.take_length]
  clear hil hi
  refine W_loop (fun i => st44 I g 5 g.cl.length i 0 0 i) (fun i => i ≤ g.lo.length) (fun i => g.lo.length - i) (fun _ _ => rfl) ⟨0, by omega, ?_⟩ ?_
  · simp only [OI, ↓reduceIte, reduceCtorEq, Nat.reduceAdd, Nat.reduceEqDiff, Nat.reduceBEq, Nat.reduceLT, Nat.reduceLeDiff, Nat.reduceMul, Nat.reduceSub, Int.reduceLE, Int.reduceLT, Int.reduceEq, Int.reduceBEq, Int.reduceBNe, Int.reduceToNat, Int.reduceNeg, Nat.reduceBNe, st44, gA, tkA, List.take_zero, List.map_nil, List.take_length]
    try rfl
  rintro i hi
  refine W_of_N ok.small hmix ?_
  by_cases hil : i < g.lo.length
  · have hil' : (i : Int) < g.lo.length := by omega
    have i0 : (0 : Int) ≤ i := by omega
    have hgi : g.lo[i]? = some g.lo[i] := List.getElem?_eq_getElem hil
    have w1 : IntKind.i64.wrap ((i : Int) + 1) = ((i + 1 : Nat) : Int) := by rw [wrI64 (by omega) (by omega)]; omega
    have hlen : (g.lo.take i).length = i := by simp; omega
    generalize g.lo[i] = c at hgi
    simp only [OI, ↓reduceIte, reduceCtorEq, Nat.reduceAdd, Nat.reduceEqDiff, Nat.reduceBEq, Nat.reduceLT, Nat.reduceLeDiff, Nat.reduceMul, Nat.reduceSub, Int.reduceLE, Int.reduceLT, Int.reduceEq, Int.reduceBEq, Int.reduceBNe, Int.reduceToNat, Int.reduceNeg, Nat.reduceBNe, N_fzG, st44, tkA, hil', i0, hgi, loA, gA, List.take_zero, List.map_nil, hlen]
    refine ⟨⟨by omega, by omega⟩, ?_⟩
    simp only [OI, ↓reduceIte, reduceCtorEq, Nat.reduceAdd, Nat.reduceEqDiff, Nat.reduceBEq, Nat.reduceLT, Nat.reduceLeDiff, Nat.reduceMul, Nat.reduceSub, Int.reduceLE, Int.reduceLT, Int.reduceEq, Int.reduceBEq, Int.reduceBNe, Int.reduceToNat, Int.reduceNeg, Nat.reduceBNe, w1]
    refine ⟨i + 1, ⟨by omega, by omega⟩, ?_⟩
    simp only [OI, ↓reduceIte, reduceCtorEq, Nat.reduceAdd, Nat.reduceEqDiff, Nat.reduceBEq, Nat.reduceLT, Nat.reduceLeDiff, Nat.reduceMul, Nat.reduceSub, Int.reduceLE, Int.reduceLT, Int.reduceEq, Int.reduceBEq, Int.reduceBNe, Int.reduceToNat, Int.reduceNeg, Nat.reduceBNe, st44, tkA, gA, take_snoc hgi, List.map_append, List.map_cons, List.map_nil, loA, List.take_zero]
    rw [List.take_of_length_le (by simp only [List.length_append, List.length_map, List.length_take, List.length_cons, List.length_nil]; omega)]
  obtain rfl : i = g.lo.length := by omega
  simp only [OI, ↓reduceIte, reduceCtorEq, Nat.reduceAdd, Nat.reduceEqDiff, Nat.reduceBEq, Nat.reduceLT, Nat.reduceLeDiff, Nat.reduceMul, Nat.reduceSub, Int.reduceLE, Int.reduceLT, Int.reduceEq, Int.reduceBEq, Int.reduceBNe, Int.reduceToNat, Int.reduceNeg, Nat.reduceBNe, N_fzG, st44, tkA, Int.lt_irrefl, gA, List.take_length]
  clear hil hi
  refine W_loop (fun i => st44 I g 6 g.cl.length g.lo.length i 0 i) (fun i => i ≤ g.op.length) (fun i => g.op.length - i) (fun _ _ => rfl) ⟨0, by omega, ?_⟩ ?_
  · simp only [OI, ↓reduceIte, reduceCtorEq, Nat.reduceAdd, Nat.reduceEqDiff, Nat.reduceBEq, Nat.reduceLT, Nat.reduceLeDiff, Nat.reduceMul, Nat.reduceSub, Int.reduceLE, Int.reduceLT, Int.reduceEq, Int.reduceBEq, Int.reduceBNe, Int.reduceToNat, Int.reduceNeg, Nat.reduceBNe, st44, gA, tkA, List.take_zero, List.map_nil, List.take_length]
    try rfl
  rintro i hi
  refine W_of_N ok.small hmix ?_
  by_cases hil : i < g.op.length
  · have hil' : (i : Int) < g.op.length := by omega
    have i0 : (0 : Int) ≤ i := by omega
    have hgi : g.op[i]? = some g.op[i] := List.getElem?_eq_getElem hil
    have w1 : IntKind.i64.wrap ((i : Int) + 1) = ((i + 1 : Nat) : Int) := by rw [wrI64 (by omega) (by omega)]; omega
    have hlen : (g.op.take i).length = i := by simp; omega
    generalize g.op[i] = c at hgi
    simp only [OI, ↓reduceIte, reduceCtorEq, Nat.reduceAdd, Nat.reduceEqDiff, Nat.reduceBEq, Nat.reduceLT, Nat.reduceLeDiff, Nat.reduceMul, Nat.reduceSub, Int.reduceLE, Int.reduceLT, Int.reduceEq, Int.reduceBEq, Int.reduceBNe, Int.reduceToNat, Int.reduceNeg, Nat.reduceBNe, N_fzG, st44, tkA, hil', i0, hgi, opA, gA, List.take_zero, List.map_nil, hlen]
    refine ⟨⟨by omega, by omega⟩, ?_⟩
    simp only [OI, ↓reduceIte, reduceCtorEq, Nat.reduceAdd, Nat.reduceEqDiff, Nat.reduceBEq, Nat.reduceLT, Nat.reduceLeDiff, Nat.reduceMul, Nat.reduceSub, Int.reduceLE, Int.reduceLT, Int.reduceEq, Int.reduceBEq, Int.reduceBNe, Int.reduceToNat, Int.reduceNeg, Nat.reduceBNe, w1]
    refine ⟨i + 1, ⟨by omega, by omega⟩, ?_⟩
    simp only [OI, ↓reduceIte, reduceCtorEq, Nat.reduceAdd, Nat.reduceEqDiff, Nat.reduceBEq, Nat.reduceLT, Nat.reduceLeDiff, Nat.reduceMul, Nat.reduceSub, Int.reduceLE, Int.reduceLT, Int.reduceEq, Int.reduceBEq, Int.reduceBNe, Int.reduceToNat, Int.reduceNeg, Nat.reduceBNe, st44, tkA, gA, take_snoc hgi, List.map_append, List.map_cons, List.map_nil, opA, List.take_zero]
    rw [List.take_of_length_le (by simp only [List.length_append, List.length_map, List.length_take, List.length_cons, List.length_nil]; omega)]
  obtain rfl : i = g.op.length := by omega
  simp only [OI, ↓reduceIte, reduceCtorEq, Nat.reduceAdd, Nat.reduceEqDiff, Nat.reduceBEq, Nat.reduceLT, Nat.reduceLeDiff, Nat.reduceMul, Nat.reduceSub, Int.reduceLE, Int.reduceLT, Int.reduceEq, Int.reduceBEq, Int.reduceBNe, Int.reduceToNat, Int.reduceNeg, Nat.reduceBNe, N_fzG, st44, tkA, Int.lt_irrefl, gA, List.take_length]
  clear hil hi
  refine W_loop (fun i => st44 I g 8 g.cl.length g.lo.length g.op.length i i) (fun i => i ≤ g.ch.length) (fun i => g.ch.length - i) (fun _ _ => rfl) ⟨0, by omega, ?_⟩ ?_
  · simp only [OI, ↓reduceIte, reduceCtorEq, Nat.reduceAdd, Nat.reduceEqDiff, Nat.reduceBEq, Nat.reduceLT, Nat.reduceLeDiff, Nat.reduceMul, Nat.reduceSub, Int.reduceLE, Int.reduceLT, Int.reduceEq, Int.reduceBEq, Int.reduceBNe, Int.reduceToNat, Int.reduceNeg, Nat.reduceBNe, st44, gA, tkA, List.take_zero, List.map_nil, List.take_length]
    try rfl
  rintro i hi
  refine W_of_N ok.small hmix ?_
  by_cases hil : i < g.ch.length
  · have hil' : (i : Int) < g.ch.length := by omega
    have i0 : (0 : Int) ≤ i := by omega
    have hgi : g.ch[i]? = some g.ch[i] := List.getElem?_eq_getElem hil
    have w1 : IntKind.i64.wrap ((i : Int) + 1) = ((i + 1 : Nat) : Int) := by rw [wrI64 (by omega) (by omega)]; omega
    have hlen : (g.ch.take i).length = i := by simp; omega
    generalize g.ch[i] = c at hgi
    simp only [OI, ↓reduceIte, reduceCtorEq, Nat.reduceAdd, Nat.reduceEqDiff, Nat.reduceBEq, Nat.reduceLT, Nat.reduceLeDiff, Nat.reduceMul, Nat.reduceSub, Int.reduceLE, Int.reduceLT, Int.reduceEq, Int.reduceBEq, Int.reduceBNe, Int.reduceToNat, Int.reduceNeg, Nat.reduceBNe, N_fzG, st44, tkA, hil', i0, hgi, chA, gA, List.take_zero, List.map_nil, hlen]
    refine ⟨⟨by omega, by omega⟩, ?_⟩
    simp only [OI, ↓reduceIte, reduceCtorEq, Nat.reduceAdd, Nat.reduceEqDiff, Nat.reduceBEq, Nat.reduceLT, Nat.reduceLeDiff, Nat.reduceMul, Nat.reduceSub, Int.reduceLE, Int.reduceLT, Int.reduceEq, Int.reduceBEq, Int.reduceBNe, Int.reduceToNat, Int.reduceNeg, Nat.reduceBNe, w1]
    refine ⟨i + 1, ⟨by omega, by omega⟩, ?_⟩
    simp only [OI, ↓reduceIte, reduceCtorEq, Nat.reduceAdd, Nat.reduceEqDiff, Nat.reduceBEq, Nat.reduceLT, Nat.reduceLeDiff, Nat.reduceMul, Nat.reduceSub, Int.reduceLE, Int.reduceLT, Int.reduceEq, Int.reduceBEq, Int.reduceBNe, Int.reduceToNat, Int.reduceNeg, Nat.reduceBNe, st44, tkA, gA, take_snoc hgi, List.map_append, List.map_cons, List.map_nil, chA, List.take_zero]
    rw [List.take_of_length_le (by simp only [List.length_append, List.length_map, List.length_take, List.length_cons, List.length_nil]; omega)]
  obtain rfl : i = g.ch.length := by omega
  simp only [OI, ↓reduceIte, reduceCtorEq, Nat.reduceAdd, Nat.reduceEqDiff, Nat.reduceBEq, Nat.reduceLT, Nat.reduceLeDiff, Nat.reduceMul, Nat.reduceSub, Int.reduceLE, Int.reduceLT, Int.reduceEq, Int.reduceBEq, Int.reduceBNe, Int.reduceToNat, Int.reduceNeg, Nat.reduceBNe, N_fzG, st44, tkA, Int.lt_irrefl, gA, List.take_length]
  clear hil hi
  rw [fz_map clA (fun _ => rfl) rfl, fz_map loA (fun _ => rfl) rfl, fz_map opA (fun _ => rfl) rfl, fz_map chA (fun _ => rfl) rfl]
  exact h
theorem c44 (g : Gr) (hg : Small g) {Q : AV → Al → Prop} (h : Q (gA g) []) : ACalls Tryd.prog 13 [] [gA g] Q := c44g 13 _ ok44 g hg h
def st56 (I : World → Fp → Value → Fp → Prop) (a b : List Int) (i : Nat) : St := ⟨[(5, .v (.int .i64 i)), (0, intsA a), (1, intsA b)], [(9999, .ext I)], []⟩
theorem c56 (a b : List Int) (hl : a.length ≤ 1000000) {Q : AV → Al → Prop} (h : Q (.v (.bool (decide (a = b)))) []) : ACalls Tryd.prog 34 [] [intsA a, intsA b] Q := by
  refine ok56.N hmix rfl ?_
  intro I
  by_cases hab : (a.length : Int) = b.length
  · simp only [cc56, OI, ↓reduceIte, reduceCtorEq, Nat.reduceAdd, Nat.reduceEqDiff, Nat.reduceBEq, Nat.reduceLT, Nat.reduceLeDiff, Nat.reduceMul, Nat.reduceSub, Int.reduceLE, Int.reduceLT, Int.reduceEq, Int.reduceBEq, Int.reduceBNe, Int.reduceToNat, Int.reduceNeg, Nat.reduceBNe, intsA, bneF hab]
    refine W_loop (st56 I a b) (fun i => i ≤ a.length ∧ ∀ j, j < i → a[j]? = b[j]?) (fun i => a.length - i) (fun _ _ => rfl) ⟨0, ⟨by omega, fun j hj => by omega⟩, ?_⟩ ?_
    · simp only [OI, ↓reduceIte, reduceCtorEq, Nat.reduceAdd, Nat.reduceEqDiff, Nat.reduceBEq, Nat.reduceLT, Nat.reduceLeDiff, Nat.reduceMul, Nat.reduceSub, Int.reduceLE, Int.reduceLT, Int.reduceEq, Int.reduceBEq, Int.reduceBNe, Int.reduceToNat, Int.reduceNeg, Nat.reduceBNe, st56, intsA]
      try rfl
    rintro i ⟨hi, hall⟩
    refine W_of_N ok56.small hmix ?_
    by_cases hil : i < a.length
    · have hil' : (i : Int) < a.length := by omega
      have hil2 : (i : Int) < b.length := by omega
      have i0 : (0 : Int) ≤ i := by omega
      have hga : a[i]? = some a[i] := List.getElem?_eq_getElem hil
      have hgb : b[i]? = some b[i] := List.getElem?_eq_getElem (by omega)
      have w1 : IntKind.i64.wrap ((i : Int) + 1) = ((i + 1 : Nat) : Int) := by rw [wrI64 (by omega) (by omega)]; omega
      generalize a[i] = x at hga
      generalize b[i] = y at hgb
      by_cases hxy : x = y
      · simp only [OI, ↓reduceIte, reduceCtorEq, Nat.reduceAdd, Nat.reduceEqDiff, Nat.reduceBEq, Nat.reduceLT, Nat.reduceLeDiff, Nat.reduceMul, Nat.reduceSub, Int.reduceLE, Int.reduceLT, Int.reduceEq, Int.reduceBEq, Int.reduceBNe, Int.reduceToNat, Int.reduceNeg, Nat.reduceBNe, st56, intsA, i64A, hil', hil2, i0, hga, hgb, bneF hxy, w1]
        refine ⟨i + 1, ⟨⟨by omega, fun j hj => ?_⟩, by omega⟩, ?_⟩
        · by_cases he : j = i
          · subst he; rw [hga, hgb, hxy]
          · exact hall j (by omega)
        · simp only [OI, ↓reduceIte, reduceCtorEq, Nat.reduceAdd, Nat.reduceEqDiff, Nat.reduceBEq, Nat.reduceLT, Nat.reduceLeDiff, Nat.reduceMul, Nat.reduceSub, Int.reduceLE, Int.reduceLT, Int.reduceEq, Int.reduceBEq, Int.reduceBNe, Int.reduceToNat, Int.reduceNeg, Nat.reduceBNe, st56, intsA]
      · simp only [OI, ↓reduceIte, reduceCtorEq, Nat.reduceAdd, Nat.reduceEqDiff, Nat.reduceBEq, Nat.reduceLT, Nat.reduceLeDiff, Nat.reduceMul, Nat.reduceSub, Int.reduceLE, Int.reduceLT, Int.reduceEq, Int.reduceBEq, Int.reduceBNe, Int.reduceToNat, Int.reduceNeg, Nat.reduceBNe, st56, intsA, i64A, hil', hil2, i0, hga, hgb, bneT hxy]
        have : a ≠ b := by rintro rfl; rw [hga] at hgb; exact hxy (Option.some.inj hgb)
        rw [decide_eq_false this] at h; exact h
    · obtain rfl : i = a.length := by omega
      simp only [OI, ↓reduceIte, reduceCtorEq, Nat.reduceAdd, Nat.reduceEqDiff, Nat.reduceBEq, Nat.reduceLT, Nat.reduceLeDiff, Nat.reduceMul, Nat.reduceSub, Int.reduceLE, Int.reduceLT, Int.reduceEq, Int.reduceBEq, Int.reduceBNe, Int.reduceToNat, Int.reduceNeg, Nat.reduceBNe, st56, intsA, Int.lt_irrefl]
      have : a = b := by
        apply List.ext_getElem?
        intro j
        by_cases hj : j < a.length
        · exact hall j hj
        · rw [List.getElem?_eq_none (by omega), List.getElem?_eq_none (by omega)]
      rw [decide_eq_true this] at h; exact h
  · simp only [cc56, OI, ↓reduceIte, reduceCtorEq, Nat.reduceAdd, Nat.reduceEqDiff, Nat.reduceBEq, Nat.reduceLT, Nat.reduceLeDiff, Nat.reduceMul, Nat.reduceSub, Int.reduceLE, Int.reduceLT, Int.reduceEq, Int.reduceBEq, Int.reduceBNe, Int.reduceToNat, Int.reduceNeg, Nat.reduceBNe, intsA, bneT hab]
    have : a ≠ b := by rintro rfl; exact hab rfl
    rw [decide_eq_false this] at h; exact h
end Go.Proofs.YthlehngbadianaaDoor.Ow
