/- What the functions of the program do, each once: contracts of the logic (part h9). -/
import Derived.Test.YthlehngbadianaaTh8
set_option linter.unusedVariables false
set_option linter.unusedSimpArgs false
set_option linter.unnecessarySimpa false
set_option maxRecDepth 100000
set_option maxHeartbeats 4000000
namespace Go.Proofs.Ythlehngbadianaa.Ow
open Go Go.RowKit Go.Proofs
/- watershed/watershedref21.Cut -/
def cc53 : CC := (.seq (.region [⟨none, 2, (.box 0), [0], none, []⟩, ⟨none, 4, (.alloc (.agg #[(.slice none 0 0), (.slice none 0 0), (.slice none 0 0), (.slice none 0 0), (.slice none 0 0), (.slice none 0 0), (.slice none 0 0)])), [], none, []⟩, ⟨none, 5, (.val (.mv (.c (.int .i64 0)))), [5], none, []⟩]) (.seq (.region [⟨none, 27, (.val (.ld (.s 2) (some 4))), [], none, []⟩, ⟨none, 28, (.call 66 [(.s 27)]), [27], none, []⟩, ⟨none, 6, (.val (.mv (.s 28))), [28], none, []⟩]) (.seq (.seq (.region [⟨none, 29, (.val (.mv (.s 6))), [], none, []⟩, ⟨none, 30, (.val (.bin .neq (.s 29) (.c (.int .i64 0)))), [29], none, []⟩]) (.cond (.s 30) (.seq (.region [⟨none, 31, (.val (.bld [(.slice none 0 0), (.slice none 0 0), (.slice none 0 0), (.slice none 0 0), (.slice none 0 0), (.slice none 0 0), (.slice none 0 0)] [])), [1, 2, 30], none, []⟩, ⟨none, 32, (.val (.mv (.s 6))), [6], none, []⟩, ⟨none, 0, (.store 7 (.s 4) (.s 31)), [31], none, [245]⟩, ⟨none, 5, (.val (.mv (.s 32))), [32], none, []⟩]) .ret) .skip)) (.seq (.seq (.region [⟨none, 33, (.val (.mv (.s 1))), [6, 30], none, []⟩, ⟨none, 34, (.val (.bin .lss (.s 33) (.c (.int .i64 0)))), [33], none, []⟩, ⟨none, 35, (.val (.mv (.s 34))), [34], none, []⟩, ⟨(some (35, false)), 36, (.val (.mv (.s 1))), [], none, []⟩, ⟨(some (35, false)), 37, (.val (.fa (.s 2) 0)), [], none, []⟩, ⟨(some (35, false)), 38, (.val (.ld (.s 37) none)), [37], none, []⟩, ⟨(some (35, false)), 39, (.val (.lnl (.s 38) 2)), [38], none, []⟩, ⟨(some (35, false)), 40, (.val (.bin .geq (.s 36) (.s 39))), [36, 39], none, []⟩, ⟨none, 41, (.val (.pick (.s 35) (.c (.bool true)) (.s 40))), [35, 40], none, []⟩]) (.cond (.s 41) (.seq (.region [⟨none, 42, (.val (.bld [(.slice none 0 0), (.slice none 0 0), (.slice none 0 0), (.slice none 0 0), (.slice none 0 0), (.slice none 0 0), (.slice none 0 0)] [])), [1, 2, 41], none, []⟩, ⟨none, 0, (.store 7 (.s 4) (.s 42)), [42], none, [245]⟩, ⟨none, 5, (.val (.mv (.c (.int .i64 1)))), [], none, []⟩]) .ret) .skip)) (.seq (.region [⟨none, 7, (.alloc (.agg #[(.slice none 0 0), (.slice none 0 0), (.slice none 0 0), (.slice none 0 0), (.slice none 0 0), (.slice none 0 0), (.slice none 0 0)])), [41], none, []⟩]) (.seq (.region [⟨none, 43, (.val (.fa (.s 2) 0)), [], none, []⟩, ⟨none, 44, (.val (.ld (.s 43) none)), [43], none, []⟩, ⟨none, 45, (.val (.mv (.s 1))), [], none, []⟩, ⟨none, 46, (.val (.ia (.s 44) (.s 45) 2)), [44, 45], none, []⟩, ⟨none, 47, (.val (.ld (.s 46) (some 2))), [46], none, []⟩, ⟨none, 48, (.lit 2 [(.s 47)]), [47], none, []⟩, ⟨none, 49, (.val (.fa (.s 7) 0)), [], none, []⟩, ⟨none, 50, (.val (.fa (.s 49) 0)), [49], none, []⟩, ⟨none, 0, (.store 1 (.s 50) (.s 48)), [48, 50], none, [245]⟩]) (.seq (.region [⟨none, 51, (.lit 3 []), [], none, []⟩, ⟨none, 52, (.val (.fa (.s 2) 1)), [], none, []⟩, ⟨none, 53, (.val (.ld (.s 52) none)), [52], none, []⟩, ⟨none, 54, (.app 3 32 false (.s 51) (.s 53)), [51, 53], none, []⟩, ⟨none, 55, (.val (.fa (.s 7) 0)), [], none, []⟩, ⟨none, 56, (.val (.fa (.s 55) 1)), [55], none, []⟩, ⟨none, 0, (.store 1 (.s 56) (.s 54)), [54, 56], none, [245]⟩]) (.seq (.seq (.region [⟨none, 8, (.val (.mv (.c (.int .i64 0)))), [], none, []⟩]) (.block 0 (.loop (.seq (.seq (.region [⟨none, 57, (.val (.mv (.s 8))), [], none, []⟩, ⟨none, 58, (.val (.fa (.s 2) 2)), [], none, []⟩, ⟨none, 59, (.val (.ld (.s 58) none)), [58], none, []⟩, ⟨none, 60, (.val (.lnl (.s 59) 6)), [59], none, []⟩, ⟨none, 61, (.val (.bin .lss (.s 57) (.s 60))), [57, 60], none, []⟩]) (.cond (.s 61) .skip (.exit 0))) (.seq (.block 1 (.seq (.region [⟨none, 64, (.val (.fa (.s 2) 2)), [61], none, []⟩, ⟨none, 65, (.val (.ld (.s 64) none)), [64], none, []⟩, ⟨none, 66, (.val (.mv (.s 8))), [], none, []⟩, ⟨none, 67, (.val (.ia (.s 65) (.s 66) 6)), [65, 66], none, []⟩, ⟨none, 68, (.val (.fa (.s 67) 3)), [67], none, []⟩, ⟨none, 69, (.val (.ld (.s 68) none)), [68], none, []⟩, ⟨none, 70, (.val (.mv (.s 1))), [], none, []⟩, ⟨none, 71, (.val (.bin .eql (.s 69) (.s 70))), [69, 70], none, []⟩]) (.cond (.s 71) (.region [⟨none, 72, (.val (.fa (.s 2) 2)), [71], none, []⟩, ⟨none, 73, (.val (.ld (.s 72) none)), [72], none, []⟩, ⟨none, 74, (.val (.mv (.s 8))), [], none, []⟩, ⟨none, 75, (.val (.ia (.s 73) (.s 74) 6)), [73, 74], none, []⟩, ⟨none, 76, (.val (.ld (.s 75) (some 6))), [75], none, []⟩, ⟨none, 77, (.val (.mv (.s 8))), [], none, []⟩, ⟨none, 78, (.call 144 [(.s 7), (.s 76), (.s 77)]), [76, 77, 78], (some 0), []⟩]) .skip))) (.region [⟨none, 62, (.val (.mv (.s 8))), [8, 71], none, []⟩, ⟨none, 63, (.val (.bin .add (.s 62) (.c (.int .i64 1)))), [62], none, []⟩, ⟨none, 8, (.val (.mv (.s 63))), [63], none, []⟩])))))) (.seq (.region [⟨none, 9, (.val (.mv (.c (.slice none 0 0)))), [8, 61], none, []⟩]) (.seq (.region [⟨none, 79, (.val (.ld (.s 2) (some 4))), [], none, []⟩, ⟨none, 80, (.call 68 [(.s 79)]), [79], none, []⟩, ⟨none, 10, (.val (.mv (.s 80))), [80], none, []⟩]) (.seq (.seq (.region [⟨none, 11, (.val (.mv (.c (.int .i64 0)))), [], none, []⟩]) (.block 2 (.loop (.seq (.seq (.region [⟨none, 81, (.val (.mv (.s 11))), [], none, []⟩, ⟨none, 82, (.val (.bin .lss (.s 81) (.c (.int .i64 2)))), [81], none, []⟩]) (.cond (.s 82) .skip (.exit 2))) (.seq (.block 3 (.seq (.region [⟨none, 12, (.val (.mv (.c (.int .i64 0)))), [82], none, []⟩]) (.block 4 (.loop (.seq (.seq (.region [⟨none, 85, (.val (.mv (.s 12))), [], none, []⟩, ⟨none, 86, (.val (.mv (.s 10))), [], none, []⟩, ⟨none, 87, (.val (.lnl (.s 86) 1)), [86], none, []⟩, ⟨none, 88, (.val (.bin .lss (.s 85) (.s 87))), [85, 87], none, []⟩]) (.cond (.s 88) .skip (.exit 4))) (.seq (.block 5 (.seq (.region [⟨none, 91, (.val (.fa (.s 2) 3)), [88], none, []⟩, ⟨none, 92, (.val (.ld (.s 91) none)), [91], none, []⟩, ⟨none, 93, (.val (.mv (.s 10))), [], none, []⟩, ⟨none, 94, (.val (.mv (.s 12))), [], none, []⟩, ⟨none, 95, (.val (.ia (.s 93) (.s 94) 1)), [93, 94], none, []⟩, ⟨none, 96, (.val (.ld (.s 95) none)), [95], none, []⟩, ⟨none, 97, (.val (.ia (.s 92) (.s 96) 2)), [92, 96], none, []⟩, ⟨none, 98, (.val (.ld (.s 97) (some 2))), [97], none, []⟩, ⟨none, 13, (.alloc (.agg #[(.int .i64 0), (.int .i64 0)])), [], none, []⟩, ⟨none, 0, (.store 2 (.s 13) (.s 98)), [98], none, [245]⟩]) (.seq (.region [⟨none, 100, (.val (.ld (.s 2) (some 4))), [], none, []⟩, ⟨none, 101, (.val (.fa (.s 13) 1)), [], none, []⟩, ⟨none, 102, (.val (.ld (.s 101) none)), [101], none, []⟩, ⟨none, 103, (.val (.bin .mul (.c (.int .i64 2)) (.s 102))), [102], none, []⟩, ⟨none, 104, (.call 46 [(.s 100), (.s 103)]), [100, 103], none, []⟩, ⟨none, 99, (.val (.mv (.s 104))), [104], none, []⟩, ⟨none, 105, (.val (.ext (.s 99) 0)), [], none, []⟩, ⟨none, 106, (.val (.ext (.s 99) 1)), [], none, []⟩, ⟨none, 107, (.val (.ext (.s 99) 2)), [99], none, []⟩, ⟨none, 14, (.val (.mv (.s 105))), [105], none, []⟩, ⟨none, 15, (.val (.mv (.s 106))), [15, 106], none, []⟩, ⟨none, 16, (.val (.mv (.s 107))), [16, 107], none, []⟩]) (.seq (.region [⟨none, 108, (.val (.mv (.s 14))), [14], none, []⟩, ⟨none, 109, (.val (.bld [(.string ⟨#[]⟩), (.int .i64 0), (.int .i64 0), (.int .i64 0), (.int .i64 0), (.int .i64 0)] [(1, (1, (.c (.int .i64 5)))), (2, (1, (.s 108)))])), [108], none, []⟩, ⟨none, 17, (.alloc (.agg #[(.string ⟨#[]⟩), (.int .i64 0), (.int .i64 0), (.int .i64 0), (.int .i64 0), (.int .i64 0)])), [], none, []⟩, ⟨none, 0, (.store 6 (.s 17) (.s 109)), [109], none, [245]⟩]) (.seq (.seq (.region [⟨none, 110, (.val (.mv (.s 11))), [], none, []⟩, ⟨none, 111, (.val (.bin .eql (.s 110) (.c (.int .i64 0)))), [110], none, []⟩, ⟨none, 112, (.val (.mv (.s 111))), [111], none, []⟩, ⟨(some (112, true)), 113, (.val (.fa (.s 2) 2)), [], none, []⟩, ⟨(some (112, true)), 114, (.val (.ld (.s 113) none)), [], none, []⟩, ⟨(some (112, true)), 115, (.val (.fa (.s 13) 0)), [], none, []⟩, ⟨(some (112, true)), 116, (.val (.ld (.s 115) none)), [], none, []⟩, ⟨(some (112, true)), 117, (.val (.ia (.s 114) (.s 116) 6)), [], none, []⟩, ⟨(some (112, true)), 118, (.val (.fa (.s 117) 3)), [], none, []⟩, ⟨(some (112, true)), 119, (.val (.ld (.s 118) none)), [], none, []⟩, ⟨(some (112, true)), 120, (.val (.mv (.s 1))), [], none, []⟩, ⟨(some (112, true)), 121, (.val (.bin .eql (.s 119) (.s 120))), [], none, []⟩, ⟨none, 122, (.val (.pick (.s 112) (.s 121) (.c (.bool false)))), [112], none, []⟩]) (.cond (.s 122) (.seq (.region [⟨none, 123, (.val (.fa (.s 7) 5)), [122], none, []⟩, ⟨none, 124, (.val (.ld (.s 123) none)), [123], none, []⟩, ⟨none, 125, (.val (.mv (.s 10))), [], none, []⟩, ⟨none, 126, (.val (.mv (.s 12))), [], none, []⟩, ⟨none, 127, (.val (.ia (.s 125) (.s 126) 1)), [125, 126], none, []⟩, ⟨none, 128, (.val (.ld (.s 127) none)), [127], none, []⟩, ⟨none, 129, (.lit 1 [(.s 128)]), [128], none, []⟩, ⟨none, 130, (.app 1 8 false (.s 124) (.s 129)), [124, 129], none, []⟩, ⟨none, 131, (.val (.fa (.s 7) 5)), [], none, []⟩, ⟨none, 0, (.store 1 (.s 131) (.s 130)), [130, 131], none, [245]⟩]) (.seq (.region [⟨none, 133, (.val (.ld (.s 7) (some 7))), [], none, []⟩, ⟨none, 134, (.val (.fa (.s 13) 0)), [], none, []⟩, ⟨none, 135, (.val (.ld (.s 134) none)), [134], none, []⟩, ⟨none, 136, (.call 58 [(.s 133), (.s 135)]), [133, 135], none, []⟩, ⟨none, 132, (.val (.mv (.s 136))), [136], none, []⟩, ⟨none, 137, (.val (.ext (.s 132) 0)), [], none, []⟩, ⟨none, 138, (.val (.ext (.s 132) 1)), [132], none, []⟩, ⟨none, 18, (.val (.mv (.s 137))), [137], none, []⟩, ⟨none, 19, (.val (.mv (.s 138))), [19, 138], none, []⟩]) (.region [⟨none, 139, (.val (.mv (.s 9))), [9], none, []⟩, ⟨none, 140, (.val (.mv (.s 18))), [18], none, []⟩, ⟨none, 141, (.val (.ld (.s 17) (some 6))), [], none, []⟩, ⟨none, 142, (.call 144 [(.s 7), (.s 141), (.c (.int .i64 (-1)))]), [141], (some 0), []⟩, ⟨none, 143, (.val (.bld [(.int .i64 0), (.int .i64 0)] [(0, (1, (.s 140))), (1, (1, (.s 142)))])), [140, 142], none, []⟩, ⟨none, 144, (.lit 2 [(.s 143)]), [143], none, []⟩, ⟨none, 145, (.app 2 16 false (.s 139) (.s 144)), [139, 144], none, []⟩, ⟨none, 9, (.val (.mv (.s 145))), [145], none, []⟩]))) .skip)) (.seq (.region [⟨none, 146, (.val (.mv (.s 11))), [122], none, []⟩, ⟨none, 147, (.val (.bin .eql (.s 146) (.c (.int .i64 1)))), [146], none, []⟩, ⟨none, 148, (.val (.mv (.s 147))), [147], none, []⟩, ⟨(some (148, true)), 149, (.val (.fa (.s 2) 2)), [], none, []⟩, ⟨(some (148, true)), 150, (.val (.ld (.s 149) none)), [], none, []⟩, ⟨(some (148, true)), 151, (.val (.fa (.s 13) 1)), [], none, []⟩, ⟨(some (148, true)), 152, (.val (.ld (.s 151) none)), [], none, []⟩, ⟨(some (148, true)), 153, (.val (.ia (.s 150) (.s 152) 6)), [], none, []⟩, ⟨(some (148, true)), 154, (.val (.fa (.s 153) 3)), [], none, []⟩, ⟨(some (148, true)), 155, (.val (.ld (.s 154) none)), [], none, []⟩, ⟨(some (148, true)), 156, (.val (.mv (.s 1))), [], none, []⟩, ⟨(some (148, true)), 157, (.val (.bin .eql (.s 155) (.s 156))), [], none, []⟩, ⟨none, 158, (.val (.pick (.s 148) (.s 157) (.c (.bool false)))), [148], none, []⟩]) (.cond (.s 158) (.seq (.region [⟨none, 159, (.val (.fa (.s 7) 6)), [158], none, []⟩, ⟨none, 160, (.val (.ld (.s 159) none)), [159], none, []⟩, ⟨none, 161, (.val (.mv (.s 10))), [], none, []⟩, ⟨none, 162, (.val (.mv (.s 12))), [], none, []⟩, ⟨none, 163, (.val (.ia (.s 161) (.s 162) 1)), [161, 162], none, []⟩, ⟨none, 164, (.val (.ld (.s 163) none)), [163], none, []⟩, ⟨none, 165, (.lit 1 [(.s 164)]), [164], none, []⟩, ⟨none, 166, (.app 1 8 false (.s 160) (.s 165)), [160, 165], none, []⟩, ⟨none, 167, (.val (.fa (.s 7) 6)), [], none, []⟩, ⟨none, 0, (.store 1 (.s 167) (.s 166)), [166, 167], none, [245]⟩]) (.seq (.region [⟨none, 169, (.val (.ld (.s 7) (some 7))), [], none, []⟩, ⟨none, 170, (.val (.fa (.s 13) 1)), [13], none, []⟩, ⟨none, 171, (.val (.ld (.s 170) none)), [170], none, []⟩, ⟨none, 172, (.call 58 [(.s 169), (.s 171)]), [169, 171], none, []⟩, ⟨none, 168, (.val (.mv (.s 172))), [172], none, []⟩, ⟨none, 173, (.val (.ext (.s 168) 0)), [], none, []⟩, ⟨none, 174, (.val (.ext (.s 168) 1)), [168], none, []⟩, ⟨none, 20, (.val (.mv (.s 173))), [173], none, []⟩, ⟨none, 21, (.val (.mv (.s 174))), [21, 174], none, []⟩]) (.region [⟨none, 175, (.val (.mv (.s 9))), [9], none, []⟩, ⟨none, 176, (.val (.ld (.s 17) (some 6))), [17], none, []⟩, ⟨none, 177, (.call 144 [(.s 7), (.s 176), (.c (.int .i64 (-1)))]), [176], (some 0), []⟩, ⟨none, 178, (.val (.mv (.s 20))), [20], none, []⟩, ⟨none, 179, (.val (.bld [(.int .i64 0), (.int .i64 0)] [(0, (1, (.s 177))), (1, (1, (.s 178)))])), [177, 178], none, []⟩, ⟨none, 180, (.lit 2 [(.s 179)]), [179], none, []⟩, ⟨none, 181, (.app 2 16 false (.s 175) (.s 180)), [175, 180], none, []⟩, ⟨none, 9, (.val (.mv (.s 181))), [181], none, []⟩]))) .skip))))))) (.region [⟨none, 89, (.val (.mv (.s 12))), [12, 13, 17, 158], none, []⟩, ⟨none, 90, (.val (.bin .add (.s 89) (.c (.int .i64 1)))), [89], none, []⟩, ⟨none, 12, (.val (.mv (.s 90))), [90], none, []⟩]))))))) (.region [⟨none, 83, (.val (.mv (.s 11))), [11, 12, 88], none, []⟩, ⟨none, 84, (.val (.bin .add (.s 83) (.c (.int .i64 1)))), [83], none, []⟩, ⟨none, 11, (.val (.mv (.s 84))), [84], none, []⟩])))))) (.seq (.seq (.region [⟨none, 22, (.val (.mv (.c (.int .i64 0)))), [1, 10, 11, 82, 113, 114, 115, 116, 117, 118, 119, 120, 121, 149, 150, 151, 152, 153, 154, 155, 156, 157], none, []⟩]) (.block 6 (.loop (.seq (.seq (.region [⟨none, 182, (.val (.mv (.s 22))), [], none, []⟩, ⟨none, 183, (.val (.fa (.s 2) 3)), [], none, []⟩, ⟨none, 184, (.val (.ld (.s 183) none)), [183], none, []⟩, ⟨none, 185, (.val (.lnl (.s 184) 2)), [184], none, []⟩, ⟨none, 186, (.val (.bin .lss (.s 182) (.s 185))), [182, 185], none, []⟩]) (.cond (.s 186) .skip (.exit 6))) (.seq (.block 7 (.seq (.region [⟨none, 190, (.val (.ld (.s 7) (some 7))), [186], none, []⟩, ⟨none, 191, (.val (.fa (.s 2) 3)), [], none, []⟩, ⟨none, 192, (.val (.ld (.s 191) none)), [191], none, []⟩, ⟨none, 193, (.val (.mv (.s 22))), [], none, []⟩, ⟨none, 194, (.val (.ia (.s 192) (.s 193) 2)), [192, 193], none, []⟩, ⟨none, 195, (.val (.fa (.s 194) 0)), [194], none, []⟩, ⟨none, 196, (.val (.ld (.s 195) none)), [195], none, []⟩, ⟨none, 197, (.call 58 [(.s 190), (.s 196)]), [190, 196], none, []⟩, ⟨none, 189, (.val (.mv (.s 197))), [197], none, []⟩, ⟨none, 198, (.val (.ext (.s 189) 0)), [], none, []⟩, ⟨none, 199, (.val (.ext (.s 189) 1)), [189], none, []⟩, ⟨none, 23, (.val (.mv (.s 198))), [198], none, []⟩, ⟨none, 24, (.val (.mv (.s 199))), [199], none, []⟩]) (.seq (.region [⟨none, 201, (.val (.ld (.s 7) (some 7))), [], none, []⟩, ⟨none, 202, (.val (.fa (.s 2) 3)), [], none, []⟩, ⟨none, 203, (.val (.ld (.s 202) none)), [202], none, []⟩, ⟨none, 204, (.val (.mv (.s 22))), [], none, []⟩, ⟨none, 205, (.val (.ia (.s 203) (.s 204) 2)), [203, 204], none, []⟩, ⟨none, 206, (.val (.fa (.s 205) 1)), [205], none, []⟩, ⟨none, 207, (.val (.ld (.s 206) none)), [206], none, []⟩, ⟨none, 208, (.call 58 [(.s 201), (.s 207)]), [201, 207], none, []⟩, ⟨none, 200, (.val (.mv (.s 208))), [208], none, []⟩, ⟨none, 209, (.val (.ext (.s 200) 0)), [], none, []⟩, ⟨none, 210, (.val (.ext (.s 200) 1)), [200], none, []⟩, ⟨none, 25, (.val (.mv (.s 209))), [209], none, []⟩, ⟨none, 26, (.val (.mv (.s 210))), [210], none, []⟩]) (.seq (.region [⟨none, 211, (.val (.mv (.s 24))), [24], none, []⟩, ⟨none, 212, (.val (.mv (.s 211))), [211], none, []⟩, ⟨(some (212, true)), 213, (.val (.mv (.s 26))), [26], none, []⟩, ⟨none, 214, (.val (.pick (.s 212) (.s 213) (.c (.bool false)))), [212], none, []⟩]) (.cond (.s 214) (.region [⟨none, 215, (.val (.fa (.s 7) 0)), [214], none, []⟩, ⟨none, 216, (.val (.fa (.s 215) 3)), [215], none, []⟩, ⟨none, 217, (.val (.ld (.s 216) none)), [216], none, []⟩, ⟨none, 218, (.val (.mv (.s 23))), [23], none, []⟩, ⟨none, 219, (.val (.mv (.s 25))), [25], none, []⟩, ⟨none, 220, (.val (.bld [(.int .i64 0), (.int .i64 0)] [(0, (1, (.s 218))), (1, (1, (.s 219)))])), [218, 219], none, []⟩, ⟨none, 221, (.lit 2 [(.s 220)]), [220], none, []⟩, ⟨none, 222, (.app 2 16 false (.s 217) (.s 221)), [217, 221], none, []⟩, ⟨none, 223, (.val (.fa (.s 7) 0)), [], none, []⟩, ⟨none, 224, (.val (.fa (.s 223) 3)), [223], none, []⟩, ⟨none, 0, (.store 1 (.s 224) (.s 222)), [222, 224], none, [245]⟩]) .skip))))) (.region [⟨none, 187, (.val (.mv (.s 22))), [22, 23, 25, 214], none, []⟩, ⟨none, 188, (.val (.bin .add (.s 187) (.c (.int .i64 1)))), [187], none, []⟩, ⟨none, 22, (.val (.mv (.s 188))), [188], none, []⟩])))))) (.seq (.region [⟨none, 225, (.val (.fa (.s 7) 0)), [2, 22, 186, 213], none, []⟩, ⟨none, 226, (.val (.fa (.s 225) 3)), [225], none, []⟩, ⟨none, 227, (.val (.ld (.s 226) none)), [226], none, []⟩, ⟨none, 228, (.val (.mv (.s 9))), [9], none, []⟩, ⟨none, 229, (.app 2 16 false (.s 227) (.s 228)), [227, 228], none, []⟩, ⟨none, 230, (.val (.fa (.s 7) 0)), [], none, []⟩, ⟨none, 231, (.val (.fa (.s 230) 3)), [230], none, []⟩, ⟨none, 0, (.store 1 (.s 231) (.s 229)), [229, 231], none, [245]⟩]) (.seq (.seq (.region [⟨none, 232, (.val (.fa (.s 7) 0)), [], none, []⟩, ⟨none, 233, (.val (.fa (.s 232) 2)), [232], none, []⟩, ⟨none, 234, (.val (.ld (.s 233) none)), [233], none, []⟩, ⟨none, 235, (.val (.lnl (.s 234) 6)), [234], none, []⟩, ⟨none, 236, (.val (.bin .gtr (.s 235) (.c (.int .i64 24)))), [235], none, []⟩, ⟨none, 237, (.val (.mv (.s 236))), [236], none, []⟩, ⟨(some (237, false)), 238, (.val (.fa (.s 7) 0)), [], none, []⟩, ⟨(some (237, false)), 239, (.val (.fa (.s 238) 3)), [238], none, []⟩, ⟨(some (237, false)), 240, (.val (.ld (.s 239) none)), [239], none, []⟩, ⟨(some (237, false)), 241, (.val (.lnl (.s 240) 2)), [240], none, []⟩, ⟨(some (237, false)), 242, (.val (.bin .gtr (.s 241) (.c (.int .i64 48)))), [241], none, []⟩, ⟨none, 243, (.val (.pick (.s 237) (.c (.bool true)) (.s 242))), [237, 242], none, []⟩]) (.cond (.s 243) (.seq (.region [⟨none, 244, (.val (.bld [(.slice none 0 0), (.slice none 0 0), (.slice none 0 0), (.slice none 0 0), (.slice none 0 0), (.slice none 0 0), (.slice none 0 0)] [])), [7, 243], none, []⟩, ⟨none, 0, (.store 7 (.s 4) (.s 244)), [244], none, [245]⟩, ⟨none, 5, (.val (.mv (.c (.int .i64 7)))), [], none, []⟩]) .ret) .skip)) (.seq (.region [⟨none, 245, (.val (.ld (.s 7) (some 7))), [7, 243], none, []⟩, ⟨none, 0, (.store 7 (.s 4) (.s 245)), [245], none, [245]⟩, ⟨none, 5, (.val (.mv (.c (.int .i64 0)))), [], none, []⟩]) .ret)))))))))))))))
theorem ok53 : FnOk Try.prog 53 cc53 [(.c 4 104 (some 7)), (.t 5)] 2 246 := ⟨⟨_, Try.func53, by kernel_rfl, by kernel_rfl, by kernel_rfl⟩, by decide, by decide⟩


theorem vwI1 (l : List Int) (x : Int) : List.map frz (List.take (l.length + 1) (List.map i64A (l ++ [x]))) = List.map i64A (l ++ [x]) := fz_map i64A (fun _ => rfl) (by simp)
theorem vwI2 (l : List Int) : List.map frz (List.map i64A l) = List.map i64A l := by
  rw [List.map_map]; exact List.map_congr_left fun _ _ => rfl
theorem snJ (l : List Int) (x : Int) : List.map i64A l ++ [AV.v (Value.int IntKind.i64 x)] = List.map i64A (l ++ [x]) := by simp [i64A]
theorem locI_some {l : List Int} {x : Int} : (locI l x).isSome = true ↔ 0 ≤ x ∧ x ∈ l := by
  by_cases hx : 0 ≤ x
  · by_cases hm : x ∈ l
    · obtain ⟨i, hi⟩ : ∃ i, l.findIdx? (fun y => y == x) = some i := by
        cases h : l.findIdx? (fun y => y == x) with
        | some i => exact ⟨i, rfl⟩
        | none =>
          rw [List.findIdx?_eq_none_iff] at h
          have := h x hm
          simp at this
      have e : idxI l x = i := by simp only [idxI, hi]
      simp only [locI, e, hx, hm, true_and, and_true, iff_true]
      rw [if_neg (by omega)]; rfl
    · have e : idxI l x = -1 := idxI_no fun j y hy hxy => hm (hxy ▸ List.mem_of_getElem? hy)
      simp only [locI, e, hm, and_false, iff_false]
      rw [if_pos (by omega)]; simp
  · simp only [locI, hx, false_and, iff_false]
    rw [if_pos (by omega)]; simp
/-- Who is in the part. -/
def OwnP (g : Gr) (cl : Int) (ops : List Int) : Prop := ∀ (n : Int) (o : O6), 0 ≤ n → g.op[n.toNat]? = some o → (n ∈ ops ↔ o.at_ = cl)
theorem opsN_mem (g : Gr) (cl : Int) (m0 : PM) (h0 : m0.ops = []) : ∀ (i : Nat) (x : Int), x ∈ (opsN g cl m0 i).ops ↔ ∃ n : Nat, x = n ∧ n < i ∧ ∃ o, g.op[n]? = some o ∧ o.at_ = cl
  | 0, x => by simp [opsN, h0]
  | i + 1, x => by
    have ih := opsN_mem g cl m0 h0 i x
    simp only [opsN]
    split
    · rename_i o ho
      split
      · rename_i ha
        simp only [addP, List.mem_append, List.mem_singleton, ih]
        constructor
        · rintro (⟨n, h1, h2, h3⟩ | rfl)
          · exact ⟨n, h1, by omega, h3⟩
          · exact ⟨i, rfl, by omega, o, ho, ha⟩
        · rintro ⟨n, rfl, h2, o', h3, h4⟩
          by_cases hn : n = i
          · subst hn; exact .inr rfl
          · exact .inl ⟨n, rfl, by omega, o', h3, h4⟩
      · rename_i ha
        rw [ih]
        constructor
        · rintro ⟨n, h1, h2, h3⟩; exact ⟨n, h1, by omega, h3⟩
        · rintro ⟨n, rfl, h2, o', h3, h4⟩
          by_cases hn : n = i
          · subst hn; rw [ho] at h3; obtain rfl := Option.some.inj h3; exact absurd h4 ha
          · exact ⟨n, rfl, by omega, o', h3, h4⟩
    · rename_i ho
      rw [ih]
      constructor
      · rintro ⟨n, h1, h2, h3⟩; exact ⟨n, h1, by omega, h3⟩
      · rintro ⟨n, rfl, h2, o', h3, h4⟩
        by_cases hn : n = i
        · subst hn; rw [ho] at h3; cases h3
        · exact ⟨n, rfl, by omega, o', h3, h4⟩
theorem opsN_own (g : Gr) (cl : Int) (m0 : PM) (h0 : m0.ops = []) : OwnP g cl (opsN g cl m0 g.op.length).ops := by
  intro n o hn ho
  rw [opsN_mem g cl m0 h0]
  constructor
  · rintro ⟨k, rfl, _, o', h1, h2⟩
    simp only [Int.toNat_natCast] at ho
    rw [ho] at h1; obtain rfl := Option.some.inj h1; exact h2
  · intro ha
    exact ⟨n.toNat, by omega, (List.getElem?_eq_some_iff.1 ho).1, o, ho, ha⟩
theorem OwnP.snoc {g : Gr} {cl : Int} {l : List Int} (h : OwnP g cl l) : OwnP g cl (l ++ [-1]) := by
  intro n o hn ho
  rw [List.mem_append, h n o hn ho]
  constructor
  · rintro (h | h)
    · exact h
    · simp at h; omega
  · exact .inl
theorem lvS_own {g : Gr} {cl : Int} {s : PM × List Ch} {f : Int} (h : OwnP g cl s.1.ops) : OwnP g cl (lvS g s f).1.ops := by
  unfold lvS; split
  · exact h.snoc
  · exact h
theorem arS_own {g : Gr} {cl : Int} {s : PM × List Ch} {f : Int} (h : OwnP g cl s.1.ops) : OwnP g cl (arS g s f).1.ops := by
  unfold arS; split
  · exact h.snoc
  · exact h
theorem lvM_own {g : Gr} {cl : Int} {s : PM × List Ch} (h : OwnP g cl s.1.ops) (i : Nat) : OwnP g cl (lvM g s i).1.ops :=
  foldl_inv (fun s => OwnP g cl s.1.ops) (lvS g) (fun _ _ h => lvS_own h) _ _ h
theorem arM_own {g : Gr} {cl : Int} {s : PM × List Ch} (h : OwnP g cl s.1.ops) (i : Nat) : OwnP g cl (arM g s i).1.ops :=
  foldl_inv (fun s => OwnP g cl s.1.ops) (arS g) (fun _ _ h => arS_own h) _ _ h
theorem OwnP.some {g : Gr} {cl : Int} {l : List Int} (h : OwnP g cl l) {n : Int} {o : O6} (hn : 0 ≤ n) (ho : g.op[n.toNat]? = Option.some o) (ha : o.at_ = cl) : ∃ k, locI l n = Option.some k := Option.isSome_iff_exists.1 (locI_some.2 ⟨hn, (h n o hn ho).2 ha⟩)
theorem OwnP.none {g : Gr} {cl : Int} {l : List Int} (h : OwnP g cl l) {n : Int} {o : O6} (hn : 0 ≤ n) (ho : g.op[n.toNat]? = Option.some o) (ha : ¬ o.at_ = cl) : locI l n = Option.none := by
  cases hk : locI l n with
  | none => rfl
  | some k =>
    have := locI_some.1 (by rw [hk]; rfl : (locI l n).isSome = true)
    exact absurd ((h n o hn ho).1 this.2) ha
def sl53 (cl : Int) (l : Al) : Al := (2, .ref ⟨1002, [], 0⟩) :: (1, .v (.int .i64 cl)) :: (4, .ref ⟨1004, [], 0⟩) :: (7, .ref ⟨1007, [], 0⟩) :: l
def st53a (I : World → Fp → Value → Fp → Prop) (g : Gr) (c : Cl) (cl : Int) (i : Nat) : St :=
  ⟨sl53 cl [(8, .v (.int .i64 i))], rt52 I g (opsN g cl (baseP g c) i), []⟩
def sP (g : Gr) (k : Nat) : Nat → PM × List Ch
  | 0 => (cutA g k, [])
  | 1 => cutB g k
  | _ => cutC g k
def rP : Nat → Nat
  | 0 => 2145
  | 1 => 2145
  | _ => 2181
def pI : Nat → Int
  | 0 => 0
  | 1 => 1
  | _ => 2
def st53o (I : World → Fp → Value → Fp → Prop) (g : Gr) (cl : Int) (p : Nat) : St :=
  ⟨sl53 cl [(11, .v (.int .i64 (pI p))), (10, .sl ⟨2080, [], 0⟩ 1 0 (flowsL g).length), (9, .sl ⟨rP p, [], 0⟩ 2 0 (sP g cl.toNat p).2.length)], (2080, .own 1 ((flowsL g).map i64A)) :: (rP p, .own 2 ((sP g cl.toNat p).2.map chA)) :: rt52 I g (sP g cl.toNat p).1, []⟩
def st53i (I : World → Fp → Value → Fp → Prop) (g : Gr) (cl p : Int) (r9 : Nat) (s : Nat → PM × List Ch) (i : Nat) : St :=
  ⟨sl53 cl [(11, .v (.int .i64 p)), (12, .v (.int .i64 i)), (10, .sl ⟨2080, [], 0⟩ 1 0 (flowsL g).length), (9, .sl ⟨r9, [], 0⟩ 2 0 (s i).2.length)], (2080, .own 1 ((flowsL g).map i64A)) :: (r9, .own 2 ((s i).2.map chA)) :: rt52 I g (s i).1, []⟩
def st53c (I : World → Fp → Value → Fp → Prop) (g : Gr) (s : PM × List Ch) (i : Nat) : St :=
  ⟨[(2, .ref ⟨1002, [], 0⟩), (4, .ref ⟨1004, [], 0⟩), (7, .ref ⟨1007, [], 0⟩), (22, .v (.int .i64 i)), (9, .sl ⟨2181, [], 0⟩ 2 0 s.2.length)], (2181, .own 2 (s.2.map chA)) :: rt52 I g { s.1 with g := { s.1.g with ch := (g.ch.take i).foldl (chS s.1.ops) [] } }, []⟩
theorem c53 (g : Gr) (hs : Small g) (cl : Int) {Q : AV → Al → Prop} (h : Q (.tup [partA (cutZ g cl).1, i64A (cutZ g cl).2]) []) : ACalls Try.prog 53 [] [gA g, i64A cl] Q := by
  apply ACalls.weakQ
  have hnm := hs.nm
  have hnil : (cutZ g cl).1 = pm0 → ∃ r', AVleR (.tup [nil7, .v (.int .i64 (cutZ g cl).2)]) r' ∧ Q r' [] := by
    intro e
    rw [e] at h
    exact ⟨_, nil7_le _, h⟩
  have hok : ∃ r', AVleR (.tup [partA (cutZ g cl).1, i64A (cutZ g cl).2]) r' ∧ Q r' [] := ⟨_, AVleR.refl _, h⟩
  clear h
  refine ok53.N hmix rfl ?_
  intro I
  simp only [cc53, OI0, OI1, OI2, OI3, OI4, OI5, OI6, OI7, OI8, OI9, OI10, OI11, OI12, ↓reduceIte, reduceCtorEq, Nat.reduceAdd, Nat.reduceEqDiff, Nat.reduceBEq, Nat.reduceLT, Nat.reduceLeDiff, Nat.reduceMul, Nat.reduceSub, Int.reduceLE, Int.reduceLT, Int.reduceEq, Int.reduceBEq, Int.reduceBNe, Int.reduceToNat, Int.reduceNeg, Nat.reduceBNe, forall_eq_or_imp, N_fzG, gA, i64A]
  refine c66 g hnm ?_
  by_cases hc : chk g = 0
  · have hF := chk0 hc
    have hlo6 := hF.lo6
    have h24 := hF.op24
    have h48 := hF.ch48
    have hfl := flowsL_len g
    simp only [OI0, OI1, OI2, OI3, OI4, OI5, OI6, OI7, OI8, OI9, OI10, OI11, OI12, ↓reduceIte, reduceCtorEq, Nat.reduceAdd, Nat.reduceEqDiff, Nat.reduceBEq, Nat.reduceLT, Nat.reduceLeDiff, Nat.reduceMul, Nat.reduceSub, Int.reduceLE, Int.reduceLT, Int.reduceEq, Int.reduceBEq, Int.reduceBNe, Int.reduceToNat, Int.reduceNeg, Nat.reduceBNe, forall_eq_or_imp, N_fzG, i64A, bneF hc]
    by_cases l0 : cl < 0
    · simp only [OI0, OI1, OI2, OI3, OI4, OI5, OI6, OI7, OI8, OI9, OI10, OI11, OI12, ↓reduceIte, reduceCtorEq, Nat.reduceAdd, Nat.reduceEqDiff, Nat.reduceBEq, Nat.reduceLT, Nat.reduceLeDiff, Nat.reduceMul, Nat.reduceSub, Int.reduceLE, Int.reduceLT, Int.reduceEq, Int.reduceBEq, Int.reduceBNe, Int.reduceToNat, Int.reduceNeg, Nat.reduceBNe, forall_eq_or_imp, N_fzG, l0]
      have e := cutZ_rng hc (.inl l0)
      simpa [e] using hnil (by rw [e])
    by_cases l1 : (g.cl.length : Int) ≤ cl
    · simp only [OI0, OI1, OI2, OI3, OI4, OI5, OI6, OI7, OI8, OI9, OI10, OI11, OI12, ↓reduceIte, reduceCtorEq, Nat.reduceAdd, Nat.reduceEqDiff, Nat.reduceBEq, Nat.reduceLT, Nat.reduceLeDiff, Nat.reduceMul, Nat.reduceSub, Int.reduceLE, Int.reduceLT, Int.reduceEq, Int.reduceBEq, Int.reduceBNe, Int.reduceToNat, Int.reduceNeg, Nat.reduceBNe, forall_eq_or_imp, N_fzG, l0, l1]
      have e := cutZ_rng hc (.inr l1)
      simpa [e] using hnil (by rw [e])
    have l2 : 0 ≤ cl := by omega
    have l3 : cl < (g.cl.length : Int) := by omega
    obtain ⟨c, hgc⟩ : ∃ c, g.cl[cl.toNat]? = some c := ⟨_, List.getElem?_eq_getElem (by omega)⟩
    simp only [OI0, OI1, OI2, OI3, OI4, OI5, OI6, OI7, OI8, OI9, OI10, OI11, OI12, ↓reduceIte, reduceCtorEq, Nat.reduceAdd, Nat.reduceEqDiff, Nat.reduceBEq, Nat.reduceLT, Nat.reduceLeDiff, Nat.reduceMul, Nat.reduceSub, Int.reduceLE, Int.reduceLT, Int.reduceEq, Int.reduceBEq, Int.reduceBNe, Int.reduceToNat, Int.reduceNeg, Nat.reduceBNe, forall_eq_or_imp, N_fzG, l0, l1, l2, l3, hgc, clA]
    have hlall : (g.lo.all fun x => ntup (loA x) && (loA x).cells.length == 3 && (loA x).cells.all stor) = true := List.all_eq_true.2 fun _ _ => rfl
    refine ⟨⟨hlall, by omega, by omega⟩, ?_⟩
    rw [tk_all]
    refine W_nilT 1007 [.own 2 [clA c], .own 3 (g.lo.map loA), .own 6 [], .own 2 [], .own 1 [], .own 1 [], .own 1 []] rfl (.same (.same (.own (by decide) (.own (by decide) (.own (by decide) (.own (by decide) (.own (by decide) .nil))))))) ?_
    refine W_loop (st53a I g c cl) (fun i => i ≤ g.op.length) (fun i => g.op.length - i) (fun _ _ => rfl) ⟨0, by omega, ?_⟩ ?_
    · simp only [OI0, OI1, OI2, OI3, OI4, OI5, OI6, OI7, OI8, OI9, OI10, OI11, OI12, ↓reduceIte, reduceCtorEq, Nat.reduceAdd, Nat.reduceEqDiff, Nat.reduceBEq, Nat.reduceLT, Nat.reduceLeDiff, Nat.reduceMul, Nat.reduceSub, Int.reduceLE, Int.reduceLT, Int.reduceEq, Int.reduceBEq, Int.reduceBNe, Int.reduceToNat, Int.reduceNeg, Nat.reduceBNe, forall_eq_or_imp, N_fzG, st53a, sl53, rt52, gA, pT, opsN, baseP, List.map_cons, List.map_nil, clA]
      try trace_state
    rintro i hi
    refine W_of_N ok53.small hmix ?_
    obtain ⟨sz, -, -, hch0⟩ := opsN_sz g hlo6 c cl i
    by_cases hil : i < g.op.length
    · have hil' : (i : Int) < g.op.length := by omega
      have i0 : (0 : Int) ≤ i := by omega
      have hgi : g.op[i]? = some g.op[i] := List.getElem?_eq_getElem hil
      have w1 : IntKind.i64.wrap ((i : Int) + 1) = ((i + 1 : Nat) : Int) := by rw [wrI64 (by omega) (by omega)]; omega
      generalize g.op[i] = o at hgi
      by_cases ho : o.at_ = cl
      · have nx : opsN g cl (baseP g c) (i + 1) = addP (opsN g cl (baseP g c) i) o i := by simp only [opsN, hgi]; rw [if_pos ho]
        simp only [OI0, OI1, OI2, OI3, OI4, OI5, OI6, OI7, OI8, OI9, OI10, OI11, OI12, ↓reduceIte, reduceCtorEq, Nat.reduceAdd, Nat.reduceEqDiff, Nat.reduceBEq, Nat.reduceLT, Nat.reduceLeDiff, Nat.reduceMul, Nat.reduceSub, Int.reduceLE, Int.reduceLT, Int.reduceEq, Int.reduceBEq, Int.reduceBNe, Int.reduceToNat, Int.reduceNeg, Nat.reduceBNe, forall_eq_or_imp, N_fzG, st53a, sl53, rt52, gA, hil', i0, hgi, opA, beqT ho]
        refine c144 (opsN g cl (baseP g c) i) o i (sz.pm (by omega)) ?_
        simp only [OI0, OI1, OI2, OI3, OI4, OI5, OI6, OI7, OI8, OI9, OI10, OI11, OI12, ↓reduceIte, reduceCtorEq, Nat.reduceAdd, Nat.reduceEqDiff, Nat.reduceBEq, Nat.reduceLT, Nat.reduceLeDiff, Nat.reduceMul, Nat.reduceSub, Int.reduceLE, Int.reduceLT, Int.reduceEq, Int.reduceBEq, Int.reduceBNe, Int.reduceToNat, Int.reduceNeg, Nat.reduceBNe, forall_eq_or_imp, N_fzG, pT, i64A, w1]
        refine ⟨i + 1, ⟨by omega, by omega⟩, ?_⟩
        simp only [OI0, OI1, OI2, OI3, OI4, OI5, OI6, OI7, OI8, OI9, OI10, OI11, OI12, ↓reduceIte, reduceCtorEq, Nat.reduceAdd, Nat.reduceEqDiff, Nat.reduceBEq, Nat.reduceLT, Nat.reduceLeDiff, Nat.reduceMul, Nat.reduceSub, Int.reduceLE, Int.reduceLT, Int.reduceEq, Int.reduceBEq, Int.reduceBNe, Int.reduceToNat, Int.reduceNeg, Nat.reduceBNe, forall_eq_or_imp, N_fzG, st53a, sl53, rt52, gA, nx, pT]
      · have nx : opsN g cl (baseP g c) (i + 1) = opsN g cl (baseP g c) i := by simp only [opsN, hgi]; rw [if_neg ho]
        simp only [OI0, OI1, OI2, OI3, OI4, OI5, OI6, OI7, OI8, OI9, OI10, OI11, OI12, ↓reduceIte, reduceCtorEq, Nat.reduceAdd, Nat.reduceEqDiff, Nat.reduceBEq, Nat.reduceLT, Nat.reduceLeDiff, Nat.reduceMul, Nat.reduceSub, Int.reduceLE, Int.reduceLT, Int.reduceEq, Int.reduceBEq, Int.reduceBNe, Int.reduceToNat, Int.reduceNeg, Nat.reduceBNe, forall_eq_or_imp, N_fzG, st53a, sl53, rt52, gA, hil', i0, hgi, opA, beqF ho, w1]
        refine ⟨i + 1, ⟨by omega, by omega⟩, ?_⟩
        simp only [OI0, OI1, OI2, OI3, OI4, OI5, OI6, OI7, OI8, OI9, OI10, OI11, OI12, ↓reduceIte, reduceCtorEq, Nat.reduceAdd, Nat.reduceEqDiff, Nat.reduceBEq, Nat.reduceLT, Nat.reduceLeDiff, Nat.reduceMul, Nat.reduceSub, Int.reduceLE, Int.reduceLT, Int.reduceEq, Int.reduceBEq, Int.reduceBNe, Int.reduceToNat, Int.reduceNeg, Nat.reduceBNe, forall_eq_or_imp, N_fzG, st53a, sl53, rt52, gA, nx]
    obtain rfl : i = g.op.length := by omega
    simp only [OI0, OI1, OI2, OI3, OI4, OI5, OI6, OI7, OI8, OI9, OI10, OI11, OI12, ↓reduceIte, reduceCtorEq, Nat.reduceAdd, Nat.reduceEqDiff, Nat.reduceBEq, Nat.reduceLT, Nat.reduceLeDiff, Nat.reduceMul, Nat.reduceSub, Int.reduceLE, Int.reduceLT, Int.reduceEq, Int.reduceBEq, Int.reduceBNe, Int.reduceToNat, Int.reduceNeg, Nat.reduceBNe, forall_eq_or_imp, N_fzG, st53a, sl53, rt52, gA, Int.lt_irrefl]
    have ownA := opsN_own g cl (baseP g c) rfl
    have hA : opsN g cl (baseP g c) g.op.length = cutA g cl.toNat := by
      simp only [cutA, hgc, baseP, pm0, Option.toList]
      rw [Int.toNat_of_nonneg l2]
    rw [hA] at sz hch0 ownA ⊢
    have hch := cutC_ch hch0
    have szA := sz
    clear sz hil hi
    have hB : lvM g (cutA g cl.toNat, []) (flowsL g).length = cutB g cl.toNat := by simp only [lvM, cutB, List.take_length]
    have hC : arM g (cutB g cl.toNat) (flowsL g).length = cutC g cl.toNat := by simp only [arM, cutC, List.take_length]
    have szB := lvM_sz szA (g := g) (flowsL g).length
    have ownB := lvM_own (s := (cutA g cl.toNat, [])) ownA (flowsL g).length
    rw [hB] at szB ownB
    have szC := arM_sz szB (g := g) (flowsL g).length
    rw [hC] at szC
    have w01 : IntKind.i64.wrap (0 + 1) = 1 := by rw [wrI64 (by omega) (by omega)]; rfl
    have w12 : IntKind.i64.wrap (1 + 1) = 2 := by rw [wrI64 (by omega) (by omega)]; rfl
    refine c68 g hnm hc ?_
    simp only [OI0, OI1, OI2, OI3, OI4, OI5, OI6, OI7, OI8, OI9, OI10, OI11, OI12, ↓reduceIte, reduceCtorEq, Nat.reduceAdd, Nat.reduceEqDiff, Nat.reduceBEq, Nat.reduceLT, Nat.reduceLeDiff, Nat.reduceMul, Nat.reduceSub, Int.reduceLE, Int.reduceLT, Int.reduceEq, Int.reduceBEq, Int.reduceBNe, Int.reduceToNat, Int.reduceNeg, Nat.reduceBNe, forall_eq_or_imp, N_fzG, List.length_map, tk_len]
    refine W_nilS 9 2145 2 (by decide) rfl rfl (by decide) rfl ?_
    refine W_loop (st53o I g cl) (fun p => p ≤ 2) (fun p => 2 - p) ?_ ⟨0, by omega, ?_⟩ ?_
    · intro p hp
      obtain rfl | rfl | rfl : p = 0 ∨ p = 1 ∨ p = 2 := by omega
      all_goals rfl
    · simp only [OI0, OI1, OI2, OI3, OI4, OI5, OI6, OI7, OI8, OI9, OI10, OI11, OI12, ↓reduceIte, reduceCtorEq, Nat.reduceAdd, Nat.reduceEqDiff, Nat.reduceBEq, Nat.reduceLT, Nat.reduceLeDiff, Nat.reduceMul, Nat.reduceSub, Int.reduceLE, Int.reduceLT, Int.reduceEq, Int.reduceBEq, Int.reduceBNe, Int.reduceToNat, Int.reduceNeg, Nat.reduceBNe, forall_eq_or_imp, N_fzG, st53o, sl53, rt52, gA, sP, rP, pI, List.length_nil, List.map_nil]
      try trace_state
    intro p hp
    refine W_of_N ok53.small hmix ?_
    obtain rfl | rfl | rfl : p = 0 ∨ p = 1 ∨ p = 2 := by omega
    · simp only [OI0, OI1, OI2, OI3, OI4, OI5, OI6, OI7, OI8, OI9, OI10, OI11, OI12, ↓reduceIte, reduceCtorEq, Nat.reduceAdd, Nat.reduceEqDiff, Nat.reduceBEq, Nat.reduceLT, Nat.reduceLeDiff, Nat.reduceMul, Nat.reduceSub, Int.reduceLE, Int.reduceLT, Int.reduceEq, Int.reduceBEq, Int.reduceBNe, Int.reduceToNat, Int.reduceNeg, Nat.reduceBNe, forall_eq_or_imp, N_fzG, st53o, sl53, rt52, gA, sP, rP, pI]
      refine W_loop (st53i I g cl 0 2145 (lvM g (cutA g cl.toNat, []))) (fun i => i ≤ (flowsL g).length) (fun i => (flowsL g).length - i) (fun _ _ => rfl) ⟨0, by omega, ?_⟩ ?_
      · simp only [OI0, OI1, OI2, OI3, OI4, OI5, OI6, OI7, OI8, OI9, OI10, OI11, OI12, ↓reduceIte, reduceCtorEq, Nat.reduceAdd, Nat.reduceEqDiff, Nat.reduceBEq, Nat.reduceLT, Nat.reduceLeDiff, Nat.reduceMul, Nat.reduceSub, Int.reduceLE, Int.reduceLT, Int.reduceEq, Int.reduceBEq, Int.reduceBNe, Int.reduceToNat, Int.reduceNeg, Nat.reduceBNe, forall_eq_or_imp, N_fzG, st53i, sl53, rt52, gA, lvM, List.take_zero, List.foldl_nil, List.length_nil, List.map_nil]
        try trace_state
      rintro i hi
      refine W_of_N ok53.small hmix ?_
      have szi := lvM_sz szA (g := g) i
      have owni := lvM_own (s := (cutA g cl.toNat, [])) ownA i
      by_cases hil : i < (flowsL g).length
      · have hil' : (i : Int) < (flowsL g).length := by omega
        have i0 : (0 : Int) ≤ i := by omega
        have hgi : (flowsL g)[i]? = some (flowsL g)[i] := List.getElem?_eq_getElem hil
        have w1 : IntKind.i64.wrap ((i : Int) + 1) = ((i + 1 : Nat) : Int) := by rw [wrI64 (by omega) (by omega)]; omega
        obtain ⟨j, d, hj, hd⟩ := flowsL_mem hgi
        generalize (flowsL g)[i] = f at hgi hj
        obtain ⟨x, y, u1, u2, u3, u4, hx, hy⟩ := hF.ch _ _ hd
        have f0 : 0 ≤ f := by omega
        have f1 : f < (g.ch.length : Int) := by have := (List.getElem?_eq_some_iff.1 hd).1; omega
        have f2 : f.toNat = j := by omega
        have hcf : chAt g f = d := by simp only [chAt, f2, hd]
        have w2 : IntKind.i64.wrap (2 * d.2) = 2 * d.2 := wrI64 (by omega) (by omega)
        have hsc : scR g (2 * d.2) = (scL g (2 * d.2), deepN g.lo (scL g (2 * d.2)), 0) := by
          rw [scR, if_neg (by simpa using hc), if_neg (by omega)]
        rw [← loopTo_of hj hd u3] at hsc
        have nx := lvM_succ (s := (cutA g cl.toNat, [])) hgi
        generalize hm : lvM g (cutA g cl.toNat, []) i = s at szi nx owni
        obtain ⟨m, e⟩ := s
        simp only at owni
        simp only [OI0, OI1, OI2, OI3, OI4, OI5, OI6, OI7, OI8, OI9, OI10, OI11, OI12, ↓reduceIte, reduceCtorEq, Nat.reduceAdd, Nat.reduceEqDiff, Nat.reduceBEq, Nat.reduceLT, Nat.reduceLeDiff, Nat.reduceMul, Nat.reduceSub, Int.reduceLE, Int.reduceLT, Int.reduceEq, Int.reduceBEq, Int.reduceBNe, Int.reduceToNat, Int.reduceNeg, Nat.reduceBNe, forall_eq_or_imp, N_fzG, st53i, sl53, rt52, gA, hil', i0, hgi, i64A, f0, f1, f2, hd, chA, hm, w2, vwCl, vwLo, vwOp, vwCh, vwI, Nat.le_refl, tk_len]
        refine c46 g hnm (2 * d.2) (by omega) ?_
        rw [hsc]
        by_cases ha : x.at_ = cl
        · obtain ⟨k, hk⟩ := owni.some u1 hx ha
          have e1 : lvS g (m, e) f = (addP { m with lv := m.lv ++ [f] } (swapO (loopTo g f)) (-1), e ++ [(k, (m.ops.length : Int))]) := by simp only [lvS, hcf, hk]
          rw [e1] at nx
          have z1 := szi.lv
          have z2 := szi.e
          have z3 := szi.op
          have z4 := szi.ops
          simp only at z1 z2 z3 z4
          have sz' : PmS { m with lv := m.lv ++ [f] } := by
            have := szi.pm (by omega)
            exact ⟨this.cl, this.op, this.ops, by simp only [List.length_append, List.length_cons, List.length_nil]; omega, this.ar⟩
          simp only [OI0, OI1, OI2, OI3, OI4, OI5, OI6, OI7, OI8, OI9, OI10, OI11, OI12, ↓reduceIte, reduceCtorEq, Nat.reduceAdd, Nat.reduceEqDiff, Nat.reduceBEq, Nat.reduceLT, Nat.reduceLeDiff, Nat.reduceMul, Nat.reduceSub, Int.reduceLE, Int.reduceLT, Int.reduceEq, Int.reduceBEq, Int.reduceBNe, Int.reduceToNat, Int.reduceNeg, Nat.reduceBNe, forall_eq_or_imp, N_fzG, pT, i64A, hx, opA, u1, u2, beqT ha, hil', i0, hgi, vwCl, vwLo, vwOp, vwCh, vwI, Nat.le_refl, tk_len]
          refine ⟨⟨by omega, by omega⟩, ?_⟩
          simp only [snI, vwI2]
          have oks := sz'.ok
          refine c58 { m with lv := m.lv ++ [f] } d.1 oks ?_
          simp only [OI0, OI1, OI2, OI3, OI4, OI5, OI6, OI7, OI8, OI9, OI10, OI11, OI12, ↓reduceIte, reduceCtorEq, Nat.reduceAdd, Nat.reduceEqDiff, Nat.reduceBEq, Nat.reduceLT, Nat.reduceLeDiff, Nat.reduceMul, Nat.reduceSub, Int.reduceLE, Int.reduceLT, Int.reduceEq, Int.reduceBEq, Int.reduceBNe, Int.reduceToNat, Int.reduceNeg, Nat.reduceBNe, forall_eq_or_imp, N_fzG, i64A, hk, Option.isSome_some, Option.getD_some]
          simp only [snJ]
          refine c144 { m with lv := m.lv ++ [f] } (swapO (loopTo g f)) (-1) sz' ?_
          simp only [OI0, OI1, OI2, OI3, OI4, OI5, OI6, OI7, OI8, OI9, OI10, OI11, OI12, ↓reduceIte, reduceCtorEq, Nat.reduceAdd, Nat.reduceEqDiff, Nat.reduceBEq, Nat.reduceLT, Nat.reduceLeDiff, Nat.reduceMul, Nat.reduceSub, Int.reduceLE, Int.reduceLT, Int.reduceEq, Int.reduceBEq, Int.reduceBNe, Int.reduceToNat, Int.reduceNeg, Nat.reduceBNe, forall_eq_or_imp, N_fzG, pT, i64A, tk_len, w1]
          refine ⟨⟨by omega, by omega⟩, ?_⟩
          refine ⟨i + 1, ⟨by omega, by omega⟩, ?_⟩
          simp only [OI0, OI1, OI2, OI3, OI4, OI5, OI6, OI7, OI8, OI9, OI10, OI11, OI12, ↓reduceIte, reduceCtorEq, Nat.reduceAdd, Nat.reduceEqDiff, Nat.reduceBEq, Nat.reduceLT, Nat.reduceLeDiff, Nat.reduceMul, Nat.reduceSub, Int.reduceLE, Int.reduceLT, Int.reduceEq, Int.reduceBEq, Int.reduceBNe, Int.reduceToNat, Int.reduceNeg, Nat.reduceBNe, forall_eq_or_imp, N_fzG, st53i, sl53, rt52, gA, nx, pT, List.map_append, List.map_cons, List.map_nil, chA, List.length_append, List.length_cons, List.length_nil]
        · have hk := owni.none u1 hx ha
          have e1 : lvS g (m, e) f = (m, e) := by simp only [lvS, hcf, hk]
          rw [e1] at nx
          simp only [OI0, OI1, OI2, OI3, OI4, OI5, OI6, OI7, OI8, OI9, OI10, OI11, OI12, ↓reduceIte, reduceCtorEq, Nat.reduceAdd, Nat.reduceEqDiff, Nat.reduceBEq, Nat.reduceLT, Nat.reduceLeDiff, Nat.reduceMul, Nat.reduceSub, Int.reduceLE, Int.reduceLT, Int.reduceEq, Int.reduceBEq, Int.reduceBNe, Int.reduceToNat, Int.reduceNeg, Nat.reduceBNe, forall_eq_or_imp, N_fzG, pT, i64A, hx, opA, u1, u2, beqF ha, w1, vwCl, vwLo, vwOp, vwCh, vwI, Nat.le_refl, tk_len]
          refine ⟨i + 1, ⟨by omega, by omega⟩, ?_⟩
          simp only [OI0, OI1, OI2, OI3, OI4, OI5, OI6, OI7, OI8, OI9, OI10, OI11, OI12, ↓reduceIte, reduceCtorEq, Nat.reduceAdd, Nat.reduceEqDiff, Nat.reduceBEq, Nat.reduceLT, Nat.reduceLeDiff, Nat.reduceMul, Nat.reduceSub, Int.reduceLE, Int.reduceLT, Int.reduceEq, Int.reduceBEq, Int.reduceBNe, Int.reduceToNat, Int.reduceNeg, Nat.reduceBNe, forall_eq_or_imp, N_fzG, st53i, sl53, rt52, gA, nx, pT]
      obtain rfl : i = (flowsL g).length := by omega
      simp only [OI0, OI1, OI2, OI3, OI4, OI5, OI6, OI7, OI8, OI9, OI10, OI11, OI12, ↓reduceIte, reduceCtorEq, Nat.reduceAdd, Nat.reduceEqDiff, Nat.reduceBEq, Nat.reduceLT, Nat.reduceLeDiff, Nat.reduceMul, Nat.reduceSub, Int.reduceLE, Int.reduceLT, Int.reduceEq, Int.reduceBEq, Int.reduceBNe, Int.reduceToNat, Int.reduceNeg, Nat.reduceBNe, forall_eq_or_imp, N_fzG, st53i, sl53, rt52, gA, Int.lt_irrefl, hB, w01, tk_len]
      refine ⟨1, ⟨by omega, by omega⟩, ?_⟩
      simp only [OI0, OI1, OI2, OI3, OI4, OI5, OI6, OI7, OI8, OI9, OI10, OI11, OI12, ↓reduceIte, reduceCtorEq, Nat.reduceAdd, Nat.reduceEqDiff, Nat.reduceBEq, Nat.reduceLT, Nat.reduceLeDiff, Nat.reduceMul, Nat.reduceSub, Int.reduceLE, Int.reduceLT, Int.reduceEq, Int.reduceBEq, Int.reduceBNe, Int.reduceToNat, Int.reduceNeg, Nat.reduceBNe, forall_eq_or_imp, N_fzG, st53o, sl53, rt52, gA, sP, rP, pI]
    · simp only [OI0, OI1, OI2, OI3, OI4, OI5, OI6, OI7, OI8, OI9, OI10, OI11, OI12, ↓reduceIte, reduceCtorEq, Nat.reduceAdd, Nat.reduceEqDiff, Nat.reduceBEq, Nat.reduceLT, Nat.reduceLeDiff, Nat.reduceMul, Nat.reduceSub, Int.reduceLE, Int.reduceLT, Int.reduceEq, Int.reduceBEq, Int.reduceBNe, Int.reduceToNat, Int.reduceNeg, Nat.reduceBNe, forall_eq_or_imp, N_fzG, st53o, sl53, rt52, gA, sP, rP, pI]
      refine W_mv 9 2145 2181 rfl rfl rfl (by decide) (by decide) rfl rfl ?_
      refine W_loop (st53i I g cl 1 2181 (arM g (cutB g cl.toNat))) (fun i => i ≤ (flowsL g).length) (fun i => (flowsL g).length - i) (fun _ _ => rfl) ⟨0, by omega, ?_⟩ ?_
      · simp only [OI0, OI1, OI2, OI3, OI4, OI5, OI6, OI7, OI8, OI9, OI10, OI11, OI12, ↓reduceIte, reduceCtorEq, Nat.reduceAdd, Nat.reduceEqDiff, Nat.reduceBEq, Nat.reduceLT, Nat.reduceLeDiff, Nat.reduceMul, Nat.reduceSub, Int.reduceLE, Int.reduceLT, Int.reduceEq, Int.reduceBEq, Int.reduceBNe, Int.reduceToNat, Int.reduceNeg, Nat.reduceBNe, forall_eq_or_imp, N_fzG, st53i, sl53, rt52, gA, arM, List.take_zero, List.foldl_nil, List.length_nil, List.map_nil]
        try trace_state
      rintro i hi
      refine W_of_N ok53.small hmix ?_
      have szi := arM_sz szB (g := g) i
      have owni := arM_own (s := cutB g cl.toNat) ownB i
      by_cases hil : i < (flowsL g).length
      · have hil' : (i : Int) < (flowsL g).length := by omega
        have i0 : (0 : Int) ≤ i := by omega
        have hgi : (flowsL g)[i]? = some (flowsL g)[i] := List.getElem?_eq_getElem hil
        have w1 : IntKind.i64.wrap ((i : Int) + 1) = ((i + 1 : Nat) : Int) := by rw [wrI64 (by omega) (by omega)]; omega
        obtain ⟨j, d, hj, hd⟩ := flowsL_mem hgi
        generalize (flowsL g)[i] = f at hgi hj
        obtain ⟨x, y, u1, u2, u3, u4, hx, hy⟩ := hF.ch _ _ hd
        have f0 : 0 ≤ f := by omega
        have f1 : f < (g.ch.length : Int) := by have := (List.getElem?_eq_some_iff.1 hd).1; omega
        have f2 : f.toNat = j := by omega
        have hcf : chAt g f = d := by simp only [chAt, f2, hd]
        have w2 : IntKind.i64.wrap (2 * d.2) = 2 * d.2 := wrI64 (by omega) (by omega)
        have hsc : scR g (2 * d.2) = (scL g (2 * d.2), deepN g.lo (scL g (2 * d.2)), 0) := by
          rw [scR, if_neg (by simpa using hc), if_neg (by omega)]
        rw [← loopTo_of hj hd u3] at hsc
        have nx := arM_succ (s := cutB g cl.toNat) hgi
        generalize hm : arM g (cutB g cl.toNat) i = s at szi nx owni
        obtain ⟨m, e⟩ := s
        simp only at owni
        simp only [OI0, OI1, OI2, OI3, OI4, OI5, OI6, OI7, OI8, OI9, OI10, OI11, OI12, ↓reduceIte, reduceCtorEq, Nat.reduceAdd, Nat.reduceEqDiff, Nat.reduceBEq, Nat.reduceLT, Nat.reduceLeDiff, Nat.reduceMul, Nat.reduceSub, Int.reduceLE, Int.reduceLT, Int.reduceEq, Int.reduceBEq, Int.reduceBNe, Int.reduceToNat, Int.reduceNeg, Nat.reduceBNe, forall_eq_or_imp, N_fzG, st53i, sl53, rt52, gA, hil', i0, hgi, i64A, f0, f1, f2, hd, chA, hm, w2, vwCl, vwLo, vwOp, vwCh, vwI, Nat.le_refl, tk_len]
        refine c46 g hnm (2 * d.2) (by omega) ?_
        rw [hsc]
        by_cases ha : y.at_ = cl
        · obtain ⟨k, hk⟩ := owni.some u3 hy ha
          have e1 : arS g (m, e) f = (addP { m with ar := m.ar ++ [f] } (swapO (loopTo g f)) (-1), e ++ [((m.ops.length : Int), k)]) := by simp only [arS, hcf, hk]
          rw [e1] at nx
          have z1 := szi.ar
          have z2 := szi.e
          have z3 := szi.op
          have z4 := szi.ops
          simp only at z1 z2 z3 z4
          have sz' : PmS { m with ar := m.ar ++ [f] } := by
            have := szi.pm (by omega)
            exact ⟨this.cl, this.op, this.ops, this.lv, by simp only [List.length_append, List.length_cons, List.length_nil]; omega⟩
          simp only [OI0, OI1, OI2, OI3, OI4, OI5, OI6, OI7, OI8, OI9, OI10, OI11, OI12, ↓reduceIte, reduceCtorEq, Nat.reduceAdd, Nat.reduceEqDiff, Nat.reduceBEq, Nat.reduceLT, Nat.reduceLeDiff, Nat.reduceMul, Nat.reduceSub, Int.reduceLE, Int.reduceLT, Int.reduceEq, Int.reduceBEq, Int.reduceBNe, Int.reduceToNat, Int.reduceNeg, Nat.reduceBNe, forall_eq_or_imp, N_fzG, pT, i64A, hy, opA, u3, u4, beqT ha, hil', i0, hgi, vwCl, vwLo, vwOp, vwCh, vwI, Nat.le_refl, tk_len]
          refine ⟨⟨by omega, by omega⟩, ?_⟩
          simp only [snI, vwI2]
          have oks := sz'.ok
          refine c58 { m with ar := m.ar ++ [f] } d.2 oks ?_
          simp only [OI0, OI1, OI2, OI3, OI4, OI5, OI6, OI7, OI8, OI9, OI10, OI11, OI12, ↓reduceIte, reduceCtorEq, Nat.reduceAdd, Nat.reduceEqDiff, Nat.reduceBEq, Nat.reduceLT, Nat.reduceLeDiff, Nat.reduceMul, Nat.reduceSub, Int.reduceLE, Int.reduceLT, Int.reduceEq, Int.reduceBEq, Int.reduceBNe, Int.reduceToNat, Int.reduceNeg, Nat.reduceBNe, forall_eq_or_imp, N_fzG, i64A, hk, Option.isSome_some, Option.getD_some]
          simp only [snJ]
          refine c144 { m with ar := m.ar ++ [f] } (swapO (loopTo g f)) (-1) sz' ?_
          simp only [OI0, OI1, OI2, OI3, OI4, OI5, OI6, OI7, OI8, OI9, OI10, OI11, OI12, ↓reduceIte, reduceCtorEq, Nat.reduceAdd, Nat.reduceEqDiff, Nat.reduceBEq, Nat.reduceLT, Nat.reduceLeDiff, Nat.reduceMul, Nat.reduceSub, Int.reduceLE, Int.reduceLT, Int.reduceEq, Int.reduceBEq, Int.reduceBNe, Int.reduceToNat, Int.reduceNeg, Nat.reduceBNe, forall_eq_or_imp, N_fzG, pT, i64A, tk_len, w1]
          refine ⟨⟨by omega, by omega⟩, ?_⟩
          refine ⟨i + 1, ⟨by omega, by omega⟩, ?_⟩
          simp only [OI0, OI1, OI2, OI3, OI4, OI5, OI6, OI7, OI8, OI9, OI10, OI11, OI12, ↓reduceIte, reduceCtorEq, Nat.reduceAdd, Nat.reduceEqDiff, Nat.reduceBEq, Nat.reduceLT, Nat.reduceLeDiff, Nat.reduceMul, Nat.reduceSub, Int.reduceLE, Int.reduceLT, Int.reduceEq, Int.reduceBEq, Int.reduceBNe, Int.reduceToNat, Int.reduceNeg, Nat.reduceBNe, forall_eq_or_imp, N_fzG, st53i, sl53, rt52, gA, nx, pT, List.map_append, List.map_cons, List.map_nil, chA, List.length_append, List.length_cons, List.length_nil]
        · have hk := owni.none u3 hy ha
          have e1 : arS g (m, e) f = (m, e) := by simp only [arS, hcf, hk]
          rw [e1] at nx
          simp only [OI0, OI1, OI2, OI3, OI4, OI5, OI6, OI7, OI8, OI9, OI10, OI11, OI12, ↓reduceIte, reduceCtorEq, Nat.reduceAdd, Nat.reduceEqDiff, Nat.reduceBEq, Nat.reduceLT, Nat.reduceLeDiff, Nat.reduceMul, Nat.reduceSub, Int.reduceLE, Int.reduceLT, Int.reduceEq, Int.reduceBEq, Int.reduceBNe, Int.reduceToNat, Int.reduceNeg, Nat.reduceBNe, forall_eq_or_imp, N_fzG, pT, i64A, hy, opA, u3, u4, beqF ha, w1, vwCl, vwLo, vwOp, vwCh, vwI, Nat.le_refl, tk_len]
          refine ⟨i + 1, ⟨by omega, by omega⟩, ?_⟩
          simp only [OI0, OI1, OI2, OI3, OI4, OI5, OI6, OI7, OI8, OI9, OI10, OI11, OI12, ↓reduceIte, reduceCtorEq, Nat.reduceAdd, Nat.reduceEqDiff, Nat.reduceBEq, Nat.reduceLT, Nat.reduceLeDiff, Nat.reduceMul, Nat.reduceSub, Int.reduceLE, Int.reduceLT, Int.reduceEq, Int.reduceBEq, Int.reduceBNe, Int.reduceToNat, Int.reduceNeg, Nat.reduceBNe, forall_eq_or_imp, N_fzG, st53i, sl53, rt52, gA, nx, pT]
      obtain rfl : i = (flowsL g).length := by omega
      simp only [OI0, OI1, OI2, OI3, OI4, OI5, OI6, OI7, OI8, OI9, OI10, OI11, OI12, ↓reduceIte, reduceCtorEq, Nat.reduceAdd, Nat.reduceEqDiff, Nat.reduceBEq, Nat.reduceLT, Nat.reduceLeDiff, Nat.reduceMul, Nat.reduceSub, Int.reduceLE, Int.reduceLT, Int.reduceEq, Int.reduceBEq, Int.reduceBNe, Int.reduceToNat, Int.reduceNeg, Nat.reduceBNe, forall_eq_or_imp, N_fzG, st53i, sl53, rt52, gA, Int.lt_irrefl, hC, w12, tk_len]
      refine ⟨2, ⟨by omega, by omega⟩, ?_⟩
      simp only [OI0, OI1, OI2, OI3, OI4, OI5, OI6, OI7, OI8, OI9, OI10, OI11, OI12, ↓reduceIte, reduceCtorEq, Nat.reduceAdd, Nat.reduceEqDiff, Nat.reduceBEq, Nat.reduceLT, Nat.reduceLeDiff, Nat.reduceMul, Nat.reduceSub, Int.reduceLE, Int.reduceLT, Int.reduceEq, Int.reduceBEq, Int.reduceBNe, Int.reduceToNat, Int.reduceNeg, Nat.reduceBNe, forall_eq_or_imp, N_fzG, st53o, sl53, rt52, gA, sP, rP, pI]
    · simp only [OI0, OI1, OI2, OI3, OI4, OI5, OI6, OI7, OI8, OI9, OI10, OI11, OI12, ↓reduceIte, reduceCtorEq, Nat.reduceAdd, Nat.reduceEqDiff, Nat.reduceBEq, Nat.reduceLT, Nat.reduceLeDiff, Nat.reduceMul, Nat.reduceSub, Int.reduceLE, Int.reduceLT, Int.reduceEq, Int.reduceBEq, Int.reduceBNe, Int.reduceToNat, Int.reduceNeg, Nat.reduceBNe, forall_eq_or_imp, N_fzG, st53o, sl53, rt52, gA, sP, rP, pI]
      refine W_loop (st53c I g (cutC g cl.toNat)) (fun i => i ≤ g.ch.length) (fun i => g.ch.length - i) (fun _ _ => rfl) ⟨0, by omega, ?_⟩ ?_
      · simp only [OI0, OI1, OI2, OI3, OI4, OI5, OI6, OI7, OI8, OI9, OI10, OI11, OI12, ↓reduceIte, reduceCtorEq, Nat.reduceAdd, Nat.reduceEqDiff, Nat.reduceBEq, Nat.reduceLT, Nat.reduceLeDiff, Nat.reduceMul, Nat.reduceSub, Int.reduceLE, Int.reduceLT, Int.reduceEq, Int.reduceBEq, Int.reduceBNe, Int.reduceToNat, Int.reduceNeg, Nat.reduceBNe, forall_eq_or_imp, N_fzG, st53c, rt52, gA, List.take_zero, List.foldl_nil, List.map_nil, pT, hch]
        try trace_state
      rintro i hi
      refine W_of_N ok53.small hmix ?_
      by_cases hil : i < g.ch.length
      · have hil' : (i : Int) < g.ch.length := by omega
        have i0 : (0 : Int) ≤ i := by omega
        have hgi : g.ch[i]? = some g.ch[i] := List.getElem?_eq_getElem hil
        have w1 : IntKind.i64.wrap ((i : Int) + 1) = ((i + 1 : Nat) : Int) := by rw [wrI64 (by omega) (by omega)]; omega
        generalize g.ch[i] = d at hgi
        generalize hm : cutC g cl.toNat = s at szC
        obtain ⟨m, e⟩ := s
        have hcl := chS_len m.ops (g.ch.take i) []
        have nx : (g.ch.take (i + 1)).foldl (chS m.ops) [] = chS m.ops ((g.ch.take i).foldl (chS m.ops) []) d := by rw [take_snoc hgi, List.foldl_append]; rfl
        generalize hcs : (g.ch.take i).foldl (chS m.ops) [] = cs at nx hcl
        rw [List.length_take] at hcl
        simp only [List.length_nil] at hcl
        simp only [OI0, OI1, OI2, OI3, OI4, OI5, OI6, OI7, OI8, OI9, OI10, OI11, OI12, ↓reduceIte, reduceCtorEq, Nat.reduceAdd, Nat.reduceEqDiff, Nat.reduceBEq, Nat.reduceLT, Nat.reduceLeDiff, Nat.reduceMul, Nat.reduceSub, Int.reduceLE, Int.reduceLT, Int.reduceEq, Int.reduceBEq, Int.reduceBNe, Int.reduceToNat, Int.reduceNeg, Nat.reduceBNe, forall_eq_or_imp, N_fzG, st53c, rt52, gA, hil', i0, hgi, i64A, chA, hm, hcs, pT, vwCl, vwLo, vwOp, vwCh, vwI, Nat.le_refl, tk_len]
        have okc : PmOk { m with g := { m.g with ch := cs } } := by
          have := (szC.pm (by omega)).ok
          exact ⟨this.ops, this.lv, this.ar⟩
        refine c58 { m with g := { m.g with ch := cs } } d.1 okc ?_
        have fin : ∀ cs', chS m.ops cs d = cs' → (g.ch.take (i + 1)).foldl (chS m.ops) [] = cs' := fun cs' h => nx.trans h
        clear nx
        cases hk1 : locI m.ops d.1 with
        | none =>
          have nx := fin cs (by simp only [chS, hk1])
          simp only [OI0, OI1, OI2, OI3, OI4, OI5, OI6, OI7, OI8, OI9, OI10, OI11, OI12, ↓reduceIte, reduceCtorEq, Nat.reduceAdd, Nat.reduceEqDiff, Nat.reduceBEq, Nat.reduceLT, Nat.reduceLeDiff, Nat.reduceMul, Nat.reduceSub, Int.reduceLE, Int.reduceLT, Int.reduceEq, Int.reduceBEq, Int.reduceBNe, Int.reduceToNat, Int.reduceNeg, Nat.reduceBNe, forall_eq_or_imp, N_fzG, i64A, hk1, hil', i0, hgi, chA, Option.isSome_none, Option.getD_none, vwCl, vwLo, vwOp, vwCh, vwI, Nat.le_refl, tk_len]
          refine c58 { m with g := { m.g with ch := cs } } d.2 okc ?_
          simp only [OI0, OI1, OI2, OI3, OI4, OI5, OI6, OI7, OI8, OI9, OI10, OI11, OI12, ↓reduceIte, reduceCtorEq, Nat.reduceAdd, Nat.reduceEqDiff, Nat.reduceBEq, Nat.reduceLT, Nat.reduceLeDiff, Nat.reduceMul, Nat.reduceSub, Int.reduceLE, Int.reduceLT, Int.reduceEq, Int.reduceBEq, Int.reduceBNe, Int.reduceToNat, Int.reduceNeg, Nat.reduceBNe, forall_eq_or_imp, N_fzG, i64A, w1]
          refine ⟨i + 1, ⟨by omega, by omega⟩, ?_⟩
          simp only [OI0, OI1, OI2, OI3, OI4, OI5, OI6, OI7, OI8, OI9, OI10, OI11, OI12, ↓reduceIte, reduceCtorEq, Nat.reduceAdd, Nat.reduceEqDiff, Nat.reduceBEq, Nat.reduceLT, Nat.reduceLeDiff, Nat.reduceMul, Nat.reduceSub, Int.reduceLE, Int.reduceLT, Int.reduceEq, Int.reduceBEq, Int.reduceBNe, Int.reduceToNat, Int.reduceNeg, Nat.reduceBNe, forall_eq_or_imp, N_fzG, st53c, rt52, gA, hm, nx, pT]
        | some k =>
          simp only [OI0, OI1, OI2, OI3, OI4, OI5, OI6, OI7, OI8, OI9, OI10, OI11, OI12, ↓reduceIte, reduceCtorEq, Nat.reduceAdd, Nat.reduceEqDiff, Nat.reduceBEq, Nat.reduceLT, Nat.reduceLeDiff, Nat.reduceMul, Nat.reduceSub, Int.reduceLE, Int.reduceLT, Int.reduceEq, Int.reduceBEq, Int.reduceBNe, Int.reduceToNat, Int.reduceNeg, Nat.reduceBNe, forall_eq_or_imp, N_fzG, i64A, hk1, hil', i0, hgi, chA, Option.isSome_some, Option.getD_some, vwCl, vwLo, vwOp, vwCh, vwI, Nat.le_refl, tk_len]
          refine c58 { m with g := { m.g with ch := cs } } d.2 okc ?_
          cases hk2 : locI m.ops d.2 with
          | none =>
            have nx := fin cs (by simp only [chS, hk1, hk2])
            simp only [OI0, OI1, OI2, OI3, OI4, OI5, OI6, OI7, OI8, OI9, OI10, OI11, OI12, ↓reduceIte, reduceCtorEq, Nat.reduceAdd, Nat.reduceEqDiff, Nat.reduceBEq, Nat.reduceLT, Nat.reduceLeDiff, Nat.reduceMul, Nat.reduceSub, Int.reduceLE, Int.reduceLT, Int.reduceEq, Int.reduceBEq, Int.reduceBNe, Int.reduceToNat, Int.reduceNeg, Nat.reduceBNe, forall_eq_or_imp, N_fzG, i64A, hk2, Option.isSome_none, Option.getD_none, w1]
            refine ⟨i + 1, ⟨by omega, by omega⟩, ?_⟩
            simp only [OI0, OI1, OI2, OI3, OI4, OI5, OI6, OI7, OI8, OI9, OI10, OI11, OI12, ↓reduceIte, reduceCtorEq, Nat.reduceAdd, Nat.reduceEqDiff, Nat.reduceBEq, Nat.reduceLT, Nat.reduceLeDiff, Nat.reduceMul, Nat.reduceSub, Int.reduceLE, Int.reduceLT, Int.reduceEq, Int.reduceBEq, Int.reduceBNe, Int.reduceToNat, Int.reduceNeg, Nat.reduceBNe, forall_eq_or_imp, N_fzG, st53c, rt52, gA, hm, nx, pT]
          | some k2 =>
            have nx := fin (cs ++ [(k, k2)]) (by simp only [chS, hk1, hk2])
            simp only [OI0, OI1, OI2, OI3, OI4, OI5, OI6, OI7, OI8, OI9, OI10, OI11, OI12, ↓reduceIte, reduceCtorEq, Nat.reduceAdd, Nat.reduceEqDiff, Nat.reduceBEq, Nat.reduceLT, Nat.reduceLeDiff, Nat.reduceMul, Nat.reduceSub, Int.reduceLE, Int.reduceLT, Int.reduceEq, Int.reduceBEq, Int.reduceBNe, Int.reduceToNat, Int.reduceNeg, Nat.reduceBNe, forall_eq_or_imp, N_fzG, i64A, hk2, Option.isSome_some, Option.getD_some, w1]
            refine ⟨⟨by omega, by omega⟩, ?_⟩
            refine ⟨i + 1, ⟨by omega, by omega⟩, ?_⟩
            simp only [OI0, OI1, OI2, OI3, OI4, OI5, OI6, OI7, OI8, OI9, OI10, OI11, OI12, ↓reduceIte, reduceCtorEq, Nat.reduceAdd, Nat.reduceEqDiff, Nat.reduceBEq, Nat.reduceLT, Nat.reduceLeDiff, Nat.reduceMul, Nat.reduceSub, Int.reduceLE, Int.reduceLT, Int.reduceEq, Int.reduceBEq, Int.reduceBNe, Int.reduceToNat, Int.reduceNeg, Nat.reduceBNe, forall_eq_or_imp, N_fzG, st53c, rt52, gA, hm, nx, pT, snCh]
      obtain rfl : i = g.ch.length := by omega
      have hcl := chS_len (cutC g cl.toNat).1.ops g.ch []
      simp only [List.length_nil] at hcl
      have hZ : cutZ g cl = if 24 < (cutD g cl.toNat).g.op.length ∨ 48 < (cutD g cl.toNat).g.ch.length then (pm0, 7) else (cutD g cl.toNat, 0) := by
        rw [cutZ, if_neg (by simpa using hc), if_neg (by omega)]
      obtain ⟨⟨m, e⟩, hm⟩ : ∃ s, cutC g cl.toNat = s := ⟨_, rfl⟩
      rw [hm] at szC hcl
      simp only at hcl
      obtain ⟨cs, hcs⟩ : ∃ s, g.ch.foldl (chS m.ops) [] = s := ⟨_, rfl⟩
      rw [hcs] at hcl
      simp only [cutD, hm, hcs] at hZ
      have z2 := szC.e
      have z3 := szC.op
      simp only at z2 z3
      have vapp : List.map frz (List.take (cs.length + e.length) (List.map frz (List.take (cs.length + e.length) (List.map chA cs ++ List.map chA e)))) = List.map chA (cs ++ e) := by
        rw [List.take_of_length_le (by simp), List.take_of_length_le (by simp), ← List.map_append, List.map_map, List.map_map]
        exact List.map_congr_left fun _ _ => rfl
      have tapp : List.take (cs.length + e.length) (List.map chA cs ++ List.map chA e) = List.map chA (cs ++ e) := by
        rw [List.take_of_length_le (by simp), ← List.map_append]
      have vcat : List.map frz (List.take (cs.length + e.length) (List.map chA (cs ++ e))) = List.map chA (cs ++ e) := by
        rw [← List.length_append]; exact vwCh _
      have te := tk_all chA e
      have hall : (e.all fun x => ntup (chA x) && (chA x).cells.length == 2 && (chA x).cells.all stor) = true := List.all_eq_true.2 fun _ _ => rfl
      have hb1 : (cs.length + e.length) * 16 ≤ 140737488355328 := by omega
      have hb2 : cs.length + e.length ≤ 9223372036854775807 := by omega
      by_cases a1 : (24 : Int) < m.g.op.length
      · rw [if_pos (.inl (by omega))] at hZ
        simp only [OI0, OI1, OI2, OI3, OI4, OI5, OI6, OI7, OI8, OI9, OI10, OI11, OI12, ↓reduceIte, reduceCtorEq, Nat.reduceAdd, Nat.reduceEqDiff, Nat.reduceBEq, Nat.reduceLT, Nat.reduceLeDiff, Nat.reduceMul, Nat.reduceSub, Int.reduceLE, Int.reduceLT, Int.reduceEq, Int.reduceBEq, Int.reduceBNe, Int.reduceToNat, Int.reduceNeg, Nat.reduceBNe, forall_eq_or_imp, N_fzG, st53c, rt52, gA, Int.lt_irrefl, List.take_length, hm, hcs, pT, tk_len, vwCl, vwLo, vwOp, vwCh, vwI, te, hall, hb1, hb2, a1, tapp, vcat]
        simpa [hZ] using hnil (by rw [hZ])
      by_cases a2 : (48 : Int) < ((cs.length + e.length : Nat) : Int)
      · rw [if_pos (.inr (by rw [List.length_append]; omega))] at hZ
        simp only [OI0, OI1, OI2, OI3, OI4, OI5, OI6, OI7, OI8, OI9, OI10, OI11, OI12, ↓reduceIte, reduceCtorEq, Nat.reduceAdd, Nat.reduceEqDiff, Nat.reduceBEq, Nat.reduceLT, Nat.reduceLeDiff, Nat.reduceMul, Nat.reduceSub, Int.reduceLE, Int.reduceLT, Int.reduceEq, Int.reduceBEq, Int.reduceBNe, Int.reduceToNat, Int.reduceNeg, Nat.reduceBNe, forall_eq_or_imp, N_fzG, st53c, rt52, gA, Int.lt_irrefl, List.take_length, hm, hcs, pT, tk_len, vwCl, vwLo, vwOp, vwCh, vwI, te, hall, hb1, hb2, a1, a2, tapp, vcat]
        simpa [hZ] using hnil (by rw [hZ])
      rw [if_neg (by rw [List.length_append]; omega)] at hZ
      simp only [OI0, OI1, OI2, OI3, OI4, OI5, OI6, OI7, OI8, OI9, OI10, OI11, OI12, ↓reduceIte, reduceCtorEq, Nat.reduceAdd, Nat.reduceEqDiff, Nat.reduceBEq, Nat.reduceLT, Nat.reduceLeDiff, Nat.reduceMul, Nat.reduceSub, Int.reduceLE, Int.reduceLT, Int.reduceEq, Int.reduceBEq, Int.reduceBNe, Int.reduceToNat, Int.reduceNeg, Nat.reduceBNe, forall_eq_or_imp, N_fzG, st53c, rt52, gA, Int.lt_irrefl, List.take_length, hm, hcs, pT, tk_len, vwCl, vwLo, vwOp, vwCh, vwI, te, hall, hb1, hb2, a1, a2, tapp, vcat]
      have hfz : List.map (fun x => frz (chA x)) cs ++ List.map (fun x => frz (chA x)) e = List.map chA (cs ++ e) := by rw [List.map_append]; rfl
      rw [hfz]
      rw [hZ] at hok
      exact hok
  · simp only [OI0, OI1, OI2, OI3, OI4, OI5, OI6, OI7, OI8, OI9, OI10, OI11, OI12, ↓reduceIte, reduceCtorEq, Nat.reduceAdd, Nat.reduceEqDiff, Nat.reduceBEq, Nat.reduceLT, Nat.reduceLeDiff, Nat.reduceMul, Nat.reduceSub, Int.reduceLE, Int.reduceLT, Int.reduceEq, Int.reduceBEq, Int.reduceBNe, Int.reduceToNat, Int.reduceNeg, Nat.reduceBNe, forall_eq_or_imp, N_fzG, i64A, bneT hc]
    have e := cutZ_err (cl := cl) hc
    simpa [e] using hnil (by rw [e])
end Go.Proofs.Ythlehngbadianaa.Ow
