/- What the functions of the program do, each once: contracts of the logic (part h8). -/
import Derived.Test.YthlehngbadianaaTh7
set_option linter.unusedVariables false
set_option linter.unusedSimpArgs false
set_option linter.unnecessarySimpa false
set_option maxRecDepth 100000
set_option maxHeartbeats 4000000
namespace Go.Proofs.Ythlehngbadianaa.Ow
open Go Go.RowKit Go.Proofs
/- watershed/count.Cut -/
def cc52 : CC := (.seq (.region [⟨none, 2, (.box 0), [0], none, []⟩, ⟨none, 4, (.alloc (.agg #[(.slice none 0 0), (.slice none 0 0), (.slice none 0 0), (.slice none 0 0), (.slice none 0 0), (.slice none 0 0), (.slice none 0 0)])), [], none, []⟩, ⟨none, 5, (.val (.mv (.c (.int .i64 0)))), [5], none, []⟩]) (.seq (.seq (.region [⟨none, 25, (.val (.ld (.s 2) (some 4))), [], none, []⟩, ⟨none, 26, (.call 65 [(.s 25)]), [25], none, []⟩, ⟨none, 6, (.val (.mv (.s 26))), [26], none, []⟩]) (.seq (.region [⟨none, 27, (.val (.mv (.s 6))), [], none, []⟩, ⟨none, 28, (.val (.bin .neq (.s 27) (.c (.int .i64 0)))), [27], none, []⟩]) (.cond (.s 28) (.seq (.region [⟨none, 29, (.val (.bld [(.slice none 0 0), (.slice none 0 0), (.slice none 0 0), (.slice none 0 0), (.slice none 0 0), (.slice none 0 0), (.slice none 0 0)] [])), [1, 2, 28], none, []⟩, ⟨none, 30, (.val (.mv (.s 6))), [6], none, []⟩, ⟨none, 0, (.store 7 (.s 4) (.s 29)), [29], none, [194]⟩, ⟨none, 5, (.val (.mv (.s 30))), [30], none, []⟩]) .ret) .skip))) (.seq (.seq (.region [⟨none, 31, (.val (.mv (.s 1))), [6, 28], none, []⟩, ⟨none, 32, (.val (.bin .lss (.s 31) (.c (.int .i64 0)))), [31], none, []⟩, ⟨none, 33, (.val (.mv (.s 32))), [32], none, []⟩, ⟨(some (33, false)), 34, (.val (.mv (.s 1))), [], none, []⟩, ⟨(some (33, false)), 35, (.val (.fa (.s 2) 0)), [], none, []⟩, ⟨(some (33, false)), 36, (.val (.ld (.s 35) none)), [35], none, []⟩, ⟨(some (33, false)), 37, (.val (.lnl (.s 36) 2)), [36], none, []⟩, ⟨(some (33, false)), 38, (.val (.bin .geq (.s 34) (.s 37))), [34, 37], none, []⟩, ⟨none, 39, (.val (.pick (.s 33) (.c (.bool true)) (.s 38))), [33, 38], none, []⟩]) (.cond (.s 39) (.seq (.region [⟨none, 40, (.val (.bld [(.slice none 0 0), (.slice none 0 0), (.slice none 0 0), (.slice none 0 0), (.slice none 0 0), (.slice none 0 0), (.slice none 0 0)] [])), [1, 2, 39], none, []⟩, ⟨none, 0, (.store 7 (.s 4) (.s 40)), [40], none, [194]⟩, ⟨none, 5, (.val (.mv (.c (.int .i64 1)))), [], none, []⟩]) .ret) .skip)) (.seq (.region [⟨none, 7, (.alloc (.agg #[(.slice none 0 0), (.slice none 0 0), (.slice none 0 0), (.slice none 0 0), (.slice none 0 0), (.slice none 0 0), (.slice none 0 0)])), [39], none, []⟩]) (.seq (.region [⟨none, 41, (.val (.fa (.s 2) 0)), [], none, []⟩, ⟨none, 42, (.val (.ld (.s 41) none)), [41], none, []⟩, ⟨none, 43, (.val (.mv (.s 1))), [], none, []⟩, ⟨none, 44, (.val (.ia (.s 42) (.s 43) 2)), [42, 43], none, []⟩, ⟨none, 45, (.val (.ld (.s 44) (some 2))), [44], none, []⟩, ⟨none, 46, (.lit 2 [(.s 45)]), [45], none, []⟩, ⟨none, 47, (.val (.fa (.s 7) 0)), [], none, []⟩, ⟨none, 48, (.val (.fa (.s 47) 0)), [47], none, []⟩, ⟨none, 0, (.store 1 (.s 48) (.s 46)), [46, 48], none, [194]⟩]) (.seq (.region [⟨none, 49, (.val (.fa (.s 2) 1)), [], none, []⟩, ⟨none, 50, (.val (.ld (.s 49) none)), [49], none, []⟩, ⟨none, 51, (.call 141 [(.s 50)]), [50], none, []⟩, ⟨none, 52, (.val (.fa (.s 7) 0)), [], none, []⟩, ⟨none, 53, (.val (.fa (.s 52) 1)), [52], none, []⟩, ⟨none, 0, (.store 1 (.s 53) (.s 51)), [51, 53], none, [194]⟩]) (.seq (.seq (.region [⟨none, 54, (.val (.fa (.s 2) 2)), [], none, []⟩, ⟨none, 55, (.val (.ld (.s 54) none)), [54], none, []⟩, ⟨none, 56, (.val (.lnl (.s 55) 6)), [], none, []⟩, ⟨none, 57, (.val (.mv (.c (.int .i64 0)))), [], none, []⟩]) (.block 0 (.loop (.seq (.region [⟨none, 58, (.val (.bin .lss (.s 57) (.s 56))), [], none, []⟩]) (.seq (.cond (.s 58) .skip (.exit 0)) (.seq (.block 1 (.seq (.region [⟨none, 59, (.val (.mv (.s 57))), [58], none, []⟩, ⟨none, 60, (.val (.ia (.s 55) (.s 57) 6)), [], none, []⟩, ⟨none, 61, (.val (.ld (.s 60) (some 6))), [60], none, []⟩, ⟨none, 9, (.alloc (.agg #[(.string ⟨#[]⟩), (.int .i64 0), (.int .i64 0), (.int .i64 0), (.int .i64 0), (.int .i64 0)])), [], none, []⟩, ⟨none, 8, (.val (.mv (.s 59))), [59], none, []⟩, ⟨none, 0, (.store 6 (.s 9) (.s 61)), [61], none, [194]⟩]) (.seq (.region [⟨none, 62, (.val (.fa (.s 9) 3)), [], none, []⟩, ⟨none, 63, (.val (.ld (.s 62) none)), [62], none, []⟩, ⟨none, 64, (.val (.mv (.s 1))), [], none, []⟩, ⟨none, 65, (.val (.bin .eql (.s 63) (.s 64))), [63, 64], none, []⟩]) (.cond (.s 65) (.region [⟨none, 66, (.val (.ld (.s 9) (some 6))), [9, 65], none, []⟩, ⟨none, 67, (.val (.mv (.s 8))), [8], none, []⟩, ⟨none, 68, (.call 142 [(.s 7), (.s 66), (.s 67)]), [66, 67, 68], (some 0), []⟩]) .skip)))) (.region [⟨none, 69, (.val (.bin .add (.s 57) (.c (.int .i64 1)))), [8, 9, 57, 65], none, []⟩, ⟨none, 57, (.val (.mv (.s 69))), [69], none, []⟩]))))))) (.seq (.region [⟨none, 10, (.val (.mv (.c (.slice none 0 0)))), [1, 55, 56, 57, 58], none, []⟩]) (.seq (.seq (.region [⟨none, 70, (.val (.ld (.s 2) (some 4))), [], none, []⟩, ⟨none, 71, (.call 67 [(.s 70)]), [70], none, []⟩, ⟨none, 72, (.val (.lnl (.s 71) 1)), [], none, []⟩, ⟨none, 73, (.val (.mv (.c (.int .i64 0)))), [], none, []⟩]) (.block 2 (.loop (.seq (.region [⟨none, 74, (.val (.bin .lss (.s 73) (.s 72))), [], none, []⟩]) (.seq (.cond (.s 74) .skip (.exit 2)) (.seq (.block 3 (.seq (.region [⟨none, 75, (.val (.ia (.s 71) (.s 73) 1)), [74], none, []⟩, ⟨none, 76, (.val (.ld (.s 75) none)), [75], none, []⟩, ⟨none, 12, (.val (.mv (.s 76))), [76], none, []⟩]) (.seq (.region [⟨none, 78, (.val (.ld (.s 7) (some 7))), [], none, []⟩, ⟨none, 79, (.val (.fa (.s 2) 3)), [], none, []⟩, ⟨none, 80, (.val (.ld (.s 79) none)), [79], none, []⟩, ⟨none, 81, (.val (.mv (.s 12))), [], none, []⟩, ⟨none, 82, (.val (.ia (.s 80) (.s 81) 2)), [80, 81], none, []⟩, ⟨none, 83, (.val (.fa (.s 82) 0)), [82], none, []⟩, ⟨none, 84, (.val (.ld (.s 83) none)), [83], none, []⟩, ⟨none, 85, (.call 57 [(.s 78), (.s 84)]), [78, 84], none, []⟩, ⟨none, 77, (.val (.mv (.s 85))), [85], none, []⟩, ⟨none, 86, (.val (.ext (.s 77) 0)), [], none, []⟩, ⟨none, 87, (.val (.ext (.s 77) 1)), [77], none, []⟩, ⟨none, 13, (.val (.mv (.s 86))), [86], none, []⟩, ⟨none, 14, (.val (.mv (.s 87))), [87], none, []⟩]) (.seq (.region [⟨none, 88, (.val (.mv (.s 14))), [14], none, []⟩]) (.cond (.s 88) (.seq (.region [⟨none, 89, (.val (.fa (.s 7) 5)), [88], none, []⟩, ⟨none, 90, (.val (.ld (.s 89) none)), [89], none, []⟩, ⟨none, 91, (.val (.mv (.s 12))), [], none, []⟩, ⟨none, 92, (.lit 1 [(.s 91)]), [91], none, []⟩, ⟨none, 93, (.app 1 8 false (.s 90) (.s 92)), [90, 92], none, []⟩, ⟨none, 94, (.val (.fa (.s 7) 5)), [], none, []⟩, ⟨none, 0, (.store 1 (.s 94) (.s 93)), [93, 94], none, [194]⟩]) (.region [⟨none, 95, (.val (.mv (.s 10))), [10], none, []⟩, ⟨none, 96, (.val (.mv (.s 13))), [13], none, []⟩, ⟨none, 97, (.val (.ld (.s 2) (some 4))), [], none, []⟩, ⟨none, 98, (.val (.mv (.s 12))), [12], none, []⟩, ⟨none, 99, (.call 143 [(.s 7), (.s 97), (.s 98)]), [97, 98], (some 0), []⟩, ⟨none, 100, (.val (.bld [(.int .i64 0), (.int .i64 0)] [(0, (1, (.s 96))), (1, (1, (.s 99)))])), [96, 99], none, []⟩, ⟨none, 101, (.lit 2 [(.s 100)]), [100], none, []⟩, ⟨none, 102, (.app 2 16 false (.s 95) (.s 101)), [95, 101], none, []⟩, ⟨none, 10, (.val (.mv (.s 102))), [102], none, []⟩])) .skip))))) (.region [⟨none, 103, (.val (.bin .add (.s 73) (.c (.int .i64 1)))), [12, 13, 73, 88], none, []⟩, ⟨none, 73, (.val (.mv (.s 103))), [103], none, []⟩]))))))) (.seq (.seq (.region [⟨none, 104, (.val (.ld (.s 2) (some 4))), [71, 72, 73, 74], none, []⟩, ⟨none, 105, (.call 67 [(.s 104)]), [104], none, []⟩, ⟨none, 106, (.val (.lnl (.s 105) 1)), [], none, []⟩, ⟨none, 107, (.val (.mv (.c (.int .i64 0)))), [], none, []⟩]) (.block 4 (.loop (.seq (.region [⟨none, 108, (.val (.bin .lss (.s 107) (.s 106))), [], none, []⟩]) (.seq (.cond (.s 108) .skip (.exit 4)) (.seq (.block 5 (.seq (.region [⟨none, 109, (.val (.ia (.s 105) (.s 107) 1)), [108], none, []⟩, ⟨none, 110, (.val (.ld (.s 109) none)), [109], none, []⟩, ⟨none, 16, (.val (.mv (.s 110))), [110], none, []⟩]) (.seq (.region [⟨none, 112, (.val (.ld (.s 7) (some 7))), [], none, []⟩, ⟨none, 113, (.val (.fa (.s 2) 3)), [], none, []⟩, ⟨none, 114, (.val (.ld (.s 113) none)), [113], none, []⟩, ⟨none, 115, (.val (.mv (.s 16))), [], none, []⟩, ⟨none, 116, (.val (.ia (.s 114) (.s 115) 2)), [114, 115], none, []⟩, ⟨none, 117, (.val (.fa (.s 116) 1)), [116], none, []⟩, ⟨none, 118, (.val (.ld (.s 117) none)), [117], none, []⟩, ⟨none, 119, (.call 57 [(.s 112), (.s 118)]), [112, 118], none, []⟩, ⟨none, 111, (.val (.mv (.s 119))), [119], none, []⟩, ⟨none, 120, (.val (.ext (.s 111) 0)), [], none, []⟩, ⟨none, 121, (.val (.ext (.s 111) 1)), [111], none, []⟩, ⟨none, 17, (.val (.mv (.s 120))), [120], none, []⟩, ⟨none, 18, (.val (.mv (.s 121))), [121], none, []⟩]) (.seq (.region [⟨none, 122, (.val (.mv (.s 18))), [18], none, []⟩]) (.cond (.s 122) (.seq (.region [⟨none, 123, (.val (.fa (.s 7) 6)), [122], none, []⟩, ⟨none, 124, (.val (.ld (.s 123) none)), [123], none, []⟩, ⟨none, 125, (.val (.mv (.s 16))), [], none, []⟩, ⟨none, 126, (.lit 1 [(.s 125)]), [125], none, []⟩, ⟨none, 127, (.app 1 8 false (.s 124) (.s 126)), [124, 126], none, []⟩, ⟨none, 128, (.val (.fa (.s 7) 6)), [], none, []⟩, ⟨none, 0, (.store 1 (.s 128) (.s 127)), [127, 128], none, [194]⟩]) (.region [⟨none, 129, (.val (.mv (.s 10))), [10], none, []⟩, ⟨none, 130, (.val (.ld (.s 2) (some 4))), [], none, []⟩, ⟨none, 131, (.val (.mv (.s 16))), [16], none, []⟩, ⟨none, 132, (.call 143 [(.s 7), (.s 130), (.s 131)]), [130, 131], (some 0), []⟩, ⟨none, 133, (.val (.mv (.s 17))), [17], none, []⟩, ⟨none, 134, (.val (.bld [(.int .i64 0), (.int .i64 0)] [(0, (1, (.s 132))), (1, (1, (.s 133)))])), [132, 133], none, []⟩, ⟨none, 135, (.lit 2 [(.s 134)]), [134], none, []⟩, ⟨none, 136, (.app 2 16 false (.s 129) (.s 135)), [129, 135], none, []⟩, ⟨none, 10, (.val (.mv (.s 136))), [136], none, []⟩])) .skip))))) (.region [⟨none, 137, (.val (.bin .add (.s 107) (.c (.int .i64 1)))), [16, 17, 107, 122], none, []⟩, ⟨none, 107, (.val (.mv (.s 137))), [137], none, []⟩]))))))) (.seq (.seq (.region [⟨none, 138, (.val (.fa (.s 2) 3)), [2, 105, 106, 107, 108], none, []⟩, ⟨none, 139, (.val (.ld (.s 138) none)), [138], none, []⟩, ⟨none, 140, (.val (.lnl (.s 139) 2)), [], none, []⟩, ⟨none, 141, (.val (.mv (.c (.int .i64 0)))), [], none, []⟩]) (.block 6 (.loop (.seq (.region [⟨none, 142, (.val (.bin .lss (.s 141) (.s 140))), [], none, []⟩]) (.seq (.cond (.s 142) .skip (.exit 6)) (.seq (.block 7 (.seq (.region [⟨none, 143, (.val (.ia (.s 139) (.s 141) 2)), [142], none, []⟩, ⟨none, 144, (.val (.ld (.s 143) (some 2))), [143], none, []⟩, ⟨none, 20, (.alloc (.agg #[(.int .i64 0), (.int .i64 0)])), [], none, []⟩, ⟨none, 0, (.store 2 (.s 20) (.s 144)), [144], none, [194]⟩]) (.seq (.region [⟨none, 146, (.val (.ld (.s 7) (some 7))), [], none, []⟩, ⟨none, 147, (.val (.fa (.s 20) 0)), [], none, []⟩, ⟨none, 148, (.val (.ld (.s 147) none)), [147], none, []⟩, ⟨none, 149, (.call 57 [(.s 146), (.s 148)]), [146, 148], none, []⟩, ⟨none, 145, (.val (.mv (.s 149))), [149], none, []⟩, ⟨none, 150, (.val (.ext (.s 145) 0)), [], none, []⟩, ⟨none, 151, (.val (.ext (.s 145) 1)), [145], none, []⟩, ⟨none, 21, (.val (.mv (.s 150))), [150], none, []⟩, ⟨none, 22, (.val (.mv (.s 151))), [151], none, []⟩]) (.seq (.region [⟨none, 153, (.val (.ld (.s 7) (some 7))), [], none, []⟩, ⟨none, 154, (.val (.fa (.s 20) 1)), [20], none, []⟩, ⟨none, 155, (.val (.ld (.s 154) none)), [154], none, []⟩, ⟨none, 156, (.call 57 [(.s 153), (.s 155)]), [153, 155], none, []⟩, ⟨none, 152, (.val (.mv (.s 156))), [156], none, []⟩, ⟨none, 157, (.val (.ext (.s 152) 0)), [], none, []⟩, ⟨none, 158, (.val (.ext (.s 152) 1)), [152], none, []⟩, ⟨none, 23, (.val (.mv (.s 157))), [157], none, []⟩, ⟨none, 24, (.val (.mv (.s 158))), [158], none, []⟩]) (.seq (.region [⟨none, 159, (.val (.mv (.s 22))), [22], none, []⟩, ⟨none, 160, (.val (.mv (.s 159))), [159], none, []⟩, ⟨(some (160, true)), 161, (.val (.mv (.s 24))), [24], none, []⟩, ⟨none, 162, (.val (.pick (.s 160) (.s 161) (.c (.bool false)))), [160], none, []⟩]) (.cond (.s 162) (.region [⟨none, 163, (.val (.fa (.s 7) 0)), [162], none, []⟩, ⟨none, 164, (.val (.fa (.s 163) 3)), [163], none, []⟩, ⟨none, 165, (.val (.ld (.s 164) none)), [164], none, []⟩, ⟨none, 166, (.val (.mv (.s 21))), [21], none, []⟩, ⟨none, 167, (.val (.mv (.s 23))), [23], none, []⟩, ⟨none, 168, (.val (.bld [(.int .i64 0), (.int .i64 0)] [(0, (1, (.s 166))), (1, (1, (.s 167)))])), [166, 167], none, []⟩, ⟨none, 169, (.lit 2 [(.s 168)]), [168], none, []⟩, ⟨none, 170, (.app 2 16 false (.s 165) (.s 169)), [165, 169], none, []⟩, ⟨none, 171, (.val (.fa (.s 7) 0)), [], none, []⟩, ⟨none, 172, (.val (.fa (.s 171) 3)), [171], none, []⟩, ⟨none, 0, (.store 1 (.s 172) (.s 170)), [170, 172], none, [194]⟩]) .skip)))))) (.region [⟨none, 173, (.val (.bin .add (.s 141) (.c (.int .i64 1)))), [21, 23, 141, 162], none, []⟩, ⟨none, 141, (.val (.mv (.s 173))), [173], none, []⟩]))))))) (.seq (.region [⟨none, 174, (.val (.fa (.s 7) 0)), [139, 140, 141, 142, 161], none, []⟩, ⟨none, 175, (.val (.fa (.s 174) 3)), [174], none, []⟩, ⟨none, 176, (.val (.ld (.s 175) none)), [175], none, []⟩, ⟨none, 177, (.val (.mv (.s 10))), [10], none, []⟩, ⟨none, 178, (.app 2 16 false (.s 176) (.s 177)), [176, 177], none, []⟩, ⟨none, 179, (.val (.fa (.s 7) 0)), [], none, []⟩, ⟨none, 180, (.val (.fa (.s 179) 3)), [179], none, []⟩, ⟨none, 0, (.store 1 (.s 180) (.s 178)), [178, 180], none, [194]⟩]) (.seq (.seq (.region [⟨none, 181, (.val (.fa (.s 7) 0)), [], none, []⟩, ⟨none, 182, (.val (.fa (.s 181) 2)), [181], none, []⟩, ⟨none, 183, (.val (.ld (.s 182) none)), [182], none, []⟩, ⟨none, 184, (.val (.lnl (.s 183) 6)), [183], none, []⟩, ⟨none, 185, (.val (.bin .gtr (.s 184) (.c (.int .i64 24)))), [184], none, []⟩, ⟨none, 186, (.val (.mv (.s 185))), [185], none, []⟩, ⟨(some (186, false)), 187, (.val (.fa (.s 7) 0)), [], none, []⟩, ⟨(some (186, false)), 188, (.val (.fa (.s 187) 3)), [187], none, []⟩, ⟨(some (186, false)), 189, (.val (.ld (.s 188) none)), [188], none, []⟩, ⟨(some (186, false)), 190, (.val (.lnl (.s 189) 2)), [189], none, []⟩, ⟨(some (186, false)), 191, (.val (.bin .gtr (.s 190) (.c (.int .i64 48)))), [190], none, []⟩, ⟨none, 192, (.val (.pick (.s 186) (.c (.bool true)) (.s 191))), [186, 191], none, []⟩]) (.cond (.s 192) (.seq (.region [⟨none, 193, (.val (.bld [(.slice none 0 0), (.slice none 0 0), (.slice none 0 0), (.slice none 0 0), (.slice none 0 0), (.slice none 0 0), (.slice none 0 0)] [])), [7, 192], none, []⟩, ⟨none, 0, (.store 7 (.s 4) (.s 193)), [193], none, [194]⟩, ⟨none, 5, (.val (.mv (.c (.int .i64 7)))), [], none, []⟩]) .ret) .skip)) (.seq (.region [⟨none, 194, (.val (.ld (.s 7) (some 7))), [7, 192], none, []⟩, ⟨none, 0, (.store 7 (.s 4) (.s 194)), [194], none, [194]⟩, ⟨none, 5, (.val (.mv (.c (.int .i64 0)))), [], none, []⟩]) .ret))))))))))))))
theorem ok52 : FnOk Try.prog 52 cc52 [(.c 4 100 (some 7)), (.t 5)] 2 195 := ⟨⟨_, Try.func52, by kernel_rfl, by kernel_rfl, by kernel_rfl⟩, by decide, by decide⟩


theorem vwCl (l : List Cl) : List.map frz (List.take l.length (List.map clA l)) = List.map clA l := fz_map clA (fun _ => rfl) rfl
theorem vwLo (l : List Lo) : List.map frz (List.take l.length (List.map loA l)) = List.map loA l := fz_map loA (fun _ => rfl) rfl
theorem vwOp (l : List O6) : List.map frz (List.take l.length (List.map opA l)) = List.map opA l := fz_map opA (fun _ => rfl) rfl
theorem vwCh (l : List Ch) : List.map frz (List.take l.length (List.map chA l)) = List.map chA l := fz_map chA (fun _ => rfl) rfl
theorem vwI (l : List Int) : List.map frz (List.take l.length (List.map i64A l)) = List.map i64A l := fz_map i64A (fun _ => rfl) rfl
theorem snI (l : List Int) (x : Int) : List.take (l.length + 1) (List.map i64A l ++ [AV.v (Value.int IntKind.i64 x)]) = List.map i64A (l ++ [x]) := by
  rw [List.take_of_length_le (by simp)]; simp [i64A]
theorem snCh (l : List Ch) (a b : Int) : List.take (l.length + 1) (List.map chA l ++ [AV.agg [AV.v (Value.int IntKind.i64 a), AV.v (Value.int IntKind.i64 b)]]) = List.map chA (l ++ [(a, b)]) := by
  rw [List.take_of_length_le (by simp)]; simp [chA]
/-- How much there is. -/
structure Sz (k : Nat) (s : PM × List Ch) : Prop where
  cl : s.1.g.cl.length ≤ 1
  lo : s.1.g.lo.length ≤ 6
  op : s.1.g.op.length ≤ k
  ops : s.1.ops.length = s.1.g.op.length
  lv : s.1.lv.length ≤ k
  ar : s.1.ar.length ≤ k
  e : s.2.length ≤ k
theorem Sz.up {k k' : Nat} {s : PM × List Ch} (h : Sz k s) (hk : k ≤ k') : Sz k' s := ⟨h.cl, h.lo, Nat.le_trans h.op hk, h.ops, Nat.le_trans h.lv hk, Nat.le_trans h.ar hk, Nat.le_trans h.e hk⟩
theorem Sz.pm {k : Nat} {s : PM × List Ch} (h : Sz k s) (hk : k ≤ 1000) : PmS s.1 := ⟨by have := h.cl; omega, by have := h.op; omega, h.ops, by have := h.lv; omega, by have := h.ar; omega⟩
theorem Sz.addP {k : Nat} {m : PM} {e : List Ch} (h : Sz k (m, e)) (o : O6) (w : Int) : Sz (k + 1) (Ow.addP m o w, e) := by
  obtain ⟨a, b, c, d, f, g, i⟩ := h
  simp only at a b c d f g i
  exact ⟨a, b, by simp only [Ow.addP, List.length_append, List.length_cons, List.length_nil]; omega, by simp only [Ow.addP, List.length_append, List.length_cons, List.length_nil]; omega, by simp only [Ow.addP]; omega, by simp only [Ow.addP]; omega, by simp only; omega⟩
theorem Sz.lvS {k : Nat} {s : PM × List Ch} (h : Sz k s) (g : Gr) (f : Int) : Sz (k + 1) (Ow.lvS g s f) := by
  obtain ⟨m, e⟩ := s
  obtain ⟨a, b, c, d, x, y, i⟩ := h
  simp only at a b c d x y i
  unfold Ow.lvS
  split
  · exact ⟨a, b, by simp only [Ow.addP, List.length_append, List.length_cons, List.length_nil]; omega, by simp only [Ow.addP, List.length_append, List.length_cons, List.length_nil]; omega, by simp only [Ow.addP, List.length_append, List.length_cons, List.length_nil]; omega, by simp only [Ow.addP]; omega, by simp only [List.length_append, List.length_cons, List.length_nil]; omega⟩
  · exact Sz.up ⟨a, b, c, d, x, y, i⟩ (by omega)
theorem Sz.arS {k : Nat} {s : PM × List Ch} (h : Sz k s) (g : Gr) (f : Int) : Sz (k + 1) (Ow.arS g s f) := by
  obtain ⟨m, e⟩ := s
  obtain ⟨a, b, c, d, x, y, i⟩ := h
  simp only at a b c d x y i
  unfold Ow.arS
  split
  · exact ⟨a, b, by simp only [Ow.addP, List.length_append, List.length_cons, List.length_nil]; omega, by simp only [Ow.addP, List.length_append, List.length_cons, List.length_nil]; omega, by simp only [Ow.addP, List.length_append, List.length_cons, List.length_nil]; omega, by simp only [Ow.addP, List.length_append, List.length_cons, List.length_nil]; omega, by simp only [List.length_append, List.length_cons, List.length_nil]; omega⟩
  · exact Sz.up ⟨a, b, c, d, x, y, i⟩ (by omega)
theorem Sz.fold {S : PM × List Ch → Int → PM × List Ch} (hS : ∀ k s f, Sz k s → Sz (k + 1) (S s f)) : ∀ (l : List Int) (k : Nat) (s : PM × List Ch), Sz k s → Sz (k + l.length) (l.foldl S s)
  | [], k, s, h => h
  | f :: l, k, s, h => by
    have := Sz.fold hS l (k + 1) (S s f) (hS k s f h)
    simp only [List.foldl_cons, List.length_cons]
    rw [show k + (l.length + 1) = k + 1 + l.length by omega]; exact this
def baseP (g : Gr) (c : Cl) : PM := ⟨⟨[c], g.lo, [], []⟩, [], [], []⟩
theorem opsN_sz (g : Gr) (hlo : g.lo.length ≤ 6) (c : Cl) (cl : Int) : ∀ i, Sz i (opsN g cl (baseP g c) i, []) ∧ (opsN g cl (baseP g c) i).lv = [] ∧ (opsN g cl (baseP g c) i).ar = [] ∧ (opsN g cl (baseP g c) i).g.ch = []
  | 0 => ⟨⟨by simp [opsN, baseP], hlo, by simp [opsN, baseP], rfl, by simp [opsN, baseP], by simp [opsN, baseP], by simp⟩, rfl, rfl, rfl⟩
  | i + 1 => by
    obtain ⟨h1, h2, h3, h4⟩ := opsN_sz g hlo c cl i
    simp only [opsN]
    split
    · split
      · exact ⟨Sz.addP h1 _ _, h2, h3, h4⟩
      · exact ⟨h1.up (by omega), h2, h3, h4⟩
    · exact ⟨h1.up (by omega), h2, h3, h4⟩
theorem flN_mem (g : Gr) : ∀ (i : Nat), i ≤ g.ch.length → ∀ f ∈ flN g i, ∃ j : Nat, f = j ∧ j < g.ch.length
  | 0, _, f, hf => by simp [flN] at hf
  | i + 1, hi, f, hf => by
    simp only [flN] at hf
    split at hf
    · split at hf
      · rcases List.mem_append.1 hf with hf | hf
        · exact flN_mem g i (by omega) f hf
        · simp only [List.mem_singleton] at hf
          exact ⟨i, hf, by omega⟩
      · exact flN_mem g i (by omega) f hf
    · exact flN_mem g i (by omega) f hf
theorem flowsL_mem {g : Gr} {i : Nat} {f : Int} (h : (flowsL g)[i]? = some f) : ∃ (j : Nat) (c : Ch), f = j ∧ g.ch[j]? = some c := by
  obtain ⟨j, h1, h2⟩ := flN_mem g g.ch.length (Nat.le_refl _) f (List.mem_of_getElem? h)
  exact ⟨j, _, h1, List.getElem?_eq_getElem h2⟩
theorem flowsL_len (g : Gr) : (flowsL g).length ≤ g.ch.length := flN_le g _
abbrev nil7 : AV := .agg [.v (.slice none 0 0), .v (.slice none 0 0), .v (.slice none 0 0), .v (.slice none 0 0), .v (.slice none 0 0), .v (.slice none 0 0), .v (.slice none 0 0)]
def rt52 (I : World → Fp → Value → Fp → Prop) (g : Gr) (m : PM) : Al := [(1002, gA g), (1004, nil7), (1007, pT m), (9999, .ext I)]
def sl52 (cl : Int) (l : Al) : Al := (2, .ref ⟨1002, [], 0⟩) :: (1, .v (.int .i64 cl)) :: (4, .ref ⟨1004, [], 0⟩) :: (7, .ref ⟨1007, [], 0⟩) :: l
def st52a (I : World → Fp → Value → Fp → Prop) (g : Gr) (c : Cl) (cl : Int) (i : Nat) : St :=
  ⟨sl52 cl [(57, .v (.int .i64 i)), (56, .v (.int .i64 g.op.length)), (55, .lst 6 (g.op.map opA))], rt52 I g (opsN g cl (baseP g c) i), []⟩
theorem nil7_le (x : AV) : AVleR (.tup [nil7, x]) (.tup [partA pm0, x]) := by
  refine .inr ⟨_, _, rfl, rfl, rfl, fun i c d hc hd => ?_⟩
  match i with
  | 0 =>
    simp at hc hd; subst hc hd
    exact .agg (.cons .nl (.cons .nl (.cons .nl (.cons .nl (.cons .nl (.cons .nl (.cons .nl .nil)))))))
  | 1 => simp at hc hd; subst hc hd; exact AVle.refl _
  | i + 2 => simp at hc
theorem AVleR.refl (x : AV) : AVleR x x := .inl (AVle.refl x)
def st52b (I : World → Fp → Value → Fp → Prop) (g : Gr) (s : Nat → PM × List Ch) (r r10 a b d : Nat) (i : Nat) : St :=
  ⟨[(2, .ref ⟨1002, [], 0⟩), (4, .ref ⟨1004, [], 0⟩), (7, .ref ⟨1007, [], 0⟩), (a, .v (.int .i64 i)), (b, .v (.int .i64 (flowsL g).length)), (d, .sl ⟨r, [], 0⟩ 1 0 (flowsL g).length), (10, .sl ⟨r10, [], 0⟩ 2 0 (s i).2.length)], (r, .own 1 ((flowsL g).map i64A)) :: (r10, .own 2 ((s i).2.map chA)) :: rt52 I g (s i).1, []⟩
def lvM (g : Gr) (s : PM × List Ch) (i : Nat) : PM × List Ch := ((flowsL g).take i).foldl (lvS g) s
def arM (g : Gr) (s : PM × List Ch) (i : Nat) : PM × List Ch := ((flowsL g).take i).foldl (arS g) s
theorem lvM_succ {g : Gr} {s : PM × List Ch} {i : Nat} {f : Int} (h : (flowsL g)[i]? = some f) : lvM g s (i + 1) = lvS g (lvM g s i) f := by
  simp only [lvM, take_snoc h, List.foldl_append, List.foldl_cons, List.foldl_nil]
theorem arM_succ {g : Gr} {s : PM × List Ch} {i : Nat} {f : Int} (h : (flowsL g)[i]? = some f) : arM g s (i + 1) = arS g (arM g s i) f := by
  simp only [arM, take_snoc h, List.foldl_append, List.foldl_cons, List.foldl_nil]
theorem lvM_sz {g : Gr} {k : Nat} {s : PM × List Ch} (h : Sz k s) (i : Nat) : Sz (k + i) (lvM g s i) :=
  (Sz.fold (fun k s f h => Sz.lvS h g f) _ _ _ h).up (by rw [List.length_take]; omega)
theorem arM_sz {g : Gr} {k : Nat} {s : PM × List Ch} (h : Sz k s) (i : Nat) : Sz (k + i) (arM g s i) :=
  (Sz.fold (fun k s f h => Sz.arS h g f) _ _ _ h).up (by rw [List.length_take]; omega)
def st52c (I : World → Fp → Value → Fp → Prop) (g : Gr) (s : PM × List Ch) (i : Nat) : St :=
  ⟨[(4, .ref ⟨1004, [], 0⟩), (7, .ref ⟨1007, [], 0⟩), (141, .v (.int .i64 i)), (140, .v (.int .i64 g.ch.length)), (139, .lst 2 (g.ch.map chA)), (10, .sl ⟨2136, [], 0⟩ 2 0 s.2.length)], (2136, .own 2 (s.2.map chA)) :: rt52 I g { s.1 with g := { s.1.g with ch := (g.ch.take i).foldl (chS s.1.ops) [] } }, []⟩
theorem chS_len (ops : List Int) : ∀ (l : List Ch) (acc : List Ch), (l.foldl (chS ops) acc).length ≤ acc.length + l.length
  | [], acc => by simp
  | c :: l, acc => by
    have := chS_len ops l (chS ops acc c)
    have h : (chS ops acc c).length ≤ acc.length + 1 := by
      unfold chS; split <;> simp
    simp only [List.foldl_cons, List.length_cons]; omega
theorem lvS_ch (g : Gr) (s : PM × List Ch) (f : Int) (h : s.1.g.ch = []) : (lvS g s f).1.g.ch = [] := by
  unfold lvS; split <;> exact h
theorem arS_ch (g : Gr) (s : PM × List Ch) (f : Int) (h : s.1.g.ch = []) : (arS g s f).1.g.ch = [] := by
  unfold arS; split <;> exact h
theorem foldl_inv {α β : Type} (p : β → Prop) (S : β → α → β) (hS : ∀ s x, p s → p (S s x)) : ∀ (l : List α) (s : β), p s → p (l.foldl S s)
  | [], s, h => h
  | x :: l, s, h => foldl_inv p S hS l (S s x) (hS s x h)
theorem cutC_ch {g : Gr} {k : Nat} (h : (cutA g k).g.ch = []) : (cutC g k).1.g.ch = [] :=
  foldl_inv (fun s => s.1.g.ch = []) (arS g) (fun s x h => arS_ch g s x h) _ _ (foldl_inv (fun s => s.1.g.ch = []) (lvS g) (fun s x h => lvS_ch g s x h) _ _ h)
theorem cutZ_err {g : Gr} {cl : Int} (h : chk g ≠ 0) : cutZ g cl = (pm0, chk g) := by rw [cutZ, if_pos h]
theorem cutZ_rng {g : Gr} {cl : Int} (h : chk g = 0) (h2 : cl < 0 ∨ (g.cl.length : Int) ≤ cl) : cutZ g cl = (pm0, 1) := by rw [cutZ, if_neg (by simpa using h), if_pos h2]
theorem c52 (g : Gr) (hs : Small g) (cl : Int) {Q : AV → Al → Prop} (h : Q (.tup [partA (cutZ g cl).1, i64A (cutZ g cl).2]) []) : ACalls Try.prog 52 [] [gA g, i64A cl] Q := by
  apply ACalls.weakQ
  have hnil : (cutZ g cl).1 = pm0 → ∃ r', AVleR (.tup [nil7, .v (.int .i64 (cutZ g cl).2)]) r' ∧ Q r' [] := by
    intro e
    rw [e] at h
    exact ⟨_, nil7_le _, h⟩
  have hok : ∃ r', AVleR (.tup [partA (cutZ g cl).1, i64A (cutZ g cl).2]) r' ∧ Q r' [] := ⟨_, AVleR.refl _, h⟩
  clear h
  refine ok52.N hmix rfl ?_
  intro I
  simp only [cc52, OI0, OI1, OI2, OI3, OI4, OI5, OI6, OI7, OI8, OI9, OI10, OI11, OI12, ↓reduceIte, reduceCtorEq, Nat.reduceAdd, Nat.reduceEqDiff, Nat.reduceBEq, Nat.reduceLT, Nat.reduceLeDiff, Nat.reduceMul, Nat.reduceSub, Int.reduceLE, Int.reduceLT, Int.reduceEq, Int.reduceBEq, Int.reduceBNe, Int.reduceToNat, Int.reduceNeg, Nat.reduceBNe, forall_eq_or_imp, N_fzG, gA, i64A]
  refine c65 g ?_
  by_cases hc : chk g = 0
  · have hF := chk0 hc
    have hlo6 := hF.lo6
    have h24 := hF.op24
    have h48 := hF.ch48
    have hfl := flowsL_len g
    simp only [OI0, OI1, OI2, OI3, OI4, OI5, OI6, OI7, OI8, OI9, OI10, OI11, OI12, ↓reduceIte, reduceCtorEq, Nat.reduceAdd, Nat.reduceEqDiff, Nat.reduceBEq, Nat.reduceLT, Nat.reduceLeDiff, Nat.reduceMul, Nat.reduceSub, Int.reduceLE, Int.reduceLT, Int.reduceEq, Int.reduceBEq, Int.reduceBNe, Int.reduceToNat, Int.reduceNeg, Nat.reduceBNe, forall_eq_or_imp, N_fzG, i64A, bneF hc]
    by_cases l0 : cl < 0
    · simp only [OI0, OI1, OI2, OI3, OI4, OI5, OI6, OI7, OI8, OI9, OI10, OI11, OI12, ↓reduceIte, reduceCtorEq, Nat.reduceAdd, Nat.reduceEqDiff, Nat.reduceBEq, Nat.reduceLT, Nat.reduceLeDiff, Nat.reduceMul, Nat.reduceSub, Int.reduceLE, Int.reduceLT, Int.reduceEq, Int.reduceBEq, Int.reduceBNe, Int.reduceToNat, Int.reduceNeg, Nat.reduceBNe, forall_eq_or_imp, N_fzG, l0]
      have e := cutZ_rng hc (.inl l0)
      simpa [e] using hnil (by rw [e])
    by_cases l1 : (g.cl.length : Int) ≤ cl
    · simp only [OI0, OI1, OI2, OI3, OI4, OI5, OI6, OI7, OI8, OI9, OI10, OI11, OI12, ↓reduceIte, reduceCtorEq, Nat.reduceAdd, Nat.reduceEqDiff, Nat.reduceBEq, Nat.reduceLT, Nat.reduceLeDiff, Nat.reduceMul, Nat.reduceSub, Int.reduceLE, Int.reduceLT, Int.reduceEq, Int.reduceBEq, Int.reduceBNe, Int.reduceToNat, Int.reduceNeg, Nat.reduceBNe, forall_eq_or_imp, N_fzG, l0, l1]
      have e := cutZ_rng hc (.inr l1)
      simpa [e] using hnil (by rw [e])
    have l2 : 0 ≤ cl := by omega
    have l3 : cl < (g.cl.length : Int) := by omega
    obtain ⟨c, hgc⟩ : ∃ c, g.cl[cl.toNat]? = some c := ⟨_, List.getElem?_eq_getElem (by omega)⟩
    simp only [OI0, OI1, OI2, OI3, OI4, OI5, OI6, OI7, OI8, OI9, OI10, OI11, OI12, ↓reduceIte, reduceCtorEq, Nat.reduceAdd, Nat.reduceEqDiff, Nat.reduceBEq, Nat.reduceLT, Nat.reduceLeDiff, Nat.reduceMul, Nat.reduceSub, Int.reduceLE, Int.reduceLT, Int.reduceEq, Int.reduceBEq, Int.reduceBNe, Int.reduceToNat, Int.reduceNeg, Nat.reduceBNe, forall_eq_or_imp, N_fzG, l0, l1, l2, l3, hgc, clA]
    refine c141 g.lo (by have := hF.lo6; omega) ?_
    simp only [OI0, OI1, OI2, OI3, OI4, OI5, OI6, OI7, OI8, OI9, OI10, OI11, OI12, ↓reduceIte, reduceCtorEq, Nat.reduceAdd, Nat.reduceEqDiff, Nat.reduceBEq, Nat.reduceLT, Nat.reduceLeDiff, Nat.reduceMul, Nat.reduceSub, Int.reduceLE, Int.reduceLT, Int.reduceEq, Int.reduceBEq, Int.reduceBNe, Int.reduceToNat, Int.reduceNeg, Nat.reduceBNe, forall_eq_or_imp, N_fzG, tk_all]
    refine W_nilT 1007 [.own 2 [clA c], .own 3 (g.lo.map loA), .own 6 [], .own 2 [], .own 1 [], .own 1 [], .own 1 []] rfl (.same (.same (.own (by decide) (.own (by decide) (.own (by decide) (.own (by decide) (.own (by decide) .nil))))))) ?_
    refine W_loop (st52a I g c cl) (fun i => i ≤ g.op.length) (fun i => g.op.length - i) (fun _ _ => rfl) ⟨0, by omega, ?_⟩ ?_
    · simp only [OI0, OI1, OI2, OI3, OI4, OI5, OI6, OI7, OI8, OI9, OI10, OI11, OI12, ↓reduceIte, reduceCtorEq, Nat.reduceAdd, Nat.reduceEqDiff, Nat.reduceBEq, Nat.reduceLT, Nat.reduceLeDiff, Nat.reduceMul, Nat.reduceSub, Int.reduceLE, Int.reduceLT, Int.reduceEq, Int.reduceBEq, Int.reduceBNe, Int.reduceToNat, Int.reduceNeg, Nat.reduceBNe, forall_eq_or_imp, N_fzG, st52a, sl52, rt52, gA, pT, opsN, baseP, List.map_cons, List.map_nil, clA]
      try trace_state
    rintro i hi
    refine W_of_N ok52.small hmix ?_
    obtain ⟨sz, -, -, hch0⟩ := opsN_sz g hlo6 c cl i
    by_cases hil : i < g.op.length
    · have hil' : (i : Int) < g.op.length := by omega
      have i0 : (0 : Int) ≤ i := by omega
      have hgi : g.op[i]? = some g.op[i] := List.getElem?_eq_getElem hil
      have w1 : IntKind.i64.wrap ((i : Int) + 1) = ((i + 1 : Nat) : Int) := by rw [wrI64 (by omega) (by omega)]; omega
      generalize g.op[i] = o at hgi
      by_cases ho : o.at_ = cl
      · have nx : opsN g cl (baseP g c) (i + 1) = addP (opsN g cl (baseP g c) i) o i := by simp only [opsN, hgi]; rw [if_pos ho]
        simp only [OI0, OI1, OI2, OI3, OI4, OI5, OI6, OI7, OI8, OI9, OI10, OI11, OI12, ↓reduceIte, reduceCtorEq, Nat.reduceAdd, Nat.reduceEqDiff, Nat.reduceBEq, Nat.reduceLT, Nat.reduceLeDiff, Nat.reduceMul, Nat.reduceSub, Int.reduceLE, Int.reduceLT, Int.reduceEq, Int.reduceBEq, Int.reduceBNe, Int.reduceToNat, Int.reduceNeg, Nat.reduceBNe, forall_eq_or_imp, N_fzG, st52a, sl52, rt52, gA, hil', i0, hgi, opA, beqT ho]
        refine c142 (opsN g cl (baseP g c) i) o i (sz.pm (by omega)) ?_
        simp only [OI0, OI1, OI2, OI3, OI4, OI5, OI6, OI7, OI8, OI9, OI10, OI11, OI12, ↓reduceIte, reduceCtorEq, Nat.reduceAdd, Nat.reduceEqDiff, Nat.reduceBEq, Nat.reduceLT, Nat.reduceLeDiff, Nat.reduceMul, Nat.reduceSub, Int.reduceLE, Int.reduceLT, Int.reduceEq, Int.reduceBEq, Int.reduceBNe, Int.reduceToNat, Int.reduceNeg, Nat.reduceBNe, forall_eq_or_imp, N_fzG, pT, i64A, w1]
        refine ⟨i + 1, ⟨by omega, by omega⟩, ?_⟩
        simp only [OI0, OI1, OI2, OI3, OI4, OI5, OI6, OI7, OI8, OI9, OI10, OI11, OI12, ↓reduceIte, reduceCtorEq, Nat.reduceAdd, Nat.reduceEqDiff, Nat.reduceBEq, Nat.reduceLT, Nat.reduceLeDiff, Nat.reduceMul, Nat.reduceSub, Int.reduceLE, Int.reduceLT, Int.reduceEq, Int.reduceBEq, Int.reduceBNe, Int.reduceToNat, Int.reduceNeg, Nat.reduceBNe, forall_eq_or_imp, N_fzG, st52a, sl52, rt52, gA, nx, pT]
      · have nx : opsN g cl (baseP g c) (i + 1) = opsN g cl (baseP g c) i := by simp only [opsN, hgi]; rw [if_neg ho]
        simp only [OI0, OI1, OI2, OI3, OI4, OI5, OI6, OI7, OI8, OI9, OI10, OI11, OI12, ↓reduceIte, reduceCtorEq, Nat.reduceAdd, Nat.reduceEqDiff, Nat.reduceBEq, Nat.reduceLT, Nat.reduceLeDiff, Nat.reduceMul, Nat.reduceSub, Int.reduceLE, Int.reduceLT, Int.reduceEq, Int.reduceBEq, Int.reduceBNe, Int.reduceToNat, Int.reduceNeg, Nat.reduceBNe, forall_eq_or_imp, N_fzG, st52a, sl52, rt52, gA, hil', i0, hgi, opA, beqF ho, w1]
        refine ⟨i + 1, ⟨by omega, by omega⟩, ?_⟩
        simp only [OI0, OI1, OI2, OI3, OI4, OI5, OI6, OI7, OI8, OI9, OI10, OI11, OI12, ↓reduceIte, reduceCtorEq, Nat.reduceAdd, Nat.reduceEqDiff, Nat.reduceBEq, Nat.reduceLT, Nat.reduceLeDiff, Nat.reduceMul, Nat.reduceSub, Int.reduceLE, Int.reduceLT, Int.reduceEq, Int.reduceBEq, Int.reduceBNe, Int.reduceToNat, Int.reduceNeg, Nat.reduceBNe, forall_eq_or_imp, N_fzG, st52a, sl52, rt52, gA, nx]
    obtain rfl : i = g.op.length := by omega
    simp only [OI0, OI1, OI2, OI3, OI4, OI5, OI6, OI7, OI8, OI9, OI10, OI11, OI12, ↓reduceIte, reduceCtorEq, Nat.reduceAdd, Nat.reduceEqDiff, Nat.reduceBEq, Nat.reduceLT, Nat.reduceLeDiff, Nat.reduceMul, Nat.reduceSub, Int.reduceLE, Int.reduceLT, Int.reduceEq, Int.reduceBEq, Int.reduceBNe, Int.reduceToNat, Int.reduceNeg, Nat.reduceBNe, forall_eq_or_imp, N_fzG, st52a, sl52, rt52, gA, Int.lt_irrefl]
    have hA : opsN g cl (baseP g c) g.op.length = cutA g cl.toNat := by
      simp only [cutA, hgc, baseP, pm0, Option.toList]
      rw [Int.toNat_of_nonneg l2]
    rw [hA] at sz hch0 ⊢
    have hch := cutC_ch hch0
    refine c67 g hc ?_
    simp only [OI0, OI1, OI2, OI3, OI4, OI5, OI6, OI7, OI8, OI9, OI10, OI11, OI12, ↓reduceIte, reduceCtorEq, Nat.reduceAdd, Nat.reduceEqDiff, Nat.reduceBEq, Nat.reduceLT, Nat.reduceLeDiff, Nat.reduceMul, Nat.reduceSub, Int.reduceLE, Int.reduceLT, Int.reduceEq, Int.reduceBEq, Int.reduceBNe, Int.reduceToNat, Int.reduceNeg, Nat.reduceBNe, forall_eq_or_imp, N_fzG, List.length_map]
    rw [tk_len]
    refine W_nilS 10 2102 2 (by decide) rfl rfl (by decide) rfl ?_
    refine W_loop (st52b I g (lvM g (cutA g cl.toNat, [])) 2071 2102 73 72 71) (fun i => i ≤ (flowsL g).length) (fun i => (flowsL g).length - i) (fun _ _ => rfl) ⟨0, by omega, ?_⟩ ?_
    · simp only [OI0, OI1, OI2, OI3, OI4, OI5, OI6, OI7, OI8, OI9, OI10, OI11, OI12, ↓reduceIte, reduceCtorEq, Nat.reduceAdd, Nat.reduceEqDiff, Nat.reduceBEq, Nat.reduceLT, Nat.reduceLeDiff, Nat.reduceMul, Nat.reduceSub, Int.reduceLE, Int.reduceLT, Int.reduceEq, Int.reduceBEq, Int.reduceBNe, Int.reduceToNat, Int.reduceNeg, Nat.reduceBNe, forall_eq_or_imp, N_fzG, st52b, rt52, gA, lvM, List.take_zero, List.foldl_nil, List.length_nil, List.map_nil]
      try trace_state
    rintro i hi
    refine W_of_N ok52.small hmix ?_
    have szi := lvM_sz sz (g := g) i
    by_cases hil : i < (flowsL g).length
    · have hil' : (i : Int) < (flowsL g).length := by omega
      have i0 : (0 : Int) ≤ i := by omega
      have hgi : (flowsL g)[i]? = some (flowsL g)[i] := List.getElem?_eq_getElem hil
      have w1 : IntKind.i64.wrap ((i : Int) + 1) = ((i + 1 : Nat) : Int) := by rw [wrI64 (by omega) (by omega)]; omega
      obtain ⟨j, d, hj, hd⟩ := flowsL_mem hgi
      generalize (flowsL g)[i] = f at hgi hj
      obtain ⟨x, y, u1, u2, u3, u4, hx, hy⟩ := hF.ch _ _ hd
      have f0 : 0 ≤ f := by omega
      have f1 : f < (g.ch.length : Int) := by have := (List.getElem?_eq_some_iff.1 hd).1; omega
      have f2 : f.toNat = j := by omega
      have hcf : chAt g f = d := by simp only [chAt, f2, hd]
      have nx := lvM_succ (s := (cutA g cl.toNat, [])) hgi
      generalize hm : lvM g (cutA g cl.toNat, []) i = s at szi nx
      obtain ⟨m, e⟩ := s
      simp only [OI0, OI1, OI2, OI3, OI4, OI5, OI6, OI7, OI8, OI9, OI10, OI11, OI12, ↓reduceIte, reduceCtorEq, Nat.reduceAdd, Nat.reduceEqDiff, Nat.reduceBEq, Nat.reduceLT, Nat.reduceLeDiff, Nat.reduceMul, Nat.reduceSub, Int.reduceLE, Int.reduceLT, Int.reduceEq, Int.reduceBEq, Int.reduceBNe, Int.reduceToNat, Int.reduceNeg, Nat.reduceBNe, forall_eq_or_imp, N_fzG, st52b, rt52, gA, hil', i0, hgi, i64A, f0, f1, f2, hd, chA, hm, pT, vwCl, vwLo, vwOp, vwCh, vwI, Nat.le_refl, tk_len]
      refine c57 m d.1 (szi.pm (by omega)).ok ?_
      cases hk : locI m.ops d.1 with
      | none =>
        have e1 : lvS g (m, e) f = (m, e) := by simp only [lvS, hcf, hk]
        rw [e1] at nx
        simp only [OI0, OI1, OI2, OI3, OI4, OI5, OI6, OI7, OI8, OI9, OI10, OI11, OI12, ↓reduceIte, reduceCtorEq, Nat.reduceAdd, Nat.reduceEqDiff, Nat.reduceBEq, Nat.reduceLT, Nat.reduceLeDiff, Nat.reduceMul, Nat.reduceSub, Int.reduceLE, Int.reduceLT, Int.reduceEq, Int.reduceBEq, Int.reduceBNe, Int.reduceToNat, Int.reduceNeg, Nat.reduceBNe, forall_eq_or_imp, N_fzG, i64A, Option.isSome_none, Option.getD_none, w1]
        refine ⟨i + 1, ⟨by omega, by omega⟩, ?_⟩
        simp only [OI0, OI1, OI2, OI3, OI4, OI5, OI6, OI7, OI8, OI9, OI10, OI11, OI12, ↓reduceIte, reduceCtorEq, Nat.reduceAdd, Nat.reduceEqDiff, Nat.reduceBEq, Nat.reduceLT, Nat.reduceLeDiff, Nat.reduceMul, Nat.reduceSub, Int.reduceLE, Int.reduceLT, Int.reduceEq, Int.reduceBEq, Int.reduceBNe, Int.reduceToNat, Int.reduceNeg, Nat.reduceBNe, forall_eq_or_imp, N_fzG, st52b, rt52, gA, nx, pT]
      | some k =>
        have e1 : lvS g (m, e) f = (addP { m with lv := m.lv ++ [f] } (swapO (loopTo g f)) (-1), e ++ [(k, (m.ops.length : Int))]) := by simp only [lvS, hcf, hk]
        rw [e1] at nx
        have z1 := szi.lv
        have z2 := szi.e
        have z3 := szi.op
        have z4 := szi.ops
        simp only at z1 z2 z3 z4
        have sz' : PmS { m with lv := m.lv ++ [f] } := by
          have := szi.pm (by omega)
          exact ⟨this.cl, this.op, this.ops, by simp only [List.length_append, List.length_cons, List.length_nil]; omega, this.ar⟩
        simp only [OI0, OI1, OI2, OI3, OI4, OI5, OI6, OI7, OI8, OI9, OI10, OI11, OI12, ↓reduceIte, reduceCtorEq, Nat.reduceAdd, Nat.reduceEqDiff, Nat.reduceBEq, Nat.reduceLT, Nat.reduceLeDiff, Nat.reduceMul, Nat.reduceSub, Int.reduceLE, Int.reduceLT, Int.reduceEq, Int.reduceBEq, Int.reduceBNe, Int.reduceToNat, Int.reduceNeg, Nat.reduceBNe, forall_eq_or_imp, N_fzG, i64A, Option.isSome_some, Option.getD_some]
        refine ⟨⟨by omega, by omega⟩, ?_⟩
        rw [snI]
        refine c143 { m with lv := m.lv ++ [f] } g f j d hj hd hc sz' ?_
        simp only [OI0, OI1, OI2, OI3, OI4, OI5, OI6, OI7, OI8, OI9, OI10, OI11, OI12, ↓reduceIte, reduceCtorEq, Nat.reduceAdd, Nat.reduceEqDiff, Nat.reduceBEq, Nat.reduceLT, Nat.reduceLeDiff, Nat.reduceMul, Nat.reduceSub, Int.reduceLE, Int.reduceLT, Int.reduceEq, Int.reduceBEq, Int.reduceBNe, Int.reduceToNat, Int.reduceNeg, Nat.reduceBNe, forall_eq_or_imp, N_fzG, pT, i64A, tk_len]
        refine ⟨⟨by omega, by omega⟩, ?_⟩
        simp only [OI0, OI1, OI2, OI3, OI4, OI5, OI6, OI7, OI8, OI9, OI10, OI11, OI12, ↓reduceIte, reduceCtorEq, Nat.reduceAdd, Nat.reduceEqDiff, Nat.reduceBEq, Nat.reduceLT, Nat.reduceLeDiff, Nat.reduceMul, Nat.reduceSub, Int.reduceLE, Int.reduceLT, Int.reduceEq, Int.reduceBEq, Int.reduceBNe, Int.reduceToNat, Int.reduceNeg, Nat.reduceBNe, forall_eq_or_imp, N_fzG, w1]
        refine ⟨i + 1, ⟨by omega, by omega⟩, ?_⟩
        simp only [OI0, OI1, OI2, OI3, OI4, OI5, OI6, OI7, OI8, OI9, OI10, OI11, OI12, ↓reduceIte, reduceCtorEq, Nat.reduceAdd, Nat.reduceEqDiff, Nat.reduceBEq, Nat.reduceLT, Nat.reduceLeDiff, Nat.reduceMul, Nat.reduceSub, Int.reduceLE, Int.reduceLT, Int.reduceEq, Int.reduceBEq, Int.reduceBNe, Int.reduceToNat, Int.reduceNeg, Nat.reduceBNe, forall_eq_or_imp, N_fzG, st52b, rt52, gA, nx, pT, List.map_append, List.map_cons, List.map_nil, chA, List.length_append, List.length_cons, List.length_nil]
    obtain rfl : i = (flowsL g).length := by omega
    have hB : lvM g (cutA g cl.toNat, []) (flowsL g).length = cutB g cl.toNat := by simp only [lvM, cutB, List.take_length]
    rw [hB] at szi
    have szB := szi
    clear szi
    simp only [OI0, OI1, OI2, OI3, OI4, OI5, OI6, OI7, OI8, OI9, OI10, OI11, OI12, ↓reduceIte, reduceCtorEq, Nat.reduceAdd, Nat.reduceEqDiff, Nat.reduceBEq, Nat.reduceLT, Nat.reduceLeDiff, Nat.reduceMul, Nat.reduceSub, Int.reduceLE, Int.reduceLT, Int.reduceEq, Int.reduceBEq, Int.reduceBNe, Int.reduceToNat, Int.reduceNeg, Nat.reduceBNe, forall_eq_or_imp, N_fzG, st52b, rt52, gA, Int.lt_irrefl, hB]
    refine c67 g hc ?_
    simp only [OI0, OI1, OI2, OI3, OI4, OI5, OI6, OI7, OI8, OI9, OI10, OI11, OI12, ↓reduceIte, reduceCtorEq, Nat.reduceAdd, Nat.reduceEqDiff, Nat.reduceBEq, Nat.reduceLT, Nat.reduceLeDiff, Nat.reduceMul, Nat.reduceSub, Int.reduceLE, Int.reduceLT, Int.reduceEq, Int.reduceBEq, Int.reduceBNe, Int.reduceToNat, Int.reduceNeg, Nat.reduceBNe, forall_eq_or_imp, N_fzG, List.length_map, tk_len]
    refine W_mv 10 2102 2136 rfl rfl rfl (by decide) (by decide) rfl rfl ?_
    refine W_loop (st52b I g (arM g (cutB g cl.toNat)) 2105 2136 107 106 105) (fun i => i ≤ (flowsL g).length) (fun i => (flowsL g).length - i) (fun _ _ => rfl) ⟨0, by omega, ?_⟩ ?_
    · simp only [OI0, OI1, OI2, OI3, OI4, OI5, OI6, OI7, OI8, OI9, OI10, OI11, OI12, ↓reduceIte, reduceCtorEq, Nat.reduceAdd, Nat.reduceEqDiff, Nat.reduceBEq, Nat.reduceLT, Nat.reduceLeDiff, Nat.reduceMul, Nat.reduceSub, Int.reduceLE, Int.reduceLT, Int.reduceEq, Int.reduceBEq, Int.reduceBNe, Int.reduceToNat, Int.reduceNeg, Nat.reduceBNe, forall_eq_or_imp, N_fzG, st52b, rt52, gA, arM, List.take_zero, List.foldl_nil]
      try trace_state
    rintro i hi
    refine W_of_N ok52.small hmix ?_
    have szi := arM_sz szB (g := g) i
    by_cases hil : i < (flowsL g).length
    · have hil' : (i : Int) < (flowsL g).length := by omega
      have i0 : (0 : Int) ≤ i := by omega
      have hgi : (flowsL g)[i]? = some (flowsL g)[i] := List.getElem?_eq_getElem hil
      have w1 : IntKind.i64.wrap ((i : Int) + 1) = ((i + 1 : Nat) : Int) := by rw [wrI64 (by omega) (by omega)]; omega
      obtain ⟨j, d, hj, hd⟩ := flowsL_mem hgi
      generalize (flowsL g)[i] = f at hgi hj
      obtain ⟨x, y, u1, u2, u3, u4, hx, hy⟩ := hF.ch _ _ hd
      have f0 : 0 ≤ f := by omega
      have f1 : f < (g.ch.length : Int) := by have := (List.getElem?_eq_some_iff.1 hd).1; omega
      have f2 : f.toNat = j := by omega
      have hcf : chAt g f = d := by simp only [chAt, f2, hd]
      have nx := arM_succ (s := cutB g cl.toNat) hgi
      generalize hm : arM g (cutB g cl.toNat) i = s at szi nx
      obtain ⟨m, e⟩ := s
      simp only [OI0, OI1, OI2, OI3, OI4, OI5, OI6, OI7, OI8, OI9, OI10, OI11, OI12, ↓reduceIte, reduceCtorEq, Nat.reduceAdd, Nat.reduceEqDiff, Nat.reduceBEq, Nat.reduceLT, Nat.reduceLeDiff, Nat.reduceMul, Nat.reduceSub, Int.reduceLE, Int.reduceLT, Int.reduceEq, Int.reduceBEq, Int.reduceBNe, Int.reduceToNat, Int.reduceNeg, Nat.reduceBNe, forall_eq_or_imp, N_fzG, st52b, rt52, gA, hil', i0, hgi, i64A, f0, f1, f2, hd, chA, hm, pT, vwCl, vwLo, vwOp, vwCh, vwI, Nat.le_refl, tk_len]
      refine c57 m d.2 (szi.pm (by omega)).ok ?_
      cases hk : locI m.ops d.2 with
      | none =>
        have e1 : arS g (m, e) f = (m, e) := by simp only [arS, hcf, hk]
        rw [e1] at nx
        simp only [OI0, OI1, OI2, OI3, OI4, OI5, OI6, OI7, OI8, OI9, OI10, OI11, OI12, ↓reduceIte, reduceCtorEq, Nat.reduceAdd, Nat.reduceEqDiff, Nat.reduceBEq, Nat.reduceLT, Nat.reduceLeDiff, Nat.reduceMul, Nat.reduceSub, Int.reduceLE, Int.reduceLT, Int.reduceEq, Int.reduceBEq, Int.reduceBNe, Int.reduceToNat, Int.reduceNeg, Nat.reduceBNe, forall_eq_or_imp, N_fzG, i64A, Option.isSome_none, Option.getD_none, w1]
        refine ⟨i + 1, ⟨by omega, by omega⟩, ?_⟩
        simp only [OI0, OI1, OI2, OI3, OI4, OI5, OI6, OI7, OI8, OI9, OI10, OI11, OI12, ↓reduceIte, reduceCtorEq, Nat.reduceAdd, Nat.reduceEqDiff, Nat.reduceBEq, Nat.reduceLT, Nat.reduceLeDiff, Nat.reduceMul, Nat.reduceSub, Int.reduceLE, Int.reduceLT, Int.reduceEq, Int.reduceBEq, Int.reduceBNe, Int.reduceToNat, Int.reduceNeg, Nat.reduceBNe, forall_eq_or_imp, N_fzG, st52b, rt52, gA, nx, pT]
      | some k =>
        have e1 : arS g (m, e) f = (addP { m with ar := m.ar ++ [f] } (swapO (loopTo g f)) (-1), e ++ [((m.ops.length : Int), k)]) := by simp only [arS, hcf, hk]
        rw [e1] at nx
        have z1 := szi.ar
        have z2 := szi.e
        have z3 := szi.op
        have z4 := szi.ops
        simp only at z1 z2 z3 z4
        have sz' : PmS { m with ar := m.ar ++ [f] } := by
          have := szi.pm (by omega)
          exact ⟨this.cl, this.op, this.ops, this.lv, by simp only [List.length_append, List.length_cons, List.length_nil]; omega⟩
        simp only [OI0, OI1, OI2, OI3, OI4, OI5, OI6, OI7, OI8, OI9, OI10, OI11, OI12, ↓reduceIte, reduceCtorEq, Nat.reduceAdd, Nat.reduceEqDiff, Nat.reduceBEq, Nat.reduceLT, Nat.reduceLeDiff, Nat.reduceMul, Nat.reduceSub, Int.reduceLE, Int.reduceLT, Int.reduceEq, Int.reduceBEq, Int.reduceBNe, Int.reduceToNat, Int.reduceNeg, Nat.reduceBNe, forall_eq_or_imp, N_fzG, i64A, Option.isSome_some, Option.getD_some]
        refine ⟨⟨by omega, by omega⟩, ?_⟩
        rw [snI]
        refine c143 { m with ar := m.ar ++ [f] } g f j d hj hd hc sz' ?_
        simp only [OI0, OI1, OI2, OI3, OI4, OI5, OI6, OI7, OI8, OI9, OI10, OI11, OI12, ↓reduceIte, reduceCtorEq, Nat.reduceAdd, Nat.reduceEqDiff, Nat.reduceBEq, Nat.reduceLT, Nat.reduceLeDiff, Nat.reduceMul, Nat.reduceSub, Int.reduceLE, Int.reduceLT, Int.reduceEq, Int.reduceBEq, Int.reduceBNe, Int.reduceToNat, Int.reduceNeg, Nat.reduceBNe, forall_eq_or_imp, N_fzG, pT, i64A, tk_len]
        refine ⟨⟨by omega, by omega⟩, ?_⟩
        simp only [OI0, OI1, OI2, OI3, OI4, OI5, OI6, OI7, OI8, OI9, OI10, OI11, OI12, ↓reduceIte, reduceCtorEq, Nat.reduceAdd, Nat.reduceEqDiff, Nat.reduceBEq, Nat.reduceLT, Nat.reduceLeDiff, Nat.reduceMul, Nat.reduceSub, Int.reduceLE, Int.reduceLT, Int.reduceEq, Int.reduceBEq, Int.reduceBNe, Int.reduceToNat, Int.reduceNeg, Nat.reduceBNe, forall_eq_or_imp, N_fzG, w1]
        refine ⟨i + 1, ⟨by omega, by omega⟩, ?_⟩
        simp only [OI0, OI1, OI2, OI3, OI4, OI5, OI6, OI7, OI8, OI9, OI10, OI11, OI12, ↓reduceIte, reduceCtorEq, Nat.reduceAdd, Nat.reduceEqDiff, Nat.reduceBEq, Nat.reduceLT, Nat.reduceLeDiff, Nat.reduceMul, Nat.reduceSub, Int.reduceLE, Int.reduceLT, Int.reduceEq, Int.reduceBEq, Int.reduceBNe, Int.reduceToNat, Int.reduceNeg, Nat.reduceBNe, forall_eq_or_imp, N_fzG, st52b, rt52, gA, nx, pT, List.map_append, List.map_cons, List.map_nil, chA, List.length_append, List.length_cons, List.length_nil]
    obtain rfl : i = (flowsL g).length := by omega
    have hC : arM g (cutB g cl.toNat) (flowsL g).length = cutC g cl.toNat := by simp only [arM, cutC, List.take_length]
    rw [hC] at szi
    have szC := szi
    clear szi
    simp only [OI0, OI1, OI2, OI3, OI4, OI5, OI6, OI7, OI8, OI9, OI10, OI11, OI12, ↓reduceIte, reduceCtorEq, Nat.reduceAdd, Nat.reduceEqDiff, Nat.reduceBEq, Nat.reduceLT, Nat.reduceLeDiff, Nat.reduceMul, Nat.reduceSub, Int.reduceLE, Int.reduceLT, Int.reduceEq, Int.reduceBEq, Int.reduceBNe, Int.reduceToNat, Int.reduceNeg, Nat.reduceBNe, forall_eq_or_imp, N_fzG, st52b, rt52, gA, Int.lt_irrefl, hC]
    refine W_loop (st52c I g (cutC g cl.toNat)) (fun i => i ≤ g.ch.length) (fun i => g.ch.length - i) (fun _ _ => rfl) ⟨0, by omega, ?_⟩ ?_
    · simp only [OI0, OI1, OI2, OI3, OI4, OI5, OI6, OI7, OI8, OI9, OI10, OI11, OI12, ↓reduceIte, reduceCtorEq, Nat.reduceAdd, Nat.reduceEqDiff, Nat.reduceBEq, Nat.reduceLT, Nat.reduceLeDiff, Nat.reduceMul, Nat.reduceSub, Int.reduceLE, Int.reduceLT, Int.reduceEq, Int.reduceBEq, Int.reduceBNe, Int.reduceToNat, Int.reduceNeg, Nat.reduceBNe, forall_eq_or_imp, N_fzG, st52c, rt52, gA, List.take_zero, List.foldl_nil, List.map_nil, pT, hch]
      try trace_state
    rintro i hi
    refine W_of_N ok52.small hmix ?_
    by_cases hil : i < g.ch.length
    · have hil' : (i : Int) < g.ch.length := by omega
      have i0 : (0 : Int) ≤ i := by omega
      have hgi : g.ch[i]? = some g.ch[i] := List.getElem?_eq_getElem hil
      have w1 : IntKind.i64.wrap ((i : Int) + 1) = ((i + 1 : Nat) : Int) := by rw [wrI64 (by omega) (by omega)]; omega
      generalize g.ch[i] = d at hgi
      generalize hm : cutC g cl.toNat = s at szC
      obtain ⟨m, e⟩ := s
      have hcl := chS_len m.ops (g.ch.take i) []
      have nx : (g.ch.take (i + 1)).foldl (chS m.ops) [] = chS m.ops ((g.ch.take i).foldl (chS m.ops) []) d := by rw [take_snoc hgi, List.foldl_append]; rfl
      generalize hcs : (g.ch.take i).foldl (chS m.ops) [] = cs at nx hcl
      rw [List.length_take] at hcl
      simp only [List.length_nil] at hcl
      simp only [OI0, OI1, OI2, OI3, OI4, OI5, OI6, OI7, OI8, OI9, OI10, OI11, OI12, ↓reduceIte, reduceCtorEq, Nat.reduceAdd, Nat.reduceEqDiff, Nat.reduceBEq, Nat.reduceLT, Nat.reduceLeDiff, Nat.reduceMul, Nat.reduceSub, Int.reduceLE, Int.reduceLT, Int.reduceEq, Int.reduceBEq, Int.reduceBNe, Int.reduceToNat, Int.reduceNeg, Nat.reduceBNe, forall_eq_or_imp, N_fzG, st52c, rt52, gA, hil', i0, hgi, i64A, chA, hm, hcs, pT, vwCl, vwLo, vwOp, vwCh, vwI, Nat.le_refl, tk_len]
      have okc : PmOk { m with g := { m.g with ch := cs } } := by
        have := (szC.pm (by omega)).ok
        exact ⟨this.ops, this.lv, this.ar⟩
      refine c57 { m with g := { m.g with ch := cs } } d.1 okc ?_
      have fin : ∀ cs', chS m.ops cs d = cs' → (g.ch.take (i + 1)).foldl (chS m.ops) [] = cs' := fun cs' h => nx.trans h
      clear nx
      cases hk1 : locI m.ops d.1 with
      | none =>
        have nx := fin cs (by simp only [chS, hk1])
        simp only [OI0, OI1, OI2, OI3, OI4, OI5, OI6, OI7, OI8, OI9, OI10, OI11, OI12, ↓reduceIte, reduceCtorEq, Nat.reduceAdd, Nat.reduceEqDiff, Nat.reduceBEq, Nat.reduceLT, Nat.reduceLeDiff, Nat.reduceMul, Nat.reduceSub, Int.reduceLE, Int.reduceLT, Int.reduceEq, Int.reduceBEq, Int.reduceBNe, Int.reduceToNat, Int.reduceNeg, Nat.reduceBNe, forall_eq_or_imp, N_fzG, i64A, hk1, Option.isSome_none, Option.getD_none, vwCl, vwLo, vwOp, vwCh, vwI, Nat.le_refl, tk_len]
        refine c57 { m with g := { m.g with ch := cs } } d.2 okc ?_
        simp only [OI0, OI1, OI2, OI3, OI4, OI5, OI6, OI7, OI8, OI9, OI10, OI11, OI12, ↓reduceIte, reduceCtorEq, Nat.reduceAdd, Nat.reduceEqDiff, Nat.reduceBEq, Nat.reduceLT, Nat.reduceLeDiff, Nat.reduceMul, Nat.reduceSub, Int.reduceLE, Int.reduceLT, Int.reduceEq, Int.reduceBEq, Int.reduceBNe, Int.reduceToNat, Int.reduceNeg, Nat.reduceBNe, forall_eq_or_imp, N_fzG, i64A, w1]
        refine ⟨i + 1, ⟨by omega, by omega⟩, ?_⟩
        simp only [OI0, OI1, OI2, OI3, OI4, OI5, OI6, OI7, OI8, OI9, OI10, OI11, OI12, ↓reduceIte, reduceCtorEq, Nat.reduceAdd, Nat.reduceEqDiff, Nat.reduceBEq, Nat.reduceLT, Nat.reduceLeDiff, Nat.reduceMul, Nat.reduceSub, Int.reduceLE, Int.reduceLT, Int.reduceEq, Int.reduceBEq, Int.reduceBNe, Int.reduceToNat, Int.reduceNeg, Nat.reduceBNe, forall_eq_or_imp, N_fzG, st52c, rt52, gA, hm, nx, pT]
      | some k =>
        simp only [OI0, OI1, OI2, OI3, OI4, OI5, OI6, OI7, OI8, OI9, OI10, OI11, OI12, ↓reduceIte, reduceCtorEq, Nat.reduceAdd, Nat.reduceEqDiff, Nat.reduceBEq, Nat.reduceLT, Nat.reduceLeDiff, Nat.reduceMul, Nat.reduceSub, Int.reduceLE, Int.reduceLT, Int.reduceEq, Int.reduceBEq, Int.reduceBNe, Int.reduceToNat, Int.reduceNeg, Nat.reduceBNe, forall_eq_or_imp, N_fzG, i64A, hk1, Option.isSome_some, Option.getD_some, vwCl, vwLo, vwOp, vwCh, vwI, Nat.le_refl, tk_len]
        refine c57 { m with g := { m.g with ch := cs } } d.2 okc ?_
        cases hk2 : locI m.ops d.2 with
        | none =>
          have nx := fin cs (by simp only [chS, hk1, hk2])
          simp only [OI0, OI1, OI2, OI3, OI4, OI5, OI6, OI7, OI8, OI9, OI10, OI11, OI12, ↓reduceIte, reduceCtorEq, Nat.reduceAdd, Nat.reduceEqDiff, Nat.reduceBEq, Nat.reduceLT, Nat.reduceLeDiff, Nat.reduceMul, Nat.reduceSub, Int.reduceLE, Int.reduceLT, Int.reduceEq, Int.reduceBEq, Int.reduceBNe, Int.reduceToNat, Int.reduceNeg, Nat.reduceBNe, forall_eq_or_imp, N_fzG, i64A, hk2, Option.isSome_none, Option.getD_none, w1]
          refine ⟨i + 1, ⟨by omega, by omega⟩, ?_⟩
          simp only [OI0, OI1, OI2, OI3, OI4, OI5, OI6, OI7, OI8, OI9, OI10, OI11, OI12, ↓reduceIte, reduceCtorEq, Nat.reduceAdd, Nat.reduceEqDiff, Nat.reduceBEq, Nat.reduceLT, Nat.reduceLeDiff, Nat.reduceMul, Nat.reduceSub, Int.reduceLE, Int.reduceLT, Int.reduceEq, Int.reduceBEq, Int.reduceBNe, Int.reduceToNat, Int.reduceNeg, Nat.reduceBNe, forall_eq_or_imp, N_fzG, st52c, rt52, gA, hm, nx, pT]
        | some k2 =>
          have nx := fin (cs ++ [(k, k2)]) (by simp only [chS, hk1, hk2])
          simp only [OI0, OI1, OI2, OI3, OI4, OI5, OI6, OI7, OI8, OI9, OI10, OI11, OI12, ↓reduceIte, reduceCtorEq, Nat.reduceAdd, Nat.reduceEqDiff, Nat.reduceBEq, Nat.reduceLT, Nat.reduceLeDiff, Nat.reduceMul, Nat.reduceSub, Int.reduceLE, Int.reduceLT, Int.reduceEq, Int.reduceBEq, Int.reduceBNe, Int.reduceToNat, Int.reduceNeg, Nat.reduceBNe, forall_eq_or_imp, N_fzG, i64A, hk2, Option.isSome_some, Option.getD_some, w1]
          refine ⟨⟨by omega, by omega⟩, ?_⟩
          refine ⟨i + 1, ⟨by omega, by omega⟩, ?_⟩
          simp only [OI0, OI1, OI2, OI3, OI4, OI5, OI6, OI7, OI8, OI9, OI10, OI11, OI12, ↓reduceIte, reduceCtorEq, Nat.reduceAdd, Nat.reduceEqDiff, Nat.reduceBEq, Nat.reduceLT, Nat.reduceLeDiff, Nat.reduceMul, Nat.reduceSub, Int.reduceLE, Int.reduceLT, Int.reduceEq, Int.reduceBEq, Int.reduceBNe, Int.reduceToNat, Int.reduceNeg, Nat.reduceBNe, forall_eq_or_imp, N_fzG, st52c, rt52, gA, hm, nx, pT, snCh]
    obtain rfl : i = g.ch.length := by omega
    have hcl := chS_len (cutC g cl.toNat).1.ops g.ch []
    simp only [List.length_nil] at hcl
    have hZ : cutZ g cl = if 24 < (cutD g cl.toNat).g.op.length ∨ 48 < (cutD g cl.toNat).g.ch.length then (pm0, 7) else (cutD g cl.toNat, 0) := by
      rw [cutZ, if_neg (by simpa using hc), if_neg (by omega)]
    obtain ⟨⟨m, e⟩, hm⟩ : ∃ s, cutC g cl.toNat = s := ⟨_, rfl⟩
    rw [hm] at szC hcl
    simp only at hcl
    obtain ⟨cs, hcs⟩ : ∃ s, g.ch.foldl (chS m.ops) [] = s := ⟨_, rfl⟩
    rw [hcs] at hcl
    simp only [cutD, hm, hcs] at hZ
    have z2 := szC.e
    have z3 := szC.op
    simp only at z2 z3
    have vapp : List.map frz (List.take (cs.length + e.length) (List.map frz (List.take (cs.length + e.length) (List.map chA cs ++ List.map chA e)))) = List.map chA (cs ++ e) := by
      rw [List.take_of_length_le (by simp), List.take_of_length_le (by simp), ← List.map_append, List.map_map, List.map_map]
      exact List.map_congr_left fun _ _ => rfl
    have tapp : List.take (cs.length + e.length) (List.map chA cs ++ List.map chA e) = List.map chA (cs ++ e) := by
      rw [List.take_of_length_le (by simp), ← List.map_append]
    have vcat : List.map frz (List.take (cs.length + e.length) (List.map chA (cs ++ e))) = List.map chA (cs ++ e) := by
      rw [← List.length_append]; exact vwCh _
    have te := tk_all chA e
    have hall : (e.all fun x => ntup (chA x) && (chA x).cells.length == 2 && (chA x).cells.all stor) = true := List.all_eq_true.2 fun _ _ => rfl
    have hb1 : (cs.length + e.length) * 16 ≤ 140737488355328 := by omega
    have hb2 : cs.length + e.length ≤ 9223372036854775807 := by omega
    by_cases a1 : (24 : Int) < m.g.op.length
    · rw [if_pos (.inl (by omega))] at hZ
      simp only [OI0, OI1, OI2, OI3, OI4, OI5, OI6, OI7, OI8, OI9, OI10, OI11, OI12, ↓reduceIte, reduceCtorEq, Nat.reduceAdd, Nat.reduceEqDiff, Nat.reduceBEq, Nat.reduceLT, Nat.reduceLeDiff, Nat.reduceMul, Nat.reduceSub, Int.reduceLE, Int.reduceLT, Int.reduceEq, Int.reduceBEq, Int.reduceBNe, Int.reduceToNat, Int.reduceNeg, Nat.reduceBNe, forall_eq_or_imp, N_fzG, st52c, rt52, gA, Int.lt_irrefl, List.take_length, hm, hcs, pT, tk_len, vwCl, vwLo, vwOp, vwCh, vwI, te, hall, hb1, hb2, a1, tapp, vcat]
      simpa [hZ] using hnil (by rw [hZ])
    by_cases a2 : (48 : Int) < ((cs.length + e.length : Nat) : Int)
    · rw [if_pos (.inr (by rw [List.length_append]; omega))] at hZ
      simp only [OI0, OI1, OI2, OI3, OI4, OI5, OI6, OI7, OI8, OI9, OI10, OI11, OI12, ↓reduceIte, reduceCtorEq, Nat.reduceAdd, Nat.reduceEqDiff, Nat.reduceBEq, Nat.reduceLT, Nat.reduceLeDiff, Nat.reduceMul, Nat.reduceSub, Int.reduceLE, Int.reduceLT, Int.reduceEq, Int.reduceBEq, Int.reduceBNe, Int.reduceToNat, Int.reduceNeg, Nat.reduceBNe, forall_eq_or_imp, N_fzG, st52c, rt52, gA, Int.lt_irrefl, List.take_length, hm, hcs, pT, tk_len, vwCl, vwLo, vwOp, vwCh, vwI, te, hall, hb1, hb2, a1, a2, tapp, vcat]
      simpa [hZ] using hnil (by rw [hZ])
    rw [if_neg (by rw [List.length_append]; omega)] at hZ
    simp only [OI0, OI1, OI2, OI3, OI4, OI5, OI6, OI7, OI8, OI9, OI10, OI11, OI12, ↓reduceIte, reduceCtorEq, Nat.reduceAdd, Nat.reduceEqDiff, Nat.reduceBEq, Nat.reduceLT, Nat.reduceLeDiff, Nat.reduceMul, Nat.reduceSub, Int.reduceLE, Int.reduceLT, Int.reduceEq, Int.reduceBEq, Int.reduceBNe, Int.reduceToNat, Int.reduceNeg, Nat.reduceBNe, forall_eq_or_imp, N_fzG, st52c, rt52, gA, Int.lt_irrefl, List.take_length, hm, hcs, pT, tk_len, vwCl, vwLo, vwOp, vwCh, vwI, te, hall, hb1, hb2, a1, a2, tapp, vcat]
    have hfz : List.map (fun x => frz (chA x)) cs ++ List.map (fun x => frz (chA x)) e = List.map chA (cs ++ e) := by rw [List.map_append]; rfl
    rw [hfz]
    rw [hZ] at hok
    exact hok
  · simp only [OI0, OI1, OI2, OI3, OI4, OI5, OI6, OI7, OI8, OI9, OI10, OI11, OI12, ↓reduceIte, reduceCtorEq, Nat.reduceAdd, Nat.reduceEqDiff, Nat.reduceBEq, Nat.reduceLT, Nat.reduceLeDiff, Nat.reduceMul, Nat.reduceSub, Int.reduceLE, Int.reduceLT, Int.reduceEq, Int.reduceBEq, Int.reduceBNe, Int.reduceToNat, Int.reduceNeg, Nat.reduceBNe, forall_eq_or_imp, N_fzG, i64A, bneT hc]
    have e := cutZ_err (cl := cl) hc
    simpa [e] using hnil (by rw [e])
end Go.Proofs.Ythlehngbadianaa.Ow
