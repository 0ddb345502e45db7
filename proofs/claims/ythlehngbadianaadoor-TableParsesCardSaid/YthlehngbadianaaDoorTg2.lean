/- What the functions of the program do, each once: contracts of the logic (part g2). -/
import Derived.Test.YthlehngbadianaaDoorTd1g1
set_option linter.unusedVariables false
set_option linter.unusedSimpArgs false
set_option linter.unnecessarySimpa false
set_option maxRecDepth 100000
set_option maxHeartbeats 4000000
namespace Go.Proofs.YthlehngbadianaaDoor.Ow
open Go Go.RowKit Go.Proofs
/-- A place's loop (p: is it the way out?). -/
def loopA (g : Gr) (o : O6) (p : Nat) : Int := if (o.k = 7 ∧ p = 0) ∨ (o.k = 8 ∧ p = 1) then upAt g.lo o.lo else o.lo
/-- A kind that leads into a loop, or out of one, has a loop. -/
def LoOk (g : Gr) (o : O6) : Prop := (o.k = 7 ∨ o.k = 8) → ∃ l, g.lo[o.lo.toNat]? = some l ∧ 0 ≤ o.lo ∧ o.lo < g.lo.length
/- (watershed/graph.Graph).loop -/
def cc126 : CC := (.seq (.region [⟨none, 2, (.box 0), [0], none, []⟩, ⟨none, 4, (.val (.mv (.c (.int .i64 0)))), [4], none, []⟩]) (.seq (.region [⟨none, 7, (.val (.fa (.s 2) 2)), [], none, []⟩, ⟨none, 8, (.val (.ld (.s 7) none)), [7], none, []⟩, ⟨none, 9, (.val (.mv (.s 1))), [], none, []⟩, ⟨none, 10, (.val (.bin .quo (.s 9) (.c (.int .i64 2)))), [9], none, []⟩, ⟨none, 11, (.val (.ia (.s 8) (.s 10) 6)), [8, 10], none, []⟩, ⟨none, 12, (.val (.ld (.s 11) (some 6))), [11], none, []⟩, ⟨none, 5, (.alloc (.agg #[(.string ⟨#[]⟩), (.int .i64 0), (.int .i64 0), (.int .i64 0), (.int .i64 0), (.int .i64 0)])), [], none, []⟩, ⟨none, 0, (.store 6 (.s 5) (.s 12)), [12], none, []⟩]) (.seq (.region [⟨none, 13, (.val (.mv (.s 1))), [1], none, []⟩, ⟨none, 14, (.val (.bin .rem (.s 13) (.c (.int .i64 2)))), [13], none, []⟩, ⟨none, 15, (.val (.bin .eql (.s 14) (.c (.int .i64 0)))), [14], none, []⟩, ⟨none, 6, (.val (.mv (.s 15))), [15], none, []⟩]) (.seq (.seq (.region [⟨none, 16, (.val (.fa (.s 5) 1)), [], none, []⟩, ⟨none, 17, (.val (.ld (.s 16) none)), [16], none, []⟩, ⟨none, 18, (.val (.bin .eql (.s 17) (.c (.int .i64 7)))), [17], none, []⟩, ⟨none, 19, (.val (.mv (.s 18))), [18], none, []⟩, ⟨(some (19, true)), 20, (.val (.mv (.s 6))), [], none, []⟩, ⟨none, 21, (.val (.pick (.s 19) (.s 20) (.c (.bool false)))), [19, 20], none, []⟩, ⟨none, 22, (.val (.mv (.s 21))), [21], none, []⟩, ⟨(some (22, false)), 23, (.val (.fa (.s 5) 1)), [], none, []⟩, ⟨(some (22, false)), 24, (.val (.ld (.s 23) none)), [23], none, []⟩, ⟨(some (22, false)), 25, (.val (.bin .eql (.s 24) (.c (.int .i64 8)))), [24], none, []⟩, ⟨(some (22, false)), 26, (.val (.mv (.s 25))), [25], none, []⟩, ⟨(some (26, true)), 27, (.val (.mv (.s 6))), [6], none, []⟩, ⟨(some (26, true)), 28, (.val (.un .not (.s 27))), [27], none, []⟩, ⟨(some (22, false)), 29, (.val (.pick (.s 26) (.s 28) (.c (.bool false)))), [26, 28], none, []⟩, ⟨none, 30, (.val (.pick (.s 22) (.c (.bool true)) (.s 29))), [22, 29], none, []⟩]) (.cond (.s 30) (.seq (.region [⟨none, 31, (.val (.fa (.s 2) 1)), [2, 30], none, []⟩, ⟨none, 32, (.val (.ld (.s 31) none)), [31], none, []⟩, ⟨none, 33, (.val (.fa (.s 5) 2)), [5], none, []⟩, ⟨none, 34, (.val (.ld (.s 33) none)), [33], none, []⟩, ⟨none, 35, (.val (.ia (.s 32) (.s 34) 3)), [32, 34], none, []⟩, ⟨none, 36, (.val (.fa (.s 35) 1)), [35], none, []⟩, ⟨none, 37, (.val (.ld (.s 36) none)), [36], none, []⟩, ⟨none, 4, (.val (.mv (.s 37))), [37], none, []⟩]) .ret) .skip)) (.seq (.region [⟨none, 38, (.val (.fa (.s 5) 2)), [2, 5, 30], none, []⟩, ⟨none, 39, (.val (.ld (.s 38) none)), [38], none, []⟩, ⟨none, 4, (.val (.mv (.s 39))), [39], none, []⟩]) .ret)))))
theorem ok126 : FnOk Tryd.prog 71 cc126 [(.t 4)] 2 40 := ⟨⟨_, Tryd.func71, by kernel_rfl, by kernel_rfl, by kernel_rfl⟩, by decide, by decide⟩
/- watershed/watershedref09.loopOf -/
def cc128 : CC := (.seq (.region [⟨none, 2, (.box 0), [0], none, []⟩, ⟨none, 4, (.val (.mv (.c (.int .i64 0)))), [4], none, []⟩]) (.seq (.region [⟨none, 6, (.val (.fa (.s 2) 2)), [], none, []⟩, ⟨none, 7, (.val (.ld (.s 6) none)), [6], none, []⟩, ⟨none, 8, (.val (.mv (.s 1))), [], none, []⟩, ⟨none, 9, (.val (.bin .quo (.s 8) (.c (.int .i64 2)))), [8], none, []⟩, ⟨none, 10, (.val (.ia (.s 7) (.s 9) 6)), [7, 9], none, []⟩, ⟨none, 11, (.val (.ld (.s 10) (some 6))), [10], none, []⟩, ⟨none, 5, (.alloc (.agg #[(.string ⟨#[]⟩), (.int .i64 0), (.int .i64 0), (.int .i64 0), (.int .i64 0), (.int .i64 0)])), [], none, []⟩, ⟨none, 0, (.store 6 (.s 5) (.s 11)), [11], none, []⟩]) (.seq (.seq (.region [⟨none, 12, (.val (.fa (.s 5) 1)), [], none, []⟩, ⟨none, 13, (.val (.ld (.s 12) none)), [12], none, []⟩, ⟨none, 14, (.val (.bin .eql (.s 13) (.c (.int .i64 7)))), [13], none, []⟩, ⟨none, 15, (.val (.mv (.s 14))), [14], none, []⟩, ⟨(some (15, true)), 16, (.val (.mv (.s 1))), [], none, []⟩, ⟨(some (15, true)), 17, (.val (.bin .rem (.s 16) (.c (.int .i64 2)))), [16], none, []⟩, ⟨(some (15, true)), 18, (.val (.bin .eql (.s 17) (.c (.int .i64 0)))), [17], none, []⟩, ⟨none, 19, (.val (.pick (.s 15) (.s 18) (.c (.bool false)))), [15, 18], none, []⟩, ⟨none, 20, (.val (.mv (.s 19))), [19], none, []⟩, ⟨(some (20, false)), 21, (.val (.fa (.s 5) 1)), [], none, []⟩, ⟨(some (20, false)), 22, (.val (.ld (.s 21) none)), [21], none, []⟩, ⟨(some (20, false)), 23, (.val (.bin .eql (.s 22) (.c (.int .i64 8)))), [22], none, []⟩, ⟨(some (20, false)), 24, (.val (.mv (.s 23))), [23], none, []⟩, ⟨(some (24, true)), 25, (.val (.mv (.s 1))), [1], none, []⟩, ⟨(some (24, true)), 26, (.val (.bin .rem (.s 25) (.c (.int .i64 2)))), [25], none, []⟩, ⟨(some (24, true)), 27, (.val (.bin .eql (.s 26) (.c (.int .i64 1)))), [26], none, []⟩, ⟨(some (20, false)), 28, (.val (.pick (.s 24) (.s 27) (.c (.bool false)))), [24, 27], none, []⟩, ⟨none, 29, (.val (.pick (.s 20) (.c (.bool true)) (.s 28))), [20, 28], none, []⟩]) (.cond (.s 29) (.seq (.region [⟨none, 30, (.val (.fa (.s 2) 1)), [2, 29], none, []⟩, ⟨none, 31, (.val (.ld (.s 30) none)), [30], none, []⟩, ⟨none, 32, (.val (.fa (.s 5) 2)), [5], none, []⟩, ⟨none, 33, (.val (.ld (.s 32) none)), [32], none, []⟩, ⟨none, 34, (.val (.ia (.s 31) (.s 33) 3)), [31, 33], none, []⟩, ⟨none, 35, (.val (.fa (.s 34) 1)), [34], none, []⟩, ⟨none, 36, (.val (.ld (.s 35) none)), [35], none, []⟩, ⟨none, 4, (.val (.mv (.s 36))), [36], none, []⟩]) .ret) .skip)) (.seq (.region [⟨none, 37, (.val (.fa (.s 5) 2)), [2, 5, 29], none, []⟩, ⟨none, 38, (.val (.ld (.s 37) none)), [37], none, []⟩, ⟨none, 4, (.val (.mv (.s 38))), [38], none, []⟩]) .ret))))
theorem ok128 : FnOk Tryd.prog 86 cc128 [(.t 4)] 2 39 := ⟨⟨_, Tryd.func86, by kernel_rfl, by kernel_rfl, by kernel_rfl⟩, by decide, by decide⟩
/- (watershed/graph.Op).numbers -/
def cc201 : CC := (.seq (.region [⟨none, 1, (.box 0), [0], none, []⟩, ⟨none, 2, (.val (.mv (.c (.bool false)))), [2], none, []⟩]) (.seq (.seq (.region [⟨none, 3, (.val (.fa (.s 1) 1)), [], none, []⟩, ⟨none, 4, (.val (.ld (.s 3) none)), [3], none, []⟩]) (.block 0 (.seq (.region [⟨none, 6, (.val (.bin .eql (.s 4) (.c (.int .i64 3)))), [], none, []⟩, ⟨none, 5, (.val (.mv (.s 6))), [6], none, []⟩]) (.cond (.s 5) (.seq (.region [⟨none, 2, (.val (.mv (.c (.bool true)))), [1, 4, 5], none, []⟩]) .ret) (.seq (.region [⟨none, 8, (.val (.bin .eql (.s 4) (.c (.int .i64 4)))), [5], none, []⟩, ⟨none, 7, (.val (.mv (.s 8))), [8], none, []⟩]) (.cond (.s 7) (.seq (.region [⟨none, 9, (.val (.fa (.s 1) 4)), [4, 7], none, []⟩, ⟨none, 10, (.val (.ld (.s 9) none)), [9], none, []⟩, ⟨none, 11, (.val (.bin .geq (.s 10) (.c (.int .i64 1)))), [10], none, []⟩, ⟨none, 12, (.val (.mv (.s 11))), [11], none, []⟩, ⟨(some (12, true)), 13, (.val (.fa (.s 1) 4)), [], none, []⟩, ⟨(some (12, true)), 14, (.val (.ld (.s 13) none)), [13], none, []⟩, ⟨(some (12, true)), 15, (.val (.bin .leq (.s 14) (.c (.int .i64 1000)))), [14], none, []⟩, ⟨none, 16, (.val (.pick (.s 12) (.s 15) (.c (.bool false)))), [12, 15], none, []⟩, ⟨none, 17, (.val (.mv (.s 16))), [16], none, []⟩, ⟨(some (17, true)), 18, (.val (.fa (.s 1) 5)), [], none, []⟩, ⟨(some (17, true)), 19, (.val (.ld (.s 18) none)), [18], none, []⟩, ⟨(some (17, true)), 20, (.val (.bin .geq (.s 19) (.c (.int .i64 0)))), [19], none, []⟩, ⟨none, 21, (.val (.pick (.s 17) (.s 20) (.c (.bool false)))), [17, 20], none, []⟩, ⟨none, 22, (.val (.mv (.s 21))), [21], none, []⟩, ⟨(some (22, true)), 23, (.val (.fa (.s 1) 5)), [], none, []⟩, ⟨(some (22, true)), 24, (.val (.ld (.s 23) none)), [23], none, []⟩, ⟨(some (22, true)), 25, (.val (.fa (.s 1) 4)), [1], none, []⟩, ⟨(some (22, true)), 26, (.val (.ld (.s 25) none)), [25], none, []⟩, ⟨(some (22, true)), 27, (.val (.bin .lss (.s 24) (.s 26))), [24, 26], none, []⟩, ⟨none, 28, (.val (.pick (.s 22) (.s 27) (.c (.bool false)))), [22, 27], none, []⟩, ⟨none, 2, (.val (.mv (.s 28))), [28], none, []⟩]) .ret) (.seq (.region [⟨none, 30, (.val (.bin .eql (.s 4) (.c (.int .i64 6)))), [7], none, []⟩, ⟨none, 29, (.val (.mv (.s 30))), [30], none, []⟩]) (.cond (.s 29) (.seq (.region [⟨none, 31, (.val (.fa (.s 1) 4)), [4, 29], none, []⟩, ⟨none, 32, (.val (.ld (.s 31) none)), [31], none, []⟩, ⟨none, 33, (.val (.bin .geq (.s 32) (.c (.int .i64 1)))), [32], none, []⟩, ⟨none, 34, (.val (.mv (.s 33))), [33], none, []⟩, ⟨(some (34, true)), 35, (.val (.fa (.s 1) 4)), [], none, []⟩, ⟨(some (34, true)), 36, (.val (.ld (.s 35) none)), [35], none, []⟩, ⟨(some (34, true)), 37, (.val (.bin .leq (.s 36) (.c (.int .i64 1000)))), [36], none, []⟩, ⟨none, 38, (.val (.pick (.s 34) (.s 37) (.c (.bool false)))), [34, 37], none, []⟩, ⟨none, 39, (.val (.mv (.s 38))), [38], none, []⟩, ⟨(some (39, true)), 40, (.val (.fa (.s 1) 5)), [1], none, []⟩, ⟨(some (39, true)), 41, (.val (.ld (.s 40) none)), [40], none, []⟩, ⟨(some (39, true)), 42, (.val (.bin .eql (.s 41) (.c (.int .i64 0)))), [41], none, []⟩, ⟨none, 43, (.val (.pick (.s 39) (.s 42) (.c (.bool false)))), [39, 42], none, []⟩, ⟨none, 2, (.val (.mv (.s 43))), [43], none, []⟩]) .ret) (.seq (.region [⟨none, 45, (.val (.bin .eql (.s 4) (.c (.int .i64 10)))), [4, 29], none, []⟩, ⟨none, 44, (.val (.mv (.s 45))), [45], none, []⟩]) (.cond (.s 44) (.seq (.region [⟨none, 46, (.val (.fa (.s 1) 4)), [44], none, []⟩, ⟨none, 47, (.val (.ld (.s 46) none)), [46], none, []⟩, ⟨none, 48, (.val (.bin .geq (.s 47) (.c (.int .i64 0)))), [47], none, []⟩, ⟨none, 49, (.val (.mv (.s 48))), [48], none, []⟩, ⟨(some (49, true)), 50, (.val (.fa (.s 1) 4)), [], none, []⟩, ⟨(some (49, true)), 51, (.val (.ld (.s 50) none)), [50], none, []⟩, ⟨(some (49, true)), 52, (.val (.bin .leq (.s 51) (.c (.int .i64 1000)))), [51], none, []⟩, ⟨none, 53, (.val (.pick (.s 49) (.s 52) (.c (.bool false)))), [49, 52], none, []⟩, ⟨none, 54, (.val (.mv (.s 53))), [53], none, []⟩, ⟨(some (54, true)), 55, (.val (.fa (.s 1) 5)), [1], none, []⟩, ⟨(some (54, true)), 56, (.val (.ld (.s 55) none)), [55], none, []⟩, ⟨(some (54, true)), 57, (.val (.bin .eql (.s 56) (.c (.int .i64 0)))), [56], none, []⟩, ⟨none, 58, (.val (.pick (.s 54) (.s 57) (.c (.bool false)))), [54, 57], none, []⟩, ⟨none, 2, (.val (.mv (.s 58))), [58], none, []⟩]) .ret) .skip)))))))))) (.seq (.region [⟨none, 59, (.val (.fa (.s 1) 4)), [44], none, []⟩, ⟨none, 60, (.val (.ld (.s 59) none)), [59], none, []⟩, ⟨none, 61, (.val (.bin .eql (.s 60) (.c (.int .i64 0)))), [60], none, []⟩, ⟨none, 62, (.val (.mv (.s 61))), [61], none, []⟩, ⟨(some (62, true)), 63, (.val (.fa (.s 1) 5)), [1], none, []⟩, ⟨(some (62, true)), 64, (.val (.ld (.s 63) none)), [63], none, []⟩, ⟨(some (62, true)), 65, (.val (.bin .eql (.s 64) (.c (.int .i64 0)))), [64], none, []⟩, ⟨none, 66, (.val (.pick (.s 62) (.s 65) (.c (.bool false)))), [62, 65], none, []⟩, ⟨none, 2, (.val (.mv (.s 66))), [66], none, []⟩]) .ret)))
theorem ok201 : FnOk Tryd.prog 69 cc201 [(.t 2)] 1 67 := ⟨⟨_, Tryd.func69, by kernel_rfl, by kernel_rfl, by kernel_rfl⟩, by decide, by decide⟩
/- watershed/watershedref09.numbers -/
def cc204 : CC := (.seq (.region [⟨none, 1, (.box 0), [0], none, []⟩, ⟨none, 2, (.val (.mv (.c (.bool false)))), [2], none, []⟩]) (.seq (.seq (.region [⟨none, 3, (.val (.fa (.s 1) 1)), [], none, []⟩, ⟨none, 4, (.val (.ld (.s 3) none)), [3], none, []⟩]) (.block 0 (.seq (.region [⟨none, 6, (.val (.bin .eql (.s 4) (.c (.int .i64 3)))), [], none, []⟩, ⟨none, 5, (.val (.mv (.s 6))), [6], none, []⟩]) (.cond (.s 5) (.seq (.region [⟨none, 2, (.val (.mv (.c (.bool true)))), [1, 4, 5], none, []⟩]) .ret) (.seq (.region [⟨none, 8, (.val (.bin .eql (.s 4) (.c (.int .i64 4)))), [5], none, []⟩, ⟨none, 7, (.val (.mv (.s 8))), [8], none, []⟩]) (.cond (.s 7) (.seq (.region [⟨none, 9, (.val (.fa (.s 1) 4)), [4, 7], none, []⟩, ⟨none, 10, (.val (.ld (.s 9) none)), [9], none, []⟩, ⟨none, 11, (.val (.bin .geq (.s 10) (.c (.int .i64 1)))), [10], none, []⟩, ⟨none, 12, (.val (.mv (.s 11))), [11], none, []⟩, ⟨(some (12, true)), 13, (.val (.fa (.s 1) 4)), [], none, []⟩, ⟨(some (12, true)), 14, (.val (.ld (.s 13) none)), [13], none, []⟩, ⟨(some (12, true)), 15, (.val (.bin .leq (.s 14) (.c (.int .i64 1000)))), [14], none, []⟩, ⟨none, 16, (.val (.pick (.s 12) (.s 15) (.c (.bool false)))), [12, 15], none, []⟩, ⟨none, 17, (.val (.mv (.s 16))), [16], none, []⟩, ⟨(some (17, true)), 18, (.val (.fa (.s 1) 5)), [], none, []⟩, ⟨(some (17, true)), 19, (.val (.ld (.s 18) none)), [18], none, []⟩, ⟨(some (17, true)), 20, (.val (.bin .geq (.s 19) (.c (.int .i64 0)))), [19], none, []⟩, ⟨none, 21, (.val (.pick (.s 17) (.s 20) (.c (.bool false)))), [17, 20], none, []⟩, ⟨none, 22, (.val (.mv (.s 21))), [21], none, []⟩, ⟨(some (22, true)), 23, (.val (.fa (.s 1) 5)), [], none, []⟩, ⟨(some (22, true)), 24, (.val (.ld (.s 23) none)), [23], none, []⟩, ⟨(some (22, true)), 25, (.val (.fa (.s 1) 4)), [1], none, []⟩, ⟨(some (22, true)), 26, (.val (.ld (.s 25) none)), [25], none, []⟩, ⟨(some (22, true)), 27, (.val (.bin .lss (.s 24) (.s 26))), [24, 26], none, []⟩, ⟨none, 28, (.val (.pick (.s 22) (.s 27) (.c (.bool false)))), [22, 27], none, []⟩, ⟨none, 2, (.val (.mv (.s 28))), [28], none, []⟩]) .ret) (.seq (.region [⟨none, 30, (.val (.bin .eql (.s 4) (.c (.int .i64 6)))), [7], none, []⟩, ⟨none, 29, (.val (.mv (.s 30))), [30], none, []⟩]) (.cond (.s 29) (.seq (.region [⟨none, 31, (.val (.fa (.s 1) 4)), [4, 29], none, []⟩, ⟨none, 32, (.val (.ld (.s 31) none)), [31], none, []⟩, ⟨none, 33, (.val (.bin .geq (.s 32) (.c (.int .i64 1)))), [32], none, []⟩, ⟨none, 34, (.val (.mv (.s 33))), [33], none, []⟩, ⟨(some (34, true)), 35, (.val (.fa (.s 1) 4)), [], none, []⟩, ⟨(some (34, true)), 36, (.val (.ld (.s 35) none)), [35], none, []⟩, ⟨(some (34, true)), 37, (.val (.bin .leq (.s 36) (.c (.int .i64 1000)))), [36], none, []⟩, ⟨none, 38, (.val (.pick (.s 34) (.s 37) (.c (.bool false)))), [34, 37], none, []⟩, ⟨none, 39, (.val (.mv (.s 38))), [38], none, []⟩, ⟨(some (39, true)), 40, (.val (.fa (.s 1) 5)), [1], none, []⟩, ⟨(some (39, true)), 41, (.val (.ld (.s 40) none)), [40], none, []⟩, ⟨(some (39, true)), 42, (.val (.bin .eql (.s 41) (.c (.int .i64 0)))), [41], none, []⟩, ⟨none, 43, (.val (.pick (.s 39) (.s 42) (.c (.bool false)))), [39, 42], none, []⟩, ⟨none, 2, (.val (.mv (.s 43))), [43], none, []⟩]) .ret) (.seq (.region [⟨none, 45, (.val (.bin .eql (.s 4) (.c (.int .i64 10)))), [4, 29], none, []⟩, ⟨none, 44, (.val (.mv (.s 45))), [45], none, []⟩]) (.cond (.s 44) (.seq (.region [⟨none, 46, (.val (.fa (.s 1) 4)), [44], none, []⟩, ⟨none, 47, (.val (.ld (.s 46) none)), [46], none, []⟩, ⟨none, 48, (.val (.bin .geq (.s 47) (.c (.int .i64 0)))), [47], none, []⟩, ⟨none, 49, (.val (.mv (.s 48))), [48], none, []⟩, ⟨(some (49, true)), 50, (.val (.fa (.s 1) 4)), [], none, []⟩, ⟨(some (49, true)), 51, (.val (.ld (.s 50) none)), [50], none, []⟩, ⟨(some (49, true)), 52, (.val (.bin .leq (.s 51) (.c (.int .i64 1000)))), [51], none, []⟩, ⟨none, 53, (.val (.pick (.s 49) (.s 52) (.c (.bool false)))), [49, 52], none, []⟩, ⟨none, 54, (.val (.mv (.s 53))), [53], none, []⟩, ⟨(some (54, true)), 55, (.val (.fa (.s 1) 5)), [1], none, []⟩, ⟨(some (54, true)), 56, (.val (.ld (.s 55) none)), [55], none, []⟩, ⟨(some (54, true)), 57, (.val (.bin .eql (.s 56) (.c (.int .i64 0)))), [56], none, []⟩, ⟨none, 58, (.val (.pick (.s 54) (.s 57) (.c (.bool false)))), [54, 57], none, []⟩, ⟨none, 2, (.val (.mv (.s 58))), [58], none, []⟩]) .ret) .skip)))))))))) (.seq (.region [⟨none, 59, (.val (.fa (.s 1) 4)), [44], none, []⟩, ⟨none, 60, (.val (.ld (.s 59) none)), [59], none, []⟩, ⟨none, 61, (.val (.bin .eql (.s 60) (.c (.int .i64 0)))), [60], none, []⟩, ⟨none, 62, (.val (.mv (.s 61))), [61], none, []⟩, ⟨(some (62, true)), 63, (.val (.fa (.s 1) 5)), [1], none, []⟩, ⟨(some (62, true)), 64, (.val (.ld (.s 63) none)), [63], none, []⟩, ⟨(some (62, true)), 65, (.val (.bin .eql (.s 64) (.c (.int .i64 0)))), [64], none, []⟩, ⟨none, 66, (.val (.pick (.s 62) (.s 65) (.c (.bool false)))), [62, 65], none, []⟩, ⟨none, 2, (.val (.mv (.s 66))), [66], none, []⟩]) .ret)))
theorem ok204 : FnOk Tryd.prog 85 cc204 [(.t 2)] 1 67 := ⟨⟨_, Tryd.func85, by kernel_rfl, by kernel_rfl, by kernel_rfl⟩, by decide, by decide⟩
/- (watershed/graph.Graph).channels$1 -/
def cc202 : CC := (.seq (.region [⟨none, 3, (.val (.mv (.c (.bool false)))), [3], none, []⟩]) (.seq (.region [⟨none, 4, (.val (.mv (.s 0))), [], none, []⟩, ⟨none, 5, (.val (.bin .geq (.s 4) (.c (.int .i64 0)))), [4], none, []⟩, ⟨none, 6, (.val (.mv (.s 5))), [5], none, []⟩, ⟨(some (6, true)), 7, (.val (.mv (.s 0))), [0], none, []⟩, ⟨(some (6, true)), 8, (.val (.fa (.s 1) 2)), [1], none, []⟩, ⟨(some (6, true)), 9, (.val (.ld (.s 8) none)), [8], none, []⟩, ⟨(some (6, true)), 10, (.val (.lnl (.s 9) 6)), [9], none, []⟩, ⟨(some (6, true)), 11, (.val (.bin .lss (.s 7) (.s 10))), [7, 10], none, []⟩, ⟨none, 12, (.val (.pick (.s 6) (.s 11) (.c (.bool false)))), [6, 11], none, []⟩, ⟨none, 3, (.val (.mv (.s 12))), [12], none, []⟩]) .ret))
theorem ok202 : FnOk Tryd.prog 70 cc202 [(.t 3)] 2 13 := ⟨⟨_, Tryd.func70, by kernel_rfl, by kernel_rfl, by kernel_rfl⟩, by decide, by decide⟩
theorem c126 (g : Gr) (loc : Int) (m p : Nat) (o : O6) (hloc : loc = 2 * m + p) (hp : p < 2) (ho : g.op[m]? = some o) (hk : LoOk g o) (hm : m ≤ 1000000) {Q : AV → Al → Prop} (h : Q (i64A (loopA g o p)) []) : ACalls Tryd.prog 71 [] [gA g, i64A loc] Q := by
  refine ok126.N hmix rfl ?_
  intro I
  have hml := (List.getElem?_eq_some_iff.1 ho).1
  have hml' : (m : Int) < g.op.length := by omega
  have m0 : (0 : Int) ≤ m := by omega
  have hq : IntKind.i64.wrap (loc.tdiv 2) = m := by
    rw [Int.tdiv_eq_ediv_of_nonneg (by omega), wrI64 (by omega) (by omega)]; omega
  have hr : loc.tmod 2 = p := by
    rw [Int.tmod_eq_emod_of_nonneg (by omega)]; omega
  have hc : p = 0 ∨ p = 1 := by omega
  by_cases k7 : o.k = 7
  · obtain ⟨l, hl, hl0, hl1⟩ := hk (.inl k7)
    rcases hc with rfl | rfl
    · simp only [cc126, OI, ↓reduceIte, reduceCtorEq, Nat.reduceAdd, Nat.reduceEqDiff, Nat.reduceBEq, Nat.reduceLT, Nat.reduceLeDiff, Nat.reduceMul, Nat.reduceSub, Int.reduceLE, Int.reduceLT, Int.reduceEq, Int.reduceBEq, Int.reduceBNe, Int.reduceToNat, Int.reduceNeg, Nat.reduceBNe, gA, i64A, hq, hr, ho, opA, hml', m0, beqT k7, k7, Int.natCast_zero, hl, hl0, hl1, loA]
      simpa [loopA, k7, upAt, hl, i64A] using h
    · simp only [cc126, OI, ↓reduceIte, reduceCtorEq, Nat.reduceAdd, Nat.reduceEqDiff, Nat.reduceBEq, Nat.reduceLT, Nat.reduceLeDiff, Nat.reduceMul, Nat.reduceSub, Int.reduceLE, Int.reduceLT, Int.reduceEq, Int.reduceBEq, Int.reduceBNe, Int.reduceToNat, Int.reduceNeg, Nat.reduceBNe, gA, i64A, hq, hr, ho, opA, hml', m0, beqT k7, k7, Int.natCast_one, hl, hl0, hl1, loA]
      simpa [loopA, k7, upAt, hl, i64A] using h
  · by_cases k8 : o.k = 8
    · obtain ⟨l, hl, hl0, hl1⟩ := hk (.inr k8)
      rcases hc with rfl | rfl
      · simp only [cc126, OI, ↓reduceIte, reduceCtorEq, Nat.reduceAdd, Nat.reduceEqDiff, Nat.reduceBEq, Nat.reduceLT, Nat.reduceLeDiff, Nat.reduceMul, Nat.reduceSub, Int.reduceLE, Int.reduceLT, Int.reduceEq, Int.reduceBEq, Int.reduceBNe, Int.reduceToNat, Int.reduceNeg, Nat.reduceBNe, gA, i64A, hq, hr, ho, opA, hml', m0, beqT k8, k8, Int.natCast_zero, hl, hl0, hl1, loA]
        simpa [loopA, k8, upAt, hl, i64A] using h
      · simp only [cc126, OI, ↓reduceIte, reduceCtorEq, Nat.reduceAdd, Nat.reduceEqDiff, Nat.reduceBEq, Nat.reduceLT, Nat.reduceLeDiff, Nat.reduceMul, Nat.reduceSub, Int.reduceLE, Int.reduceLT, Int.reduceEq, Int.reduceBEq, Int.reduceBNe, Int.reduceToNat, Int.reduceNeg, Nat.reduceBNe, gA, i64A, hq, hr, ho, opA, hml', m0, beqT k8, k8, Int.natCast_one, hl, hl0, hl1, loA]
        simpa [loopA, k8, upAt, hl, i64A] using h
    · simp only [cc126, OI, ↓reduceIte, reduceCtorEq, Nat.reduceAdd, Nat.reduceEqDiff, Nat.reduceBEq, Nat.reduceLT, Nat.reduceLeDiff, Nat.reduceMul, Nat.reduceSub, Int.reduceLE, Int.reduceLT, Int.reduceEq, Int.reduceBEq, Int.reduceBNe, Int.reduceToNat, Int.reduceNeg, Nat.reduceBNe, gA, i64A, hq, hr, ho, opA, hml', m0, beqF k7, beqF k8]
      simpa [loopA, k7, k8, i64A] using h
theorem c128 (g : Gr) (loc : Int) (m p : Nat) (o : O6) (hloc : loc = 2 * m + p) (hp : p < 2) (ho : g.op[m]? = some o) (hk : LoOk g o) (hm : m ≤ 1000000) {Q : AV → Al → Prop} (h : Q (i64A (loopA g o p)) []) : ACalls Tryd.prog 86 [] [gA g, i64A loc] Q := by
  refine ok128.N hmix rfl ?_
  intro I
  have hml := (List.getElem?_eq_some_iff.1 ho).1
  have hml' : (m : Int) < g.op.length := by omega
  have m0 : (0 : Int) ≤ m := by omega
  have hq : IntKind.i64.wrap (loc.tdiv 2) = m := by
    rw [Int.tdiv_eq_ediv_of_nonneg (by omega), wrI64 (by omega) (by omega)]; omega
  have hr : loc.tmod 2 = p := by
    rw [Int.tmod_eq_emod_of_nonneg (by omega)]; omega
  have hc : p = 0 ∨ p = 1 := by omega
  by_cases k7 : o.k = 7
  · obtain ⟨l, hl, hl0, hl1⟩ := hk (.inl k7)
    rcases hc with rfl | rfl
    · simp only [cc128, OI, ↓reduceIte, reduceCtorEq, Nat.reduceAdd, Nat.reduceEqDiff, Nat.reduceBEq, Nat.reduceLT, Nat.reduceLeDiff, Nat.reduceMul, Nat.reduceSub, Int.reduceLE, Int.reduceLT, Int.reduceEq, Int.reduceBEq, Int.reduceBNe, Int.reduceToNat, Int.reduceNeg, Nat.reduceBNe, gA, i64A, hq, hr, ho, opA, hml', m0, beqT k7, k7, Int.natCast_zero, hl, hl0, hl1, loA]
      simpa [loopA, k7, upAt, hl, i64A] using h
    · simp only [cc128, OI, ↓reduceIte, reduceCtorEq, Nat.reduceAdd, Nat.reduceEqDiff, Nat.reduceBEq, Nat.reduceLT, Nat.reduceLeDiff, Nat.reduceMul, Nat.reduceSub, Int.reduceLE, Int.reduceLT, Int.reduceEq, Int.reduceBEq, Int.reduceBNe, Int.reduceToNat, Int.reduceNeg, Nat.reduceBNe, gA, i64A, hq, hr, ho, opA, hml', m0, beqT k7, k7, Int.natCast_one, hl, hl0, hl1, loA]
      simpa [loopA, k7, upAt, hl, i64A] using h
  · by_cases k8 : o.k = 8
    · obtain ⟨l, hl, hl0, hl1⟩ := hk (.inr k8)
      rcases hc with rfl | rfl
      · simp only [cc128, OI, ↓reduceIte, reduceCtorEq, Nat.reduceAdd, Nat.reduceEqDiff, Nat.reduceBEq, Nat.reduceLT, Nat.reduceLeDiff, Nat.reduceMul, Nat.reduceSub, Int.reduceLE, Int.reduceLT, Int.reduceEq, Int.reduceBEq, Int.reduceBNe, Int.reduceToNat, Int.reduceNeg, Nat.reduceBNe, gA, i64A, hq, hr, ho, opA, hml', m0, beqT k8, k8, Int.natCast_zero, hl, hl0, hl1, loA]
        simpa [loopA, k8, upAt, hl, i64A] using h
      · simp only [cc128, OI, ↓reduceIte, reduceCtorEq, Nat.reduceAdd, Nat.reduceEqDiff, Nat.reduceBEq, Nat.reduceLT, Nat.reduceLeDiff, Nat.reduceMul, Nat.reduceSub, Int.reduceLE, Int.reduceLT, Int.reduceEq, Int.reduceBEq, Int.reduceBNe, Int.reduceToNat, Int.reduceNeg, Nat.reduceBNe, gA, i64A, hq, hr, ho, opA, hml', m0, beqT k8, k8, Int.natCast_one, hl, hl0, hl1, loA]
        simpa [loopA, k8, upAt, hl, i64A] using h
    · simp only [cc128, OI, ↓reduceIte, reduceCtorEq, Nat.reduceAdd, Nat.reduceEqDiff, Nat.reduceBEq, Nat.reduceLT, Nat.reduceLeDiff, Nat.reduceMul, Nat.reduceSub, Int.reduceLE, Int.reduceLT, Int.reduceEq, Int.reduceBEq, Int.reduceBNe, Int.reduceToNat, Int.reduceNeg, Nat.reduceBNe, gA, i64A, hq, hr, ho, opA, hml', m0, beqF k7, beqF k8]
      simpa [loopA, k7, k8, i64A] using h
/-- Are an operator's numbers as they must be? -/
def numOk (o : O6) : Bool :=
  if o.k = 3 then true
  else if o.k = 4 then decide (1 ≤ o.a ∧ o.a ≤ 1000 ∧ 0 ≤ o.b ∧ o.b < o.a)
  else if o.k = 6 then decide (1 ≤ o.a ∧ o.a ≤ 1000 ∧ o.b = 0)
  else if o.k = 10 then decide (0 ≤ o.a ∧ o.a ≤ 1000 ∧ o.b = 0)
  else decide (o.a = 0 ∧ o.b = 0)
theorem c201g (f : Nat) (ok : FnOk Tryd.prog f cc201 [(.t 2)] 1 67) (o : O6) {Q : AV → Al → Prop} (h : Q (.v (.bool (numOk o))) []) : ACalls Tryd.prog f [] [opA o] Q := by
  refine ok.N hmix rfl ?_
  intro I
  by_cases k3 : o.k = 3
  · simp only [cc201, OI, ↓reduceIte, reduceCtorEq, Nat.reduceAdd, Nat.reduceEqDiff, Nat.reduceBEq, Nat.reduceLT, Nat.reduceLeDiff, Nat.reduceMul, Nat.reduceSub, Int.reduceLE, Int.reduceLT, Int.reduceEq, Int.reduceBEq, Int.reduceBNe, Int.reduceToNat, Int.reduceNeg, Nat.reduceBNe, opA, k3]
    simpa [numOk, k3] using h
  by_cases k4 : o.k = 4
  · have e : numOk o = decide (1 ≤ o.a ∧ o.a ≤ 1000 ∧ 0 ≤ o.b ∧ o.b < o.a) := by simp [numOk, k4]
    rw [e] at h
    by_cases a1 : 1 ≤ o.a
    · by_cases a2 : o.a ≤ 1000
      · by_cases b1 : 0 ≤ o.b
        · by_cases b2 : o.b < o.a
          · simp only [cc201, OI, ↓reduceIte, reduceCtorEq, Nat.reduceAdd, Nat.reduceEqDiff, Nat.reduceBEq, Nat.reduceLT, Nat.reduceLeDiff, Nat.reduceMul, Nat.reduceSub, Int.reduceLE, Int.reduceLT, Int.reduceEq, Int.reduceBEq, Int.reduceBNe, Int.reduceToNat, Int.reduceNeg, Nat.reduceBNe, opA, k4, a1, a2, b1, b2]
            simpa [a1, a2, b1, b2] using h
          · simp only [cc201, OI, ↓reduceIte, reduceCtorEq, Nat.reduceAdd, Nat.reduceEqDiff, Nat.reduceBEq, Nat.reduceLT, Nat.reduceLeDiff, Nat.reduceMul, Nat.reduceSub, Int.reduceLE, Int.reduceLT, Int.reduceEq, Int.reduceBEq, Int.reduceBNe, Int.reduceToNat, Int.reduceNeg, Nat.reduceBNe, opA, k4, a1, a2, b1, b2]
            simpa [b2] using h
        · simp only [cc201, OI, ↓reduceIte, reduceCtorEq, Nat.reduceAdd, Nat.reduceEqDiff, Nat.reduceBEq, Nat.reduceLT, Nat.reduceLeDiff, Nat.reduceMul, Nat.reduceSub, Int.reduceLE, Int.reduceLT, Int.reduceEq, Int.reduceBEq, Int.reduceBNe, Int.reduceToNat, Int.reduceNeg, Nat.reduceBNe, opA, k4, a1, a2, b1]
          simpa [b1] using h
      · simp only [cc201, OI, ↓reduceIte, reduceCtorEq, Nat.reduceAdd, Nat.reduceEqDiff, Nat.reduceBEq, Nat.reduceLT, Nat.reduceLeDiff, Nat.reduceMul, Nat.reduceSub, Int.reduceLE, Int.reduceLT, Int.reduceEq, Int.reduceBEq, Int.reduceBNe, Int.reduceToNat, Int.reduceNeg, Nat.reduceBNe, opA, k4, a1, a2]
        simpa [a2] using h
    · simp only [cc201, OI, ↓reduceIte, reduceCtorEq, Nat.reduceAdd, Nat.reduceEqDiff, Nat.reduceBEq, Nat.reduceLT, Nat.reduceLeDiff, Nat.reduceMul, Nat.reduceSub, Int.reduceLE, Int.reduceLT, Int.reduceEq, Int.reduceBEq, Int.reduceBNe, Int.reduceToNat, Int.reduceNeg, Nat.reduceBNe, opA, k4, a1]
      simpa [a1] using h
  by_cases k6 : o.k = 6
  · have e : numOk o = decide (1 ≤ o.a ∧ o.a ≤ 1000 ∧ o.b = 0) := by simp [numOk, k6]
    rw [e] at h
    by_cases a1 : 1 ≤ o.a
    · by_cases a2 : o.a ≤ 1000
      · by_cases b1 : o.b = 0
        · simp only [cc201, OI, ↓reduceIte, reduceCtorEq, Nat.reduceAdd, Nat.reduceEqDiff, Nat.reduceBEq, Nat.reduceLT, Nat.reduceLeDiff, Nat.reduceMul, Nat.reduceSub, Int.reduceLE, Int.reduceLT, Int.reduceEq, Int.reduceBEq, Int.reduceBNe, Int.reduceToNat, Int.reduceNeg, Nat.reduceBNe, opA, k6, a1, a2, b1]
          simpa [a1, a2, b1] using h
        · simp only [cc201, OI, ↓reduceIte, reduceCtorEq, Nat.reduceAdd, Nat.reduceEqDiff, Nat.reduceBEq, Nat.reduceLT, Nat.reduceLeDiff, Nat.reduceMul, Nat.reduceSub, Int.reduceLE, Int.reduceLT, Int.reduceEq, Int.reduceBEq, Int.reduceBNe, Int.reduceToNat, Int.reduceNeg, Nat.reduceBNe, opA, k6, a1, a2, beqF b1]
          simpa [b1] using h
      · simp only [cc201, OI, ↓reduceIte, reduceCtorEq, Nat.reduceAdd, Nat.reduceEqDiff, Nat.reduceBEq, Nat.reduceLT, Nat.reduceLeDiff, Nat.reduceMul, Nat.reduceSub, Int.reduceLE, Int.reduceLT, Int.reduceEq, Int.reduceBEq, Int.reduceBNe, Int.reduceToNat, Int.reduceNeg, Nat.reduceBNe, opA, k6, a1, a2]
        simpa [a2] using h
    · simp only [cc201, OI, ↓reduceIte, reduceCtorEq, Nat.reduceAdd, Nat.reduceEqDiff, Nat.reduceBEq, Nat.reduceLT, Nat.reduceLeDiff, Nat.reduceMul, Nat.reduceSub, Int.reduceLE, Int.reduceLT, Int.reduceEq, Int.reduceBEq, Int.reduceBNe, Int.reduceToNat, Int.reduceNeg, Nat.reduceBNe, opA, k6, a1]
      simpa [a1] using h
  by_cases k10 : o.k = 10
  · have e : numOk o = decide (0 ≤ o.a ∧ o.a ≤ 1000 ∧ o.b = 0) := by simp [numOk, k10]
    rw [e] at h
    by_cases a1 : 0 ≤ o.a
    · by_cases a2 : o.a ≤ 1000
      · by_cases b1 : o.b = 0
        · simp only [cc201, OI, ↓reduceIte, reduceCtorEq, Nat.reduceAdd, Nat.reduceEqDiff, Nat.reduceBEq, Nat.reduceLT, Nat.reduceLeDiff, Nat.reduceMul, Nat.reduceSub, Int.reduceLE, Int.reduceLT, Int.reduceEq, Int.reduceBEq, Int.reduceBNe, Int.reduceToNat, Int.reduceNeg, Nat.reduceBNe, opA, k10, a1, a2, b1]
          simpa [a1, a2, b1] using h
        · simp only [cc201, OI, ↓reduceIte, reduceCtorEq, Nat.reduceAdd, Nat.reduceEqDiff, Nat.reduceBEq, Nat.reduceLT, Nat.reduceLeDiff, Nat.reduceMul, Nat.reduceSub, Int.reduceLE, Int.reduceLT, Int.reduceEq, Int.reduceBEq, Int.reduceBNe, Int.reduceToNat, Int.reduceNeg, Nat.reduceBNe, opA, k10, a1, a2, beqF b1]
          simpa [b1] using h
      · simp only [cc201, OI, ↓reduceIte, reduceCtorEq, Nat.reduceAdd, Nat.reduceEqDiff, Nat.reduceBEq, Nat.reduceLT, Nat.reduceLeDiff, Nat.reduceMul, Nat.reduceSub, Int.reduceLE, Int.reduceLT, Int.reduceEq, Int.reduceBEq, Int.reduceBNe, Int.reduceToNat, Int.reduceNeg, Nat.reduceBNe, opA, k10, a1, a2]
        simpa [a2] using h
    · simp only [cc201, OI, ↓reduceIte, reduceCtorEq, Nat.reduceAdd, Nat.reduceEqDiff, Nat.reduceBEq, Nat.reduceLT, Nat.reduceLeDiff, Nat.reduceMul, Nat.reduceSub, Int.reduceLE, Int.reduceLT, Int.reduceEq, Int.reduceBEq, Int.reduceBNe, Int.reduceToNat, Int.reduceNeg, Nat.reduceBNe, opA, k10, a1]
      simpa [a1] using h
  have e : numOk o = decide (o.a = 0 ∧ o.b = 0) := by simp [numOk, k3, k4, k6, k10]
  rw [e] at h
  by_cases a1 : o.a = 0
  · simp only [cc201, OI, ↓reduceIte, reduceCtorEq, Nat.reduceAdd, Nat.reduceEqDiff, Nat.reduceBEq, Nat.reduceLT, Nat.reduceLeDiff, Nat.reduceMul, Nat.reduceSub, Int.reduceLE, Int.reduceLT, Int.reduceEq, Int.reduceBEq, Int.reduceBNe, Int.reduceToNat, Int.reduceNeg, Nat.reduceBNe, opA, beqF k3, beqF k4, beqF k6, beqF k10, a1]
    show Q (.v (.bool (decide (o.b = 0)))) []
    simpa [a1] using h
  · simp only [cc201, OI, ↓reduceIte, reduceCtorEq, Nat.reduceAdd, Nat.reduceEqDiff, Nat.reduceBEq, Nat.reduceLT, Nat.reduceLeDiff, Nat.reduceMul, Nat.reduceSub, Int.reduceLE, Int.reduceLT, Int.reduceEq, Int.reduceBEq, Int.reduceBNe, Int.reduceToNat, Int.reduceNeg, Nat.reduceBNe, opA, beqF k3, beqF k4, beqF k6, beqF k10, beqF a1]
    simpa [a1] using h
theorem c201 (o : O6) {Q : AV → Al → Prop} (h : Q (.v (.bool (numOk o))) []) : ACalls Tryd.prog 69 [] [opA o] Q := c201g 69 ok201 o h
theorem c204 (o : O6) {Q : AV → Al → Prop} (h : Q (.v (.bool (numOk o))) []) : ACalls Tryd.prog 85 [] [opA o] Q := c201g 85 ok204 o h
theorem c202 (g : Gr) (i : Int) {Q : AV → Al → Prop} (h : Q (.v (.bool (decide (0 ≤ i ∧ i < g.op.length)))) []) : ACalls Tryd.prog 70 [] [i64A i, .fptr (gA g) 0] Q := by
  refine ok202.N hmix rfl ?_
  intro I
  by_cases i0 : 0 ≤ i <;> by_cases i1 : i < (g.op.length : Int) <;>
  · simp only [cc202, OI, ↓reduceIte, reduceCtorEq, Nat.reduceAdd, Nat.reduceEqDiff, Nat.reduceBEq, Nat.reduceLT, Nat.reduceLeDiff, Nat.reduceMul, Nat.reduceSub, Int.reduceLE, Int.reduceLT, Int.reduceEq, Int.reduceBEq, Int.reduceBNe, Int.reduceToNat, Int.reduceNeg, Nat.reduceBNe, gA, i64A, i0, i1]
    simpa [i0, i1] using h
end Go.Proofs.YthlehngbadianaaDoor.Ow
