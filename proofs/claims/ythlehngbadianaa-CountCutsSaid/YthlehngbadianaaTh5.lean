/- What the functions of the program do, each once: contracts of the logic (part h5). -/
import Derived.Test.YthlehngbadianaaTh4
import Derived.LoopTactic
set_option linter.unusedVariables false
set_option linter.unusedSimpArgs false
set_option linter.unnecessarySimpa false
set_option maxRecDepth 100000
set_option maxHeartbeats 4000000
namespace Go.Proofs.Ythlehngbadianaa.Ow
open Go Go.RowKit Go.Proofs
/- slices.Clone[[]watershed/graph.Loop,watershed/graph.Loop] -/
def cc141 : CC := (.seq (.region [⟨none, 2, (.val (.mv (.c (.slice none 0 0)))), [2], none, []⟩]) (.seq (.seq (.region [⟨none, 3, (.val (.mv (.s 0))), [], none, []⟩, ⟨none, 4, (.val (.eqs false (.s 3) (.c (.slice none 0 0)))), [3], none, []⟩]) (.cond (.s 4) (.seq (.region [⟨none, 2, (.val (.mv (.c (.slice none 0 0)))), [0, 4], none, []⟩]) .ret) .skip)) (.seq (.region [⟨none, 5, (.lit 3 []), [4], none, []⟩, ⟨none, 6, (.val (.mv (.s 0))), [0], none, []⟩, ⟨none, 7, (.app 3 32 false (.s 5) (.s 6)), [5, 6], none, []⟩, ⟨none, 2, (.val (.mv (.s 7))), [7], none, []⟩]) .ret)))
theorem ok141 : FnOk Try.prog 141 cc141 [(.t 2)] 1 8 := ⟨⟨_, Try.func141, by kernel_rfl, by kernel_rfl, by kernel_rfl⟩, by decide, by decide⟩

/- slices.Index[[]int,int] -/
def cc145 : CC := (.seq (.region [⟨none, 4, (.val (.mv (.c (.int .i64 0)))), [4], none, []⟩]) (.seq (.seq (.region [⟨none, 6, (.val (.mv (.s 0))), [], none, []⟩, ⟨none, 7, (.val (.lnl (.s 6) 1)), [6], none, []⟩, ⟨none, 8, (.val (.mv (.c (.int .i64 0)))), [], none, []⟩]) (.block 0 (.loop (.seq (.region [⟨none, 9, (.val (.bin .lss (.s 8) (.s 7))), [], none, []⟩]) (.seq (.cond (.s 9) .skip (.exit 0)) (.seq (.block 1 (.seq (.region [⟨none, 10, (.val (.mv (.s 8))), [9], none, []⟩, ⟨none, 5, (.val (.mv (.s 10))), [10], none, []⟩]) (.seq (.region [⟨none, 11, (.val (.mv (.s 1))), [], none, []⟩, ⟨none, 12, (.val (.mv (.s 0))), [], none, []⟩, ⟨none, 13, (.val (.mv (.s 5))), [], none, []⟩, ⟨none, 14, (.val (.ia (.s 12) (.s 13) 1)), [12, 13], none, []⟩, ⟨none, 15, (.val (.ld (.s 14) none)), [14], none, []⟩, ⟨none, 16, (.val (.bin .eql (.s 11) (.s 15))), [11, 15], none, []⟩]) (.cond (.s 16) (.seq (.region [⟨none, 17, (.val (.mv (.s 5))), [0, 1, 5, 7, 8, 16], none, []⟩, ⟨none, 4, (.val (.mv (.s 17))), [17], none, []⟩]) .ret) .skip)))) (.region [⟨none, 18, (.val (.bin .add (.s 8) (.c (.int .i64 1)))), [5, 8, 16], none, []⟩, ⟨none, 8, (.val (.mv (.s 18))), [18], none, []⟩]))))))) (.seq (.region [⟨none, 4, (.val (.mv (.c (.int .i64 (-1))))), [0, 1, 7, 8, 9], none, []⟩]) .ret)))
theorem ok145 : FnOk Try.prog 145 cc145 [(.t 4)] 2 19 := ⟨⟨_, Try.func145, by kernel_rfl, by kernel_rfl, by kernel_rfl⟩, by decide, by decide⟩

/- (watershed/count.Part).Local -/
def cc57 : CC := (.seq (.region [⟨none, 2, (.box 0), [0], none, []⟩, ⟨none, 4, (.val (.mv (.c (.int .i64 0)))), [4], none, []⟩, ⟨none, 5, (.val (.mv (.c (.bool false)))), [5], none, []⟩]) (.seq (.region [⟨none, 7, (.val (.fa (.s 2) 4)), [2], none, []⟩, ⟨none, 8, (.val (.ld (.s 7) none)), [7], none, []⟩, ⟨none, 9, (.val (.mv (.s 1))), [], none, []⟩, ⟨none, 10, (.call 145 [(.s 8), (.s 9)]), [8, 9], none, []⟩, ⟨none, 6, (.val (.mv (.s 10))), [10], none, []⟩]) (.seq (.seq (.region [⟨none, 11, (.val (.mv (.s 1))), [1], none, []⟩, ⟨none, 12, (.val (.bin .lss (.s 11) (.c (.int .i64 0)))), [11], none, []⟩, ⟨none, 13, (.val (.mv (.s 12))), [12], none, []⟩, ⟨(some (13, false)), 14, (.val (.mv (.s 6))), [], none, []⟩, ⟨(some (13, false)), 15, (.val (.bin .lss (.s 14) (.c (.int .i64 0)))), [14], none, []⟩, ⟨none, 16, (.val (.pick (.s 13) (.c (.bool true)) (.s 15))), [13, 15], none, []⟩]) (.cond (.s 16) (.seq (.region [⟨none, 4, (.val (.mv (.c (.int .i64 0)))), [6, 16], none, []⟩, ⟨none, 5, (.val (.mv (.c (.bool false)))), [], none, []⟩]) .ret) .skip)) (.seq (.region [⟨none, 17, (.val (.mv (.s 6))), [6, 16], none, []⟩, ⟨none, 4, (.val (.mv (.s 17))), [17], none, []⟩, ⟨none, 5, (.val (.mv (.c (.bool true)))), [], none, []⟩]) .ret))))
theorem ok57 : FnOk Try.prog 57 cc57 [(.t 4), (.t 5)] 2 18 := ⟨⟨_, Try.func57, by kernel_rfl, by kernel_rfl, by kernel_rfl⟩, by decide, by decide⟩

/- (watershed/watershedref21.Part).Local -/
def cc58 : CC := (.seq (.region [⟨none, 2, (.box 0), [0], none, []⟩, ⟨none, 4, (.val (.mv (.c (.int .i64 0)))), [4], none, []⟩, ⟨none, 5, (.val (.mv (.c (.bool false)))), [5], none, []⟩]) (.seq (.seq (.region [⟨none, 6, (.val (.mv (.c (.int .i64 0)))), [], none, []⟩]) (.block 0 (.loop (.seq (.seq (.region [⟨none, 7, (.val (.mv (.s 6))), [], none, []⟩, ⟨none, 8, (.val (.fa (.s 2) 4)), [], none, []⟩, ⟨none, 9, (.val (.ld (.s 8) none)), [8], none, []⟩, ⟨none, 10, (.val (.lnl (.s 9) 1)), [9], none, []⟩, ⟨none, 11, (.val (.bin .lss (.s 7) (.s 10))), [7, 10], none, []⟩]) (.cond (.s 11) .skip (.exit 0))) (.seq (.block 1 (.seq (.region [⟨none, 14, (.val (.mv (.s 1))), [11], none, []⟩, ⟨none, 15, (.val (.bin .geq (.s 14) (.c (.int .i64 0)))), [14], none, []⟩, ⟨none, 16, (.val (.mv (.s 15))), [15], none, []⟩, ⟨(some (16, true)), 17, (.val (.fa (.s 2) 4)), [], none, []⟩, ⟨(some (16, true)), 18, (.val (.ld (.s 17) none)), [], none, []⟩, ⟨(some (16, true)), 19, (.val (.mv (.s 6))), [], none, []⟩, ⟨(some (16, true)), 20, (.val (.ia (.s 18) (.s 19) 1)), [], none, []⟩, ⟨(some (16, true)), 21, (.val (.ld (.s 20) none)), [], none, []⟩, ⟨(some (16, true)), 22, (.val (.mv (.s 1))), [], none, []⟩, ⟨(some (16, true)), 23, (.val (.bin .eql (.s 21) (.s 22))), [], none, []⟩, ⟨none, 24, (.val (.pick (.s 16) (.s 23) (.c (.bool false)))), [16], none, []⟩]) (.cond (.s 24) (.seq (.region [⟨none, 25, (.val (.mv (.s 6))), [1, 2, 6, 17, 18, 19, 20, 21, 22, 23, 24], none, []⟩, ⟨none, 4, (.val (.mv (.s 25))), [25], none, []⟩, ⟨none, 5, (.val (.mv (.c (.bool true)))), [], none, []⟩]) .ret) .skip))) (.region [⟨none, 12, (.val (.mv (.s 6))), [6, 24], none, []⟩, ⟨none, 13, (.val (.bin .add (.s 12) (.c (.int .i64 1)))), [12], none, []⟩, ⟨none, 6, (.val (.mv (.s 13))), [13], none, []⟩])))))) (.seq (.region [⟨none, 4, (.val (.mv (.c (.int .i64 0)))), [1, 2, 6, 11, 17, 18, 19, 20, 21, 22, 23], none, []⟩, ⟨none, 5, (.val (.mv (.c (.bool false)))), [], none, []⟩]) .ret)))
theorem ok58 : FnOk Try.prog 58 cc58 [(.t 4), (.t 5)] 2 26 := ⟨⟨_, Try.func58, by kernel_rfl, by kernel_rfl, by kernel_rfl⟩, by decide, by decide⟩

/- (watershed/count.Part).own -/
def cc146 : CC := (.seq (.region [⟨none, 1, (.box 0), [0], none, []⟩, ⟨none, 2, (.val (.mv (.c (.int .i64 0)))), [2], none, []⟩]) (.seq (.region [⟨none, 3, (.val (.fa (.s 1) 4)), [], none, []⟩, ⟨none, 4, (.val (.ld (.s 3) none)), [3], none, []⟩, ⟨none, 5, (.val (.lnl (.s 4) 1)), [4], none, []⟩, ⟨none, 6, (.val (.fa (.s 1) 5)), [], none, []⟩, ⟨none, 7, (.val (.ld (.s 6) none)), [6], none, []⟩, ⟨none, 8, (.val (.lnl (.s 7) 1)), [7], none, []⟩, ⟨none, 9, (.val (.bin .sub (.s 5) (.s 8))), [5, 8], none, []⟩, ⟨none, 10, (.val (.fa (.s 1) 6)), [1], none, []⟩, ⟨none, 11, (.val (.ld (.s 10) none)), [10], none, []⟩, ⟨none, 12, (.val (.lnl (.s 11) 1)), [11], none, []⟩, ⟨none, 13, (.val (.bin .sub (.s 9) (.s 12))), [9, 12], none, []⟩, ⟨none, 2, (.val (.mv (.s 13))), [13], none, []⟩]) .ret))
theorem ok146 : FnOk Try.prog 146 cc146 [(.t 2)] 1 14 := ⟨⟨_, Try.func146, by kernel_rfl, by kernel_rfl, by kernel_rfl⟩, by decide, by decide⟩

/- (watershed/watershedref21.Part).own -/
def cc147 : CC := (.seq (.region [⟨none, 1, (.box 0), [0], none, []⟩, ⟨none, 2, (.val (.mv (.c (.int .i64 0)))), [2], none, []⟩]) (.seq (.region [⟨none, 3, (.val (.fa (.s 1) 4)), [], none, []⟩, ⟨none, 4, (.val (.ld (.s 3) none)), [3], none, []⟩, ⟨none, 5, (.val (.lnl (.s 4) 1)), [4], none, []⟩, ⟨none, 6, (.val (.fa (.s 1) 5)), [], none, []⟩, ⟨none, 7, (.val (.ld (.s 6) none)), [6], none, []⟩, ⟨none, 8, (.val (.lnl (.s 7) 1)), [7], none, []⟩, ⟨none, 9, (.val (.bin .sub (.s 5) (.s 8))), [5, 8], none, []⟩, ⟨none, 10, (.val (.fa (.s 1) 6)), [1], none, []⟩, ⟨none, 11, (.val (.ld (.s 10) none)), [10], none, []⟩, ⟨none, 12, (.val (.lnl (.s 11) 1)), [11], none, []⟩, ⟨none, 13, (.val (.bin .sub (.s 9) (.s 12))), [9, 12], none, []⟩, ⟨none, 2, (.val (.mv (.s 13))), [13], none, []⟩]) .ret))
theorem ok147 : FnOk Try.prog 147 cc147 [(.t 2)] 1 14 := ⟨⟨_, Try.func147, by kernel_rfl, by kernel_rfl, by kernel_rfl⟩, by decide, by decide⟩

/- (watershed/count.Part).Egress -/
def cc59 : CC := (.seq (.region [⟨none, 2, (.box 0), [0], none, []⟩, ⟨none, 4, (.val (.mv (.c (.int .i64 0)))), [4], none, []⟩, ⟨none, 5, (.val (.mv (.c (.bool false)))), [5], none, []⟩]) (.seq (.region [⟨none, 7, (.val (.fa (.s 2) 5)), [], none, []⟩, ⟨none, 8, (.val (.ld (.s 7) none)), [7], none, []⟩, ⟨none, 9, (.val (.mv (.s 1))), [1], none, []⟩, ⟨none, 10, (.call 145 [(.s 8), (.s 9)]), [8, 9], none, []⟩, ⟨none, 6, (.val (.mv (.s 10))), [10], none, []⟩]) (.seq (.seq (.region [⟨none, 11, (.val (.mv (.s 6))), [], none, []⟩, ⟨none, 12, (.val (.bin .lss (.s 11) (.c (.int .i64 0)))), [11], none, []⟩]) (.cond (.s 12) (.seq (.region [⟨none, 4, (.val (.mv (.c (.int .i64 0)))), [2, 6, 12], none, []⟩, ⟨none, 5, (.val (.mv (.c (.bool false)))), [], none, []⟩]) .ret) .skip)) (.seq (.region [⟨none, 13, (.val (.ld (.s 2) (some 7))), [2, 12], none, []⟩, ⟨none, 14, (.call 146 [(.s 13)]), [13], none, []⟩, ⟨none, 15, (.val (.mv (.s 6))), [6], none, []⟩, ⟨none, 16, (.val (.bin .add (.s 14) (.s 15))), [14, 15], none, []⟩, ⟨none, 17, (.val (.bin .mul (.c (.int .i64 2)) (.s 16))), [16], none, []⟩, ⟨none, 4, (.val (.mv (.s 17))), [17], none, []⟩, ⟨none, 5, (.val (.mv (.c (.bool true)))), [], none, []⟩]) .ret))))
theorem ok59 : FnOk Try.prog 59 cc59 [(.t 4), (.t 5)] 2 18 := ⟨⟨_, Try.func59, by kernel_rfl, by kernel_rfl, by kernel_rfl⟩, by decide, by decide⟩

/- (watershed/watershedref21.Part).Egress -/
def cc60 : CC := (.seq (.region [⟨none, 2, (.box 0), [0], none, []⟩, ⟨none, 4, (.val (.mv (.c (.int .i64 0)))), [4], none, []⟩, ⟨none, 5, (.val (.mv (.c (.bool false)))), [5], none, []⟩]) (.seq (.seq (.region [⟨none, 6, (.val (.mv (.c (.int .i64 0)))), [], none, []⟩]) (.block 0 (.loop (.seq (.seq (.region [⟨none, 7, (.val (.mv (.s 6))), [], none, []⟩, ⟨none, 8, (.val (.fa (.s 2) 5)), [], none, []⟩, ⟨none, 9, (.val (.ld (.s 8) none)), [8], none, []⟩, ⟨none, 10, (.val (.lnl (.s 9) 1)), [9], none, []⟩, ⟨none, 11, (.val (.bin .lss (.s 7) (.s 10))), [7, 10], none, []⟩]) (.cond (.s 11) .skip (.exit 0))) (.seq (.block 1 (.seq (.region [⟨none, 14, (.val (.fa (.s 2) 5)), [11], none, []⟩, ⟨none, 15, (.val (.ld (.s 14) none)), [14], none, []⟩, ⟨none, 16, (.val (.mv (.s 6))), [], none, []⟩, ⟨none, 17, (.val (.ia (.s 15) (.s 16) 1)), [15, 16], none, []⟩, ⟨none, 18, (.val (.ld (.s 17) none)), [17], none, []⟩, ⟨none, 19, (.val (.mv (.s 1))), [], none, []⟩, ⟨none, 20, (.val (.bin .eql (.s 18) (.s 19))), [18, 19], none, []⟩]) (.cond (.s 20) (.seq (.region [⟨none, 21, (.val (.ld (.s 2) (some 7))), [1, 2, 20], none, []⟩, ⟨none, 22, (.call 147 [(.s 21)]), [21], none, []⟩, ⟨none, 23, (.val (.mv (.s 6))), [6], none, []⟩, ⟨none, 24, (.val (.bin .add (.s 22) (.s 23))), [22, 23], none, []⟩, ⟨none, 25, (.val (.bin .mul (.c (.int .i64 2)) (.s 24))), [24], none, []⟩, ⟨none, 4, (.val (.mv (.s 25))), [25], none, []⟩, ⟨none, 5, (.val (.mv (.c (.bool true)))), [], none, []⟩]) .ret) .skip))) (.region [⟨none, 12, (.val (.mv (.s 6))), [6, 20], none, []⟩, ⟨none, 13, (.val (.bin .add (.s 12) (.c (.int .i64 1)))), [12], none, []⟩, ⟨none, 6, (.val (.mv (.s 13))), [13], none, []⟩])))))) (.seq (.region [⟨none, 4, (.val (.mv (.c (.int .i64 0)))), [1, 2, 6, 11], none, []⟩, ⟨none, 5, (.val (.mv (.c (.bool false)))), [], none, []⟩]) .ret)))
theorem ok60 : FnOk Try.prog 60 cc60 [(.t 4), (.t 5)] 2 26 := ⟨⟨_, Try.func60, by kernel_rfl, by kernel_rfl, by kernel_rfl⟩, by decide, by decide⟩

/- (watershed/count.Part).Ingress -/
def cc61 : CC := (.seq (.region [⟨none, 2, (.box 0), [0], none, []⟩, ⟨none, 4, (.val (.mv (.c (.int .i64 0)))), [], none, []⟩, ⟨none, 5, (.val (.mv (.c (.bool false)))), [], none, []⟩]) (.seq (.region [⟨none, 7, (.val (.fa (.s 2) 6)), [], none, []⟩, ⟨none, 8, (.val (.ld (.s 7) none)), [7], none, []⟩, ⟨none, 9, (.val (.mv (.s 1))), [1], none, []⟩, ⟨none, 10, (.call 145 [(.s 8), (.s 9)]), [8, 9], none, []⟩, ⟨none, 6, (.val (.mv (.s 10))), [10], none, []⟩]) (.seq (.seq (.region [⟨none, 11, (.val (.mv (.s 6))), [], none, []⟩, ⟨none, 12, (.val (.bin .lss (.s 11) (.c (.int .i64 0)))), [11], none, []⟩]) (.cond (.s 12) (.seq (.region [⟨none, 4, (.val (.mv (.c (.int .i64 0)))), [2, 5, 6, 12], none, []⟩, ⟨none, 5, (.val (.mv (.c (.bool false)))), [], none, []⟩]) .ret) .skip)) (.seq (.drawn (.op ⟨none, 13, (.val (.ld (.s 2) (some 7))), [], none, []⟩ (.op ⟨none, 15, (.val (.fa (.s 2) 5)), [], none, []⟩ (.op ⟨none, 19, (.val (.mv (.s 6))), [], none, []⟩ (.alt (.op ⟨none, 14, (.call 146 [(.s 13)]), [], none, []⟩ (.op ⟨none, 16, (.val (.ld (.s 15) none)), [], none, []⟩ (.op ⟨none, 17, (.val (.lnl (.s 16) 1)), [], none, []⟩ (.op ⟨none, 18, (.val (.bin .add (.s 14) (.s 17))), [], none, []⟩ (.op ⟨none, 20, (.val (.bin .add (.s 18) (.s 19))), [], none, []⟩ (.op ⟨none, 21, (.val (.bin .mul (.c (.int .i64 2)) (.s 20))), [], none, []⟩ (.op ⟨none, 22, (.val (.bin .add (.s 21) (.c (.int .i64 1)))), [], none, []⟩ (.op ⟨none, 4, (.val (.mv (.s 22))), [], none, []⟩ (.op ⟨none, 5, (.val (.mv (.c (.bool true)))), [], none, []⟩ .done))))))))) (.op ⟨none, 16, (.val (.ld (.s 15) none)), [], none, []⟩ (.op ⟨none, 17, (.val (.lnl (.s 16) 1)), [], none, []⟩ (.op ⟨none, 14, (.call 146 [(.s 13)]), [], none, []⟩ (.op ⟨none, 18, (.val (.bin .add (.s 14) (.s 17))), [], none, []⟩ (.op ⟨none, 20, (.val (.bin .add (.s 18) (.s 19))), [], none, []⟩ (.op ⟨none, 21, (.val (.bin .mul (.c (.int .i64 2)) (.s 20))), [], none, []⟩ (.op ⟨none, 22, (.val (.bin .add (.s 21) (.c (.int .i64 1)))), [], none, []⟩ (.op ⟨none, 4, (.val (.mv (.s 22))), [], none, []⟩ (.op ⟨none, 5, (.val (.mv (.c (.bool true)))), [], none, []⟩ .done)))))))))))))) .ret))))
theorem ok61 : FnOk Try.prog 61 cc61 [(.t 4), (.t 5)] 2 23 := ⟨⟨_, Try.func61, by kernel_rfl, by kernel_rfl, by kernel_rfl⟩, by decide, by decide⟩

/- (watershed/watershedref21.Part).Ingress -/
def cc62 : CC := (.seq (.region [⟨none, 2, (.box 0), [0], none, []⟩, ⟨none, 4, (.val (.mv (.c (.int .i64 0)))), [], none, []⟩, ⟨none, 5, (.val (.mv (.c (.bool false)))), [], none, []⟩]) (.seq (.seq (.region [⟨none, 6, (.val (.mv (.c (.int .i64 0)))), [], none, []⟩]) (.block 0 (.loop (.seq (.seq (.region [⟨none, 7, (.val (.mv (.s 6))), [], none, []⟩, ⟨none, 8, (.val (.fa (.s 2) 6)), [], none, []⟩, ⟨none, 9, (.val (.ld (.s 8) none)), [8], none, []⟩, ⟨none, 10, (.val (.lnl (.s 9) 1)), [9], none, []⟩, ⟨none, 11, (.val (.bin .lss (.s 7) (.s 10))), [7, 10], none, []⟩]) (.cond (.s 11) .skip (.exit 0))) (.seq (.block 1 (.seq (.region [⟨none, 14, (.val (.fa (.s 2) 6)), [11], none, []⟩, ⟨none, 15, (.val (.ld (.s 14) none)), [14], none, []⟩, ⟨none, 16, (.val (.mv (.s 6))), [], none, []⟩, ⟨none, 17, (.val (.ia (.s 15) (.s 16) 1)), [15, 16], none, []⟩, ⟨none, 18, (.val (.ld (.s 17) none)), [17], none, []⟩, ⟨none, 19, (.val (.mv (.s 1))), [], none, []⟩, ⟨none, 20, (.val (.bin .eql (.s 18) (.s 19))), [18, 19], none, []⟩]) (.cond (.s 20) (.seq (.drawn (.op ⟨none, 21, (.val (.ld (.s 2) (some 7))), [], none, []⟩ (.op ⟨none, 23, (.val (.fa (.s 2) 5)), [], none, []⟩ (.op ⟨none, 27, (.val (.mv (.s 6))), [], none, []⟩ (.alt (.op ⟨none, 22, (.call 147 [(.s 21)]), [], none, []⟩ (.op ⟨none, 24, (.val (.ld (.s 23) none)), [], none, []⟩ (.op ⟨none, 25, (.val (.lnl (.s 24) 1)), [], none, []⟩ (.op ⟨none, 26, (.val (.bin .add (.s 22) (.s 25))), [], none, []⟩ (.op ⟨none, 28, (.val (.bin .add (.s 26) (.s 27))), [], none, []⟩ (.op ⟨none, 29, (.val (.bin .mul (.c (.int .i64 2)) (.s 28))), [], none, []⟩ (.op ⟨none, 30, (.val (.bin .add (.s 29) (.c (.int .i64 1)))), [], none, []⟩ (.op ⟨none, 4, (.val (.mv (.s 30))), [], none, []⟩ (.op ⟨none, 5, (.val (.mv (.c (.bool true)))), [], none, []⟩ .done))))))))) (.op ⟨none, 24, (.val (.ld (.s 23) none)), [], none, []⟩ (.op ⟨none, 25, (.val (.lnl (.s 24) 1)), [], none, []⟩ (.op ⟨none, 22, (.call 147 [(.s 21)]), [], none, []⟩ (.op ⟨none, 26, (.val (.bin .add (.s 22) (.s 25))), [], none, []⟩ (.op ⟨none, 28, (.val (.bin .add (.s 26) (.s 27))), [], none, []⟩ (.op ⟨none, 29, (.val (.bin .mul (.c (.int .i64 2)) (.s 28))), [], none, []⟩ (.op ⟨none, 30, (.val (.bin .add (.s 29) (.c (.int .i64 1)))), [], none, []⟩ (.op ⟨none, 4, (.val (.mv (.s 30))), [], none, []⟩ (.op ⟨none, 5, (.val (.mv (.c (.bool true)))), [], none, []⟩ .done)))))))))))))) .ret) .skip))) (.region [⟨none, 12, (.val (.mv (.s 6))), [6, 20], none, []⟩, ⟨none, 13, (.val (.bin .add (.s 12) (.c (.int .i64 1)))), [12], none, []⟩, ⟨none, 6, (.val (.mv (.s 13))), [13], none, []⟩])))))) (.seq (.region [⟨none, 4, (.val (.mv (.c (.int .i64 0)))), [1, 2, 5, 6, 11], none, []⟩, ⟨none, 5, (.val (.mv (.c (.bool false)))), [], none, []⟩]) .ret)))
theorem ok62 : FnOk Try.prog 62 cc62 [(.t 4), (.t 5)] 2 31 := ⟨⟨_, Try.func62, by kernel_rfl, by kernel_rfl, by kernel_rfl⟩, by decide, by decide⟩


theorem c141 (l : List Lo) (hl : l.length ≤ 1000000) {Q : AV → Al → Prop} (h : Q (.own 3 (l.map loA)) []) : ACalls Try.prog 141 [] [.lst 3 (l.map loA)] Q := by
  cases l with
  | nil =>
    refine ACalls.emp (by decide) ?_ h
    rintro w v (rfl | ⟨B, o, cap, rfl⟩)
    · have hb : Sem.run Try.prog (binOp .eql 78 (.slice none 0 0) (.slice none 0 0)) w = .ok (.bool true) w := by
        simp [binOp, run_equal_sl (P := Try.prog) (t := 78) Try.underlying78 (p := none) (q := none) (.inl rfl)]
      go_enter Try.func141, Try.ntmps141
      go_wp2
      go_ret
      exact ⟨_, rfl, Below.refl _ _, .inl rfl⟩
    · have hb : Sem.run Try.prog (binOp .eql 78 (.slice (some ⟨B, o, none⟩) 0 cap) (.slice none 0 0)) w = .ok (.bool false) w := by
        simp [binOp, run_equal_sl (P := Try.prog) (t := 78) Try.underlying78 (p := some ⟨B, o, none⟩) (q := none) (.inr rfl)]
      have h0 := run_buildSlice0 (P := Try.prog) w 78 198 3 Try.underlying78 (by kernel_rfl)
      go_enter Try.func141, Try.ntmps141
      go_wp2
      go_ret
      exact ⟨_, rfl, (Below.refl _ _).alloc (Nat.le_refl _) _, .inr ⟨_, _, rfl⟩⟩
  | cons x l =>
    refine ok141.N hmix rfl ?_
    intro I
    simp only [List.length_cons] at hl
    simp only [cc141, OI0, OI1, OI2, OI3, OI4, OI5, OI6, OI7, OI8, OI9, OI10, OI11, OI12, ↓reduceIte, reduceCtorEq, Nat.reduceAdd, Nat.reduceEqDiff, Nat.reduceBEq, Nat.reduceLT, Nat.reduceLeDiff, Nat.reduceMul, Nat.reduceSub, Int.reduceLE, Int.reduceLT, Int.reduceEq, Int.reduceBEq, Int.reduceBNe, Int.reduceToNat, Int.reduceNeg, Nat.reduceBNe, forall_eq_or_imp, List.map_cons, loA]
    refine ⟨⟨by omega, by omega⟩, ?_⟩
    rw [List.take_of_length_le (by simp)]
    exact h
theorem idxI_at {l : List Int} {x : Int} {i : Nat} (hi : l[i]? = some x) (h : ∀ (j : Nat) y, j < i → l[j]? = some y → ¬ x = y) : idxI l x = i := by
  obtain ⟨hil, hx⟩ := List.getElem?_eq_some_iff.1 hi
  have : l.findIdx? (fun y => y == x) = some i := by
    rw [List.findIdx?_eq_some_iff_getElem]
    refine ⟨hil, by simp [hx], fun j hj => ?_⟩
    have := h j l[j] hj (List.getElem?_eq_getElem (by omega))
    simpa using fun e => this e.symm
  simp only [idxI, this]
theorem idxI_no {l : List Int} {x : Int} (h : ∀ (j : Nat) y, l[j]? = some y → ¬ x = y) : idxI l x = -1 := by
  have : l.findIdx? (fun y => y == x) = none := by
    rw [List.findIdx?_eq_none_iff]
    intro y hy
    obtain ⟨j, hj⟩ := List.getElem?_of_mem hy
    have := h j y hj
    simpa using fun e => this e.symm
  simp only [idxI, this]
def st145 (I : World → Fp → Value → Fp → Prop) (l : List Int) (x : Int) (i : Nat) : St := ⟨[(8, .v (.int .i64 i)), (7, .v (.int .i64 l.length)), (0, intsA l), (1, i64A x)], [(9999, .ext I)], []⟩
theorem c145 (l : List Int) (x : Int) (hl : l.length ≤ 1000000) {Q : AV → Al → Prop} (h : Q (i64A (idxI l x)) []) : ACalls Try.prog 145 [] [intsA l, i64A x] Q := by
  refine ok145.N hmix rfl ?_
  intro I
  simp only [cc145, OI0, OI1, OI2, OI3, OI4, OI5, OI6, OI7, OI8, OI9, OI10, OI11, OI12, ↓reduceIte, reduceCtorEq, Nat.reduceAdd, Nat.reduceEqDiff, Nat.reduceBEq, Nat.reduceLT, Nat.reduceLeDiff, Nat.reduceMul, Nat.reduceSub, Int.reduceLE, Int.reduceLT, Int.reduceEq, Int.reduceBEq, Int.reduceBNe, Int.reduceToNat, Int.reduceNeg, Nat.reduceBNe, forall_eq_or_imp, intsA, i64A]
  refine W_loop (st145 I l x) (fun i => i ≤ l.length ∧ ∀ (j : Nat) y, j < i → l[j]? = some y → ¬ x = y) (fun i => l.length - i) (fun _ _ => rfl) ⟨0, ⟨by omega, fun j y hj => by omega⟩, ?_⟩ ?_
  · simp only [OI0, OI1, OI2, OI3, OI4, OI5, OI6, OI7, OI8, OI9, OI10, OI11, OI12, ↓reduceIte, reduceCtorEq, Nat.reduceAdd, Nat.reduceEqDiff, Nat.reduceBEq, Nat.reduceLT, Nat.reduceLeDiff, Nat.reduceMul, Nat.reduceSub, Int.reduceLE, Int.reduceLT, Int.reduceEq, Int.reduceBEq, Int.reduceBNe, Int.reduceToNat, Int.reduceNeg, Nat.reduceBNe, forall_eq_or_imp, st145, intsA, i64A]
    try rfl
  rintro i ⟨hi, hall⟩
  refine W_of_N ok145.small hmix ?_
  by_cases hil : i < l.length
  · have hil' : (i : Int) < l.length := by omega
    have i0 : (0 : Int) ≤ i := by omega
    have hgi : l[i]? = some l[i] := List.getElem?_eq_getElem hil
    have w1 : IntKind.i64.wrap ((i : Int) + 1) = ((i + 1 : Nat) : Int) := by rw [wrI64 (by omega) (by omega)]; omega
    generalize l[i] = y at hgi
    by_cases hxy : x = y
    · subst hxy
      simp only [OI0, OI1, OI2, OI3, OI4, OI5, OI6, OI7, OI8, OI9, OI10, OI11, OI12, ↓reduceIte, reduceCtorEq, Nat.reduceAdd, Nat.reduceEqDiff, Nat.reduceBEq, Nat.reduceLT, Nat.reduceLeDiff, Nat.reduceMul, Nat.reduceSub, Int.reduceLE, Int.reduceLT, Int.reduceEq, Int.reduceBEq, Int.reduceBNe, Int.reduceToNat, Int.reduceNeg, Nat.reduceBNe, forall_eq_or_imp, st145, intsA, i64A, hil', i0, hgi, beq_self_eq_true]
      rw [idxI_at hgi hall] at h
      exact h
    · simp only [OI0, OI1, OI2, OI3, OI4, OI5, OI6, OI7, OI8, OI9, OI10, OI11, OI12, ↓reduceIte, reduceCtorEq, Nat.reduceAdd, Nat.reduceEqDiff, Nat.reduceBEq, Nat.reduceLT, Nat.reduceLeDiff, Nat.reduceMul, Nat.reduceSub, Int.reduceLE, Int.reduceLT, Int.reduceEq, Int.reduceBEq, Int.reduceBNe, Int.reduceToNat, Int.reduceNeg, Nat.reduceBNe, forall_eq_or_imp, st145, intsA, i64A, hil', i0, hgi, beqF hxy, w1]
      refine ⟨i + 1, ⟨⟨by omega, fun j z hj hz => ?_⟩, by omega⟩, ?_⟩
      · by_cases he : j = i
        · subst he; rw [hgi] at hz; obtain rfl := Option.some.inj hz; exact hxy
        · exact hall j z (by omega) hz
      · simp only [OI0, OI1, OI2, OI3, OI4, OI5, OI6, OI7, OI8, OI9, OI10, OI11, OI12, ↓reduceIte, reduceCtorEq, Nat.reduceAdd, Nat.reduceEqDiff, Nat.reduceBEq, Nat.reduceLT, Nat.reduceLeDiff, Nat.reduceMul, Nat.reduceSub, Int.reduceLE, Int.reduceLT, Int.reduceEq, Int.reduceBEq, Int.reduceBNe, Int.reduceToNat, Int.reduceNeg, Nat.reduceBNe, forall_eq_or_imp, st145, intsA, i64A]
  · obtain rfl : i = l.length := by omega
    simp only [OI0, OI1, OI2, OI3, OI4, OI5, OI6, OI7, OI8, OI9, OI10, OI11, OI12, ↓reduceIte, reduceCtorEq, Nat.reduceAdd, Nat.reduceEqDiff, Nat.reduceBEq, Nat.reduceLT, Nat.reduceLeDiff, Nat.reduceMul, Nat.reduceSub, Int.reduceLE, Int.reduceLT, Int.reduceEq, Int.reduceBEq, Int.reduceBNe, Int.reduceToNat, Int.reduceNeg, Nat.reduceBNe, forall_eq_or_imp, st145, intsA, i64A, Int.lt_irrefl]
    rw [idxI_no fun j y hy => hall j y (List.getElem?_eq_some_iff.1 hy).1 hy] at h
    exact h
theorem idxI_le (l : List Int) (x : Int) : -1 ≤ idxI l x ∧ idxI l x < l.length := by
  unfold idxI
  split
  · rename_i i hi
    rw [List.findIdx?_eq_some_iff_getElem] at hi
    obtain ⟨h, _⟩ := hi
    omega
  · omega
structure PmOk (m : PM) : Prop where
  ops : m.ops.length ≤ 1000000
  lv : m.lv.length ≤ 1000000
  ar : m.ar.length ≤ 1000000
theorem c57 (m : PM) (x : Int) (hm : PmOk m) {Q : AV → Al → Prop} (h : Q (.tup [i64A ((locI m.ops x).getD 0), .v (.bool (locI m.ops x).isSome)]) []) : ACalls Try.prog 57 [] [partA m, i64A x] Q := by
  refine ok57.N hmix rfl ?_
  intro I
  simp only [cc57, OI0, OI1, OI2, OI3, OI4, OI5, OI6, OI7, OI8, OI9, OI10, OI11, OI12, ↓reduceIte, reduceCtorEq, Nat.reduceAdd, Nat.reduceEqDiff, Nat.reduceBEq, Nat.reduceLT, Nat.reduceLeDiff, Nat.reduceMul, Nat.reduceSub, Int.reduceLE, Int.reduceLT, Int.reduceEq, Int.reduceBEq, Int.reduceBNe, Int.reduceToNat, Int.reduceNeg, Nat.reduceBNe, forall_eq_or_imp, partA, intsA, i64A]
  refine c145 m.ops x hm.ops ?_
  have hle := idxI_le m.ops x
  generalize hi : idxI m.ops x = k at hle
  by_cases x0 : x < 0
  · simp only [OI0, OI1, OI2, OI3, OI4, OI5, OI6, OI7, OI8, OI9, OI10, OI11, OI12, ↓reduceIte, reduceCtorEq, Nat.reduceAdd, Nat.reduceEqDiff, Nat.reduceBEq, Nat.reduceLT, Nat.reduceLeDiff, Nat.reduceMul, Nat.reduceSub, Int.reduceLE, Int.reduceLT, Int.reduceEq, Int.reduceBEq, Int.reduceBNe, Int.reduceToNat, Int.reduceNeg, Nat.reduceBNe, forall_eq_or_imp, i64A, x0]
    simpa [locI, x0, i64A] using h
  by_cases k0 : k < 0
  · simp only [OI0, OI1, OI2, OI3, OI4, OI5, OI6, OI7, OI8, OI9, OI10, OI11, OI12, ↓reduceIte, reduceCtorEq, Nat.reduceAdd, Nat.reduceEqDiff, Nat.reduceBEq, Nat.reduceLT, Nat.reduceLeDiff, Nat.reduceMul, Nat.reduceSub, Int.reduceLE, Int.reduceLT, Int.reduceEq, Int.reduceBEq, Int.reduceBNe, Int.reduceToNat, Int.reduceNeg, Nat.reduceBNe, forall_eq_or_imp, i64A, x0, k0]
    simpa [locI, hi, k0, i64A] using h
  · simp only [OI0, OI1, OI2, OI3, OI4, OI5, OI6, OI7, OI8, OI9, OI10, OI11, OI12, ↓reduceIte, reduceCtorEq, Nat.reduceAdd, Nat.reduceEqDiff, Nat.reduceBEq, Nat.reduceLT, Nat.reduceLeDiff, Nat.reduceMul, Nat.reduceSub, Int.reduceLE, Int.reduceLT, Int.reduceEq, Int.reduceBEq, Int.reduceBNe, Int.reduceToNat, Int.reduceNeg, Nat.reduceBNe, forall_eq_or_imp, i64A, x0, k0]
    simpa [locI, hi, k0, x0, i64A] using h
def st58 (I : World → Fp → Value → Fp → Prop) (m : PM) (x : Int) (i : Nat) : St := ⟨[(6, .v (.int .i64 i)), (1, i64A x), (2, .ref ⟨1002, [], 0⟩)], [(1002, partA m), (9999, .ext I)], []⟩
theorem c58 (m : PM) (x : Int) (hm : PmOk m) {Q : AV → Al → Prop} (h : Q (.tup [i64A ((locI m.ops x).getD 0), .v (.bool (locI m.ops x).isSome)]) []) : ACalls Try.prog 58 [] [partA m, i64A x] Q := by
  have hl := hm.ops
  refine ok58.N hmix rfl ?_
  intro I
  simp only [cc58, OI0, OI1, OI2, OI3, OI4, OI5, OI6, OI7, OI8, OI9, OI10, OI11, OI12, ↓reduceIte, reduceCtorEq, Nat.reduceAdd, Nat.reduceEqDiff, Nat.reduceBEq, Nat.reduceLT, Nat.reduceLeDiff, Nat.reduceMul, Nat.reduceSub, Int.reduceLE, Int.reduceLT, Int.reduceEq, Int.reduceBEq, Int.reduceBNe, Int.reduceToNat, Int.reduceNeg, Nat.reduceBNe, forall_eq_or_imp, partA, intsA, i64A]
  refine W_loop (st58 I m x) (fun i => i ≤ m.ops.length ∧ ∀ (j : Nat) y, 0 ≤ x → j < i → m.ops[j]? = some y → ¬ x = y) (fun i => m.ops.length - i) (fun _ _ => rfl) ⟨0, ⟨by omega, fun j y _ hj => by omega⟩, ?_⟩ ?_
  · simp only [OI0, OI1, OI2, OI3, OI4, OI5, OI6, OI7, OI8, OI9, OI10, OI11, OI12, ↓reduceIte, reduceCtorEq, Nat.reduceAdd, Nat.reduceEqDiff, Nat.reduceBEq, Nat.reduceLT, Nat.reduceLeDiff, Nat.reduceMul, Nat.reduceSub, Int.reduceLE, Int.reduceLT, Int.reduceEq, Int.reduceBEq, Int.reduceBNe, Int.reduceToNat, Int.reduceNeg, Nat.reduceBNe, forall_eq_or_imp, st58, partA, intsA, i64A]
    try rfl
  rintro i ⟨hi, hall⟩
  refine W_of_N ok58.small hmix ?_
  by_cases hil : i < m.ops.length
  · have hil' : (i : Int) < m.ops.length := by omega
    have i0 : (0 : Int) ≤ i := by omega
    have hgi : m.ops[i]? = some m.ops[i] := List.getElem?_eq_getElem hil
    have w1 : IntKind.i64.wrap ((i : Int) + 1) = ((i + 1 : Nat) : Int) := by rw [wrI64 (by omega) (by omega)]; omega
    generalize m.ops[i] = y at hgi
    by_cases x0 : 0 ≤ x
    · by_cases hxy : x = y
      · subst hxy
        simp only [OI0, OI1, OI2, OI3, OI4, OI5, OI6, OI7, OI8, OI9, OI10, OI11, OI12, ↓reduceIte, reduceCtorEq, Nat.reduceAdd, Nat.reduceEqDiff, Nat.reduceBEq, Nat.reduceLT, Nat.reduceLeDiff, Nat.reduceMul, Nat.reduceSub, Int.reduceLE, Int.reduceLT, Int.reduceEq, Int.reduceBEq, Int.reduceBNe, Int.reduceToNat, Int.reduceNeg, Nat.reduceBNe, forall_eq_or_imp, st58, partA, intsA, i64A, hil', i0, hgi, beq_self_eq_true, x0]
        have e := idxI_at hgi fun j y hj hy => hall j y x0 hj hy
        have e2 : locI m.ops x = some (i : Int) := by rw [locI, e, if_neg (by omega)]
        rw [e2] at h
        exact h
      · simp only [OI0, OI1, OI2, OI3, OI4, OI5, OI6, OI7, OI8, OI9, OI10, OI11, OI12, ↓reduceIte, reduceCtorEq, Nat.reduceAdd, Nat.reduceEqDiff, Nat.reduceBEq, Nat.reduceLT, Nat.reduceLeDiff, Nat.reduceMul, Nat.reduceSub, Int.reduceLE, Int.reduceLT, Int.reduceEq, Int.reduceBEq, Int.reduceBNe, Int.reduceToNat, Int.reduceNeg, Nat.reduceBNe, forall_eq_or_imp, st58, partA, intsA, i64A, hil', i0, hgi, beqF (fun e => hxy (Eq.symm e)), w1, x0]
        refine ⟨i + 1, ⟨⟨by omega, fun j z hj hz => ?_⟩, by omega⟩, ?_⟩
        · by_cases he : j = i
          · subst he; rw [hgi] at hz; obtain rfl := Option.some.inj hz; exact hxy
          · exact hall j z x0 (by omega) hz
        · simp only [OI0, OI1, OI2, OI3, OI4, OI5, OI6, OI7, OI8, OI9, OI10, OI11, OI12, ↓reduceIte, reduceCtorEq, Nat.reduceAdd, Nat.reduceEqDiff, Nat.reduceBEq, Nat.reduceLT, Nat.reduceLeDiff, Nat.reduceMul, Nat.reduceSub, Int.reduceLE, Int.reduceLT, Int.reduceEq, Int.reduceBEq, Int.reduceBNe, Int.reduceToNat, Int.reduceNeg, Nat.reduceBNe, forall_eq_or_imp, st58, partA, intsA, i64A]
    · simp only [OI0, OI1, OI2, OI3, OI4, OI5, OI6, OI7, OI8, OI9, OI10, OI11, OI12, ↓reduceIte, reduceCtorEq, Nat.reduceAdd, Nat.reduceEqDiff, Nat.reduceBEq, Nat.reduceLT, Nat.reduceLeDiff, Nat.reduceMul, Nat.reduceSub, Int.reduceLE, Int.reduceLT, Int.reduceEq, Int.reduceBEq, Int.reduceBNe, Int.reduceToNat, Int.reduceNeg, Nat.reduceBNe, forall_eq_or_imp, st58, partA, intsA, i64A, hil', i0, hgi, w1, x0]
      refine ⟨i + 1, ⟨by omega, by omega⟩, ?_⟩
      simp only [OI0, OI1, OI2, OI3, OI4, OI5, OI6, OI7, OI8, OI9, OI10, OI11, OI12, ↓reduceIte, reduceCtorEq, Nat.reduceAdd, Nat.reduceEqDiff, Nat.reduceBEq, Nat.reduceLT, Nat.reduceLeDiff, Nat.reduceMul, Nat.reduceSub, Int.reduceLE, Int.reduceLT, Int.reduceEq, Int.reduceBEq, Int.reduceBNe, Int.reduceToNat, Int.reduceNeg, Nat.reduceBNe, forall_eq_or_imp, st58, partA, intsA, i64A]
  · obtain rfl : i = m.ops.length := by omega
    simp only [OI0, OI1, OI2, OI3, OI4, OI5, OI6, OI7, OI8, OI9, OI10, OI11, OI12, ↓reduceIte, reduceCtorEq, Nat.reduceAdd, Nat.reduceEqDiff, Nat.reduceBEq, Nat.reduceLT, Nat.reduceLeDiff, Nat.reduceMul, Nat.reduceSub, Int.reduceLE, Int.reduceLT, Int.reduceEq, Int.reduceBEq, Int.reduceBNe, Int.reduceToNat, Int.reduceNeg, Nat.reduceBNe, forall_eq_or_imp, st58, partA, intsA, i64A, Int.lt_irrefl]
    have e2 : locI m.ops x = none := by
      by_cases x0 : 0 ≤ x
      · rw [locI, idxI_no fun j y hy => hall j y x0 (List.getElem?_eq_some_iff.1 hy).1 hy, if_pos (by omega)]
      · rw [locI, if_pos (by omega)]
    rw [e2] at h
    exact h
def ownN (m : PM) : Int := m.ops.length - m.lv.length - m.ar.length
theorem c146g (f : Nat) (ok : FnOk Try.prog f cc146 [.t 2] 1 14) (m : PM) (hm : PmOk m) {Q : AV → Al → Prop} (h : Q (i64A (ownN m)) []) : ACalls Try.prog f [] [partA m] Q := by
  have h1 := hm.ops
  have h2 := hm.lv
  have h3 := hm.ar
  refine ok.N hmix rfl ?_
  intro I
  have w1 : IntKind.i64.wrap ((m.ops.length : Int) - m.lv.length) = m.ops.length - m.lv.length := wrI64 (by omega) (by omega)
  have w2 : IntKind.i64.wrap ((m.ops.length : Int) - m.lv.length - m.ar.length) = m.ops.length - m.lv.length - m.ar.length := wrI64 (by omega) (by omega)
  simp only [cc146, OI0, OI1, OI2, OI3, OI4, OI5, OI6, OI7, OI8, OI9, OI10, OI11, OI12, ↓reduceIte, reduceCtorEq, Nat.reduceAdd, Nat.reduceEqDiff, Nat.reduceBEq, Nat.reduceLT, Nat.reduceLeDiff, Nat.reduceMul, Nat.reduceSub, Int.reduceLE, Int.reduceLT, Int.reduceEq, Int.reduceBEq, Int.reduceBNe, Int.reduceToNat, Int.reduceNeg, Nat.reduceBNe, forall_eq_or_imp, partA, intsA, i64A, w1, w2]
  exact h
theorem c146 (m : PM) (hm : PmOk m) {Q : AV → Al → Prop} (h : Q (i64A (ownN m)) []) : ACalls Try.prog 146 [] [partA m] Q := c146g 146 ok146 m hm h
theorem c147 (m : PM) (hm : PmOk m) {Q : AV → Al → Prop} (h : Q (i64A (ownN m)) []) : ACalls Try.prog 147 [] [partA m] Q := c146g 147 ok147 m hm h
def egrR (m : PM) (f : Int) : Int × Bool := if idxI m.lv f < 0 then (0, false) else (2 * (ownN m + idxI m.lv f), true)
def ingR (m : PM) (f : Int) : Int × Bool := if idxI m.ar f < 0 then (0, false) else (2 * (ownN m + m.lv.length + idxI m.ar f) + 1, true)
theorem c59 (m : PM) (f : Int) (hm : PmOk m) {Q : AV → Al → Prop} (h : Q (.tup [i64A (egrR m f).1, .v (.bool (egrR m f).2)]) []) : ACalls Try.prog 59 [] [partA m, i64A f] Q := by
  have h1 := hm.ops
  have h2 := hm.lv
  have h3 := hm.ar
  refine ok59.N hmix rfl ?_
  intro I
  simp only [cc59, OI0, OI1, OI2, OI3, OI4, OI5, OI6, OI7, OI8, OI9, OI10, OI11, OI12, ↓reduceIte, reduceCtorEq, Nat.reduceAdd, Nat.reduceEqDiff, Nat.reduceBEq, Nat.reduceLT, Nat.reduceLeDiff, Nat.reduceMul, Nat.reduceSub, Int.reduceLE, Int.reduceLT, Int.reduceEq, Int.reduceBEq, Int.reduceBNe, Int.reduceToNat, Int.reduceNeg, Nat.reduceBNe, forall_eq_or_imp, partA, intsA, i64A]
  refine c145 m.lv f hm.lv ?_
  have hle := idxI_le m.lv f
  unfold egrR at h
  generalize hi : idxI m.lv f = k at hle h
  by_cases k0 : k < 0
  · simp only [OI0, OI1, OI2, OI3, OI4, OI5, OI6, OI7, OI8, OI9, OI10, OI11, OI12, ↓reduceIte, reduceCtorEq, Nat.reduceAdd, Nat.reduceEqDiff, Nat.reduceBEq, Nat.reduceLT, Nat.reduceLeDiff, Nat.reduceMul, Nat.reduceSub, Int.reduceLE, Int.reduceLT, Int.reduceEq, Int.reduceBEq, Int.reduceBNe, Int.reduceToNat, Int.reduceNeg, Nat.reduceBNe, forall_eq_or_imp, i64A, k0]
    simpa [k0, i64A] using h
  · simp only [OI0, OI1, OI2, OI3, OI4, OI5, OI6, OI7, OI8, OI9, OI10, OI11, OI12, ↓reduceIte, reduceCtorEq, Nat.reduceAdd, Nat.reduceEqDiff, Nat.reduceBEq, Nat.reduceLT, Nat.reduceLeDiff, Nat.reduceMul, Nat.reduceSub, Int.reduceLE, Int.reduceLT, Int.reduceEq, Int.reduceBEq, Int.reduceBNe, Int.reduceToNat, Int.reduceNeg, Nat.reduceBNe, forall_eq_or_imp, i64A, k0]
    refine c146 m hm ?_
    have w1 : IntKind.i64.wrap (ownN m + k) = ownN m + k := wrI64 (by unfold ownN; omega) (by unfold ownN; omega)
    have w2 : IntKind.i64.wrap (2 * (ownN m + k)) = 2 * (ownN m + k) := wrI64 (by unfold ownN; omega) (by unfold ownN; omega)
    simp only [OI0, OI1, OI2, OI3, OI4, OI5, OI6, OI7, OI8, OI9, OI10, OI11, OI12, ↓reduceIte, reduceCtorEq, Nat.reduceAdd, Nat.reduceEqDiff, Nat.reduceBEq, Nat.reduceLT, Nat.reduceLeDiff, Nat.reduceMul, Nat.reduceSub, Int.reduceLE, Int.reduceLT, Int.reduceEq, Int.reduceBEq, Int.reduceBNe, Int.reduceToNat, Int.reduceNeg, Nat.reduceBNe, forall_eq_or_imp, i64A, w1, w2]
    simpa [k0, i64A] using h
def st60 (I : World → Fp → Value → Fp → Prop) (m : PM) (x : Int) (i : Nat) : St := ⟨[(6, .v (.int .i64 i)), (1, i64A x), (2, .ref ⟨1002, [], 0⟩)], [(1002, partA m), (9999, .ext I)], []⟩
theorem c60 (m : PM) (f : Int) (hm : PmOk m) {Q : AV → Al → Prop} (h : Q (.tup [i64A (egrR m f).1, .v (.bool (egrR m f).2)]) []) : ACalls Try.prog 60 [] [partA m, i64A f] Q := by
  have h1 := hm.ops
  have h2 := hm.lv
  have h3 := hm.ar
  refine ok60.N hmix rfl ?_
  intro I
  simp only [cc60, OI0, OI1, OI2, OI3, OI4, OI5, OI6, OI7, OI8, OI9, OI10, OI11, OI12, ↓reduceIte, reduceCtorEq, Nat.reduceAdd, Nat.reduceEqDiff, Nat.reduceBEq, Nat.reduceLT, Nat.reduceLeDiff, Nat.reduceMul, Nat.reduceSub, Int.reduceLE, Int.reduceLT, Int.reduceEq, Int.reduceBEq, Int.reduceBNe, Int.reduceToNat, Int.reduceNeg, Nat.reduceBNe, forall_eq_or_imp, partA, intsA, i64A]
  refine W_loop (st60 I m f) (fun i => i ≤ m.lv.length ∧ ∀ (j : Nat) y, j < i → m.lv[j]? = some y → ¬ f = y) (fun i => m.lv.length - i) (fun _ _ => rfl) ⟨0, ⟨by omega, fun j y hj => by omega⟩, ?_⟩ ?_
  · simp only [OI0, OI1, OI2, OI3, OI4, OI5, OI6, OI7, OI8, OI9, OI10, OI11, OI12, ↓reduceIte, reduceCtorEq, Nat.reduceAdd, Nat.reduceEqDiff, Nat.reduceBEq, Nat.reduceLT, Nat.reduceLeDiff, Nat.reduceMul, Nat.reduceSub, Int.reduceLE, Int.reduceLT, Int.reduceEq, Int.reduceBEq, Int.reduceBNe, Int.reduceToNat, Int.reduceNeg, Nat.reduceBNe, forall_eq_or_imp, st60, partA, intsA, i64A]
    try rfl
  rintro i ⟨hi, hall⟩
  refine W_of_N ok60.small hmix ?_
  by_cases hil : i < m.lv.length
  · have hil' : (i : Int) < m.lv.length := by omega
    have i0 : (0 : Int) ≤ i := by omega
    have hgi : m.lv[i]? = some m.lv[i] := List.getElem?_eq_getElem hil
    have w1 : IntKind.i64.wrap ((i : Int) + 1) = ((i + 1 : Nat) : Int) := by rw [wrI64 (by omega) (by omega)]; omega
    generalize m.lv[i] = y at hgi
    by_cases hxy : f = y
    · subst hxy
      simp only [OI0, OI1, OI2, OI3, OI4, OI5, OI6, OI7, OI8, OI9, OI10, OI11, OI12, ↓reduceIte, reduceCtorEq, Nat.reduceAdd, Nat.reduceEqDiff, Nat.reduceBEq, Nat.reduceLT, Nat.reduceLeDiff, Nat.reduceMul, Nat.reduceSub, Int.reduceLE, Int.reduceLT, Int.reduceEq, Int.reduceBEq, Int.reduceBNe, Int.reduceToNat, Int.reduceNeg, Nat.reduceBNe, forall_eq_or_imp, st60, partA, intsA, i64A, hil', i0, hgi, beq_self_eq_true]
      refine c147 m hm ?_
      have e : egrR m f = (2 * (ownN m + i), true) := by rw [egrR, idxI_at hgi hall, if_neg (by omega)]
      have w1 : IntKind.i64.wrap (ownN m + i) = ownN m + i := wrI64 (by unfold ownN; omega) (by unfold ownN; omega)
      have w2 : IntKind.i64.wrap (2 * (ownN m + i)) = 2 * (ownN m + i) := wrI64 (by unfold ownN; omega) (by unfold ownN; omega)
      simp only [OI0, OI1, OI2, OI3, OI4, OI5, OI6, OI7, OI8, OI9, OI10, OI11, OI12, ↓reduceIte, reduceCtorEq, Nat.reduceAdd, Nat.reduceEqDiff, Nat.reduceBEq, Nat.reduceLT, Nat.reduceLeDiff, Nat.reduceMul, Nat.reduceSub, Int.reduceLE, Int.reduceLT, Int.reduceEq, Int.reduceBEq, Int.reduceBNe, Int.reduceToNat, Int.reduceNeg, Nat.reduceBNe, forall_eq_or_imp, i64A, w1, w2]
      rw [e] at h
      exact h
    · simp only [OI0, OI1, OI2, OI3, OI4, OI5, OI6, OI7, OI8, OI9, OI10, OI11, OI12, ↓reduceIte, reduceCtorEq, Nat.reduceAdd, Nat.reduceEqDiff, Nat.reduceBEq, Nat.reduceLT, Nat.reduceLeDiff, Nat.reduceMul, Nat.reduceSub, Int.reduceLE, Int.reduceLT, Int.reduceEq, Int.reduceBEq, Int.reduceBNe, Int.reduceToNat, Int.reduceNeg, Nat.reduceBNe, forall_eq_or_imp, st60, partA, intsA, i64A, hil', i0, hgi, beqF (fun e => hxy (Eq.symm e)), w1]
      refine ⟨i + 1, ⟨⟨by omega, fun j z hj hz => ?_⟩, by omega⟩, ?_⟩
      · by_cases he : j = i
        · subst he; rw [hgi] at hz; obtain rfl := Option.some.inj hz; exact hxy
        · exact hall j z (by omega) hz
      · simp only [OI0, OI1, OI2, OI3, OI4, OI5, OI6, OI7, OI8, OI9, OI10, OI11, OI12, ↓reduceIte, reduceCtorEq, Nat.reduceAdd, Nat.reduceEqDiff, Nat.reduceBEq, Nat.reduceLT, Nat.reduceLeDiff, Nat.reduceMul, Nat.reduceSub, Int.reduceLE, Int.reduceLT, Int.reduceEq, Int.reduceBEq, Int.reduceBNe, Int.reduceToNat, Int.reduceNeg, Nat.reduceBNe, forall_eq_or_imp, st60, partA, intsA, i64A]
  · obtain rfl : i = m.lv.length := by omega
    simp only [OI0, OI1, OI2, OI3, OI4, OI5, OI6, OI7, OI8, OI9, OI10, OI11, OI12, ↓reduceIte, reduceCtorEq, Nat.reduceAdd, Nat.reduceEqDiff, Nat.reduceBEq, Nat.reduceLT, Nat.reduceLeDiff, Nat.reduceMul, Nat.reduceSub, Int.reduceLE, Int.reduceLT, Int.reduceEq, Int.reduceBEq, Int.reduceBNe, Int.reduceToNat, Int.reduceNeg, Nat.reduceBNe, forall_eq_or_imp, st60, partA, intsA, i64A, Int.lt_irrefl]
    have e : egrR m f = (0, false) := by rw [egrR, idxI_no fun j y hy => hall j y (List.getElem?_eq_some_iff.1 hy).1 hy, if_pos (by omega)]
    rw [e] at h
    exact h
theorem c61 (m : PM) (f : Int) (hm : PmOk m) {Q : AV → Al → Prop} (h : Q (.tup [i64A (ingR m f).1, .v (.bool (ingR m f).2)]) []) : ACalls Try.prog 61 [] [partA m, i64A f] Q := by
  have h1 := hm.ops
  have h2 := hm.lv
  have h3 := hm.ar
  refine ok61.N hmix rfl ?_
  intro I
  simp only [cc61, OI0, OI1, OI2, OI3, OI4, OI5, OI6, OI7, OI8, OI9, OI10, OI11, OI12, ↓reduceIte, reduceCtorEq, Nat.reduceAdd, Nat.reduceEqDiff, Nat.reduceBEq, Nat.reduceLT, Nat.reduceLeDiff, Nat.reduceMul, Nat.reduceSub, Int.reduceLE, Int.reduceLT, Int.reduceEq, Int.reduceBEq, Int.reduceBNe, Int.reduceToNat, Int.reduceNeg, Nat.reduceBNe, forall_eq_or_imp, partA, intsA, i64A]
  refine c145 m.ar f hm.ar ?_
  have hle := idxI_le m.ar f
  unfold ingR at h
  generalize hi : idxI m.ar f = k at hle h
  by_cases k0 : k < 0
  · simp only [OI0, OI1, OI2, OI3, OI4, OI5, OI6, OI7, OI8, OI9, OI10, OI11, OI12, ↓reduceIte, reduceCtorEq, Nat.reduceAdd, Nat.reduceEqDiff, Nat.reduceBEq, Nat.reduceLT, Nat.reduceLeDiff, Nat.reduceMul, Nat.reduceSub, Int.reduceLE, Int.reduceLT, Int.reduceEq, Int.reduceBEq, Int.reduceBNe, Int.reduceToNat, Int.reduceNeg, Nat.reduceBNe, forall_eq_or_imp, i64A, k0]
    simpa [k0, i64A] using h
  · simp only [OI0, OI1, OI2, OI3, OI4, OI5, OI6, OI7, OI8, OI9, OI10, OI11, OI12, ↓reduceIte, reduceCtorEq, Nat.reduceAdd, Nat.reduceEqDiff, Nat.reduceBEq, Nat.reduceLT, Nat.reduceLeDiff, Nat.reduceMul, Nat.reduceSub, Int.reduceLE, Int.reduceLT, Int.reduceEq, Int.reduceBEq, Int.reduceBNe, Int.reduceToNat, Int.reduceNeg, Nat.reduceBNe, forall_eq_or_imp, i64A, k0]
    have w1 : IntKind.i64.wrap (ownN m + m.lv.length) = ownN m + m.lv.length := wrI64 (by unfold ownN; omega) (by unfold ownN; omega)
    have w2 : IntKind.i64.wrap (ownN m + m.lv.length + k) = ownN m + m.lv.length + k := wrI64 (by unfold ownN; omega) (by unfold ownN; omega)
    have w3 : IntKind.i64.wrap (2 * (ownN m + m.lv.length + k)) = 2 * (ownN m + m.lv.length + k) := wrI64 (by unfold ownN; omega) (by unfold ownN; omega)
    have w4 : IntKind.i64.wrap (2 * (ownN m + m.lv.length + k) + 1) = 2 * (ownN m + m.lv.length + k) + 1 := wrI64 (by unfold ownN; omega) (by unfold ownN; omega)
    refine W_drawn ok61.small hmix (NT_sound _ ?_)
    simp only [OI0, OI1, OI2, OI3, OI4, OI5, OI6, OI7, OI8, OI9, OI10, OI11, OI12, ↓reduceIte, reduceCtorEq, Nat.reduceAdd, Nat.reduceEqDiff, Nat.reduceBEq, Nat.reduceLT, Nat.reduceLeDiff, Nat.reduceMul, Nat.reduceSub, Int.reduceLE, Int.reduceLT, Int.reduceEq, Int.reduceBEq, Int.reduceBNe, Int.reduceToNat, Int.reduceNeg, Nat.reduceBNe, forall_eq_or_imp]
    refine ⟨?_, ?_⟩ <;>
    · refine c146 m hm ?_
      simp only [OI0, OI1, OI2, OI3, OI4, OI5, OI6, OI7, OI8, OI9, OI10, OI11, OI12, ↓reduceIte, reduceCtorEq, Nat.reduceAdd, Nat.reduceEqDiff, Nat.reduceBEq, Nat.reduceLT, Nat.reduceLeDiff, Nat.reduceMul, Nat.reduceSub, Int.reduceLE, Int.reduceLT, Int.reduceEq, Int.reduceBEq, Int.reduceBNe, Int.reduceToNat, Int.reduceNeg, Nat.reduceBNe, forall_eq_or_imp, i64A, w1, w2, w3, w4]
      refine W_of_N ok61.small hmix ?_
      simp only [OI0, OI1, OI2, OI3, OI4, OI5, OI6, OI7, OI8, OI9, OI10, OI11, OI12, ↓reduceIte, reduceCtorEq, Nat.reduceAdd, Nat.reduceEqDiff, Nat.reduceBEq, Nat.reduceLT, Nat.reduceLeDiff, Nat.reduceMul, Nat.reduceSub, Int.reduceLE, Int.reduceLT, Int.reduceEq, Int.reduceBEq, Int.reduceBNe, Int.reduceToNat, Int.reduceNeg, Nat.reduceBNe, forall_eq_or_imp]
      simpa [k0, i64A] using h
theorem c62 (m : PM) (f : Int) (hm : PmOk m) {Q : AV → Al → Prop} (h : Q (.tup [i64A (ingR m f).1, .v (.bool (ingR m f).2)]) []) : ACalls Try.prog 62 [] [partA m, i64A f] Q := by
  have h1 := hm.ops
  have h2 := hm.lv
  have h3 := hm.ar
  refine ok62.N hmix rfl ?_
  intro I
  simp only [cc62, OI0, OI1, OI2, OI3, OI4, OI5, OI6, OI7, OI8, OI9, OI10, OI11, OI12, ↓reduceIte, reduceCtorEq, Nat.reduceAdd, Nat.reduceEqDiff, Nat.reduceBEq, Nat.reduceLT, Nat.reduceLeDiff, Nat.reduceMul, Nat.reduceSub, Int.reduceLE, Int.reduceLT, Int.reduceEq, Int.reduceBEq, Int.reduceBNe, Int.reduceToNat, Int.reduceNeg, Nat.reduceBNe, forall_eq_or_imp, partA, intsA, i64A]
  refine W_loop (st60 I m f) (fun i => i ≤ m.ar.length ∧ ∀ (j : Nat) y, j < i → m.ar[j]? = some y → ¬ f = y) (fun i => m.ar.length - i) (fun _ _ => rfl) ⟨0, ⟨by omega, fun j y hj => by omega⟩, ?_⟩ ?_
  · simp only [OI0, OI1, OI2, OI3, OI4, OI5, OI6, OI7, OI8, OI9, OI10, OI11, OI12, ↓reduceIte, reduceCtorEq, Nat.reduceAdd, Nat.reduceEqDiff, Nat.reduceBEq, Nat.reduceLT, Nat.reduceLeDiff, Nat.reduceMul, Nat.reduceSub, Int.reduceLE, Int.reduceLT, Int.reduceEq, Int.reduceBEq, Int.reduceBNe, Int.reduceToNat, Int.reduceNeg, Nat.reduceBNe, forall_eq_or_imp, st60, partA, intsA, i64A]
    try rfl
  rintro i ⟨hi, hall⟩
  refine W_of_N ok62.small hmix ?_
  by_cases hil : i < m.ar.length
  · have hil' : (i : Int) < m.ar.length := by omega
    have i0 : (0 : Int) ≤ i := by omega
    have hgi : m.ar[i]? = some m.ar[i] := List.getElem?_eq_getElem hil
    have w1 : IntKind.i64.wrap ((i : Int) + 1) = ((i + 1 : Nat) : Int) := by rw [wrI64 (by omega) (by omega)]; omega
    generalize m.ar[i] = y at hgi
    by_cases hxy : f = y
    · subst hxy
      simp only [OI0, OI1, OI2, OI3, OI4, OI5, OI6, OI7, OI8, OI9, OI10, OI11, OI12, ↓reduceIte, reduceCtorEq, Nat.reduceAdd, Nat.reduceEqDiff, Nat.reduceBEq, Nat.reduceLT, Nat.reduceLeDiff, Nat.reduceMul, Nat.reduceSub, Int.reduceLE, Int.reduceLT, Int.reduceEq, Int.reduceBEq, Int.reduceBNe, Int.reduceToNat, Int.reduceNeg, Nat.reduceBNe, forall_eq_or_imp, st60, partA, intsA, i64A, hil', i0, hgi, beq_self_eq_true]
      have e : ingR m f = (2 * (ownN m + m.lv.length + i) + 1, true) := by rw [ingR, idxI_at hgi hall, if_neg (by omega)]
      rw [e] at h
      have w1 : IntKind.i64.wrap (ownN m + m.lv.length) = ownN m + m.lv.length := wrI64 (by unfold ownN; omega) (by unfold ownN; omega)
      have w2 : IntKind.i64.wrap (ownN m + m.lv.length + i) = ownN m + m.lv.length + i := wrI64 (by unfold ownN; omega) (by unfold ownN; omega)
      have w3 : IntKind.i64.wrap (2 * (ownN m + m.lv.length + i)) = 2 * (ownN m + m.lv.length + i) := wrI64 (by unfold ownN; omega) (by unfold ownN; omega)
      have w4 : IntKind.i64.wrap (2 * (ownN m + m.lv.length + i) + 1) = 2 * (ownN m + m.lv.length + i) + 1 := wrI64 (by unfold ownN; omega) (by unfold ownN; omega)
      refine W_drawn ok62.small hmix (NT_sound _ ?_)
      simp only [OI0, OI1, OI2, OI3, OI4, OI5, OI6, OI7, OI8, OI9, OI10, OI11, OI12, ↓reduceIte, reduceCtorEq, Nat.reduceAdd, Nat.reduceEqDiff, Nat.reduceBEq, Nat.reduceLT, Nat.reduceLeDiff, Nat.reduceMul, Nat.reduceSub, Int.reduceLE, Int.reduceLT, Int.reduceEq, Int.reduceBEq, Int.reduceBNe, Int.reduceToNat, Int.reduceNeg, Nat.reduceBNe, forall_eq_or_imp]
      refine ⟨?_, ?_⟩ <;>
      · refine c147 m hm ?_
        simp only [OI0, OI1, OI2, OI3, OI4, OI5, OI6, OI7, OI8, OI9, OI10, OI11, OI12, ↓reduceIte, reduceCtorEq, Nat.reduceAdd, Nat.reduceEqDiff, Nat.reduceBEq, Nat.reduceLT, Nat.reduceLeDiff, Nat.reduceMul, Nat.reduceSub, Int.reduceLE, Int.reduceLT, Int.reduceEq, Int.reduceBEq, Int.reduceBNe, Int.reduceToNat, Int.reduceNeg, Nat.reduceBNe, forall_eq_or_imp, i64A, w1, w2, w3, w4]
        refine W_of_N ok62.small hmix ?_
        simp only [OI0, OI1, OI2, OI3, OI4, OI5, OI6, OI7, OI8, OI9, OI10, OI11, OI12, ↓reduceIte, reduceCtorEq, Nat.reduceAdd, Nat.reduceEqDiff, Nat.reduceBEq, Nat.reduceLT, Nat.reduceLeDiff, Nat.reduceMul, Nat.reduceSub, Int.reduceLE, Int.reduceLT, Int.reduceEq, Int.reduceBEq, Int.reduceBNe, Int.reduceToNat, Int.reduceNeg, Nat.reduceBNe, forall_eq_or_imp]
        exact h
    · simp only [OI0, OI1, OI2, OI3, OI4, OI5, OI6, OI7, OI8, OI9, OI10, OI11, OI12, ↓reduceIte, reduceCtorEq, Nat.reduceAdd, Nat.reduceEqDiff, Nat.reduceBEq, Nat.reduceLT, Nat.reduceLeDiff, Nat.reduceMul, Nat.reduceSub, Int.reduceLE, Int.reduceLT, Int.reduceEq, Int.reduceBEq, Int.reduceBNe, Int.reduceToNat, Int.reduceNeg, Nat.reduceBNe, forall_eq_or_imp, st60, partA, intsA, i64A, hil', i0, hgi, beqF (fun e => hxy (Eq.symm e)), w1]
      refine ⟨i + 1, ⟨⟨by omega, fun j z hj hz => ?_⟩, by omega⟩, ?_⟩
      · by_cases he : j = i
        · subst he; rw [hgi] at hz; obtain rfl := Option.some.inj hz; exact hxy
        · exact hall j z (by omega) hz
      · simp only [OI0, OI1, OI2, OI3, OI4, OI5, OI6, OI7, OI8, OI9, OI10, OI11, OI12, ↓reduceIte, reduceCtorEq, Nat.reduceAdd, Nat.reduceEqDiff, Nat.reduceBEq, Nat.reduceLT, Nat.reduceLeDiff, Nat.reduceMul, Nat.reduceSub, Int.reduceLE, Int.reduceLT, Int.reduceEq, Int.reduceBEq, Int.reduceBNe, Int.reduceToNat, Int.reduceNeg, Nat.reduceBNe, forall_eq_or_imp, st60, partA, intsA, i64A]
  · obtain rfl : i = m.ar.length := by omega
    simp only [OI0, OI1, OI2, OI3, OI4, OI5, OI6, OI7, OI8, OI9, OI10, OI11, OI12, ↓reduceIte, reduceCtorEq, Nat.reduceAdd, Nat.reduceEqDiff, Nat.reduceBEq, Nat.reduceLT, Nat.reduceLeDiff, Nat.reduceMul, Nat.reduceSub, Int.reduceLE, Int.reduceLT, Int.reduceEq, Int.reduceBEq, Int.reduceBNe, Int.reduceToNat, Int.reduceNeg, Nat.reduceBNe, forall_eq_or_imp, st60, partA, intsA, i64A, Int.lt_irrefl]
    have e : ingR m f = (0, false) := by rw [ingR, idxI_no fun j y hy => hall j y (List.getElem?_eq_some_iff.1 hy).1 hy, if_pos (by omega)]
    rw [e] at h
    exact h
end Go.Proofs.Ythlehngbadianaa.Ow
