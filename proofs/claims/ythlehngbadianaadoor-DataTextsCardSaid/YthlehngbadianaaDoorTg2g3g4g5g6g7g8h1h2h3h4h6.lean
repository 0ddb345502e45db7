/- What the functions of the program do, each once: contracts of the logic (part g2 g3 g4 g5 g6 g7 g8 h1 h2 h3 h4 h6). -/
import Derived.Test.YthlehngbadianaaDoorTd1g1
import Derived.Test.YthlehngbadianaaDoorOwWeakNil
set_option linter.unusedVariables false
set_option linter.unusedSimpArgs false
set_option linter.unnecessarySimpa false
set_option maxRecDepth 100000
set_option maxHeartbeats 4000000
namespace Go.Proofs.YthlehngbadianaaDoor.Ow
open Go Go.RowKit Go.Proofs
/- (watershed/graph.Graph).loop -/
/- watershed/watershedref09.loopOf -/
/- (watershed/graph.Op).numbers -/
/- watershed/watershedref09.numbers -/
/- (watershed/graph.Graph).channels$1 -/
/-- Are an operator's numbers as they must be? -/
def numOk (o : O6) : Bool :=
  if o.k = 3 then true
  else if o.k = 4 then decide (1 ≤ o.a ∧ o.a ≤ 1000 ∧ 0 ≤ o.b ∧ o.b < o.a)
  else if o.k = 6 then decide (1 ≤ o.a ∧ o.a ≤ 1000 ∧ o.b = 0)
  else if o.k = 10 then decide (0 ≤ o.a ∧ o.a ≤ 1000 ∧ o.b = 0)
  else decide (o.a = 0 ∧ o.b = 0)
end Go.Proofs.YthlehngbadianaaDoor.Ow
set_option maxRecDepth 100000
set_option maxHeartbeats 4000000
namespace Go.Proofs.YthlehngbadianaaDoor.Ow
open Go Go.RowKit Go.Proofs
theorem kinds (k : Int) (h1 : 1 ≤ k) (h2 : k ≤ 14) : k = 1 ∨ k = 2 ∨ k = 3 ∨ k = 4 ∨ k = 5 ∨ k = 6 ∨ k = 7 ∨ k = 8 ∨ k = 9 ∨ k = 10 ∨ k = 11 ∨ k = 12 ∨ k = 13 ∨ k = 14 := by omega
/- watershed/watershedref09.Word -/
/- watershed/graph.formOf -/
/- watershed/graph.forms -/
end Go.Proofs.YthlehngbadianaaDoor.Ow
set_option maxRecDepth 100000
set_option maxHeartbeats 4000000
namespace Go.Proofs.YthlehngbadianaaDoor.Ow
open Go Go.RowKit Go.Proofs
/- watershed/watershedref08.Name -/
/- watershed/watershedref09.name -/
/- slices.Contains[[]watershed/graph.Channel,watershed/graph.Channel] -/
/- slices.Index[[]watershed/graph.Channel,watershed/graph.Channel] -/
end Go.Proofs.YthlehngbadianaaDoor.Ow
set_option maxRecDepth 100000
set_option maxHeartbeats 4000000
namespace Go.Proofs.YthlehngbadianaaDoor.Ow
open Go Go.RowKit Go.Proofs
/- (watershed/graph.Graph).clusters -/
/- (watershed/graph.Graph).loops -/
def lns (l : List Lo) : List ByteArray := l.map (·.1)
end Go.Proofs.YthlehngbadianaaDoor.Ow
set_option maxRecDepth 100000
set_option maxHeartbeats 4000000
namespace Go.Proofs.YthlehngbadianaaDoor.Ow
open Go Go.RowKit Go.Proofs
/- (watershed/graph.Graph).ops -/
/- watershed/watershedref09.op -/
end Go.Proofs.YthlehngbadianaaDoor.Ow
set_option maxRecDepth 100000
set_option maxHeartbeats 4000000
namespace Go.Proofs.YthlehngbadianaaDoor.Ow
open Go Go.RowKit Go.Proofs
/- (watershed/graph.Graph).channels -/
/- watershed/watershedref09.channel -/
end Go.Proofs.YthlehngbadianaaDoor.Ow
set_option maxRecDepth 100000
set_option maxHeartbeats 4000000
namespace Go.Proofs.YthlehngbadianaaDoor.Ow
open Go Go.RowKit Go.Proofs
structure OpFine (g : Gr) (o : O6) : Prop where
  k1 : 1 ≤ o.k
  k2 : o.k ≤ 14
  l1 : -1 ≤ o.lo
  l2 : o.lo < g.lo.length
  a1 : 0 ≤ o.at_
  a2 : o.at_ < g.cl.length
  out : o.k ≤ 2 → o.lo = -1
  inn : 7 ≤ o.k → o.k ≤ 9 → o.lo ≠ -1
  num : numOk o = true
structure Fine (g : Gr) : Prop where
  cl4 : g.cl.length ≤ 4
  lo6 : g.lo.length ≤ 6
  op24 : g.op.length ≤ 24
  ch48 : g.ch.length ≤ 48
  wf : WfL g.lo g.lo.length
  op : ∀ (m : Nat) o, g.op[m]? = some o → OpFine g o
  ch : ∀ (i : Nat) c, g.ch[i]? = some c → ∃ x y, 0 ≤ c.1 ∧ c.1 < g.op.length ∧ 0 ≤ c.2 ∧ c.2 < g.op.length ∧ g.op[c.1.toNat]? = some x ∧ g.op[c.2.toNat]? = some y
end Go.Proofs.YthlehngbadianaaDoor.Ow
set_option maxRecDepth 100000
set_option maxHeartbeats 4000000
namespace Go.Proofs.YthlehngbadianaaDoor.Ow
open Go Go.RowKit Go.Proofs
/-! A cluster's part of a graph, in plain Lean. -/
/-- Decimal digits. -/
def digs (u : Nat) : List UInt8 := if h : u < 10 then [(UInt8.ofNat (48 + u))] else digs (u / 10) ++ [UInt8.ofNat (48 + u % 10)]
termination_by u
decreasing_by omega
def decL (v : Int) : List UInt8 := if v < 0 then 45 :: digs v.natAbs else digs v.natAbs
def decB (v : Int) : ByteArray := ⟨(decL v).toArray⟩
structure PM where
  g : Gr
  ops : List Int
  lv : List Int
  ar : List Int
end Go.Proofs.YthlehngbadianaaDoor.Ow
set_option maxRecDepth 100000
set_option maxHeartbeats 4000000
namespace Go.Proofs.YthlehngbadianaaDoor.Ow
open Go Go.RowKit Go.Proofs
/- watershed/graph.Check -/
/- watershed/watershedref09.Check -/
/-- Names are not too long to be counted. -/
structure NmOk (g : Gr) : Prop where
  cl : ∀ (i : Nat) c, g.cl[i]? = some c → c.1.size ≤ 1000000
  lo : ∀ (i : Nat) c, g.lo[i]? = some c → c.1.size ≤ 1000000
  op : ∀ (i : Nat) c, g.op[i]? = some c → c.nm.size ≤ 1000000
end Go.Proofs.YthlehngbadianaaDoor.Ow
set_option maxRecDepth 100000
set_option maxHeartbeats 4000000
namespace Go.Proofs.YthlehngbadianaaDoor.Ow
open Go Go.RowKit Go.Proofs
end Go.Proofs.YthlehngbadianaaDoor.Ow
set_option maxRecDepth 100000
set_option maxHeartbeats 4000000
namespace Go.Proofs.YthlehngbadianaaDoor.Ow
open Go Go.RowKit Go.Proofs
/- watershed/watershedlaw09.Great -/
/- watershed/watershedlaw09.To -/
/- watershed/watershedref01.Same -/
/-- Too much to be asked. -/
structure Small (g : Gr) : Prop where
  cl : g.cl.length ≤ 50
  lo : g.lo.length ≤ 50
  op : g.op.length ≤ 100
  ch : g.ch.length ≤ 100
  ncl : ∀ (i : Nat) c, g.cl[i]? = some c → c.1.size ≤ 1000
  nlo : ∀ (i : Nat) c, g.lo[i]? = some c → c.1.size ≤ 1000
  nop : ∀ (i : Nat) c, g.op[i]? = some c → c.nm.size ≤ 1000
theorem Small.nm {g : Gr} (h : Small g) : NmOk g := ⟨fun i c hc => by have := h.ncl i c hc; omega, fun i c hc => by have := h.nlo i c hc; omega, fun i c hc => by have := h.nop i c hc; omega⟩
end Go.Proofs.YthlehngbadianaaDoor.Ow
set_option maxRecDepth 100000
set_option maxHeartbeats 4000000
namespace Go.Proofs.YthlehngbadianaaDoor.Ow
open Go Go.RowKit Go.Proofs
/- watershed/words.Number -/
def cc198 : CC := (.seq (.region [⟨none, 2, (.val (.mv (.c (.string ⟨#[]⟩)))), [2], none, []⟩]) (.seq (.region [⟨none, 3, (.alloc (.agg #[(.int .u8 0), (.int .u8 0), (.int .u8 0), (.int .u8 0), (.int .u8 0), (.int .u8 0), (.int .u8 0), (.int .u8 0), (.int .u8 0), (.int .u8 0), (.int .u8 0), (.int .u8 0), (.int .u8 0), (.int .u8 0), (.int .u8 0), (.int .u8 0), (.int .u8 0), (.int .u8 0), (.int .u8 0), (.int .u8 0)])), [], none, []⟩]) (.seq (.region [⟨none, 4, (.val (.mv (.c (.int .i64 20)))), [], none, []⟩]) (.seq (.region [⟨none, 6, (.val (.mv (.s 0))), [], none, []⟩, ⟨none, 7, (.val (.cvi .u64 (.s 6))), [6], none, []⟩, ⟨none, 5, (.val (.mv (.s 7))), [7], none, []⟩]) (.seq (.seq (.region [⟨none, 8, (.val (.mv (.s 0))), [], none, []⟩, ⟨none, 9, (.val (.bin .lss (.s 8) (.c (.int .i64 0)))), [8], none, []⟩]) (.cond (.s 9) (.region [⟨none, 10, (.val (.mv (.s 5))), [5, 9], none, []⟩, ⟨none, 11, (.val (.un .neg (.s 10))), [10], none, []⟩, ⟨none, 5, (.val (.mv (.s 11))), [11], none, []⟩]) .skip)) (.seq (.block 0 (.loop (.block 1 (.seq (.region [⟨none, 12, (.val (.mv (.s 4))), [4, 9, 23], none, []⟩, ⟨none, 13, (.val (.bin .sub (.s 12) (.c (.int .i64 1)))), [12], none, []⟩, ⟨none, 4, (.val (.mv (.s 13))), [13], none, []⟩]) (.seq (.region [⟨none, 14, (.val (.mv (.s 4))), [], none, []⟩, ⟨none, 15, (.val (.mv (.s 5))), [], none, []⟩, ⟨none, 16, (.val (.bin .rem (.s 15) (.c (.int .u64 10)))), [15], none, []⟩, ⟨none, 17, (.val (.bin .add (.c (.int .u64 48)) (.s 16))), [16], none, []⟩, ⟨none, 18, (.val (.cvi .u8 (.s 17))), [17], none, []⟩, ⟨none, 19, (.val (.iaa (.s 3) (.s 14) 20 1)), [14], none, []⟩, ⟨none, 0, (.store 1 (.s 19) (.s 18)), [18, 19], none, []⟩]) (.seq (.region [⟨none, 20, (.val (.mv (.s 5))), [5], none, []⟩, ⟨none, 21, (.val (.bin .quo (.s 20) (.c (.int .u64 10)))), [20], none, []⟩, ⟨none, 5, (.val (.mv (.s 21))), [21], none, []⟩]) (.seq (.region [⟨none, 22, (.val (.mv (.s 5))), [], none, []⟩, ⟨none, 23, (.val (.bin .eql (.s 22) (.c (.int .u64 0)))), [22], none, []⟩]) (.cond (.s 23) (.exit 0) .skip)))))))) (.seq (.seq (.region [⟨none, 24, (.val (.mv (.s 0))), [0, 5, 23], none, []⟩, ⟨none, 25, (.val (.bin .lss (.s 24) (.c (.int .i64 0)))), [24], none, []⟩]) (.cond (.s 25) (.seq (.region [⟨none, 26, (.val (.mv (.s 4))), [4, 25], none, []⟩, ⟨none, 27, (.val (.bin .sub (.s 26) (.c (.int .i64 1)))), [26], none, []⟩, ⟨none, 4, (.val (.mv (.s 27))), [27], none, []⟩]) (.region [⟨none, 28, (.val (.mv (.s 4))), [], none, []⟩, ⟨none, 29, (.val (.iaa (.s 3) (.s 28) 20 1)), [28], none, []⟩, ⟨none, 0, (.store 1 (.s 29) (.c (.int .u8 45))), [29], none, []⟩])) .skip)) (.seq (.region [⟨none, 30, (.val (.mv (.s 4))), [4, 25], none, []⟩, ⟨none, 31, (.val (.sla (.s 3) (some (.s 30)) none none 20 1)), [3, 30], none, []⟩, ⟨none, 32, (.val (.b2s (.s 31))), [31], none, []⟩, ⟨none, 2, (.val (.mv (.s 32))), [32], none, []⟩]) .ret))))))))
theorem ok198 : FnOk Tryd.prog 20 cc198 [(.t 2)] 1 33 := ⟨⟨_, Tryd.func20, by kernel_rfl, by kernel_rfl, by kernel_rfl⟩, by decide, by decide⟩
/- watershed/watershedref08.Number -/
def cc152 : CC := (.seq (.region [⟨none, 2, (.val (.mv (.c (.string ⟨#[]⟩)))), [2], none, []⟩]) (.seq (.region [⟨none, 3, (.val (.mv (.c (.string ⟨#[]⟩)))), [], none, []⟩]) (.seq (.region [⟨none, 4, (.val (.mv (.c (.string ⟨#[]⟩)))), [], none, []⟩]) (.seq (.region [⟨none, 7, (.val (.mv (.s 0))), [], none, []⟩, ⟨none, 8, (.val (.cvi .u64 (.s 7))), [7], none, []⟩, ⟨none, 5, (.val (.mv (.s 8))), [8], none, []⟩]) (.seq (.seq (.region [⟨none, 9, (.val (.mv (.s 0))), [0], none, []⟩, ⟨none, 10, (.val (.bin .lss (.s 9) (.c (.int .i64 0)))), [9], none, []⟩]) (.cond (.s 10) (.seq (.region [⟨none, 4, (.val (.mv (.c (.string ⟨#[45]⟩)))), [10], none, []⟩]) (.region [⟨none, 11, (.val (.mv (.s 5))), [5], none, []⟩, ⟨none, 12, (.val (.un .neg (.s 11))), [11], none, []⟩, ⟨none, 5, (.val (.mv (.s 12))), [12], none, []⟩])) .skip)) (.seq (.seq (.region [⟨none, 6, (.val (.mv (.c (.int .i64 0)))), [10], none, []⟩]) (.block 0 (.loop (.seq (.seq (.region [⟨none, 13, (.val (.mv (.s 6))), [], none, []⟩, ⟨none, 14, (.val (.bin .lss (.s 13) (.c (.int .i64 20)))), [13], none, []⟩]) (.cond (.s 14) .skip (.exit 0))) (.seq (.block 1 (.seq (.region [⟨none, 17, (.val (.mv (.s 5))), [14], none, []⟩, ⟨none, 18, (.val (.bin .rem (.s 17) (.c (.int .u64 10)))), [17], none, []⟩, ⟨none, 19, (.val (.bin .add (.c (.int .u64 48)) (.s 18))), [18], none, []⟩, ⟨none, 20, (.val (.cvi .u8 (.s 19))), [19], none, []⟩, ⟨none, 21, (.lit 1 [(.s 20)]), [20], none, []⟩, ⟨none, 22, (.val (.b2s (.s 21))), [21], none, []⟩, ⟨none, 23, (.val (.mv (.s 3))), [3], none, []⟩, ⟨none, 24, (.val (.bin .add (.s 22) (.s 23))), [22, 23], none, []⟩, ⟨none, 3, (.val (.mv (.s 24))), [24], none, []⟩]) (.seq (.region [⟨none, 25, (.val (.mv (.s 5))), [5], none, []⟩, ⟨none, 26, (.val (.bin .quo (.s 25) (.c (.int .u64 10)))), [25], none, []⟩, ⟨none, 5, (.val (.mv (.s 26))), [26], none, []⟩]) (.seq (.region [⟨none, 27, (.val (.mv (.s 5))), [], none, []⟩, ⟨none, 28, (.val (.bin .eql (.s 27) (.c (.int .u64 0)))), [27], none, []⟩]) (.cond (.s 28) (.exit 0) .skip))))) (.region [⟨none, 15, (.val (.mv (.s 6))), [6, 28], none, []⟩, ⟨none, 16, (.val (.bin .add (.s 15) (.c (.int .i64 1)))), [15], none, []⟩, ⟨none, 6, (.val (.mv (.s 16))), [16], none, []⟩])))))) (.seq (.region [⟨none, 29, (.val (.mv (.s 4))), [4, 5, 6, 14, 28], none, []⟩, ⟨none, 30, (.val (.mv (.s 3))), [3], none, []⟩, ⟨none, 31, (.val (.bin .add (.s 29) (.s 30))), [29, 30], none, []⟩, ⟨none, 2, (.val (.mv (.s 31))), [31], none, []⟩]) .ret)))))))
theorem ok152 : FnOk Tryd.prog 22 cc152 [(.t 2)] 1 32 := ⟨⟨_, Tryd.func22, by kernel_rfl, by kernel_rfl, by kernel_rfl⟩, by decide, by decide⟩
def dg (u : Nat) : UInt8 := UInt8.ofNat (48 + u % 10)
theorem digs_small {u : Nat} (h : u < 10) : digs u = [dg u] := by rw [digs, dif_pos h, dg, Nat.mod_eq_of_lt h]
theorem digs_big {u : Nat} (h : ¬ u < 10) : digs u = digs (u / 10) ++ [dg u] := by rw [digs, dif_neg h, dg]
theorem digs_len : ∀ (k u : Nat), u < 10 ^ (k + 1) → (digs u).length ≤ k + 1
  | 0, u, h => by rw [digs_small (by simpa using h)]; simp
  | k + 1, u, h => by
    by_cases hu : u < 10
    · rw [digs_small hu]; simp
    · rw [digs_big hu, List.length_append]
      have := digs_len k (u / 10) (by rw [Nat.pow_succ] at h; omega)
      simp; omega
theorem digs_pos (u : Nat) : 1 ≤ (digs u).length := by
  by_cases hu : u < 10
  · rw [digs_small hu]; simp
  · rw [digs_big hu]; simp
theorem digs_64 {v : Int} (h0 : -9223372036854775808 ≤ v) (h1 : v < 9223372036854775808) : (digs v.natAbs).length ≤ 19 := digs_len 18 _ (by omega)
def arA (l : List UInt8) : AV := .agg (bsA l)
def st198 (I : World → Fp → Value → Fp → Prop) (v : Int) : List UInt8 × Nat × Nat → St
  | (l, a, u) => ⟨[(0, .v (.int .i64 v)), (4, .v (.int .i64 a)), (5, .v (.int .u64 u)), (3, .ref ⟨1003, [], 0⟩)], [(1003, arA l), (9999, .ext I)], []⟩
theorem wr_neg {v : Int} (h0 : -9223372036854775808 ≤ v) (h : v < 0) : IntKind.u64.wrap (0 - (IntKind.u64.wrap v)) = (v.natAbs : Int) := by
  simp only [IntKind.wrap, IntKind.bits, IntKind.signed]; simp; omega
theorem wr_pos {v : Int} (h1 : v < 9223372036854775808) (h : ¬ v < 0) : IntKind.u64.wrap v = (v.natAbs : Int) := by
  simp only [IntKind.wrap, IntKind.bits, IntKind.signed]; simp; omega
theorem dg_val (u : Nat) : IntKind.u8.wrap (IntKind.u64.wrap (48 + (u : Int).tmod 10)) = ((dg u).toNat : Int) := by
  rw [Int.tmod_eq_emod_of_nonneg (by omega)]
  have : IntKind.u64.wrap (48 + (u : Int) % 10) = ((48 + u % 10 : Nat) : Int) := by
    simp only [IntKind.wrap, IntKind.bits, IntKind.signed]; simp; omega
  rw [this, wrap_u8, dg, ofNat_toNat (by omega)]; omega
theorem div10 {u : Nat} (h : u < 18446744073709551616) : IntKind.u64.wrap ((u : Int).tdiv 10) = ((u / 10 : Nat) : Int) := by
  rw [Int.tdiv_eq_ediv_of_nonneg (by omega)]
  simp only [IntKind.wrap, IntKind.bits, IntKind.signed]; simp; omega
theorem bsA_set (l : List UInt8) (b : Nat) (x : UInt8) : (bsA l).set b (AV.v (Value.int IntKind.u8 (x.toNat : Int))) = bsA (l.set b x) := by simp [bsA, u8A, List.map_set]
theorem drop_set1 {l : List UInt8} {b : Nat} {x : UInt8} (h : b < l.length) : (l.set b x).drop b = x :: l.drop (b + 1) := by
  rw [List.drop_eq_getElem_cons (by simp; exact h)]
  simp [List.drop_set_of_lt]
theorem okB20 {b : Nat} (h : b ≤ 20) : okBounds 20 (some (b : Int)) none none = some (b, 20, 20) := by
  simp [okBounds]
  omega
theorem takeDrop20 {l : List UInt8} {b : Nat} (h : l.length ≤ 20) : List.mapM byteV (List.take (20 - b) (List.drop b (bsA l))) = some (l.drop b) := by
  rw [List.take_of_length_le (by simp [bsA]; omega)]
  rw [show List.drop b (bsA l) = bsA (l.drop b) by simp [bsA]]
  exact mapM_bsA _
theorem c198 (v : Int) (h0 : -9223372036854775808 ≤ v) (h1 : v < 9223372036854775808) {Q : AV → Al → Prop} (h : Q (.v (.string (decB v))) []) : ACalls Tryd.prog 20 [] [i64A v] Q := by
  refine ok198.N hmix rfl ?_
  intro I
  have hd := digs_64 h0 h1
  by_cases n0 : v < 0
  · simp only [cc198, OI, ↓reduceIte, reduceCtorEq, Nat.reduceAdd, Nat.reduceEqDiff, Nat.reduceBEq, Nat.reduceLT, Nat.reduceLeDiff, Nat.reduceMul, Nat.reduceSub, Int.reduceLE, Int.reduceLT, Int.reduceEq, Int.reduceBEq, Int.reduceBNe, Int.reduceToNat, Int.reduceNeg, Nat.reduceBNe, i64A, n0, wr_neg h0 n0]
    refine W_loop (st198 I v) (fun a => a.1.length = 20 ∧ digs a.2.2 ++ a.1.drop a.2.1 = digs v.natAbs ∧ a.2.1 ≤ 20 ∧ a.2.2 < 18446744073709551616) (fun a => a.2.2 + a.2.1) (fun _ _ => rfl) ⟨([0, 0, 0, 0, 0, 0, 0, 0, 0, 0, 0, 0, 0, 0, 0, 0, 0, 0, 0, 0], 20, v.natAbs), ⟨rfl, by simp, by simp, by simp only; omega⟩, ?_⟩ ?_
    · simp only [OI, ↓reduceIte, reduceCtorEq, Nat.reduceAdd, Nat.reduceEqDiff, Nat.reduceBEq, Nat.reduceLT, Nat.reduceLeDiff, Nat.reduceMul, Nat.reduceSub, Int.reduceLE, Int.reduceLT, Int.reduceEq, Int.reduceBEq, Int.reduceBNe, Int.reduceToNat, Int.reduceNeg, Nat.reduceBNe, st198, arA]
      try rfl
    rintro ⟨l, a, u⟩ ⟨k1, k2, k3, k4⟩
    simp only at k1 k2 k3 k4
    refine W_of_N ok198.small hmix ?_
    have hp := digs_pos u
    have hlen := congrArg List.length k2
    simp only [List.length_append, List.length_drop] at hlen
    obtain ⟨c, rfl⟩ : ∃ c, a = c + 2 := ⟨a - 2, by omega⟩
    have b0 : (0 : Int) ≤ ((c + 1 : Nat) : Int) := by omega
    have b20 : ((c + 1 : Nat) : Int) < 20 := by omega
    have c0 : (0 : Int) ≤ ((c : Nat) : Int) := by omega
    have c20 : ((c : Nat) : Int) < 20 := by omega
    have w1 : IntKind.i64.wrap (((c + 2 : Nat) : Int) - 1) = ((c + 1 : Nat) : Int) := by rw [wrI64 (by omega) (by omega)]; omega
    have w2 : IntKind.i64.wrap (((c + 1 : Nat) : Int) - 1) = c := by rw [wrI64 (by omega) (by omega)]; omega
    have hs := bsA_set l (c + 1) (dg u)
    have hl1 : c + 1 + 1 ≤ (bsA l).length := by rw [bsA_len]; omega
    have hdr := drop_set1 (l := l) (b := c + 1) (x := dg u) (by omega)
    by_cases u10 : u < 10
    · have z : ((u / 10 : Nat) : Int) = 0 := by omega
      simp only [OI, ↓reduceIte, reduceCtorEq, Nat.reduceAdd, Nat.reduceEqDiff, Nat.reduceBEq, Nat.reduceLT, Nat.reduceLeDiff, Nat.reduceMul, Nat.reduceSub, Int.reduceLE, Int.reduceLT, Int.reduceEq, Int.reduceBEq, Int.reduceBNe, Int.reduceToNat, Int.reduceNeg, Nat.reduceBNe, st198, arA, w1, b0, b20, dg_val, div10 k4, Int.toNat_natCast, hs, beqT z, n0, w2, c0, c20]
      rw [digs_small u10] at k2
      have hdr2 := drop_set1 (l := l.set (c + 1) (dg u)) (b := c) (x := 45) (by simp; omega)
      have hs2 : (bsA (l.set (c + 1) (dg u))).set c (AV.v (Value.int IntKind.u8 45)) = bsA ((l.set (c + 1) (dg u)).set c 45) := bsA_set _ c 45
      have hl2 : (bsA (l.set (c + 1) (dg u))).length = 20 := by rw [bsA_len, List.length_set]; exact k1
      refine ⟨hl1, by rw [hl2]; omega, by rw [hl2]; omega, _, okB20 (by omega), ?_⟩
      simp only
      rw [if_pos (by rw [hl2]; omega), hs2]
      refine ⟨_, rfl, _, takeDrop20 (by simp; omega), ?_⟩
      rw [hdr2, hdr]
      have e : decB v = ⟨(45 :: dg u :: List.drop (c + 2) l).toArray⟩ := by
        rw [decB, decL, if_pos n0, ← k2]; rfl
      rw [e] at h; exact h
    · have z : ¬ ((u / 10 : Nat) : Int) = 0 := by omega
      simp only [OI, ↓reduceIte, reduceCtorEq, Nat.reduceAdd, Nat.reduceEqDiff, Nat.reduceBEq, Nat.reduceLT, Nat.reduceLeDiff, Nat.reduceMul, Nat.reduceSub, Int.reduceLE, Int.reduceLT, Int.reduceEq, Int.reduceBEq, Int.reduceBNe, Int.reduceToNat, Int.reduceNeg, Nat.reduceBNe, st198, arA, w1, b0, b20, dg_val, div10 k4, Int.toNat_natCast, hs, beqF z]
      refine ⟨hl1, ⟨(l.set (c + 1) (dg u), c + 1, u / 10), ⟨⟨by simp; omega, ?_, by simp only; omega, by simp only; omega⟩, by simp only; omega⟩, ?_⟩⟩
      · simp only
        rw [hdr, ← k2, digs_big u10]; simp
      · simp only [OI, ↓reduceIte, reduceCtorEq, Nat.reduceAdd, Nat.reduceEqDiff, Nat.reduceBEq, Nat.reduceLT, Nat.reduceLeDiff, Nat.reduceMul, Nat.reduceSub, Int.reduceLE, Int.reduceLT, Int.reduceEq, Int.reduceBEq, Int.reduceBNe, Int.reduceToNat, Int.reduceNeg, Nat.reduceBNe, st198, arA]
  · simp only [cc198, OI, ↓reduceIte, reduceCtorEq, Nat.reduceAdd, Nat.reduceEqDiff, Nat.reduceBEq, Nat.reduceLT, Nat.reduceLeDiff, Nat.reduceMul, Nat.reduceSub, Int.reduceLE, Int.reduceLT, Int.reduceEq, Int.reduceBEq, Int.reduceBNe, Int.reduceToNat, Int.reduceNeg, Nat.reduceBNe, i64A, n0, wr_pos h1 n0]
    refine W_loop (st198 I v) (fun a => a.1.length = 20 ∧ digs a.2.2 ++ a.1.drop a.2.1 = digs v.natAbs ∧ a.2.1 ≤ 20 ∧ a.2.2 < 18446744073709551616) (fun a => a.2.2 + a.2.1) (fun _ _ => rfl) ⟨([0, 0, 0, 0, 0, 0, 0, 0, 0, 0, 0, 0, 0, 0, 0, 0, 0, 0, 0, 0], 20, v.natAbs), ⟨rfl, by simp, by simp, by simp only; omega⟩, ?_⟩ ?_
    · simp only [OI, ↓reduceIte, reduceCtorEq, Nat.reduceAdd, Nat.reduceEqDiff, Nat.reduceBEq, Nat.reduceLT, Nat.reduceLeDiff, Nat.reduceMul, Nat.reduceSub, Int.reduceLE, Int.reduceLT, Int.reduceEq, Int.reduceBEq, Int.reduceBNe, Int.reduceToNat, Int.reduceNeg, Nat.reduceBNe, st198, arA]
      try rfl
    rintro ⟨l, a, u⟩ ⟨k1, k2, k3, k4⟩
    simp only at k1 k2 k3 k4
    refine W_of_N ok198.small hmix ?_
    have hp := digs_pos u
    have hlen := congrArg List.length k2
    simp only [List.length_append, List.length_drop] at hlen
    obtain ⟨c, rfl⟩ : ∃ c, a = c + 2 := ⟨a - 2, by omega⟩
    have b0 : (0 : Int) ≤ ((c + 1 : Nat) : Int) := by omega
    have b20 : ((c + 1 : Nat) : Int) < 20 := by omega
    have c0 : (0 : Int) ≤ ((c : Nat) : Int) := by omega
    have c20 : ((c : Nat) : Int) < 20 := by omega
    have w1 : IntKind.i64.wrap (((c + 2 : Nat) : Int) - 1) = ((c + 1 : Nat) : Int) := by rw [wrI64 (by omega) (by omega)]; omega
    have w2 : IntKind.i64.wrap (((c + 1 : Nat) : Int) - 1) = c := by rw [wrI64 (by omega) (by omega)]; omega
    have hs := bsA_set l (c + 1) (dg u)
    have hl1 : c + 1 + 1 ≤ (bsA l).length := by rw [bsA_len]; omega
    have hdr := drop_set1 (l := l) (b := c + 1) (x := dg u) (by omega)
    by_cases u10 : u < 10
    · have z : ((u / 10 : Nat) : Int) = 0 := by omega
      simp only [OI, ↓reduceIte, reduceCtorEq, Nat.reduceAdd, Nat.reduceEqDiff, Nat.reduceBEq, Nat.reduceLT, Nat.reduceLeDiff, Nat.reduceMul, Nat.reduceSub, Int.reduceLE, Int.reduceLT, Int.reduceEq, Int.reduceBEq, Int.reduceBNe, Int.reduceToNat, Int.reduceNeg, Nat.reduceBNe, st198, arA, w1, b0, b20, dg_val, div10 k4, Int.toNat_natCast, hs, beqT z, n0]
      rw [digs_small u10] at k2
      have hl2 : (bsA (l.set (c + 1) (dg u))).length = 20 := by rw [bsA_len, List.length_set]; exact k1
      have hl3 : (bsA l).length = 20 := by rw [bsA_len]; exact k1
      simp only [hl2, hl3]
      refine ⟨by omega, by omega, _, okB20 (by omega), ?_⟩
      simp only
      rw [if_pos (by omega)]
      refine ⟨_, rfl, _, takeDrop20 (by simp; omega), ?_⟩
      rw [hdr]
      have e : decB v = ⟨(dg u :: List.drop (c + 2) l).toArray⟩ := by
        rw [decB, decL, if_neg n0, ← k2]; rfl
      rw [e] at h; exact h
    · have z : ¬ ((u / 10 : Nat) : Int) = 0 := by omega
      simp only [OI, ↓reduceIte, reduceCtorEq, Nat.reduceAdd, Nat.reduceEqDiff, Nat.reduceBEq, Nat.reduceLT, Nat.reduceLeDiff, Nat.reduceMul, Nat.reduceSub, Int.reduceLE, Int.reduceLT, Int.reduceEq, Int.reduceBEq, Int.reduceBNe, Int.reduceToNat, Int.reduceNeg, Nat.reduceBNe, st198, arA, w1, b0, b20, dg_val, div10 k4, Int.toNat_natCast, hs, beqF z]
      refine ⟨hl1, ⟨(l.set (c + 1) (dg u), c + 1, u / 10), ⟨⟨by simp; omega, ?_, by simp only; omega, by simp only; omega⟩, by simp only; omega⟩, ?_⟩⟩
      · simp only
        rw [hdr, ← k2, digs_big u10]; simp
      · simp only [OI, ↓reduceIte, reduceCtorEq, Nat.reduceAdd, Nat.reduceEqDiff, Nat.reduceBEq, Nat.reduceLT, Nat.reduceLeDiff, Nat.reduceMul, Nat.reduceSub, Int.reduceLE, Int.reduceLT, Int.reduceEq, Int.reduceBEq, Int.reduceBNe, Int.reduceToNat, Int.reduceNeg, Nat.reduceBNe, st198, arA]
theorem cat_if {a b : ByteArray} (h : a.size + b.size ≤ 1000000) : (if IntKind.i64.max < ((a.size + b.size : Nat) : Int) then none else some (Value.string (a ++ b))) = some (Value.string (a ++ b)) := by
  have m : IntKind.i64.max = 9223372036854775807 := rfl
  rw [if_neg (by rw [m]; omega)]
def st152 (I : World → Fp → Value → Fp → Prop) (sg : ByteArray) : Nat × List UInt8 × Nat → St
  | (i, s, u) => ⟨[(6, .v (.int .i64 i)), (3, strV s), (4, .v (.string sg)), (5, .v (.int .u64 u))], [(9999, .ext I)], []⟩
theorem c152 (v : Int) (h0 : -9223372036854775808 ≤ v) (h1 : v < 9223372036854775808) {Q : AV → Al → Prop} (h : Q (.v (.string (decB v))) []) : ACalls Tryd.prog 22 [] [i64A v] Q := by
  refine ok152.N hmix rfl ?_
  intro I
  have hd := digs_64 h0 h1
  by_cases n0 : v < 0
  · simp only [cc152, OI, ↓reduceIte, reduceCtorEq, Nat.reduceAdd, Nat.reduceEqDiff, Nat.reduceBEq, Nat.reduceLT, Nat.reduceLeDiff, Nat.reduceMul, Nat.reduceSub, Int.reduceLE, Int.reduceLT, Int.reduceEq, Int.reduceBEq, Int.reduceBNe, Int.reduceToNat, Int.reduceNeg, Nat.reduceBNe, i64A, n0, wr_neg h0 n0]
    refine W_loop (st152 I ⟨#[45]⟩) (fun a => digs a.2.2 ++ a.2.1 = digs v.natAbs ∧ a.1 = a.2.1.length ∧ a.2.2 < 18446744073709551616) (fun a => a.2.2 + (20 - a.1)) (fun _ _ => rfl) ⟨(0, [], v.natAbs), ⟨by simp, rfl, by simp only; omega⟩, ?_⟩ ?_
    · simp only [OI, ↓reduceIte, reduceCtorEq, Nat.reduceAdd, Nat.reduceEqDiff, Nat.reduceBEq, Nat.reduceLT, Nat.reduceLeDiff, Nat.reduceMul, Nat.reduceSub, Int.reduceLE, Int.reduceLT, Int.reduceEq, Int.reduceBEq, Int.reduceBNe, Int.reduceToNat, Int.reduceNeg, Nat.reduceBNe, st152, strV]
      try rfl
    rintro ⟨i, s, u⟩ ⟨k1, k2, k4⟩
    simp only at k1 k2 k4
    refine W_of_N ok152.small hmix ?_
    have hp := digs_pos u
    have hlen := congrArg List.length k1
    simp only [List.length_append] at hlen
    have i20 : (i : Int) < 20 := by omega
    have w1 : IntKind.i64.wrap ((i : Int) + 1) = ((i + 1 : Nat) : Int) := by rw [wrI64 (by omega) (by omega)]; omega
    have hb : byteV (AV.v (Value.int IntKind.u8 ((dg u).toNat : Int))) = some (dg u) := byteV_u8A _
    by_cases u10 : u < 10
    · have z : ((u / 10 : Nat) : Int) = 0 := by omega
      simp only [OI, ↓reduceIte, reduceCtorEq, Nat.reduceAdd, Nat.reduceEqDiff, Nat.reduceBEq, Nat.reduceLT, Nat.reduceLeDiff, Nat.reduceMul, Nat.reduceSub, Int.reduceLE, Int.reduceLT, Int.reduceEq, Int.reduceBEq, Int.reduceBNe, Int.reduceToNat, Int.reduceNeg, Nat.reduceBNe, st152, strV, i20, dg_val, div10 k4, beqT z, hb]
      rw [cat_if (by simp [ByteArray.size]; omega)]
      refine ⟨_, rfl, ?_⟩
      simp only [OI, ↓reduceIte, reduceCtorEq, Nat.reduceAdd, Nat.reduceEqDiff, Nat.reduceBEq, Nat.reduceLT, Nat.reduceLeDiff, Nat.reduceMul, Nat.reduceSub, Int.reduceLE, Int.reduceLT, Int.reduceEq, Int.reduceBEq, Int.reduceBNe, Int.reduceToNat, Int.reduceNeg, Nat.reduceBNe]
      rw [cat_if (by simp [ByteArray.size]; omega)]
      refine ⟨_, rfl, ?_⟩
      rw [digs_small u10] at k1
      have e : decB v = ⟨#[45]⟩ ++ (⟨#[dg u]⟩ ++ ⟨s.toArray⟩) := by
        rw [decB, decL, if_pos n0, ← k1]
        apply ByteArray.ext; simp
      rw [e] at h; exact h
    · have z : ¬ ((u / 10 : Nat) : Int) = 0 := by omega
      simp only [OI, ↓reduceIte, reduceCtorEq, Nat.reduceAdd, Nat.reduceEqDiff, Nat.reduceBEq, Nat.reduceLT, Nat.reduceLeDiff, Nat.reduceMul, Nat.reduceSub, Int.reduceLE, Int.reduceLT, Int.reduceEq, Int.reduceBEq, Int.reduceBNe, Int.reduceToNat, Int.reduceNeg, Nat.reduceBNe, st152, strV, i20, dg_val, div10 k4, beqF z, hb, w1]
      rw [cat_if (by simp [ByteArray.size]; omega)]
      refine ⟨_, rfl, (i + 1, dg u :: s, u / 10), ⟨⟨?_, by simp only [List.length_cons]; omega, by simp only; omega⟩, by simp only; omega⟩, ?_⟩
      · simp only
        rw [← k1, digs_big u10]; simp
      · simp only [OI, ↓reduceIte, reduceCtorEq, Nat.reduceAdd, Nat.reduceEqDiff, Nat.reduceBEq, Nat.reduceLT, Nat.reduceLeDiff, Nat.reduceMul, Nat.reduceSub, Int.reduceLE, Int.reduceLT, Int.reduceEq, Int.reduceBEq, Int.reduceBNe, Int.reduceToNat, Int.reduceNeg, Nat.reduceBNe, st152, strV]
        apply ByteArray.ext; simp
  · simp only [cc152, OI, ↓reduceIte, reduceCtorEq, Nat.reduceAdd, Nat.reduceEqDiff, Nat.reduceBEq, Nat.reduceLT, Nat.reduceLeDiff, Nat.reduceMul, Nat.reduceSub, Int.reduceLE, Int.reduceLT, Int.reduceEq, Int.reduceBEq, Int.reduceBNe, Int.reduceToNat, Int.reduceNeg, Nat.reduceBNe, i64A, n0, wr_pos h1 n0]
    refine W_loop (st152 I ⟨#[]⟩) (fun a => digs a.2.2 ++ a.2.1 = digs v.natAbs ∧ a.1 = a.2.1.length ∧ a.2.2 < 18446744073709551616) (fun a => a.2.2 + (20 - a.1)) (fun _ _ => rfl) ⟨(0, [], v.natAbs), ⟨by simp, rfl, by simp only; omega⟩, ?_⟩ ?_
    · simp only [OI, ↓reduceIte, reduceCtorEq, Nat.reduceAdd, Nat.reduceEqDiff, Nat.reduceBEq, Nat.reduceLT, Nat.reduceLeDiff, Nat.reduceMul, Nat.reduceSub, Int.reduceLE, Int.reduceLT, Int.reduceEq, Int.reduceBEq, Int.reduceBNe, Int.reduceToNat, Int.reduceNeg, Nat.reduceBNe, st152, strV]
      try rfl
    rintro ⟨i, s, u⟩ ⟨k1, k2, k4⟩
    simp only at k1 k2 k4
    refine W_of_N ok152.small hmix ?_
    have hp := digs_pos u
    have hlen := congrArg List.length k1
    simp only [List.length_append] at hlen
    have i20 : (i : Int) < 20 := by omega
    have w1 : IntKind.i64.wrap ((i : Int) + 1) = ((i + 1 : Nat) : Int) := by rw [wrI64 (by omega) (by omega)]; omega
    have hb : byteV (AV.v (Value.int IntKind.u8 ((dg u).toNat : Int))) = some (dg u) := byteV_u8A _
    by_cases u10 : u < 10
    · have z : ((u / 10 : Nat) : Int) = 0 := by omega
      simp only [OI, ↓reduceIte, reduceCtorEq, Nat.reduceAdd, Nat.reduceEqDiff, Nat.reduceBEq, Nat.reduceLT, Nat.reduceLeDiff, Nat.reduceMul, Nat.reduceSub, Int.reduceLE, Int.reduceLT, Int.reduceEq, Int.reduceBEq, Int.reduceBNe, Int.reduceToNat, Int.reduceNeg, Nat.reduceBNe, st152, strV, i20, dg_val, div10 k4, beqT z, hb]
      rw [cat_if (by simp [ByteArray.size]; omega)]
      refine ⟨_, rfl, ?_⟩
      simp only [OI, ↓reduceIte, reduceCtorEq, Nat.reduceAdd, Nat.reduceEqDiff, Nat.reduceBEq, Nat.reduceLT, Nat.reduceLeDiff, Nat.reduceMul, Nat.reduceSub, Int.reduceLE, Int.reduceLT, Int.reduceEq, Int.reduceBEq, Int.reduceBNe, Int.reduceToNat, Int.reduceNeg, Nat.reduceBNe]
      rw [cat_if (by simp [ByteArray.size]; omega)]
      refine ⟨_, rfl, ?_⟩
      rw [digs_small u10] at k1
      have e : decB v = ⟨#[]⟩ ++ (⟨#[dg u]⟩ ++ ⟨s.toArray⟩) := by
        rw [decB, decL, if_neg n0, ← k1]
        apply ByteArray.ext; simp
      rw [e] at h; exact h
    · have z : ¬ ((u / 10 : Nat) : Int) = 0 := by omega
      simp only [OI, ↓reduceIte, reduceCtorEq, Nat.reduceAdd, Nat.reduceEqDiff, Nat.reduceBEq, Nat.reduceLT, Nat.reduceLeDiff, Nat.reduceMul, Nat.reduceSub, Int.reduceLE, Int.reduceLT, Int.reduceEq, Int.reduceBEq, Int.reduceBNe, Int.reduceToNat, Int.reduceNeg, Nat.reduceBNe, st152, strV, i20, dg_val, div10 k4, beqF z, hb, w1]
      rw [cat_if (by simp [ByteArray.size]; omega)]
      refine ⟨_, rfl, (i + 1, dg u :: s, u / 10), ⟨⟨?_, by simp only [List.length_cons]; omega, by simp only; omega⟩, by simp only; omega⟩, ?_⟩
      · simp only
        rw [← k1, digs_big u10]; simp
      · simp only [OI, ↓reduceIte, reduceCtorEq, Nat.reduceAdd, Nat.reduceEqDiff, Nat.reduceBEq, Nat.reduceLT, Nat.reduceLeDiff, Nat.reduceMul, Nat.reduceSub, Int.reduceLE, Int.reduceLT, Int.reduceEq, Int.reduceBEq, Int.reduceBNe, Int.reduceToNat, Int.reduceNeg, Nat.reduceBNe, st152, strV]
        apply ByteArray.ext; simp
end Go.Proofs.YthlehngbadianaaDoor.Ow
