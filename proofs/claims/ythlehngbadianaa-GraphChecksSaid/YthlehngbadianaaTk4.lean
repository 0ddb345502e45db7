/- What the functions of the program do, each once: contracts of the logic (part k4). -/
import Derived.Test.YthlehngbadianaaTk3
import Derived.Test.YthlehngbadianaaTh2
import Derived.Test.YthlehngbadianaaTbw
set_option linter.unusedVariables false
set_option linter.unusedSimpArgs false
set_option linter.unnecessarySimpa false
set_option maxRecDepth 100000
set_option maxHeartbeats 4000000
namespace Go.Proofs.Ythlehngbadianaa.Ow
open Go Go.RowKit Go.Proofs
/- watershed/graph.Text -/
def cc63 : CC := (.seq (.region [⟨none, 1, (.box 0), [0], none, []⟩, ⟨none, 2, (.val (.mv (.c (.string ⟨#[]⟩)))), [2], none, []⟩, ⟨none, 3, (.val (.mv (.c (.int .i64 0)))), [3], none, []⟩]) (.seq (.seq (.region [⟨none, 14, (.val (.ld (.s 1) (some 4))), [], none, []⟩, ⟨none, 15, (.callP 65 [(.s 14)]), [14], none, []⟩, ⟨none, 4, (.val (.mv (.s 15))), [15], none, []⟩]) (.seq (.region [⟨none, 16, (.val (.mv (.s 4))), [], none, []⟩, ⟨none, 17, (.val (.bin .neq (.s 16) (.c (.int .i64 0)))), [16], none, []⟩]) (.cond (.s 17) (.seq (.region [⟨none, 18, (.val (.mv (.s 4))), [1, 4, 17], none, []⟩, ⟨none, 2, (.val (.mv (.c (.string ⟨#[]⟩)))), [], none, []⟩, ⟨none, 3, (.val (.mv (.s 18))), [18], none, []⟩]) .ret) .skip))) (.seq (.region [⟨none, 5, (.allocF (.agg #[(.pointer none), (.slice none 0 0)]) 174), [4, 17], none, []⟩]) (.seq (.seq (.region [⟨none, 19, (.val (.fa (.s 1) 0)), [], none, []⟩, ⟨none, 20, (.val (.ld (.s 19) none)), [19], none, []⟩, ⟨none, 21, (.val (.lnl (.s 20) 2)), [], none, []⟩, ⟨none, 22, (.val (.mv (.c (.int .i64 0)))), [], none, []⟩]) (.block 0 (.loop (.seq (.region [⟨none, 23, (.val (.bin .lss (.s 22) (.s 21))), [], none, []⟩]) (.seq (.cond (.s 23) .skip (.exit 0)) (.seq (.block 1 (.seq (.region [⟨none, 24, (.val (.ia (.s 20) (.s 22) 2)), [23], none, []⟩, ⟨none, 25, (.val (.ld (.s 24) (some 2))), [24], none, []⟩, ⟨none, 7, (.alloc (.agg #[(.string ⟨#[]⟩), (.int .i64 0)])), [], none, []⟩, ⟨none, 0, (.store 2 (.s 7) (.s 25)), [25], none, []⟩]) (.region [⟨none, 26, (.val (.fa (.s 7) 0)), [], none, []⟩, ⟨none, 27, (.val (.ld (.s 26) none)), [26], none, []⟩, ⟨none, 28, (.val (.fa (.s 7) 1)), [7], none, []⟩, ⟨none, 29, (.val (.ld (.s 28) none)), [28], none, []⟩, ⟨none, 30, (.callP 149 [(.s 29)]), [29], none, []⟩, ⟨none, 31, (.val (.bin .add (.c (.string ⟨#[119, 111, 114, 107, 101, 114, 115, 61]⟩)) (.s 30))), [30], none, []⟩, ⟨none, 32, (.lit 1 [(.c (.string ⟨#[99, 108, 117, 115, 116, 101, 114]⟩)), (.s 27), (.s 31)]), [27, 31], none, []⟩, ⟨none, 33, (.call 148 [(.s 32)]), [32], none, []⟩, ⟨none, 34, (.call 109 [(.s 5), (.s 33)]), [33, 34], (some 0), []⟩]))) (.region [⟨none, 35, (.val (.bin .add (.s 22) (.c (.int .i64 1)))), [22], none, []⟩, ⟨none, 22, (.val (.mv (.s 35))), [35], none, []⟩]))))))) (.seq (.seq (.region [⟨none, 36, (.val (.fa (.s 1) 1)), [20, 21, 22, 23], none, []⟩, ⟨none, 37, (.val (.ld (.s 36) none)), [36], none, []⟩, ⟨none, 38, (.val (.lnl (.s 37) 3)), [], none, []⟩, ⟨none, 39, (.val (.mv (.c (.int .i64 0)))), [], none, []⟩]) (.block 2 (.loop (.seq (.region [⟨none, 40, (.val (.bin .lss (.s 39) (.s 38))), [], none, []⟩]) (.seq (.cond (.s 40) .skip (.exit 2)) (.seq (.block 3 (.seq (.region [⟨none, 41, (.val (.ia (.s 37) (.s 39) 3)), [40], none, []⟩, ⟨none, 42, (.val (.ld (.s 41) (some 3))), [41], none, []⟩, ⟨none, 9, (.alloc (.agg #[(.string ⟨#[]⟩), (.int .i64 0), (.int .i64 0)])), [], none, []⟩, ⟨none, 0, (.store 3 (.s 9) (.s 42)), [42], none, []⟩]) (.region [⟨none, 43, (.val (.fa (.s 9) 0)), [], none, []⟩, ⟨none, 44, (.val (.ld (.s 43) none)), [43], none, []⟩, ⟨none, 45, (.val (.ld (.s 1) (some 4))), [], none, []⟩, ⟨none, 46, (.val (.fa (.s 9) 1)), [], none, []⟩, ⟨none, 47, (.val (.ld (.s 46) none)), [46], none, []⟩, ⟨none, 50, (.val (.fa (.s 9) 2)), [9], none, []⟩, ⟨none, 51, (.val (.ld (.s 50) none)), [50], none, []⟩, ⟨none, 48, (.callP 150 [(.s 45), (.s 47)]), [45, 47], none, []⟩, ⟨none, 49, (.val (.bin .add (.c (.string ⟨#[105, 110, 61]⟩)) (.s 48))), [48], none, []⟩, ⟨none, 52, (.callP 149 [(.s 51)]), [51], none, []⟩, ⟨none, 53, (.val (.bin .add (.c (.string ⟨#[114, 111, 117, 110, 100, 115, 61]⟩)) (.s 52))), [52], none, []⟩, ⟨none, 54, (.lit 1 [(.c (.string ⟨#[108, 111, 111, 112]⟩)), (.s 44), (.s 49), (.s 53)]), [44, 49, 53], none, []⟩, ⟨none, 55, (.call 148 [(.s 54)]), [54], none, []⟩, ⟨none, 56, (.call 109 [(.s 5), (.s 55)]), [55, 56], (some 0), []⟩]))) (.region [⟨none, 57, (.val (.bin .add (.s 39) (.c (.int .i64 1)))), [39], none, []⟩, ⟨none, 39, (.val (.mv (.s 57))), [57], none, []⟩]))))))) (.seq (.seq (.region [⟨none, 58, (.val (.fa (.s 1) 2)), [37, 38, 39, 40], none, []⟩, ⟨none, 59, (.val (.ld (.s 58) none)), [58], none, []⟩, ⟨none, 60, (.val (.lnl (.s 59) 6)), [], none, []⟩, ⟨none, 61, (.val (.mv (.c (.int .i64 0)))), [], none, []⟩]) (.block 4 (.loop (.seq (.region [⟨none, 62, (.val (.bin .lss (.s 61) (.s 60))), [], none, []⟩]) (.seq (.cond (.s 62) .skip (.exit 4)) (.seq (.block 5 (.seq (.region [⟨none, 63, (.val (.ia (.s 59) (.s 61) 6)), [62], none, []⟩, ⟨none, 64, (.val (.ld (.s 63) (some 6))), [63], none, []⟩, ⟨none, 11, (.alloc (.agg #[(.string ⟨#[]⟩), (.int .i64 0), (.int .i64 0), (.int .i64 0), (.int .i64 0), (.int .i64 0)])), [], none, []⟩, ⟨none, 0, (.store 6 (.s 11) (.s 64)), [64], none, []⟩]) (.region [⟨none, 65, (.val (.ld (.s 1) (some 4))), [], none, []⟩, ⟨none, 66, (.val (.ld (.s 11) (some 6))), [11], none, []⟩, ⟨none, 67, (.callP 151 [(.s 65), (.s 66)]), [65, 66], none, []⟩, ⟨none, 68, (.call 109 [(.s 5), (.s 67)]), [67, 68], (some 0), []⟩]))) (.region [⟨none, 69, (.val (.bin .add (.s 61) (.c (.int .i64 1)))), [61], none, []⟩, ⟨none, 61, (.val (.mv (.s 69))), [69], none, []⟩]))))))) (.seq (.seq (.region [⟨none, 70, (.val (.fa (.s 1) 3)), [59, 60, 61, 62], none, []⟩, ⟨none, 71, (.val (.ld (.s 70) none)), [70], none, []⟩, ⟨none, 72, (.val (.lnl (.s 71) 2)), [], none, []⟩, ⟨none, 73, (.val (.mv (.c (.int .i64 0)))), [], none, []⟩]) (.block 6 (.loop (.seq (.region [⟨none, 74, (.val (.bin .lss (.s 73) (.s 72))), [], none, []⟩]) (.seq (.cond (.s 74) .skip (.exit 6)) (.seq (.block 7 (.seq (.region [⟨none, 75, (.val (.ia (.s 71) (.s 73) 2)), [74], none, []⟩, ⟨none, 76, (.val (.ld (.s 75) (some 2))), [75], none, []⟩, ⟨none, 13, (.alloc (.agg #[(.int .i64 0), (.int .i64 0)])), [], none, []⟩, ⟨none, 0, (.store 2 (.s 13) (.s 76)), [76], none, []⟩]) (.region [⟨none, 77, (.val (.fa (.s 1) 2)), [], none, []⟩, ⟨none, 78, (.val (.ld (.s 77) none)), [77], none, []⟩, ⟨none, 79, (.val (.fa (.s 13) 0)), [], none, []⟩, ⟨none, 80, (.val (.ld (.s 79) none)), [79], none, []⟩, ⟨none, 81, (.val (.ia (.s 78) (.s 80) 6)), [78, 80], none, []⟩, ⟨none, 82, (.val (.fa (.s 81) 0)), [81], none, []⟩, ⟨none, 83, (.val (.ld (.s 82) none)), [82], none, []⟩, ⟨none, 84, (.val (.fa (.s 1) 2)), [], none, []⟩, ⟨none, 85, (.val (.ld (.s 84) none)), [84], none, []⟩, ⟨none, 86, (.val (.fa (.s 13) 1)), [13], none, []⟩, ⟨none, 87, (.val (.ld (.s 86) none)), [86], none, []⟩, ⟨none, 88, (.val (.ia (.s 85) (.s 87) 6)), [85, 87], none, []⟩, ⟨none, 89, (.val (.fa (.s 88) 0)), [88], none, []⟩, ⟨none, 90, (.val (.ld (.s 89) none)), [89], none, []⟩, ⟨none, 91, (.lit 1 [(.c (.string ⟨#[102, 114, 111, 109]⟩)), (.s 83), (.c (.string ⟨#[116, 111]⟩)), (.s 90)]), [83, 90], none, []⟩, ⟨none, 92, (.call 148 [(.s 91)]), [91], none, []⟩, ⟨none, 93, (.call 109 [(.s 5), (.s 92)]), [92, 93], (some 0), []⟩]))) (.region [⟨none, 94, (.val (.bin .add (.s 73) (.c (.int .i64 1)))), [73], none, []⟩, ⟨none, 73, (.val (.mv (.s 94))), [94], none, []⟩]))))))) (.seq (.region [⟨none, 95, (.call 112 [(.s 5)]), [1, 5, 71, 72, 73, 74], (some 0), []⟩, ⟨none, 2, (.val (.mv (.s 95))), [95], none, []⟩, ⟨none, 3, (.val (.mv (.c (.int .i64 0)))), [], none, []⟩]) .ret))))))))
theorem ok63 : FnOk Try.prog 63 cc63 [(.t 2), (.t 3)] 1 96 := ⟨⟨_, Try.func63, by kernel_rfl, by kernel_rfl, by kernel_rfl⟩, by decide, by decide⟩


def rng (n : Int) : Prop := -9223372036854775808 ≤ n ∧ n < 9223372036854775808
/-- Numbers are numbers of 64 bits. -/
structure Rg (g : Gr) : Prop where
  cl : ∀ x ∈ g.cl, rng x.2
  lo : ∀ x ∈ g.lo, rng x.2.2
  op : ∀ x ∈ g.op, rng x.a ∧ rng x.b
theorem dtl (l : List UInt8) : (⟨l.toArray⟩ : ByteArray).data.toList = l := by simp
theorem szl (l : List UInt8) : (⟨l.toArray⟩ : ByteArray).size = l.length := rfl
theorem flat_len {α : Type} (f : α → List UInt8) : ∀ (l : List α), (∀ x ∈ l, (f x).length ≤ 4000) → (l.map f).flatten.length ≤ l.length * 4000
  | [], _ => by simp
  | x :: l, h => by
    have h1 := flat_len f l fun y hy => h y (List.mem_cons_of_mem _ hy)
    have h2 := h x (List.mem_cons_self ..)
    simp only [List.map_cons, List.flatten_cons, List.length_append, List.length_cons]; omega
def tx {α : Type} (f : α → List UInt8) (l : List α) (i : Nat) : List UInt8 := ((l.take i).map f).flatten
theorem tx_snoc {α : Type} {f : α → List UInt8} {l : List α} {i : Nat} {x : α} (h : l[i]? = some x) : tx f l (i + 1) = tx f l i ++ f x := by
  simp only [tx, take_snoc h, List.map_append, List.map_cons, List.map_nil, List.flatten_append, List.flatten_cons, List.flatten_nil, List.append_nil]
theorem tx_len {α : Type} {f : α → List UInt8} {l : List α} (h : ∀ x ∈ l, (f x).length ≤ 4000) (i : Nat) : (tx f l i).length ≤ i * 4000 := by
  have := flat_len f (l.take i) fun x hx => h x (List.mem_of_mem_take hx)
  have h2 : (l.take i).length ≤ i := by rw [List.length_take]; omega
  have h3 : (l.take i).length * 4000 ≤ i * 4000 := Nat.mul_le_mul_right _ h2
  exact Nat.le_trans this h3
theorem tx_all {α : Type} {f : α → List UInt8} {l : List α} : tx f l l.length = (l.map f).flatten := by simp only [tx, List.take_length]
def txtR (g : Gr) : List UInt8 × Int := if chk g ≠ 0 then ([], chk g) else (txtL g, 0)
def st63a (I : World → Fp → Value → Fp → Prop) (g : Gr) : Nat → St
  | 0 => ⟨[(22, .v (.int .i64 0)), (21, .v (.int .i64 g.cl.length)), (20, .lst 2 (g.cl.map clA)), (1, .ref ⟨1001, [], 0⟩), (5, .ref ⟨1005, [], 0⟩)], [(1005, .agg [.v (.pointer none), .v (.slice none 0 0)]), (1001, gA g), (9999, .ext I)], [(1005, 1, .sa ⟨1005, [], 0⟩ 0 174 2)]⟩
  | i + 1 => ⟨[(22, .v (.int .i64 ((i + 1 : Nat) : Int))), (21, .v (.int .i64 g.cl.length)), (20, .lst 2 (g.cl.map clA)), (1, .ref ⟨1001, [], 0⟩), (5, .ref ⟨1005, [], 0⟩)], [(1005, .agg [.junk, .ext (RowB 5 (tx clL g.cl (i + 1)))]), (1001, gA g), (9999, .ext I)], [(1005, 0, .ref ⟨1005, [], 0⟩), (1005, 1, .sa ⟨1005, [], 0⟩ 0 174 2)]⟩
def st63b (I : World → Fp → Value → Fp → Prop) (g : Gr) (a b c : Nat) (n : Nat) (z : AV) (B : Nat → List UInt8) (i : Nat) : St :=
  ⟨[(a, .v (.int .i64 i)), (b, .v (.int .i64 n)), (c, z), (1, .ref ⟨1001, [], 0⟩), (5, .ref ⟨1005, [], 0⟩)], [(1005, .agg [.junk, .ext (RowB 5 (B i))]), (1001, gA g), (9999, .ext I)], [(1005, 0, .ref ⟨1005, [], 0⟩), (1005, 1, .sa ⟨1005, [], 0⟩ 0 174 2)]⟩
theorem c63 (g : Gr) (hs : Small g) (hr : Rg g) {Q : AV → Al → Prop} (h : Q (.tup [.v (.string ⟨(txtR g).1.toArray⟩), i64A (txtR g).2]) []) : ACalls Try.prog 63 [] [gA g] Q := by
  refine ok63.N hmix rfl ?_
  intro I
  simp only [cc63, OI0, OI1, OI2, OI3, OI4, OI5, OI6, OI7, OI8, OI9, OI10, OI11, OI12, ↓reduceIte, reduceCtorEq, Nat.reduceAdd, Nat.reduceEqDiff, Nat.reduceBEq, Nat.reduceLT, Nat.reduceLeDiff, Nat.reduceMul, Nat.reduceSub, Int.reduceLE, Int.reduceLT, Int.reduceEq, Int.reduceBEq, Int.reduceBNe, Int.reduceToNat, Int.reduceNeg, Nat.reduceBNe, forall_eq_or_imp, gA]
  refine c65 g ?_
  by_cases hc : chk g = 0
  · have hF := chk0 hc
    have hcl4 := hF.cl4
    have hlo6 := hF.lo6
    have h24 := hF.op24
    have h48 := hF.ch48
    have hcl1 : 1 ≤ g.cl.length := by
      unfold chk at hc
      split at hc
      · cases hc
      · split at hc
        · cases hc
        · omega
    have htx : txtR g = (txtL g, 0) := by rw [txtR, if_neg (by simpa using hc)]
    rw [htx] at h
    simp only [OI0, OI1, OI2, OI3, OI4, OI5, OI6, OI7, OI8, OI9, OI10, OI11, OI12, ↓reduceIte, reduceCtorEq, Nat.reduceAdd, Nat.reduceEqDiff, Nat.reduceBEq, Nat.reduceLT, Nat.reduceLeDiff, Nat.reduceMul, Nat.reduceSub, Int.reduceLE, Int.reduceLT, Int.reduceEq, Int.reduceBEq, Int.reduceBNe, Int.reduceToNat, Int.reduceNeg, Nat.reduceBNe, forall_eq_or_imp, i64A, bneF hc]
    have lcl : ∀ x ∈ g.cl, (clL x).length ≤ 4000 := fun x hx => by
      obtain ⟨i, hi⟩ := List.getElem?_of_mem hx
      exact clL_len (hs.ncl _ _ hi) (hr.cl x hx).1 (hr.cl x hx).2
    have llo : ∀ x ∈ g.lo, (loL g x).length ≤ 4000 := fun x hx => by
      obtain ⟨i, hi⟩ := List.getElem?_of_mem hx
      exact loL_len hs (hs.nlo _ _ hi) (hr.lo x hx).1 (hr.lo x hx).2
    have lop : ∀ x ∈ g.op, (opL g x).length ≤ 4000 := fun x hx => by
      obtain ⟨i, hi⟩ := List.getElem?_of_mem hx
      exact opL_len hs (hs.nop _ _ hi) (hr.op x hx).1 (hr.op x hx).2
    have lch : ∀ x ∈ g.ch, (chL g x).length ≤ 4000 := fun x hx => chL_len hs x
    refine W_loop (st63a I g) (fun i => i ≤ g.cl.length) (fun i => g.cl.length - i) ?_ ⟨0, by omega, ?_⟩ ?_
    · intro i _
      cases i <;> rfl
    · simp only [OI0, OI1, OI2, OI3, OI4, OI5, OI6, OI7, OI8, OI9, OI10, OI11, OI12, ↓reduceIte, reduceCtorEq, Nat.reduceAdd, Nat.reduceEqDiff, Nat.reduceBEq, Nat.reduceLT, Nat.reduceLeDiff, Nat.reduceMul, Nat.reduceSub, Int.reduceLE, Int.reduceLT, Int.reduceEq, Int.reduceBEq, Int.reduceBNe, Int.reduceToNat, Int.reduceNeg, Nat.reduceBNe, forall_eq_or_imp, st63a, gA]
      try trace_state
    intro i hi
    refine W_of_N ok63.small hmix ?_
    by_cases hil : i < g.cl.length
    · have hil' : (i : Int) < g.cl.length := by omega
      have i0 : (0 : Int) ≤ i := by omega
      have hgi : g.cl[i]? = some g.cl[i] := List.getElem?_eq_getElem hil
      have hmem := List.getElem_mem hil
      have w1 : IntKind.i64.wrap ((i : Int) + 1) = ((i + 1 : Nat) : Int) := by rw [wrI64 (by omega) (by omega)]; omega
      generalize g.cl[i] = c at hgi hmem
      have hrc := hr.cl c hmem
      have d1 : (decB c.2).size ≤ 20 := by rw [← bs_len, bs_dec]; exact decL_len hrc.1 hrc.2
      have f1 : (if IntKind.i64.max < (((⟨#[119, 111, 114, 107, 101, 114, 115, 61]⟩ : ByteArray).size + (decB c.2).size : Nat) : Int) then none else some (Value.string ((⟨#[119, 111, 114, 107, 101, 114, 115, 61]⟩ : ByteArray) ++ decB c.2))) = some (Value.string ((⟨#[119, 111, 114, 107, 101, 114, 115, 61]⟩ : ByteArray) ++ decB c.2)) := cat_if (by have e : (⟨#[119, 111, 114, 107, 101, 114, 115, 61]⟩ : ByteArray).size = 8 := rfl; rw [e]; omega)
      have hrow := row_cl c
      have hlc := lcl c hmem
      have hsn := tx_snoc (f := clL) hgi
      have hln := tx_len lcl i
      cases i with
      | zero =>
        have hz : (0 : Int) < g.cl.length := by omega
        simp only [OI0, OI1, OI2, OI3, OI4, OI5, OI6, OI7, OI8, OI9, OI10, OI11, OI12, ↓reduceIte, reduceCtorEq, Nat.reduceAdd, Nat.reduceEqDiff, Nat.reduceBEq, Nat.reduceLT, Nat.reduceLeDiff, Nat.reduceMul, Nat.reduceSub, Int.reduceLE, Int.reduceLT, Int.reduceEq, Int.reduceBEq, Int.reduceBNe, Int.reduceToNat, Int.reduceNeg, Nat.reduceBNe, forall_eq_or_imp, st63a, gA, hz, i0, hgi, clA, Int.natCast_zero]
        refine c149 c.2 hrc.1 hrc.2 ?_
        simp only [OI0, OI1, OI2, OI3, OI4, OI5, OI6, OI7, OI8, OI9, OI10, OI11, OI12, ↓reduceIte, reduceCtorEq, Nat.reduceAdd, Nat.reduceEqDiff, Nat.reduceBEq, Nat.reduceLT, Nat.reduceLeDiff, Nat.reduceMul, Nat.reduceSub, Int.reduceLE, Int.reduceLT, Int.reduceEq, Int.reduceBEq, Int.reduceBNe, Int.reduceToNat, Int.reduceNeg, Nat.reduceBNe, forall_eq_or_imp, f1]
        refine c148 [⟨#[99, 108, 117, 115, 116, 101, 114]⟩, c.1, (⟨#[119, 111, 114, 107, 101, 114, 115, 61]⟩ : ByteArray) ++ decB c.2] (by simp) (by rw [hrow]; omega) ?_
        rw [hrow]
        simp only [OI0, OI1, OI2, OI3, OI4, OI5, OI6, OI7, OI8, OI9, OI10, OI11, OI12, ↓reduceIte, reduceCtorEq, Nat.reduceAdd, Nat.reduceEqDiff, Nat.reduceBEq, Nat.reduceLT, Nat.reduceLeDiff, Nat.reduceMul, Nat.reduceSub, Int.reduceLE, Int.reduceLT, Int.reduceEq, Int.reduceBEq, Int.reduceBNe, Int.reduceToNat, Int.reduceNeg, Nat.reduceBNe, forall_eq_or_imp]
        refine c109a _ (by simp) (by rw [szl]; omega) ?_
        have w0 : IntKind.i64.wrap (0 + 1) = ((0 + 1 : Nat) : Int) := by rw [wrI64 (by omega) (by omega)]; rfl
        simp only [OI0, OI1, OI2, OI3, OI4, OI5, OI6, OI7, OI8, OI9, OI10, OI11, OI12, ↓reduceIte, reduceCtorEq, Nat.reduceAdd, Nat.reduceEqDiff, Nat.reduceBEq, Nat.reduceLT, Nat.reduceLeDiff, Nat.reduceMul, Nat.reduceSub, Int.reduceLE, Int.reduceLT, Int.reduceEq, Int.reduceBEq, Int.reduceBNe, Int.reduceToNat, Int.reduceNeg, Nat.reduceBNe, forall_eq_or_imp, bldRf, w0, dtl]
        refine ⟨0 + 1, ⟨by omega, by omega⟩, ?_⟩
        have hsn' : tx clL g.cl (0 + 1) = clL c := by rw [hsn]; rfl
        simp only [OI0, OI1, OI2, OI3, OI4, OI5, OI6, OI7, OI8, OI9, OI10, OI11, OI12, ↓reduceIte, reduceCtorEq, Nat.reduceAdd, Nat.reduceEqDiff, Nat.reduceBEq, Nat.reduceLT, Nat.reduceLeDiff, Nat.reduceMul, Nat.reduceSub, Int.reduceLE, Int.reduceLT, Int.reduceEq, Int.reduceBEq, Int.reduceBNe, Int.reduceToNat, Int.reduceNeg, Nat.reduceBNe, forall_eq_or_imp, st63a, gA, hsn']
      | succ i =>
        simp only [OI0, OI1, OI2, OI3, OI4, OI5, OI6, OI7, OI8, OI9, OI10, OI11, OI12, ↓reduceIte, reduceCtorEq, Nat.reduceAdd, Nat.reduceEqDiff, Nat.reduceBEq, Nat.reduceLT, Nat.reduceLeDiff, Nat.reduceMul, Nat.reduceSub, Int.reduceLE, Int.reduceLT, Int.reduceEq, Int.reduceBEq, Int.reduceBNe, Int.reduceToNat, Int.reduceNeg, Nat.reduceBNe, forall_eq_or_imp, st63a, gA, hil', i0, hgi, clA]
        refine c149 c.2 hrc.1 hrc.2 ?_
        simp only [OI0, OI1, OI2, OI3, OI4, OI5, OI6, OI7, OI8, OI9, OI10, OI11, OI12, ↓reduceIte, reduceCtorEq, Nat.reduceAdd, Nat.reduceEqDiff, Nat.reduceBEq, Nat.reduceLT, Nat.reduceLeDiff, Nat.reduceMul, Nat.reduceSub, Int.reduceLE, Int.reduceLT, Int.reduceEq, Int.reduceBEq, Int.reduceBNe, Int.reduceToNat, Int.reduceNeg, Nat.reduceBNe, forall_eq_or_imp, f1]
        refine c148 [⟨#[99, 108, 117, 115, 116, 101, 114]⟩, c.1, (⟨#[119, 111, 114, 107, 101, 114, 115, 61]⟩ : ByteArray) ++ decB c.2] (by simp) (by rw [hrow]; omega) ?_
        rw [hrow]
        simp only [OI0, OI1, OI2, OI3, OI4, OI5, OI6, OI7, OI8, OI9, OI10, OI11, OI12, ↓reduceIte, reduceCtorEq, Nat.reduceAdd, Nat.reduceEqDiff, Nat.reduceBEq, Nat.reduceLT, Nat.reduceLeDiff, Nat.reduceMul, Nat.reduceSub, Int.reduceLE, Int.reduceLT, Int.reduceEq, Int.reduceBEq, Int.reduceBNe, Int.reduceToNat, Int.reduceNeg, Nat.reduceBNe, forall_eq_or_imp]
        refine c109b _ _ (by simp) (by simp) (by rw [szl]; omega) ?_
        simp only [OI0, OI1, OI2, OI3, OI4, OI5, OI6, OI7, OI8, OI9, OI10, OI11, OI12, ↓reduceIte, reduceCtorEq, Nat.reduceAdd, Nat.reduceEqDiff, Nat.reduceBEq, Nat.reduceLT, Nat.reduceLeDiff, Nat.reduceMul, Nat.reduceSub, Int.reduceLE, Int.reduceLT, Int.reduceEq, Int.reduceBEq, Int.reduceBNe, Int.reduceToNat, Int.reduceNeg, Nat.reduceBNe, forall_eq_or_imp, bldRf, w1, dtl]
        refine ⟨i + 1 + 1, ⟨by omega, by omega⟩, ?_⟩
        simp only [OI0, OI1, OI2, OI3, OI4, OI5, OI6, OI7, OI8, OI9, OI10, OI11, OI12, ↓reduceIte, reduceCtorEq, Nat.reduceAdd, Nat.reduceEqDiff, Nat.reduceBEq, Nat.reduceLT, Nat.reduceLeDiff, Nat.reduceMul, Nat.reduceSub, Int.reduceLE, Int.reduceLT, Int.reduceEq, Int.reduceBEq, Int.reduceBNe, Int.reduceToNat, Int.reduceNeg, Nat.reduceBNe, forall_eq_or_imp, st63a, gA, hsn]
    obtain ⟨m, hm⟩ : ∃ m, i = m + 1 := ⟨i - 1, by omega⟩
    have hie : i = g.cl.length := by omega
    subst hm
    have hlt : ¬ ((m + 1 : Nat) : Int) < g.cl.length := by omega
    have hB1 := tx_len lcl (m + 1)
    have eB1 : tx clL g.cl (m + 1) = (g.cl.map clL).flatten := by rw [hie, tx_all]
    rw [eB1] at hB1
    simp only [OI0, OI1, OI2, OI3, OI4, OI5, OI6, OI7, OI8, OI9, OI10, OI11, OI12, ↓reduceIte, reduceCtorEq, Nat.reduceAdd, Nat.reduceEqDiff, Nat.reduceBEq, Nat.reduceLT, Nat.reduceLeDiff, Nat.reduceMul, Nat.reduceSub, Int.reduceLE, Int.reduceLT, Int.reduceEq, Int.reduceBEq, Int.reduceBNe, Int.reduceToNat, Int.reduceNeg, Nat.reduceBNe, forall_eq_or_imp, st63a, gA, hlt, eB1]
    have B1n : ((g.cl.map clL).flatten).length ≤ 16000 := by omega
    generalize hD1 : (g.cl.map clL).flatten = B1 at B1n
    clear hB1 eB1 hie hlt hil hi
    refine W_loop (st63b I g 39 38 37 g.lo.length (.lst 3 (g.lo.map loA)) (fun i => B1 ++ tx (loL g) g.lo i)) (fun i => i ≤ g.lo.length) (fun i => g.lo.length - i) (fun _ _ => rfl) ⟨0, by omega, ?_⟩ ?_
    · simp only [OI0, OI1, OI2, OI3, OI4, OI5, OI6, OI7, OI8, OI9, OI10, OI11, OI12, ↓reduceIte, reduceCtorEq, Nat.reduceAdd, Nat.reduceEqDiff, Nat.reduceBEq, Nat.reduceLT, Nat.reduceLeDiff, Nat.reduceMul, Nat.reduceSub, Int.reduceLE, Int.reduceLT, Int.reduceEq, Int.reduceBEq, Int.reduceBNe, Int.reduceToNat, Int.reduceNeg, Nat.reduceBNe, forall_eq_or_imp, st63b, gA, tx, List.take_zero, List.map_nil, List.flatten_nil, List.append_nil]
      try trace_state
    intro i hi
    refine W_of_N ok63.small hmix ?_
    have hln := tx_len llo i
    by_cases hil : i < g.lo.length
    · have hil' : (i : Int) < g.lo.length := by omega
      have i0 : (0 : Int) ≤ i := by omega
      have hgi : g.lo[i]? = some g.lo[i] := List.getElem?_eq_getElem hil
      have hmem := List.getElem_mem hil
      have w1 : IntKind.i64.wrap ((i : Int) + 1) = ((i + 1 : Nat) : Int) := by rw [wrI64 (by omega) (by omega)]; omega
      generalize g.lo[i] = c at hgi hmem
      have hrc := hr.lo c hmem
      obtain ⟨c', hc', hup1, hup2⟩ := hF.wf i hil
      rw [hgi] at hc'
      obtain rfl := Option.some.inj hc'
      have d1 : (decB c.2.2).size ≤ 20 := by rw [← bs_len, bs_dec]; exact decL_len hrc.1 hrc.2
      have d2 : (lpN g c.2.1).size ≤ 1000 := by rw [← bs_len]; exact lpN_size hs _
      have f1 : (if IntKind.i64.max < (((⟨#[105, 110, 61]⟩ : ByteArray).size + (lpN g c.2.1).size : Nat) : Int) then none else some (Value.string ((⟨#[105, 110, 61]⟩ : ByteArray) ++ lpN g c.2.1))) = some (Value.string ((⟨#[105, 110, 61]⟩ : ByteArray) ++ lpN g c.2.1)) := cat_if (by have e : (⟨#[105, 110, 61]⟩ : ByteArray).size = 3 := rfl; rw [e]; omega)
      have f2 : (if IntKind.i64.max < (((⟨#[114, 111, 117, 110, 100, 115, 61]⟩ : ByteArray).size + (decB c.2.2).size : Nat) : Int) then none else some (Value.string ((⟨#[114, 111, 117, 110, 100, 115, 61]⟩ : ByteArray) ++ decB c.2.2))) = some (Value.string ((⟨#[114, 111, 117, 110, 100, 115, 61]⟩ : ByteArray) ++ decB c.2.2)) := cat_if (by have e : (⟨#[114, 111, 117, 110, 100, 115, 61]⟩ : ByteArray).size = 7 := rfl; rw [e]; omega)
      have hrow := row_lo g c
      have hlc := llo c hmem
      have hsn := tx_snoc (f := loL g) hgi
      simp only [OI0, OI1, OI2, OI3, OI4, OI5, OI6, OI7, OI8, OI9, OI10, OI11, OI12, ↓reduceIte, reduceCtorEq, Nat.reduceAdd, Nat.reduceEqDiff, Nat.reduceBEq, Nat.reduceLT, Nat.reduceLeDiff, Nat.reduceMul, Nat.reduceSub, Int.reduceLE, Int.reduceLT, Int.reduceEq, Int.reduceBEq, Int.reduceBNe, Int.reduceToNat, Int.reduceNeg, Nat.reduceBNe, forall_eq_or_imp, st63b, gA, hil', i0, hgi, loA]
      refine c150 g c.2.1 hup1 (by omega) ?_
      simp only [OI0, OI1, OI2, OI3, OI4, OI5, OI6, OI7, OI8, OI9, OI10, OI11, OI12, ↓reduceIte, reduceCtorEq, Nat.reduceAdd, Nat.reduceEqDiff, Nat.reduceBEq, Nat.reduceLT, Nat.reduceLeDiff, Nat.reduceMul, Nat.reduceSub, Int.reduceLE, Int.reduceLT, Int.reduceEq, Int.reduceBEq, Int.reduceBNe, Int.reduceToNat, Int.reduceNeg, Nat.reduceBNe, forall_eq_or_imp, f1]
      refine c149 c.2.2 hrc.1 hrc.2 ?_
      simp only [OI0, OI1, OI2, OI3, OI4, OI5, OI6, OI7, OI8, OI9, OI10, OI11, OI12, ↓reduceIte, reduceCtorEq, Nat.reduceAdd, Nat.reduceEqDiff, Nat.reduceBEq, Nat.reduceLT, Nat.reduceLeDiff, Nat.reduceMul, Nat.reduceSub, Int.reduceLE, Int.reduceLT, Int.reduceEq, Int.reduceBEq, Int.reduceBNe, Int.reduceToNat, Int.reduceNeg, Nat.reduceBNe, forall_eq_or_imp, f2]
      refine c148 [⟨#[108, 111, 111, 112]⟩, c.1, (⟨#[105, 110, 61]⟩ : ByteArray) ++ lpN g c.2.1, (⟨#[114, 111, 117, 110, 100, 115, 61]⟩ : ByteArray) ++ decB c.2.2] (by simp) (by rw [hrow]; omega) ?_
      rw [hrow]
      simp only [OI0, OI1, OI2, OI3, OI4, OI5, OI6, OI7, OI8, OI9, OI10, OI11, OI12, ↓reduceIte, reduceCtorEq, Nat.reduceAdd, Nat.reduceEqDiff, Nat.reduceBEq, Nat.reduceLT, Nat.reduceLeDiff, Nat.reduceMul, Nat.reduceSub, Int.reduceLE, Int.reduceLT, Int.reduceEq, Int.reduceBEq, Int.reduceBNe, Int.reduceToNat, Int.reduceNeg, Nat.reduceBNe, forall_eq_or_imp]
      refine c109b _ _ (by simp) (by simp) (by rw [szl, List.length_append]; omega) ?_
      simp only [OI0, OI1, OI2, OI3, OI4, OI5, OI6, OI7, OI8, OI9, OI10, OI11, OI12, ↓reduceIte, reduceCtorEq, Nat.reduceAdd, Nat.reduceEqDiff, Nat.reduceBEq, Nat.reduceLT, Nat.reduceLeDiff, Nat.reduceMul, Nat.reduceSub, Int.reduceLE, Int.reduceLT, Int.reduceEq, Int.reduceBEq, Int.reduceBNe, Int.reduceToNat, Int.reduceNeg, Nat.reduceBNe, forall_eq_or_imp, bldRf, w1, dtl]
      refine ⟨i + 1, ⟨by omega, by omega⟩, ?_⟩
      simp only [OI0, OI1, OI2, OI3, OI4, OI5, OI6, OI7, OI8, OI9, OI10, OI11, OI12, ↓reduceIte, reduceCtorEq, Nat.reduceAdd, Nat.reduceEqDiff, Nat.reduceBEq, Nat.reduceLT, Nat.reduceLeDiff, Nat.reduceMul, Nat.reduceSub, Int.reduceLE, Int.reduceLT, Int.reduceEq, Int.reduceBEq, Int.reduceBNe, Int.reduceToNat, Int.reduceNeg, Nat.reduceBNe, forall_eq_or_imp, st63b, gA, hsn, List.append_assoc]
    obtain rfl : i = g.lo.length := by omega
    rw [tx_all] at hln
    simp only [OI0, OI1, OI2, OI3, OI4, OI5, OI6, OI7, OI8, OI9, OI10, OI11, OI12, ↓reduceIte, reduceCtorEq, Nat.reduceAdd, Nat.reduceEqDiff, Nat.reduceBEq, Nat.reduceLT, Nat.reduceLeDiff, Nat.reduceMul, Nat.reduceSub, Int.reduceLE, Int.reduceLT, Int.reduceEq, Int.reduceBEq, Int.reduceBNe, Int.reduceToNat, Int.reduceNeg, Nat.reduceBNe, forall_eq_or_imp, st63b, gA, Int.lt_irrefl, tx_all]
    have B2n : (B1 ++ (g.lo.map (loL g)).flatten).length ≤ 40000 := by rw [List.length_append]; omega
    generalize hB2 : B1 ++ (g.lo.map (loL g)).flatten = B2 at B2n
    clear hln hil hi
    refine W_loop (st63b I g 61 60 59 g.op.length (.lst 6 (g.op.map opA)) (fun i => B2 ++ tx (opL g) g.op i)) (fun i => i ≤ g.op.length) (fun i => g.op.length - i) (fun _ _ => rfl) ⟨0, by omega, ?_⟩ ?_
    · simp only [OI0, OI1, OI2, OI3, OI4, OI5, OI6, OI7, OI8, OI9, OI10, OI11, OI12, ↓reduceIte, reduceCtorEq, Nat.reduceAdd, Nat.reduceEqDiff, Nat.reduceBEq, Nat.reduceLT, Nat.reduceLeDiff, Nat.reduceMul, Nat.reduceSub, Int.reduceLE, Int.reduceLT, Int.reduceEq, Int.reduceBEq, Int.reduceBNe, Int.reduceToNat, Int.reduceNeg, Nat.reduceBNe, forall_eq_or_imp, st63b, gA, tx, List.take_zero, List.map_nil, List.flatten_nil, List.append_nil]
      try trace_state
    intro i hi
    refine W_of_N ok63.small hmix ?_
    have hln := tx_len lop i
    by_cases hil : i < g.op.length
    · have hil' : (i : Int) < g.op.length := by omega
      have i0 : (0 : Int) ≤ i := by omega
      have hgi : g.op[i]? = some g.op[i] := List.getElem?_eq_getElem hil
      have hmem := List.getElem_mem hil
      have w1 : IntKind.i64.wrap ((i : Int) + 1) = ((i + 1 : Nat) : Int) := by rw [wrI64 (by omega) (by omega)]; omega
      generalize g.op[i] = c at hgi hmem
      have hrc := hr.op c hmem
      have hlc := lop c hmem
      have hsn := tx_snoc (f := opL g) hgi
      simp only [OI0, OI1, OI2, OI3, OI4, OI5, OI6, OI7, OI8, OI9, OI10, OI11, OI12, ↓reduceIte, reduceCtorEq, Nat.reduceAdd, Nat.reduceEqDiff, Nat.reduceBEq, Nat.reduceLT, Nat.reduceLeDiff, Nat.reduceMul, Nat.reduceSub, Int.reduceLE, Int.reduceLT, Int.reduceEq, Int.reduceBEq, Int.reduceBNe, Int.reduceToNat, Int.reduceNeg, Nat.reduceBNe, forall_eq_or_imp, st63b, gA, hil', i0, hgi, opA]
      refine c151 g c hs (hF.op _ _ hgi) (hs.nop _ _ hgi) hrc.1 hrc.2 ?_
      simp only [OI0, OI1, OI2, OI3, OI4, OI5, OI6, OI7, OI8, OI9, OI10, OI11, OI12, ↓reduceIte, reduceCtorEq, Nat.reduceAdd, Nat.reduceEqDiff, Nat.reduceBEq, Nat.reduceLT, Nat.reduceLeDiff, Nat.reduceMul, Nat.reduceSub, Int.reduceLE, Int.reduceLT, Int.reduceEq, Int.reduceBEq, Int.reduceBNe, Int.reduceToNat, Int.reduceNeg, Nat.reduceBNe, forall_eq_or_imp]
      refine c109b _ _ (by simp) (by simp) (by rw [szl, List.length_append]; omega) ?_
      simp only [OI0, OI1, OI2, OI3, OI4, OI5, OI6, OI7, OI8, OI9, OI10, OI11, OI12, ↓reduceIte, reduceCtorEq, Nat.reduceAdd, Nat.reduceEqDiff, Nat.reduceBEq, Nat.reduceLT, Nat.reduceLeDiff, Nat.reduceMul, Nat.reduceSub, Int.reduceLE, Int.reduceLT, Int.reduceEq, Int.reduceBEq, Int.reduceBNe, Int.reduceToNat, Int.reduceNeg, Nat.reduceBNe, forall_eq_or_imp, bldRf, w1, dtl]
      refine ⟨i + 1, ⟨by omega, by omega⟩, ?_⟩
      simp only [OI0, OI1, OI2, OI3, OI4, OI5, OI6, OI7, OI8, OI9, OI10, OI11, OI12, ↓reduceIte, reduceCtorEq, Nat.reduceAdd, Nat.reduceEqDiff, Nat.reduceBEq, Nat.reduceLT, Nat.reduceLeDiff, Nat.reduceMul, Nat.reduceSub, Int.reduceLE, Int.reduceLT, Int.reduceEq, Int.reduceBEq, Int.reduceBNe, Int.reduceToNat, Int.reduceNeg, Nat.reduceBNe, forall_eq_or_imp, st63b, gA, hsn, List.append_assoc]
    obtain rfl : i = g.op.length := by omega
    rw [tx_all] at hln
    simp only [OI0, OI1, OI2, OI3, OI4, OI5, OI6, OI7, OI8, OI9, OI10, OI11, OI12, ↓reduceIte, reduceCtorEq, Nat.reduceAdd, Nat.reduceEqDiff, Nat.reduceBEq, Nat.reduceLT, Nat.reduceLeDiff, Nat.reduceMul, Nat.reduceSub, Int.reduceLE, Int.reduceLT, Int.reduceEq, Int.reduceBEq, Int.reduceBNe, Int.reduceToNat, Int.reduceNeg, Nat.reduceBNe, forall_eq_or_imp, st63b, gA, Int.lt_irrefl, tx_all]
    have B3n : (B2 ++ (g.op.map (opL g)).flatten).length ≤ 140000 := by rw [List.length_append]; omega
    generalize hB3 : B2 ++ (g.op.map (opL g)).flatten = B3 at B3n
    clear hln hil hi
    refine W_loop (st63b I g 73 72 71 g.ch.length (.lst 2 (g.ch.map chA)) (fun i => B3 ++ tx (chL g) g.ch i)) (fun i => i ≤ g.ch.length) (fun i => g.ch.length - i) (fun _ _ => rfl) ⟨0, by omega, ?_⟩ ?_
    · simp only [OI0, OI1, OI2, OI3, OI4, OI5, OI6, OI7, OI8, OI9, OI10, OI11, OI12, ↓reduceIte, reduceCtorEq, Nat.reduceAdd, Nat.reduceEqDiff, Nat.reduceBEq, Nat.reduceLT, Nat.reduceLeDiff, Nat.reduceMul, Nat.reduceSub, Int.reduceLE, Int.reduceLT, Int.reduceEq, Int.reduceBEq, Int.reduceBNe, Int.reduceToNat, Int.reduceNeg, Nat.reduceBNe, forall_eq_or_imp, st63b, gA, tx, List.take_zero, List.map_nil, List.flatten_nil, List.append_nil]
      try trace_state
    intro i hi
    refine W_of_N ok63.small hmix ?_
    have hln := tx_len lch i
    by_cases hil : i < g.ch.length
    · have hil' : (i : Int) < g.ch.length := by omega
      have i0 : (0 : Int) ≤ i := by omega
      have hgi : g.ch[i]? = some g.ch[i] := List.getElem?_eq_getElem hil
      have hmem := List.getElem_mem hil
      have w1 : IntKind.i64.wrap ((i : Int) + 1) = ((i + 1 : Nat) : Int) := by rw [wrI64 (by omega) (by omega)]; omega
      obtain ⟨x, y, u1, u2, u3, u4, hx, hy⟩ := hF.ch _ _ hgi
      generalize g.ch[i] = c at hgi hmem u1 u2 u3 u4 hx hy
      have hlc := lch c hmem
      have hsn := tx_snoc (f := chL g) hgi
      have hrow := row_ch g c
      have ex : opNm g c.1 = x.nm := by simp only [opNm, hx]
      have ey : opNm g c.2 = y.nm := by simp only [opNm, hy]
      rw [ex, ey] at hrow
      simp only [OI0, OI1, OI2, OI3, OI4, OI5, OI6, OI7, OI8, OI9, OI10, OI11, OI12, ↓reduceIte, reduceCtorEq, Nat.reduceAdd, Nat.reduceEqDiff, Nat.reduceBEq, Nat.reduceLT, Nat.reduceLeDiff, Nat.reduceMul, Nat.reduceSub, Int.reduceLE, Int.reduceLT, Int.reduceEq, Int.reduceBEq, Int.reduceBNe, Int.reduceToNat, Int.reduceNeg, Nat.reduceBNe, forall_eq_or_imp, st63b, gA, hil', i0, hgi, chA, opA, u1, u2, u3, u4, hx, hy]
      refine c148 [⟨#[102, 114, 111, 109]⟩, x.nm, ⟨#[116, 111]⟩, y.nm] (by simp) (by rw [hrow]; omega) ?_
      rw [hrow]
      simp only [OI0, OI1, OI2, OI3, OI4, OI5, OI6, OI7, OI8, OI9, OI10, OI11, OI12, ↓reduceIte, reduceCtorEq, Nat.reduceAdd, Nat.reduceEqDiff, Nat.reduceBEq, Nat.reduceLT, Nat.reduceLeDiff, Nat.reduceMul, Nat.reduceSub, Int.reduceLE, Int.reduceLT, Int.reduceEq, Int.reduceBEq, Int.reduceBNe, Int.reduceToNat, Int.reduceNeg, Nat.reduceBNe, forall_eq_or_imp]
      refine c109b _ _ (by simp) (by simp) (by rw [szl, List.length_append]; omega) ?_
      simp only [OI0, OI1, OI2, OI3, OI4, OI5, OI6, OI7, OI8, OI9, OI10, OI11, OI12, ↓reduceIte, reduceCtorEq, Nat.reduceAdd, Nat.reduceEqDiff, Nat.reduceBEq, Nat.reduceLT, Nat.reduceLeDiff, Nat.reduceMul, Nat.reduceSub, Int.reduceLE, Int.reduceLT, Int.reduceEq, Int.reduceBEq, Int.reduceBNe, Int.reduceToNat, Int.reduceNeg, Nat.reduceBNe, forall_eq_or_imp, bldRf, w1, dtl]
      refine ⟨i + 1, ⟨by omega, by omega⟩, ?_⟩
      simp only [OI0, OI1, OI2, OI3, OI4, OI5, OI6, OI7, OI8, OI9, OI10, OI11, OI12, ↓reduceIte, reduceCtorEq, Nat.reduceAdd, Nat.reduceEqDiff, Nat.reduceBEq, Nat.reduceLT, Nat.reduceLeDiff, Nat.reduceMul, Nat.reduceSub, Int.reduceLE, Int.reduceLT, Int.reduceEq, Int.reduceBEq, Int.reduceBNe, Int.reduceToNat, Int.reduceNeg, Nat.reduceBNe, forall_eq_or_imp, st63b, gA, hsn, List.append_assoc]
    obtain rfl : i = g.ch.length := by omega
    simp only [OI0, OI1, OI2, OI3, OI4, OI5, OI6, OI7, OI8, OI9, OI10, OI11, OI12, ↓reduceIte, reduceCtorEq, Nat.reduceAdd, Nat.reduceEqDiff, Nat.reduceBEq, Nat.reduceLT, Nat.reduceLeDiff, Nat.reduceMul, Nat.reduceSub, Int.reduceLE, Int.reduceLT, Int.reduceEq, Int.reduceBEq, Int.reduceBNe, Int.reduceToNat, Int.reduceNeg, Nat.reduceBNe, forall_eq_or_imp, st63b, gA, Int.lt_irrefl, tx_all]
    refine c112 _ (by simp) ?_
    simp only [OI0, OI1, OI2, OI3, OI4, OI5, OI6, OI7, OI8, OI9, OI10, OI11, OI12, ↓reduceIte, reduceCtorEq, Nat.reduceAdd, Nat.reduceEqDiff, Nat.reduceBEq, Nat.reduceLT, Nat.reduceLeDiff, Nat.reduceMul, Nat.reduceSub, Int.reduceLE, Int.reduceLT, Int.reduceEq, Int.reduceBEq, Int.reduceBNe, Int.reduceToNat, Int.reduceNeg, Nat.reduceBNe, forall_eq_or_imp]
    have e : txtL g = B3 ++ (g.ch.map (chL g)).flatten := by rw [txtL, hD1, hB2, hB3]
    simp only [e, i64A] at h
    exact h
  · have htx : txtR g = ([], chk g) := by rw [txtR, if_pos hc]
    rw [htx] at h
    simp only [OI0, OI1, OI2, OI3, OI4, OI5, OI6, OI7, OI8, OI9, OI10, OI11, OI12, ↓reduceIte, reduceCtorEq, Nat.reduceAdd, Nat.reduceEqDiff, Nat.reduceBEq, Nat.reduceLT, Nat.reduceLeDiff, Nat.reduceMul, Nat.reduceSub, Int.reduceLE, Int.reduceLT, Int.reduceEq, Int.reduceBEq, Int.reduceBNe, Int.reduceToNat, Int.reduceNeg, Nat.reduceBNe, forall_eq_or_imp, i64A, bneT hc]
    exact h
end Go.Proofs.Ythlehngbadianaa.Ow
