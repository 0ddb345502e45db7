/- What the functions of the program do, each once: contracts of the logic (part v2). -/
import Derived.Test.YthlehngbadianaaTv1
set_option linter.unusedVariables false
set_option linter.unusedSimpArgs false
set_option linter.unnecessarySimpa false
set_option maxRecDepth 100000
set_option maxHeartbeats 4000000
namespace Go.Proofs.Ythlehngbadianaa.Ow
open Go Go.RowKit Go.Proofs Kt
/- watershed/watershedref18.Text -/
def cc72 : CC := (.seq (.region [⟨none, 2, (.box 0), [0], none, []⟩, ⟨none, 3, (.box 1), [1], none, []⟩, ⟨none, 4, (.val (.mv (.c (.string ⟨#[]⟩)))), [4], none, []⟩, ⟨none, 5, (.val (.mv (.c (.int .i64 0)))), [5], none, []⟩]) (.seq (.region [⟨none, 12, (.val (.ld (.s 2) (some 2))), [], none, []⟩, ⟨none, 13, (.val (.ld (.s 3) (some 4))), [], none, []⟩, ⟨none, 14, (.callP 74 [(.s 12), (.s 13)]), [12, 13], none, []⟩, ⟨none, 6, (.val (.mv (.s 14))), [14], none, []⟩]) (.seq (.seq (.region [⟨none, 15, (.val (.mv (.s 6))), [], none, []⟩, ⟨none, 16, (.val (.bin .neq (.s 15) (.c (.int .i64 0)))), [15], none, []⟩]) (.cond (.s 16) (.seq (.region [⟨none, 17, (.val (.mv (.s 6))), [2, 3, 6, 16], none, []⟩, ⟨none, 4, (.val (.mv (.c (.string ⟨#[]⟩)))), [], none, []⟩, ⟨none, 5, (.val (.mv (.s 17))), [17], none, []⟩]) .ret) .skip)) (.seq (.region [⟨none, 7, (.val (.mv (.c (.string ⟨#[]⟩)))), [6, 16], none, []⟩]) (.seq (.seq (.region [⟨none, 8, (.val (.mv (.c (.int .i64 0)))), [], none, []⟩]) (.block 0 (.loop (.seq (.seq (.region [⟨none, 18, (.val (.mv (.s 8))), [], none, []⟩, ⟨none, 19, (.val (.fa (.s 2) 0)), [], none, []⟩, ⟨none, 20, (.val (.ld (.s 19) none)), [19], none, []⟩, ⟨none, 21, (.val (.lnl (.s 20) 1)), [20], none, []⟩, ⟨none, 22, (.val (.bin .lss (.s 18) (.s 21))), [18, 21], none, []⟩]) (.cond (.s 22) .skip (.exit 0))) (.seq (.block 1 (.region [⟨none, 25, (.val (.mv (.s 7))), [7, 22], none, []⟩, ⟨none, 26, (.val (.bin .add (.s 25) (.c (.string ⟨#[114, 101, 108, 97, 121, 32]⟩)))), [25], none, []⟩, ⟨none, 27, (.val (.fa (.s 2) 0)), [], none, []⟩, ⟨none, 28, (.val (.ld (.s 27) none)), [27], none, []⟩, ⟨none, 29, (.val (.mv (.s 8))), [], none, []⟩, ⟨none, 30, (.val (.ia (.s 28) (.s 29) 1)), [28, 29], none, []⟩, ⟨none, 31, (.val (.ld (.s 30) none)), [30], none, []⟩, ⟨none, 32, (.val (.bin .add (.s 26) (.s 31))), [26, 31], none, []⟩, ⟨none, 33, (.val (.bin .add (.s 32) (.c (.string ⟨#[10]⟩)))), [32], none, []⟩, ⟨none, 7, (.val (.mv (.s 33))), [33], none, []⟩])) (.region [⟨none, 23, (.val (.mv (.s 8))), [8], none, []⟩, ⟨none, 24, (.val (.bin .add (.s 23) (.c (.int .i64 1)))), [23], none, []⟩, ⟨none, 8, (.val (.mv (.s 24))), [24], none, []⟩])))))) (.seq (.seq (.region [⟨none, 9, (.val (.mv (.c (.int .i64 0)))), [8, 22], none, []⟩]) (.block 2 (.loop (.seq (.seq (.region [⟨none, 34, (.val (.mv (.s 9))), [], none, []⟩, ⟨none, 35, (.val (.fa (.s 2) 1)), [], none, []⟩, ⟨none, 36, (.val (.ld (.s 35) none)), [35], none, []⟩, ⟨none, 37, (.val (.lnl (.s 36) 3)), [36], none, []⟩, ⟨none, 38, (.val (.bin .lss (.s 34) (.s 37))), [34, 37], none, []⟩]) (.cond (.s 38) .skip (.exit 2))) (.seq (.block 3 (.seq (.region [⟨none, 41, (.val (.fa (.s 2) 1)), [38], none, []⟩, ⟨none, 42, (.val (.ld (.s 41) none)), [41], none, []⟩, ⟨none, 43, (.val (.mv (.s 9))), [], none, []⟩, ⟨none, 44, (.val (.ia (.s 42) (.s 43) 3)), [42, 43], none, []⟩, ⟨none, 45, (.val (.ld (.s 44) (some 3))), [44], none, []⟩, ⟨none, 10, (.alloc (.agg #[(.int .i64 0), (.int .i64 0), (.slice none 0 0)])), [], none, []⟩, ⟨none, 0, (.store 3 (.s 10) (.s 45)), [45], none, []⟩]) (.seq (.region [⟨none, 46, (.val (.mv (.s 7))), [7], none, []⟩, ⟨none, 47, (.val (.bin .add (.s 46) (.c (.string ⟨#[114, 111, 117, 116, 101, 32]⟩)))), [46], none, []⟩, ⟨none, 48, (.val (.fa (.s 3) 0)), [], none, []⟩, ⟨none, 49, (.val (.ld (.s 48) none)), [48], none, []⟩, ⟨none, 50, (.val (.fa (.s 10) 0)), [], none, []⟩, ⟨none, 51, (.val (.ld (.s 50) none)), [50], none, []⟩, ⟨none, 52, (.val (.ia (.s 49) (.s 51) 2)), [49, 51], none, []⟩, ⟨none, 53, (.val (.fa (.s 52) 0)), [52], none, []⟩, ⟨none, 54, (.val (.ld (.s 53) none)), [53], none, []⟩, ⟨none, 55, (.val (.bin .add (.s 47) (.s 54))), [47, 54], none, []⟩, ⟨none, 56, (.val (.bin .add (.s 55) (.c (.string ⟨#[32]⟩)))), [55], none, []⟩, ⟨none, 57, (.val (.fa (.s 3) 0)), [], none, []⟩, ⟨none, 58, (.val (.ld (.s 57) none)), [57], none, []⟩, ⟨none, 59, (.val (.fa (.s 10) 1)), [], none, []⟩, ⟨none, 60, (.val (.ld (.s 59) none)), [59], none, []⟩, ⟨none, 61, (.val (.ia (.s 58) (.s 60) 2)), [58, 60], none, []⟩, ⟨none, 62, (.val (.fa (.s 61) 0)), [61], none, []⟩, ⟨none, 63, (.val (.ld (.s 62) none)), [62], none, []⟩, ⟨none, 64, (.val (.bin .add (.s 56) (.s 63))), [56, 63], none, []⟩, ⟨none, 65, (.val (.bin .add (.s 64) (.c (.string ⟨#[32, 118, 105, 97]⟩)))), [64], none, []⟩, ⟨none, 7, (.val (.mv (.s 65))), [65], none, []⟩]) (.seq (.seq (.region [⟨none, 11, (.val (.mv (.c (.int .i64 0)))), [], none, []⟩]) (.block 4 (.loop (.seq (.seq (.region [⟨none, 66, (.val (.mv (.s 11))), [], none, []⟩, ⟨none, 67, (.val (.fa (.s 10) 2)), [], none, []⟩, ⟨none, 68, (.val (.ld (.s 67) none)), [67], none, []⟩, ⟨none, 69, (.val (.lnl (.s 68) 1)), [68], none, []⟩, ⟨none, 70, (.val (.bin .lss (.s 66) (.s 69))), [66, 69], none, []⟩]) (.cond (.s 70) .skip (.exit 4))) (.seq (.block 5 (.region [⟨none, 73, (.val (.mv (.s 7))), [7, 70], none, []⟩, ⟨none, 74, (.val (.bin .add (.s 73) (.c (.string ⟨#[32]⟩)))), [73], none, []⟩, ⟨none, 75, (.val (.fa (.s 2) 0)), [], none, []⟩, ⟨none, 76, (.val (.ld (.s 75) none)), [75], none, []⟩, ⟨none, 77, (.val (.fa (.s 10) 2)), [], none, []⟩, ⟨none, 78, (.val (.ld (.s 77) none)), [77], none, []⟩, ⟨none, 79, (.val (.mv (.s 11))), [], none, []⟩, ⟨none, 80, (.val (.ia (.s 78) (.s 79) 1)), [78, 79], none, []⟩, ⟨none, 81, (.val (.ld (.s 80) none)), [80], none, []⟩, ⟨none, 82, (.val (.ia (.s 76) (.s 81) 1)), [76, 81], none, []⟩, ⟨none, 83, (.val (.ld (.s 82) none)), [82], none, []⟩, ⟨none, 84, (.val (.bin .add (.s 74) (.s 83))), [74, 83], none, []⟩, ⟨none, 7, (.val (.mv (.s 84))), [84], none, []⟩])) (.region [⟨none, 71, (.val (.mv (.s 11))), [11], none, []⟩, ⟨none, 72, (.val (.bin .add (.s 71) (.c (.int .i64 1)))), [71], none, []⟩, ⟨none, 11, (.val (.mv (.s 72))), [72], none, []⟩])))))) (.region [⟨none, 85, (.val (.mv (.s 7))), [7, 10, 11, 70], none, []⟩, ⟨none, 86, (.val (.bin .add (.s 85) (.c (.string ⟨#[10]⟩)))), [85], none, []⟩, ⟨none, 7, (.val (.mv (.s 86))), [86], none, []⟩]))))) (.region [⟨none, 39, (.val (.mv (.s 9))), [9], none, []⟩, ⟨none, 40, (.val (.bin .add (.s 39) (.c (.int .i64 1)))), [39], none, []⟩, ⟨none, 9, (.val (.mv (.s 40))), [40], none, []⟩])))))) (.seq (.region [⟨none, 87, (.val (.mv (.s 7))), [2, 3, 7, 9, 38], none, []⟩, ⟨none, 4, (.val (.mv (.s 87))), [87], none, []⟩, ⟨none, 5, (.val (.mv (.c (.int .i64 0)))), [], none, []⟩]) .ret)))))))
theorem ok72 : FnOk Try.prog 72 cc72 [(.t 4), (.t 5)] 2 88 := ⟨⟨_, Try.func72, by kernel_rfl, by kernel_rfl, by kernel_rfl⟩, by decide, by decide⟩
theorem bs10 : bsS ⟨#[10]⟩ = [10] := rfl
theorem bs32 : bsS ⟨#[32]⟩ = [32] := rfl
theorem bsRl : bsS ⟨#[114, 101, 108, 97, 121, 32]⟩ = [114, 101, 108, 97, 121, 32] := rfl
theorem bsRt : bsS ⟨#[114, 111, 117, 116, 101, 32]⟩ = [114, 111, 117, 116, 101, 32] := rfl
theorem bsVi : bsS ⟨#[32, 118, 105, 97]⟩ = [32, 118, 105, 97] := rfl
def st72 (I : World → Fp → Value → Fp → Prop) (p : Pn) (g : Gr) (a : Nat) (B : Nat → List UInt8) (i : Nat) : St :=
  ⟨[(a, .v (.int .i64 i)), (7, .v (.string ⟨(B i).toArray⟩)), (2, .ref ⟨1002, [], 0⟩), (3, .ref ⟨1003, [], 0⟩)], [(1003, gA g), (1002, plA p), (9999, .ext I)], []⟩
def st72c (I : World → Fp → Value → Fp → Prop) (p : Pn) (g : Gr) (B : List UInt8) (i : Nat) (r : Rt) (j : Nat) : St :=
  ⟨[(11, .v (.int .i64 j)), (10, .ref ⟨1010, [], 0⟩), (9, .v (.int .i64 i)), (7, .v (.string ⟨(B ++ tx (rtL2 p) r.via j).toArray⟩)), (2, .ref ⟨1002, [], 0⟩), (3, .ref ⟨1003, [], 0⟩)], [(1010, rtA r), (1003, gA g), (1002, plA p), (9999, .ext I)], []⟩
theorem c72 (p : Pn) (g : Gr) (hp : SmallP p) (hs : Small g) {Q : AV → Al → Prop} (h : Q (.tup [.v (.string ⟨(txtPR p g).1.toArray⟩), i64A (txtPR p g).2]) []) : ACalls Try.prog 72 [] [plA p, gA g] Q := by
  refine ok72.N hmix rfl ?_
  intro I
  simp only [cc72, OI, ↓reduceIte, reduceCtorEq, Nat.reduceAdd, Nat.reduceEqDiff, Nat.reduceBEq, Nat.reduceLT, Nat.reduceLeDiff, Nat.reduceMul, Nat.reduceSub, Int.reduceLE, Int.reduceLT, Int.reduceEq, Int.reduceBEq, Int.reduceBNe, Int.reduceToNat, Int.reduceNeg, Nat.reduceBNe, plA, gA]
  refine c74 p g hs.nm hp ?_
  by_cases hc : chkP p g = 0
  · obtain ⟨h0, h1, h2, h3⟩ := chkP0 hc
    have h4 := (chk0 h0).cl4
    have htx : txtPR p g = (txtP p g, 0) := by rw [txtPR, if_neg (by simpa using hc)]
    rw [htx] at h
    have lre : ∀ x ∈ p.re, (rlL x).length ≤ 1007 := fun x hx => by
      obtain ⟨i, hi⟩ := List.getElem?_of_mem hx
      exact rlL_len (hp.nm _ _ hi)
    have lrt : ∀ x ∈ p.rt, (rtL p g x).length ≤ 24000 := fun x hx => by
      obtain ⟨i, hi⟩ := List.getElem?_of_mem hx
      exact rtL_len hp hs (hp.via _ _ hi)
    simp only [OI, ↓reduceIte, reduceCtorEq, Nat.reduceAdd, Nat.reduceEqDiff, Nat.reduceBEq, Nat.reduceLT, Nat.reduceLeDiff, Nat.reduceMul, Nat.reduceSub, Int.reduceLE, Int.reduceLT, Int.reduceEq, Int.reduceBEq, Int.reduceBNe, Int.reduceToNat, Int.reduceNeg, Nat.reduceBNe, i64A, bneF hc]
    refine W_loop (st72 I p g 8 (fun i => tx rlL p.re i)) (fun i => i ≤ p.re.length) (fun i => p.re.length - i) (fun _ _ => rfl) ⟨0, by omega, ?_⟩ ?_
    · simp only [OI, ↓reduceIte, reduceCtorEq, Nat.reduceAdd, Nat.reduceEqDiff, Nat.reduceBEq, Nat.reduceLT, Nat.reduceLeDiff, Nat.reduceMul, Nat.reduceSub, Int.reduceLE, Int.reduceLT, Int.reduceEq, Int.reduceBEq, Int.reduceBNe, Int.reduceToNat, Int.reduceNeg, Nat.reduceBNe, st72, plA, gA, tx_zero]
      try rfl
    intro i hi
    refine W_of_N ok72.small hmix ?_
    have hln := tx_len lre i
    by_cases hil : i < p.re.length
    · have hil' : (i : Int) < p.re.length := by omega
      have i0 : (0 : Int) ≤ i := by omega
      obtain ⟨s, hgi⟩ : ∃ s, p.re[i]? = some s := ⟨_, List.getElem?_eq_getElem hil⟩
      have w1 : IntKind.i64.wrap ((i : Int) + 1) = ((i + 1 : Nat) : Int) := by rw [wrI64 (by omega) (by omega)]; omega
      have hsz := hp.nm i s hgi
      have hbs := bs_len s
      have hsn := tx_snoc (f := rlL) hgi
      simp only [OI, ↓reduceIte, reduceCtorEq, Nat.reduceAdd, Nat.reduceEqDiff, Nat.reduceBEq, Nat.reduceLT, Nat.reduceLeDiff, Nat.reduceMul, Nat.reduceSub, Int.reduceLE, Int.reduceLT, Int.reduceEq, Int.reduceBEq, Int.reduceBNe, Int.reduceToNat, Int.reduceNeg, Nat.reduceBNe, st72, plA, gA, hil', i0, hgi, nmA]
      refine ⟨_, catL (by simp only [bs10, bs32, bsRl, List.length_append, List.length_cons, List.length_nil]; omega), ?_⟩
      simp only [OI, ↓reduceIte, reduceCtorEq, Nat.reduceAdd, Nat.reduceEqDiff, Nat.reduceBEq, Nat.reduceLT, Nat.reduceLeDiff, Nat.reduceMul, Nat.reduceSub, Int.reduceLE, Int.reduceLT, Int.reduceEq, Int.reduceBEq, Int.reduceBNe, Int.reduceToNat, Int.reduceNeg, Nat.reduceBNe, st72, plA, gA, hil', i0, hgi, nmA]
      refine ⟨_, catL (by simp only [bs10, bs32, bsRl, List.length_append, List.length_cons, List.length_nil]; omega), ?_⟩
      simp only [OI, ↓reduceIte, reduceCtorEq, Nat.reduceAdd, Nat.reduceEqDiff, Nat.reduceBEq, Nat.reduceLT, Nat.reduceLeDiff, Nat.reduceMul, Nat.reduceSub, Int.reduceLE, Int.reduceLT, Int.reduceEq, Int.reduceBEq, Int.reduceBNe, Int.reduceToNat, Int.reduceNeg, Nat.reduceBNe, st72, plA, gA, hil', i0, hgi, nmA]
      refine ⟨_, catL (by simp only [bs10, bs32, bsRl, List.length_append, List.length_cons, List.length_nil]; omega), ?_⟩
      simp only [OI, ↓reduceIte, reduceCtorEq, Nat.reduceAdd, Nat.reduceEqDiff, Nat.reduceBEq, Nat.reduceLT, Nat.reduceLeDiff, Nat.reduceMul, Nat.reduceSub, Int.reduceLE, Int.reduceLT, Int.reduceEq, Int.reduceBEq, Int.reduceBNe, Int.reduceToNat, Int.reduceNeg, Nat.reduceBNe, st72, plA, gA, w1]
      refine ⟨i + 1, ⟨by omega, by omega⟩, ?_⟩
      simp only [OI, ↓reduceIte, reduceCtorEq, Nat.reduceAdd, Nat.reduceEqDiff, Nat.reduceBEq, Nat.reduceLT, Nat.reduceLeDiff, Nat.reduceMul, Nat.reduceSub, Int.reduceLE, Int.reduceLT, Int.reduceEq, Int.reduceBEq, Int.reduceBNe, Int.reduceToNat, Int.reduceNeg, Nat.reduceBNe, st72, plA, gA, nmA, hsn, rlL, bs10, bsRl, List.append_assoc]
      try rfl
    obtain rfl : i = p.re.length := by omega
    have eB1 : tx rlL p.re p.re.length = (p.re.map rlL).flatten := tx_all
    rw [eB1] at hln
    simp only [OI, ↓reduceIte, reduceCtorEq, Nat.reduceAdd, Nat.reduceEqDiff, Nat.reduceBEq, Nat.reduceLT, Nat.reduceLeDiff, Nat.reduceMul, Nat.reduceSub, Int.reduceLE, Int.reduceLT, Int.reduceEq, Int.reduceBEq, Int.reduceBNe, Int.reduceToNat, Int.reduceNeg, Nat.reduceBNe, st72, plA, gA, Int.lt_irrefl, eB1]
    have B1n : ((p.re.map rlL).flatten).length ≤ 5000 := by omega
    generalize hD1 : (p.re.map rlL).flatten = B1 at B1n
    clear hln eB1 hil hi
    refine W_loop (st72 I p g 9 (fun i => B1 ++ tx (rtL p g) p.rt i)) (fun i => i ≤ p.rt.length) (fun i => p.rt.length - i) (fun _ _ => rfl) ⟨0, by omega, ?_⟩ ?_
    · simp only [OI, ↓reduceIte, reduceCtorEq, Nat.reduceAdd, Nat.reduceEqDiff, Nat.reduceBEq, Nat.reduceLT, Nat.reduceLeDiff, Nat.reduceMul, Nat.reduceSub, Int.reduceLE, Int.reduceLT, Int.reduceEq, Int.reduceBEq, Int.reduceBNe, Int.reduceToNat, Int.reduceNeg, Nat.reduceBNe, st72, plA, gA, tx_zero, List.append_nil]
      try rfl
    intro i hi
    refine W_of_N ok72.small hmix ?_
    have hln := tx_len lrt i
    by_cases hil : i < p.rt.length
    · have hil' : (i : Int) < p.rt.length := by omega
      have i0 : (0 : Int) ≤ i := by omega
      obtain ⟨y, hgi⟩ : ∃ y, p.rt[i]? = some y := ⟨_, List.getElem?_eq_getElem hil⟩
      have hmem := List.mem_of_getElem? hgi
      have w1 : IntKind.i64.wrap ((i : Int) + 1) = ((i + 1 : Nat) : Int) := by rw [wrI64 (by omega) (by omega)]; omega
      have hvia := hp.via i y hgi
      have hxs := rtE_via p.rt [] h3 y hmem
      obtain ⟨⟨f0, f1⟩, t0, t1⟩ := rtE_ft p.rt [] h3 y hmem
      obtain ⟨cf, hcf⟩ : ∃ c, g.cl[y.f.toNat]? = some c := ⟨_, List.getElem?_eq_getElem (by omega)⟩
      obtain ⟨ct, hct⟩ : ∃ c, g.cl[y.t.toNat]? = some c := ⟨_, List.getElem?_eq_getElem (by omega)⟩
      have ef : clNmT g y.f = cf.1 := by simp only [clNmT, hcf]
      have et : clNmT g y.t = ct.1 := by simp only [clNmT, hct]
      have sf := clNmT_size hs y.f
      have st := clNmT_size hs y.t
      rw [ef] at sf
      rw [et] at st
      have hlc := lrt y hmem
      have hsn := tx_snoc (f := rtL p g) hgi
      have hB2n : (B1 ++ tx (rtL p g) p.rt i).length ≤ 300000 := by rw [List.length_append]; omega
      generalize hB2 : B1 ++ tx (rtL p g) p.rt i = B2 at hB2n
      simp only [OI, ↓reduceIte, reduceCtorEq, Nat.reduceAdd, Nat.reduceEqDiff, Nat.reduceBEq, Nat.reduceLT, Nat.reduceLeDiff, Nat.reduceMul, Nat.reduceSub, Int.reduceLE, Int.reduceLT, Int.reduceEq, Int.reduceBEq, Int.reduceBNe, Int.reduceToNat, Int.reduceNeg, Nat.reduceBNe, st72, plA, gA, hil', i0, hgi, rtA, f0, f1, t0, t1, hcf, hct, clA, hB2]
      refine ⟨_, catL (by simp only [bs10, bs32, bsRt, bsVi, List.length_append, List.length_cons, List.length_nil]; omega), ?_⟩
      simp only [OI, ↓reduceIte, reduceCtorEq, Nat.reduceAdd, Nat.reduceEqDiff, Nat.reduceBEq, Nat.reduceLT, Nat.reduceLeDiff, Nat.reduceMul, Nat.reduceSub, Int.reduceLE, Int.reduceLT, Int.reduceEq, Int.reduceBEq, Int.reduceBNe, Int.reduceToNat, Int.reduceNeg, Nat.reduceBNe, plA, gA, hil', i0, hgi, rtA, f0, f1, t0, t1, hcf, hct, clA]
      refine ⟨_, catL (by simp only [bs10, bs32, bsRt, bsVi, List.length_append, List.length_cons, List.length_nil]; omega), ?_⟩
      simp only [OI, ↓reduceIte, reduceCtorEq, Nat.reduceAdd, Nat.reduceEqDiff, Nat.reduceBEq, Nat.reduceLT, Nat.reduceLeDiff, Nat.reduceMul, Nat.reduceSub, Int.reduceLE, Int.reduceLT, Int.reduceEq, Int.reduceBEq, Int.reduceBNe, Int.reduceToNat, Int.reduceNeg, Nat.reduceBNe, plA, gA, hil', i0, hgi, rtA, f0, f1, t0, t1, hcf, hct, clA]
      refine ⟨_, catL (by simp only [bs10, bs32, bsRt, bsVi, List.length_append, List.length_cons, List.length_nil]; omega), ?_⟩
      simp only [OI, ↓reduceIte, reduceCtorEq, Nat.reduceAdd, Nat.reduceEqDiff, Nat.reduceBEq, Nat.reduceLT, Nat.reduceLeDiff, Nat.reduceMul, Nat.reduceSub, Int.reduceLE, Int.reduceLT, Int.reduceEq, Int.reduceBEq, Int.reduceBNe, Int.reduceToNat, Int.reduceNeg, Nat.reduceBNe, plA, gA, hil', i0, hgi, rtA, f0, f1, t0, t1, hcf, hct, clA]
      refine ⟨_, catL (by simp only [bs10, bs32, bsRt, bsVi, List.length_append, List.length_cons, List.length_nil]; omega), ?_⟩
      simp only [OI, ↓reduceIte, reduceCtorEq, Nat.reduceAdd, Nat.reduceEqDiff, Nat.reduceBEq, Nat.reduceLT, Nat.reduceLeDiff, Nat.reduceMul, Nat.reduceSub, Int.reduceLE, Int.reduceLT, Int.reduceEq, Int.reduceBEq, Int.reduceBNe, Int.reduceToNat, Int.reduceNeg, Nat.reduceBNe, plA, gA, hil', i0, hgi, rtA, f0, f1, t0, t1, hcf, hct, clA]
      refine ⟨_, catL (by simp only [bs10, bs32, bsRt, bsVi, List.length_append, List.length_cons, List.length_nil]; omega), ?_⟩
      simp only [OI, ↓reduceIte, reduceCtorEq, Nat.reduceAdd, Nat.reduceEqDiff, Nat.reduceBEq, Nat.reduceLT, Nat.reduceLeDiff, Nat.reduceMul, Nat.reduceSub, Int.reduceLE, Int.reduceLT, Int.reduceEq, Int.reduceBEq, Int.reduceBNe, Int.reduceToNat, Int.reduceNeg, Nat.reduceBNe, plA, gA, hil', i0, hgi, rtA, f0, f1, t0, t1, hcf, hct, clA]
      have e1 : B2 ++ (bsS ⟨#[114, 111, 117, 116, 101, 32]⟩ ++ (bsS cf.1 ++ (bsS ⟨#[32]⟩ ++ (bsS ct.1 ++ bsS ⟨#[32, 118, 105, 97]⟩)))) = B2 ++ rtL1 g y := by rw [rtL1, ef, et]; rfl
      rw [e1]
      have B3n : (B2 ++ rtL1 g y).length ≤ 310000 := by
        simp only [List.length_append, rtL1, ef, et, List.length_cons, List.length_nil] at hB2n ⊢; omega
      have lv : ∀ x ∈ y.via, (rtL2 p x).length ≤ 1001 := fun x _ => by have := reNm_size hp x; simp only [rtL2, List.length_cons]; omega
      refine W_loop (st72c I p g (B2 ++ rtL1 g y) i y) (fun j => j ≤ y.via.length) (fun j => y.via.length - j) (fun _ _ => rfl) ⟨0, by omega, ?_⟩ ?_
      · simp only [OI, ↓reduceIte, reduceCtorEq, Nat.reduceAdd, Nat.reduceEqDiff, Nat.reduceBEq, Nat.reduceLT, Nat.reduceLeDiff, Nat.reduceMul, Nat.reduceSub, Int.reduceLE, Int.reduceLT, Int.reduceEq, Int.reduceBEq, Int.reduceBNe, Int.reduceToNat, Int.reduceNeg, Nat.reduceBNe, st72c, plA, gA, rtA, tx_zero, List.append_nil]
        try rfl
      rintro j hj
      refine W_of_N ok72.small hmix ?_
      have hlj := tx_len lv j
      by_cases hjl : j < y.via.length
      · have hjl' : (j : Int) < y.via.length := by omega
        have j0 : (0 : Int) ≤ j := by omega
        obtain ⟨x, hxi⟩ : ∃ x, y.via[j]? = some x := ⟨_, List.getElem?_eq_getElem hjl⟩
        obtain ⟨x0, x1⟩ := hxs x (List.mem_of_getElem? hxi)
        obtain ⟨s, hsx⟩ : ∃ s, p.re[x.toNat]? = some s := ⟨_, List.getElem?_eq_getElem (by omega)⟩
        have es : reNm p x = s := by simp only [reNm, hsx]
        have hss := reNm_size hp x
        rw [es] at hss
        have hjn := tx_snoc (f := rtL2 p) hxi
        have wj : IntKind.i64.wrap ((j : Int) + 1) = ((j + 1 : Nat) : Int) := by rw [wrI64 (by omega) (by omega)]; omega
        have B4n : (B2 ++ rtL1 g y ++ tx (rtL2 p) y.via j).length ≤ 400000 := by rw [List.length_append]; omega
        generalize hB4 : B2 ++ rtL1 g y ++ tx (rtL2 p) y.via j = B4 at B4n
        simp only [OI, ↓reduceIte, reduceCtorEq, Nat.reduceAdd, Nat.reduceEqDiff, Nat.reduceBEq, Nat.reduceLT, Nat.reduceLeDiff, Nat.reduceMul, Nat.reduceSub, Int.reduceLE, Int.reduceLT, Int.reduceEq, Int.reduceBEq, Int.reduceBNe, Int.reduceToNat, Int.reduceNeg, Nat.reduceBNe, st72c, plA, gA, rtA, hjl', j0, hxi, x0, x1, hsx, nmA, i64A, hB4]
        refine ⟨_, catL (by simp only [bs10, bs32, bsRt, bsVi, List.length_append, List.length_cons, List.length_nil]; omega), ?_⟩
        simp only [OI, ↓reduceIte, reduceCtorEq, Nat.reduceAdd, Nat.reduceEqDiff, Nat.reduceBEq, Nat.reduceLT, Nat.reduceLeDiff, Nat.reduceMul, Nat.reduceSub, Int.reduceLE, Int.reduceLT, Int.reduceEq, Int.reduceBEq, Int.reduceBNe, Int.reduceToNat, Int.reduceNeg, Nat.reduceBNe, plA, gA, rtA, hjl', j0, hxi, x0, x1, hsx, nmA, i64A]
        refine ⟨_, catL (by simp only [bs10, bs32, bsRt, bsVi, List.length_append, List.length_cons, List.length_nil]; omega), ?_⟩
        simp only [OI, ↓reduceIte, reduceCtorEq, Nat.reduceAdd, Nat.reduceEqDiff, Nat.reduceBEq, Nat.reduceLT, Nat.reduceLeDiff, Nat.reduceMul, Nat.reduceSub, Int.reduceLE, Int.reduceLT, Int.reduceEq, Int.reduceBEq, Int.reduceBNe, Int.reduceToNat, Int.reduceNeg, Nat.reduceBNe, plA, gA, rtA, wj]
        refine ⟨j + 1, ⟨by omega, by omega⟩, ?_⟩
        have e2 : B2 ++ rtL1 g y ++ tx (rtL2 p) y.via (j + 1) = B4 ++ (bsS ⟨#[32]⟩ ++ bsS s) := by
          rw [hjn, ← List.append_assoc, hB4, rtL2, es]; rfl
        simp only [OI, ↓reduceIte, reduceCtorEq, Nat.reduceAdd, Nat.reduceEqDiff, Nat.reduceBEq, Nat.reduceLT, Nat.reduceLeDiff, Nat.reduceMul, Nat.reduceSub, Int.reduceLE, Int.reduceLT, Int.reduceEq, Int.reduceBEq, Int.reduceBNe, Int.reduceToNat, Int.reduceNeg, Nat.reduceBNe, st72c, plA, gA, rtA, e2]
        try rfl
      · obtain rfl : j = y.via.length := by omega
        have B4n : (B2 ++ rtL1 g y ++ tx (rtL2 p) y.via y.via.length).length ≤ 400000 := by rw [List.length_append]; omega
        have e3 : B1 ++ tx (rtL p g) p.rt (i + 1) = B2 ++ rtL1 g y ++ tx (rtL2 p) y.via y.via.length ++ bsS ⟨#[10]⟩ := by
          rw [hsn, ← List.append_assoc, hB2, rtL_eq, tx_all, bs10]; simp only [List.append_assoc]
        generalize hB4 : B2 ++ rtL1 g y ++ tx (rtL2 p) y.via y.via.length = B4 at B4n e3
        simp only [OI, ↓reduceIte, reduceCtorEq, Nat.reduceAdd, Nat.reduceEqDiff, Nat.reduceBEq, Nat.reduceLT, Nat.reduceLeDiff, Nat.reduceMul, Nat.reduceSub, Int.reduceLE, Int.reduceLT, Int.reduceEq, Int.reduceBEq, Int.reduceBNe, Int.reduceToNat, Int.reduceNeg, Nat.reduceBNe, st72c, plA, gA, rtA, Int.lt_irrefl, hB4]
        refine ⟨_, catL (by simp only [bs10, bs32, bsRt, bsVi, List.length_append, List.length_cons, List.length_nil]; omega), ?_⟩
        simp only [OI, ↓reduceIte, reduceCtorEq, Nat.reduceAdd, Nat.reduceEqDiff, Nat.reduceBEq, Nat.reduceLT, Nat.reduceLeDiff, Nat.reduceMul, Nat.reduceSub, Int.reduceLE, Int.reduceLT, Int.reduceEq, Int.reduceBEq, Int.reduceBNe, Int.reduceToNat, Int.reduceNeg, Nat.reduceBNe, plA, gA, rtA, w1]
        refine ⟨i + 1, ⟨by omega, by omega⟩, ?_⟩
        simp only [OI, ↓reduceIte, reduceCtorEq, Nat.reduceAdd, Nat.reduceEqDiff, Nat.reduceBEq, Nat.reduceLT, Nat.reduceLeDiff, Nat.reduceMul, Nat.reduceSub, Int.reduceLE, Int.reduceLT, Int.reduceEq, Int.reduceBEq, Int.reduceBNe, Int.reduceToNat, Int.reduceNeg, Nat.reduceBNe, st72, plA, gA, e3]
        try rfl
    obtain rfl : i = p.rt.length := by omega
    simp only [OI, ↓reduceIte, reduceCtorEq, Nat.reduceAdd, Nat.reduceEqDiff, Nat.reduceBEq, Nat.reduceLT, Nat.reduceLeDiff, Nat.reduceMul, Nat.reduceSub, Int.reduceLE, Int.reduceLT, Int.reduceEq, Int.reduceBEq, Int.reduceBNe, Int.reduceToNat, Int.reduceNeg, Nat.reduceBNe, st72, plA, gA, Int.lt_irrefl, tx_all]
    have e : txtP p g = B1 ++ (p.rt.map (rtL p g)).flatten := by rw [txtP, hD1]
    simp only [e, i64A] at h
    exact h
  · have htx : txtPR p g = ([], chkP p g) := by rw [txtPR, if_pos hc]
    rw [htx] at h
    simp only [OI, ↓reduceIte, reduceCtorEq, Nat.reduceAdd, Nat.reduceEqDiff, Nat.reduceBEq, Nat.reduceLT, Nat.reduceLeDiff, Nat.reduceMul, Nat.reduceSub, Int.reduceLE, Int.reduceLT, Int.reduceEq, Int.reduceBEq, Int.reduceBNe, Int.reduceToNat, Int.reduceNeg, Nat.reduceBNe, i64A, bneT hc]
    exact h
end Go.Proofs.Ythlehngbadianaa.Ow
