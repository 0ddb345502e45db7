/- What the functions of the program do, each once: contracts of the logic (part h3). -/
import Derived.Test.YthlehngbadianaaTh2
set_option linter.unusedVariables false
set_option linter.unusedSimpArgs false
set_option linter.unnecessarySimpa false
set_option maxRecDepth 100000
set_option maxHeartbeats 4000000
namespace Go.Proofs.Ythlehngbadianaa.Ow
open Go Go.RowKit Go.Proofs
/-- The loop of a place. -/
def scL (g : Gr) (loc : Int) : Int := match g.op[(loc / 2).toNat]? with | some o => loopA g o (loc % 2).toNat | none => 0
def scR (g : Gr) (loc : Int) : Int × Int × Int :=
  if chk g ≠ 0 then (0, 0, chk g) else if loc < 0 ∨ 2 * g.op.length ≤ loc then (0, 0, 1) else (scL g loc, deepN g.lo (scL g loc), 0)
theorem upAt_lt {g : Gr} (hF : Fine g) {i : Int} (h0 : 0 ≤ i) (h1 : i < g.lo.length) : -1 ≤ upAt g.lo i ∧ upAt g.lo i < i := by
  obtain ⟨l, hl, a, b⟩ := hF.wf i.toNat (by omega)
  simp only [upAt, hl]
  omega
theorem loopA_in {g : Gr} (hF : Fine g) {m : Nat} {o : O6} (ho : g.op[m]? = some o) (p : Nat) : -1 ≤ loopA g o p ∧ loopA g o p < g.lo.length := by
  have h := hF.op m o ho
  have a := h.l1
  have b := h.l2
  unfold loopA
  split
  · rename_i hk
    have := h.inn (by omega) (by omega)
    have := upAt_lt hF (i := o.lo) (by omega) b
    omega
  · exact ⟨a, b⟩
theorem c45 (g : Gr) (loc : Int) (hloc : loc ≤ 4611686018427387000) {Q : AV → Al → Prop} (h : Q (.tup [i64A (scR g loc).1, i64A (scR g loc).2.1, i64A (scR g loc).2.2]) []) : ACalls Try.prog 45 [] [gA g, i64A loc] Q := by
  refine ok45.N hmix rfl ?_
  intro I
  simp only [cc45, OI0, OI1, OI2, OI3, OI4, OI5, OI6, OI7, OI8, OI9, OI10, OI11, OI12, ↓reduceIte, reduceCtorEq, Nat.reduceAdd, Nat.reduceEqDiff, Nat.reduceBEq, Nat.reduceLT, Nat.reduceLeDiff, Nat.reduceMul, Nat.reduceSub, Int.reduceLE, Int.reduceLT, Int.reduceEq, Int.reduceBEq, Int.reduceBNe, Int.reduceToNat, Int.reduceNeg, Nat.reduceBNe, forall_eq_or_imp, gA, i64A]
  refine c65 g ?_
  by_cases hc : chk g = 0
  · have hF := chk0 hc
    have h24 := hF.op24
    have hlo6 := hF.lo6
    rw [scR, if_neg (by simpa using hc)] at h
    simp only [OI0, OI1, OI2, OI3, OI4, OI5, OI6, OI7, OI8, OI9, OI10, OI11, OI12, ↓reduceIte, reduceCtorEq, Nat.reduceAdd, Nat.reduceEqDiff, Nat.reduceBEq, Nat.reduceLT, Nat.reduceLeDiff, Nat.reduceMul, Nat.reduceSub, Int.reduceLE, Int.reduceLT, Int.reduceEq, Int.reduceBEq, Int.reduceBNe, Int.reduceToNat, Int.reduceNeg, Nat.reduceBNe, forall_eq_or_imp, i64A, bneF hc]
    by_cases l0 : loc < 0
    · rw [if_pos (.inl l0)] at h
      simp only [OI0, OI1, OI2, OI3, OI4, OI5, OI6, OI7, OI8, OI9, OI10, OI11, OI12, ↓reduceIte, reduceCtorEq, Nat.reduceAdd, Nat.reduceEqDiff, Nat.reduceBEq, Nat.reduceLT, Nat.reduceLeDiff, Nat.reduceMul, Nat.reduceSub, Int.reduceLE, Int.reduceLT, Int.reduceEq, Int.reduceBEq, Int.reduceBNe, Int.reduceToNat, Int.reduceNeg, Nat.reduceBNe, forall_eq_or_imp, l0]
      exact h
    have w1 : IntKind.i64.wrap (2 * (g.op.length : Int)) = 2 * g.op.length := wrI64 (by omega) (by omega)
    by_cases l1 : 2 * (g.op.length : Int) ≤ loc
    · rw [if_pos (.inr l1)] at h
      simp only [OI0, OI1, OI2, OI3, OI4, OI5, OI6, OI7, OI8, OI9, OI10, OI11, OI12, ↓reduceIte, reduceCtorEq, Nat.reduceAdd, Nat.reduceEqDiff, Nat.reduceBEq, Nat.reduceLT, Nat.reduceLeDiff, Nat.reduceMul, Nat.reduceSub, Int.reduceLE, Int.reduceLT, Int.reduceEq, Int.reduceBEq, Int.reduceBNe, Int.reduceToNat, Int.reduceNeg, Nat.reduceBNe, forall_eq_or_imp, l0, l1, w1]
      exact h
    rw [if_neg (by omega)] at h
    obtain ⟨o, ho⟩ : ∃ o, g.op[(loc / 2).toNat]? = some o := ⟨_, List.getElem?_eq_getElem (by omega)⟩
    have hs : scL g loc = loopA g o (loc % 2).toNat := by simp only [scL, ho]
    have hin := loopA_in hF ho (loc % 2).toNat
    rw [hs] at h
    simp only [OI0, OI1, OI2, OI3, OI4, OI5, OI6, OI7, OI8, OI9, OI10, OI11, OI12, ↓reduceIte, reduceCtorEq, Nat.reduceAdd, Nat.reduceEqDiff, Nat.reduceBEq, Nat.reduceLT, Nat.reduceLeDiff, Nat.reduceMul, Nat.reduceSub, Int.reduceLE, Int.reduceLT, Int.reduceEq, Int.reduceBEq, Int.reduceBNe, Int.reduceToNat, Int.reduceNeg, Nat.reduceBNe, forall_eq_or_imp, l0, l1, w1]
    refine c126 g loc (loc / 2).toNat (loc % 2).toNat o (by omega) (by omega) ho (hF.oks _ _ ho) (by omega) ?_
    simp only [OI0, OI1, OI2, OI3, OI4, OI5, OI6, OI7, OI8, OI9, OI10, OI11, OI12, ↓reduceIte, reduceCtorEq, Nat.reduceAdd, Nat.reduceEqDiff, Nat.reduceBEq, Nat.reduceLT, Nat.reduceLeDiff, Nat.reduceMul, Nat.reduceSub, Int.reduceLE, Int.reduceLT, Int.reduceEq, Int.reduceBEq, Int.reduceBNe, Int.reduceToNat, Int.reduceNeg, Nat.reduceBNe, forall_eq_or_imp, i64A]
    refine c127 g _ g.lo.length hF.wf (by omega) (by omega) (by omega) ?_
    simp only [OI0, OI1, OI2, OI3, OI4, OI5, OI6, OI7, OI8, OI9, OI10, OI11, OI12, ↓reduceIte, reduceCtorEq, Nat.reduceAdd, Nat.reduceEqDiff, Nat.reduceBEq, Nat.reduceLT, Nat.reduceLeDiff, Nat.reduceMul, Nat.reduceSub, Int.reduceLE, Int.reduceLT, Int.reduceEq, Int.reduceBEq, Int.reduceBNe, Int.reduceToNat, Int.reduceNeg, Nat.reduceBNe, forall_eq_or_imp, i64A]
    exact h
  · rw [scR, if_pos hc] at h
    simp only [OI0, OI1, OI2, OI3, OI4, OI5, OI6, OI7, OI8, OI9, OI10, OI11, OI12, ↓reduceIte, reduceCtorEq, Nat.reduceAdd, Nat.reduceEqDiff, Nat.reduceBEq, Nat.reduceLT, Nat.reduceLeDiff, Nat.reduceMul, Nat.reduceSub, Int.reduceLE, Int.reduceLT, Int.reduceEq, Int.reduceBEq, Int.reduceBNe, Int.reduceToNat, Int.reduceNeg, Nat.reduceBNe, forall_eq_or_imp, i64A, bneT hc]
    exact h
theorem c46 (g : Gr) (hn : NmOk g) (loc : Int) (hloc : loc ≤ 4611686018427387000) {Q : AV → Al → Prop} (h : Q (.tup [i64A (scR g loc).1, i64A (scR g loc).2.1, i64A (scR g loc).2.2]) []) : ACalls Try.prog 46 [] [gA g, i64A loc] Q := by
  refine ok46.N hmix rfl ?_
  intro I
  simp only [cc46, OI0, OI1, OI2, OI3, OI4, OI5, OI6, OI7, OI8, OI9, OI10, OI11, OI12, ↓reduceIte, reduceCtorEq, Nat.reduceAdd, Nat.reduceEqDiff, Nat.reduceBEq, Nat.reduceLT, Nat.reduceLeDiff, Nat.reduceMul, Nat.reduceSub, Int.reduceLE, Int.reduceLT, Int.reduceEq, Int.reduceBEq, Int.reduceBNe, Int.reduceToNat, Int.reduceNeg, Nat.reduceBNe, forall_eq_or_imp, gA, i64A]
  refine c66 g hn ?_
  by_cases hc : chk g = 0
  · have hF := chk0 hc
    have h24 := hF.op24
    have hlo6 := hF.lo6
    rw [scR, if_neg (by simpa using hc)] at h
    simp only [OI0, OI1, OI2, OI3, OI4, OI5, OI6, OI7, OI8, OI9, OI10, OI11, OI12, ↓reduceIte, reduceCtorEq, Nat.reduceAdd, Nat.reduceEqDiff, Nat.reduceBEq, Nat.reduceLT, Nat.reduceLeDiff, Nat.reduceMul, Nat.reduceSub, Int.reduceLE, Int.reduceLT, Int.reduceEq, Int.reduceBEq, Int.reduceBNe, Int.reduceToNat, Int.reduceNeg, Nat.reduceBNe, forall_eq_or_imp, i64A, bneF hc]
    by_cases l0 : loc < 0
    · rw [if_pos (.inl l0)] at h
      simp only [OI0, OI1, OI2, OI3, OI4, OI5, OI6, OI7, OI8, OI9, OI10, OI11, OI12, ↓reduceIte, reduceCtorEq, Nat.reduceAdd, Nat.reduceEqDiff, Nat.reduceBEq, Nat.reduceLT, Nat.reduceLeDiff, Nat.reduceMul, Nat.reduceSub, Int.reduceLE, Int.reduceLT, Int.reduceEq, Int.reduceBEq, Int.reduceBNe, Int.reduceToNat, Int.reduceNeg, Nat.reduceBNe, forall_eq_or_imp, l0]
      exact h
    have w1 : IntKind.i64.wrap (2 * (g.op.length : Int)) = 2 * g.op.length := wrI64 (by omega) (by omega)
    by_cases l1 : 2 * (g.op.length : Int) ≤ loc
    · rw [if_pos (.inr l1)] at h
      simp only [OI0, OI1, OI2, OI3, OI4, OI5, OI6, OI7, OI8, OI9, OI10, OI11, OI12, ↓reduceIte, reduceCtorEq, Nat.reduceAdd, Nat.reduceEqDiff, Nat.reduceBEq, Nat.reduceLT, Nat.reduceLeDiff, Nat.reduceMul, Nat.reduceSub, Int.reduceLE, Int.reduceLT, Int.reduceEq, Int.reduceBEq, Int.reduceBNe, Int.reduceToNat, Int.reduceNeg, Nat.reduceBNe, forall_eq_or_imp, l0, l1, w1]
      exact h
    rw [if_neg (by omega)] at h
    obtain ⟨o, ho⟩ : ∃ o, g.op[(loc / 2).toNat]? = some o := ⟨_, List.getElem?_eq_getElem (by omega)⟩
    have hs : scL g loc = loopA g o (loc % 2).toNat := by simp only [scL, ho]
    have hin := loopA_in hF ho (loc % 2).toNat
    rw [hs] at h
    simp only [OI0, OI1, OI2, OI3, OI4, OI5, OI6, OI7, OI8, OI9, OI10, OI11, OI12, ↓reduceIte, reduceCtorEq, Nat.reduceAdd, Nat.reduceEqDiff, Nat.reduceBEq, Nat.reduceLT, Nat.reduceLeDiff, Nat.reduceMul, Nat.reduceSub, Int.reduceLE, Int.reduceLT, Int.reduceEq, Int.reduceBEq, Int.reduceBNe, Int.reduceToNat, Int.reduceNeg, Nat.reduceBNe, forall_eq_or_imp, l0, l1, w1]
    refine c128 g loc (loc / 2).toNat (loc % 2).toNat o (by omega) (by omega) ho (hF.oks _ _ ho) (by omega) ?_
    simp only [OI0, OI1, OI2, OI3, OI4, OI5, OI6, OI7, OI8, OI9, OI10, OI11, OI12, ↓reduceIte, reduceCtorEq, Nat.reduceAdd, Nat.reduceEqDiff, Nat.reduceBEq, Nat.reduceLT, Nat.reduceLeDiff, Nat.reduceMul, Nat.reduceSub, Int.reduceLE, Int.reduceLT, Int.reduceEq, Int.reduceBEq, Int.reduceBNe, Int.reduceToNat, Int.reduceNeg, Nat.reduceBNe, forall_eq_or_imp, i64A]
    refine c129 g _ g.lo.length hF.wf (by omega) (by omega) (by omega) ?_
    simp only [OI0, OI1, OI2, OI3, OI4, OI5, OI6, OI7, OI8, OI9, OI10, OI11, OI12, ↓reduceIte, reduceCtorEq, Nat.reduceAdd, Nat.reduceEqDiff, Nat.reduceBEq, Nat.reduceLT, Nat.reduceLeDiff, Nat.reduceMul, Nat.reduceSub, Int.reduceLE, Int.reduceLT, Int.reduceEq, Int.reduceBEq, Int.reduceBNe, Int.reduceToNat, Int.reduceNeg, Nat.reduceBNe, forall_eq_or_imp, i64A]
    exact h
  · rw [scR, if_pos hc] at h
    simp only [OI0, OI1, OI2, OI3, OI4, OI5, OI6, OI7, OI8, OI9, OI10, OI11, OI12, ↓reduceIte, reduceCtorEq, Nat.reduceAdd, Nat.reduceEqDiff, Nat.reduceBEq, Nat.reduceLT, Nat.reduceLeDiff, Nat.reduceMul, Nat.reduceSub, Int.reduceLE, Int.reduceLT, Int.reduceEq, Int.reduceBEq, Int.reduceBNe, Int.reduceToNat, Int.reduceNeg, Nat.reduceBNe, forall_eq_or_imp, i64A, bneT hc]
    exact h
def st67 (I : World → Fp → Value → Fp → Prop) (g : Gr) (i : Nat) : St :=
  ⟨[(12, .v (.int .i64 i)), (11, .v (.int .i64 g.ch.length)), (10, .lst 2 (g.ch.map chA)), (3, .sl ⟨2035, [], 0⟩ 1 0 (flN g i).length), (1, .ref ⟨1001, [], 0⟩)], [(2035, .own 1 ((flN g i).map i64A)), (1001, gA g), (9999, .ext I)], []⟩
theorem flN_le (g : Gr) : ∀ i, (flN g i).length ≤ i
  | 0 => Nat.le_refl _
  | i + 1 => by
    have := flN_le g i
    simp only [flN]
    split
    · split
      · simp; omega
      · omega
    · omega
theorem atO_of {g : Gr} {n : Int} {o : O6} (h : g.op[n.toNat]? = some o) : atO g n = o.at_ := by simp only [atO, h]
theorem c67 (g : Gr) (hc : chk g = 0) {Q : AV → Al → Prop} (h : Q (.own 1 ((flowsL g).map i64A)) []) : ACalls Try.prog 67 [] [gA g] Q := by
  refine ok67.N hmix rfl ?_
  intro I
  simp only [cc67, OI0, OI1, OI2, OI3, OI4, OI5, OI6, OI7, OI8, OI9, OI10, OI11, OI12, ↓reduceIte, reduceCtorEq, Nat.reduceAdd, Nat.reduceEqDiff, Nat.reduceBEq, Nat.reduceLT, Nat.reduceLeDiff, Nat.reduceMul, Nat.reduceSub, Int.reduceLE, Int.reduceLT, Int.reduceEq, Int.reduceBEq, Int.reduceBNe, Int.reduceToNat, Int.reduceNeg, Nat.reduceBNe, forall_eq_or_imp, gA, i64A]
  refine c65 g ?_
  have hF := chk0 hc
  have h48 := hF.ch48
  simp only [OI0, OI1, OI2, OI3, OI4, OI5, OI6, OI7, OI8, OI9, OI10, OI11, OI12, ↓reduceIte, reduceCtorEq, Nat.reduceAdd, Nat.reduceEqDiff, Nat.reduceBEq, Nat.reduceLT, Nat.reduceLeDiff, Nat.reduceMul, Nat.reduceSub, Int.reduceLE, Int.reduceLT, Int.reduceEq, Int.reduceBEq, Int.reduceBNe, Int.reduceToNat, Int.reduceNeg, Nat.reduceBNe, forall_eq_or_imp, i64A, bneF hc]
  refine W_nilS 3 2035 1 (by decide) rfl rfl (by decide) rfl ?_
  refine W_loop (st67 I g) (fun i => i ≤ g.ch.length) (fun i => g.ch.length - i) (fun _ _ => rfl) ⟨0, by omega, ?_⟩ ?_
  · simp only [OI0, OI1, OI2, OI3, OI4, OI5, OI6, OI7, OI8, OI9, OI10, OI11, OI12, ↓reduceIte, reduceCtorEq, Nat.reduceAdd, Nat.reduceEqDiff, Nat.reduceBEq, Nat.reduceLT, Nat.reduceLeDiff, Nat.reduceMul, Nat.reduceSub, Int.reduceLE, Int.reduceLT, Int.reduceEq, Int.reduceBEq, Int.reduceBNe, Int.reduceToNat, Int.reduceNeg, Nat.reduceBNe, forall_eq_or_imp, st67, gA, flN]
    try rfl
  rintro i hi
  refine W_of_N ok67.small hmix ?_
  by_cases hil : i < g.ch.length
  · have hil' : (i : Int) < g.ch.length := by omega
    have i0 : (0 : Int) ≤ i := by omega
    have hgi : g.ch[i]? = some g.ch[i] := List.getElem?_eq_getElem hil
    have w1 : IntKind.i64.wrap ((i : Int) + 1) = ((i + 1 : Nat) : Int) := by rw [wrI64 (by omega) (by omega)]; omega
    obtain ⟨x, y, u1, u2, u3, u4, hx, hy⟩ := hF.ch _ _ hgi
    generalize g.ch[i] = c at hgi u1 u2 u3 u4 hx hy
    have hle := flN_le g i
    by_cases ha : x.at_ = y.at_
    · have nx : flN g (i + 1) = flN g i := by simp only [flN, hgi, atO_of hx, atO_of hy]; rw [if_neg (by simpa using ha)]
      simp only [OI0, OI1, OI2, OI3, OI4, OI5, OI6, OI7, OI8, OI9, OI10, OI11, OI12, ↓reduceIte, reduceCtorEq, Nat.reduceAdd, Nat.reduceEqDiff, Nat.reduceBEq, Nat.reduceLT, Nat.reduceLeDiff, Nat.reduceMul, Nat.reduceSub, Int.reduceLE, Int.reduceLT, Int.reduceEq, Int.reduceBEq, Int.reduceBNe, Int.reduceToNat, Int.reduceNeg, Nat.reduceBNe, forall_eq_or_imp, st67, hil', i0, hgi, chA, gA, opA, u1, u2, u3, u4, hx, hy, bneF ha, w1]
      refine ⟨i + 1, ⟨by omega, by omega⟩, ?_⟩
      simp only [OI0, OI1, OI2, OI3, OI4, OI5, OI6, OI7, OI8, OI9, OI10, OI11, OI12, ↓reduceIte, reduceCtorEq, Nat.reduceAdd, Nat.reduceEqDiff, Nat.reduceBEq, Nat.reduceLT, Nat.reduceLeDiff, Nat.reduceMul, Nat.reduceSub, Int.reduceLE, Int.reduceLT, Int.reduceEq, Int.reduceBEq, Int.reduceBNe, Int.reduceToNat, Int.reduceNeg, Nat.reduceBNe, forall_eq_or_imp, st67, gA, nx]
    · have nx : flN g (i + 1) = flN g i ++ [(i : Int)] := by simp only [flN, hgi, atO_of hx, atO_of hy]; rw [if_pos (by simpa using ha)]
      simp only [OI0, OI1, OI2, OI3, OI4, OI5, OI6, OI7, OI8, OI9, OI10, OI11, OI12, ↓reduceIte, reduceCtorEq, Nat.reduceAdd, Nat.reduceEqDiff, Nat.reduceBEq, Nat.reduceLT, Nat.reduceLeDiff, Nat.reduceMul, Nat.reduceSub, Int.reduceLE, Int.reduceLT, Int.reduceEq, Int.reduceBEq, Int.reduceBNe, Int.reduceToNat, Int.reduceNeg, Nat.reduceBNe, forall_eq_or_imp, st67, hil', i0, hgi, chA, gA, opA, u1, u2, u3, u4, hx, hy, bneT ha, w1]
      refine ⟨⟨by omega, by omega⟩, ?_⟩
      refine ⟨i + 1, ⟨by omega, by omega⟩, ?_⟩
      simp only [OI0, OI1, OI2, OI3, OI4, OI5, OI6, OI7, OI8, OI9, OI10, OI11, OI12, ↓reduceIte, reduceCtorEq, Nat.reduceAdd, Nat.reduceEqDiff, Nat.reduceBEq, Nat.reduceLT, Nat.reduceLeDiff, Nat.reduceMul, Nat.reduceSub, Int.reduceLE, Int.reduceLT, Int.reduceEq, Int.reduceBEq, Int.reduceBNe, Int.reduceToNat, Int.reduceNeg, Nat.reduceBNe, forall_eq_or_imp, st67, gA, nx, i64A, List.map_append, List.map_cons, List.map_nil, List.length_append, List.length_cons, List.length_nil]
  · obtain rfl : i = g.ch.length := by omega
    simp only [OI0, OI1, OI2, OI3, OI4, OI5, OI6, OI7, OI8, OI9, OI10, OI11, OI12, ↓reduceIte, reduceCtorEq, Nat.reduceAdd, Nat.reduceEqDiff, Nat.reduceBEq, Nat.reduceLT, Nat.reduceLeDiff, Nat.reduceMul, Nat.reduceSub, Int.reduceLE, Int.reduceLT, Int.reduceEq, Int.reduceBEq, Int.reduceBNe, Int.reduceToNat, Int.reduceNeg, Nat.reduceBNe, forall_eq_or_imp, st67, Int.lt_irrefl, gA]
    rw [List.take_of_length_le (by simp)]
    exact h
def st68 (I : World → Fp → Value → Fp → Prop) (g : Gr) (i : Nat) : St :=
  ⟨[(4, .v (.int .i64 i)), (3, .sl ⟨2041, [], 0⟩ 1 0 (flN g i).length), (1, .ref ⟨1001, [], 0⟩)], [(2041, .own 1 ((flN g i).map i64A)), (1001, gA g), (9999, .ext I)], []⟩
theorem c68 (g : Gr) (hn : NmOk g) (hc : chk g = 0) {Q : AV → Al → Prop} (h : Q (.own 1 ((flowsL g).map i64A)) []) : ACalls Try.prog 68 [] [gA g] Q := by
  refine ok68.N hmix rfl ?_
  intro I
  simp only [cc68, OI0, OI1, OI2, OI3, OI4, OI5, OI6, OI7, OI8, OI9, OI10, OI11, OI12, ↓reduceIte, reduceCtorEq, Nat.reduceAdd, Nat.reduceEqDiff, Nat.reduceBEq, Nat.reduceLT, Nat.reduceLeDiff, Nat.reduceMul, Nat.reduceSub, Int.reduceLE, Int.reduceLT, Int.reduceEq, Int.reduceBEq, Int.reduceBNe, Int.reduceToNat, Int.reduceNeg, Nat.reduceBNe, forall_eq_or_imp, gA, i64A]
  refine c66 g hn ?_
  have hF := chk0 hc
  have h48 := hF.ch48
  simp only [OI0, OI1, OI2, OI3, OI4, OI5, OI6, OI7, OI8, OI9, OI10, OI11, OI12, ↓reduceIte, reduceCtorEq, Nat.reduceAdd, Nat.reduceEqDiff, Nat.reduceBEq, Nat.reduceLT, Nat.reduceLeDiff, Nat.reduceMul, Nat.reduceSub, Int.reduceLE, Int.reduceLT, Int.reduceEq, Int.reduceBEq, Int.reduceBNe, Int.reduceToNat, Int.reduceNeg, Nat.reduceBNe, forall_eq_or_imp, i64A, bneF hc]
  refine W_nilS 3 2041 1 (by decide) rfl rfl (by decide) rfl ?_
  refine W_loop (st68 I g) (fun i => i ≤ g.ch.length) (fun i => g.ch.length - i) (fun _ _ => rfl) ⟨0, by omega, ?_⟩ ?_
  · simp only [OI0, OI1, OI2, OI3, OI4, OI5, OI6, OI7, OI8, OI9, OI10, OI11, OI12, ↓reduceIte, reduceCtorEq, Nat.reduceAdd, Nat.reduceEqDiff, Nat.reduceBEq, Nat.reduceLT, Nat.reduceLeDiff, Nat.reduceMul, Nat.reduceSub, Int.reduceLE, Int.reduceLT, Int.reduceEq, Int.reduceBEq, Int.reduceBNe, Int.reduceToNat, Int.reduceNeg, Nat.reduceBNe, forall_eq_or_imp, st68, gA, flN]
    try rfl
  rintro i hi
  refine W_of_N ok68.small hmix ?_
  by_cases hil : i < g.ch.length
  · have hil' : (i : Int) < g.ch.length := by omega
    have i0 : (0 : Int) ≤ i := by omega
    have hgi : g.ch[i]? = some g.ch[i] := List.getElem?_eq_getElem hil
    have w1 : IntKind.i64.wrap ((i : Int) + 1) = ((i + 1 : Nat) : Int) := by rw [wrI64 (by omega) (by omega)]; omega
    obtain ⟨x, y, u1, u2, u3, u4, hx, hy⟩ := hF.ch _ _ hgi
    generalize g.ch[i] = c at hgi u1 u2 u3 u4 hx hy
    have hle := flN_le g i
    by_cases ha : x.at_ = y.at_
    · have nx : flN g (i + 1) = flN g i := by simp only [flN, hgi, atO_of hx, atO_of hy]; rw [if_neg (by simpa using ha)]
      simp only [OI0, OI1, OI2, OI3, OI4, OI5, OI6, OI7, OI8, OI9, OI10, OI11, OI12, ↓reduceIte, reduceCtorEq, Nat.reduceAdd, Nat.reduceEqDiff, Nat.reduceBEq, Nat.reduceLT, Nat.reduceLeDiff, Nat.reduceMul, Nat.reduceSub, Int.reduceLE, Int.reduceLT, Int.reduceEq, Int.reduceBEq, Int.reduceBNe, Int.reduceToNat, Int.reduceNeg, Nat.reduceBNe, forall_eq_or_imp, st68, hil', i0, hgi, chA, gA, opA, u1, u2, u3, u4, hx, hy, bneF ha, w1]
      refine ⟨i + 1, ⟨by omega, by omega⟩, ?_⟩
      simp only [OI0, OI1, OI2, OI3, OI4, OI5, OI6, OI7, OI8, OI9, OI10, OI11, OI12, ↓reduceIte, reduceCtorEq, Nat.reduceAdd, Nat.reduceEqDiff, Nat.reduceBEq, Nat.reduceLT, Nat.reduceLeDiff, Nat.reduceMul, Nat.reduceSub, Int.reduceLE, Int.reduceLT, Int.reduceEq, Int.reduceBEq, Int.reduceBNe, Int.reduceToNat, Int.reduceNeg, Nat.reduceBNe, forall_eq_or_imp, st68, gA, nx]
    · have nx : flN g (i + 1) = flN g i ++ [(i : Int)] := by simp only [flN, hgi, atO_of hx, atO_of hy]; rw [if_pos (by simpa using ha)]
      simp only [OI0, OI1, OI2, OI3, OI4, OI5, OI6, OI7, OI8, OI9, OI10, OI11, OI12, ↓reduceIte, reduceCtorEq, Nat.reduceAdd, Nat.reduceEqDiff, Nat.reduceBEq, Nat.reduceLT, Nat.reduceLeDiff, Nat.reduceMul, Nat.reduceSub, Int.reduceLE, Int.reduceLT, Int.reduceEq, Int.reduceBEq, Int.reduceBNe, Int.reduceToNat, Int.reduceNeg, Nat.reduceBNe, forall_eq_or_imp, st68, hil', i0, hgi, chA, gA, opA, u1, u2, u3, u4, hx, hy, bneT ha, w1]
      refine ⟨⟨by omega, by omega⟩, ?_⟩
      refine ⟨i + 1, ⟨by omega, by omega⟩, ?_⟩
      simp only [OI0, OI1, OI2, OI3, OI4, OI5, OI6, OI7, OI8, OI9, OI10, OI11, OI12, ↓reduceIte, reduceCtorEq, Nat.reduceAdd, Nat.reduceEqDiff, Nat.reduceBEq, Nat.reduceLT, Nat.reduceLeDiff, Nat.reduceMul, Nat.reduceSub, Int.reduceLE, Int.reduceLT, Int.reduceEq, Int.reduceBEq, Int.reduceBNe, Int.reduceToNat, Int.reduceNeg, Nat.reduceBNe, forall_eq_or_imp, st68, gA, nx, i64A, List.map_append, List.map_cons, List.map_nil, List.length_append, List.length_cons, List.length_nil]
  · obtain rfl : i = g.ch.length := by omega
    simp only [OI0, OI1, OI2, OI3, OI4, OI5, OI6, OI7, OI8, OI9, OI10, OI11, OI12, ↓reduceIte, reduceCtorEq, Nat.reduceAdd, Nat.reduceEqDiff, Nat.reduceBEq, Nat.reduceLT, Nat.reduceLeDiff, Nat.reduceMul, Nat.reduceSub, Int.reduceLE, Int.reduceLT, Int.reduceEq, Int.reduceBEq, Int.reduceBNe, Int.reduceToNat, Int.reduceNeg, Nat.reduceBNe, forall_eq_or_imp, st68, Int.lt_irrefl, gA]
    rw [List.take_of_length_le (by simp)]
    exact h
end Go.Proofs.Ythlehngbadianaa.Ow
