/- What the functions of the program do, each once: contracts of the logic (part d10). -/
import Derived.Test.YthlehngbadianaaTd9
set_option linter.unusedVariables false
set_option linter.unusedSimpArgs false
set_option linter.unnecessarySimpa false
set_option maxRecDepth 100000
set_option maxHeartbeats 4000000
namespace Go.Proofs.Ythlehngbadianaa.Ow
open Go Go.RowKit Go.Proofs
/-- Records, read one by one. -/
def recM (S : List UInt8) : Nat → List (Int × Int) → Nat → Int → List (Int × Int) × Nat × Int
  | 0, acc, p, e => (acc, p, e)
  | n + 1, acc, p, e =>
    let a := sgnM S p e
    let b := sgnM S a.2.1 a.2.2
    recM S n (acc ++ [(a.1, b.1)]) b.2.1 b.2.2
def zeroBt : Bt := ⟨0, 0, 0, 0, 0, 0, []⟩
def batM (S : List UInt8) (p : Nat) (e : Int) : Bt × Nat × Int :=
  let a := intM S 1000 p e
  let t := timeM S a.2.1 a.2.2
  let n := intM S 64 t.2.1 t.2.2
  let r := recM S n.1 [] n.2.1 n.2.2
  let e' := if n.1 = 0 ∧ r.2.2 = 0 then 3 else r.2.2
  (if e' ≠ 0 then zeroBt else ⟨a.1, t.1.ep, t.1.d, t.1.x.1, t.1.x.2.1, t.1.x.2.2, r.1⟩, r.2.1, e')
theorem recM_le {S : List UInt8} : ∀ (n : Nat) (acc : List (Int × Int)) (p : Nat) (e : Int), p ≤ S.length → (recM S n acc p e).2.1 ≤ S.length
  | 0, _, _, _, h => h
  | n + 1, _, _, _, h => recM_le n _ _ _ (sgnM_le (sgnM_le h))
theorem recM_len {S : List UInt8} : ∀ (n : Nat) (acc : List (Int × Int)) (p : Nat) (e : Int), (recM S n acc p e).1.length = acc.length + n
  | 0, _, _, _ => rfl
  | n + 1, acc, p, e => by
    simp only [recM]
    rw [recM_len n]
    simp; omega
theorem batM_le {S : List UInt8} {p : Nat} {e : Int} (h : p ≤ S.length) : (batM S p e).2.1 ≤ S.length := recM_le _ _ _ _ (intM_le (timeM_le (intM_le h)))
theorem batM_len (S : List UInt8) (p : Nat) (e : Int) : (batM S p e).1.l.length ≤ 64 := by
  have key : ∀ (e' : Int) (A B : Bt), A.l.length ≤ 64 → B.l.length ≤ 64 → (if e' ≠ 0 then A else B).l.length ≤ 64 := by
    intro e' A B h1 h2; split <;> assumption
  refine key _ _ _ (by simp [zeroBt]) ?_
  simp only
  rw [recM_len]
  have := intM_most (S := S) (most := 64) (p := (timeM S (intM S 1000 p e).2.1 (intM S 1000 p e).2.2).2.1) (e := (timeM S (intM S 1000 p e).2.1 (intM S 1000 p e).2.2).2.2)
  simpa using this
def lcA : Option (List (Int × Int)) → AV
  | none => .v (.slice none 0 0)
  | some l => .own 2 (l.map recA)
def bcA (loc : Nat) (t : Tm) (c : AV) : AV := .agg [.v (.int .i64 loc), .v (.int .u32 t.ep), .v (.int .i64 t.d), .v (.int .u32 t.x.1), .v (.int .u32 t.x.2.1), .v (.int .u32 t.x.2.2), c]
def st38 (I : World → Fp → Value → Fp → Prop) (S : List UInt8) (loc : Nat) (t : Tm) (n : Nat) : Nat × Option (List (Int × Int)) × Nat × Int → St
  | (i, none, p, e) => ⟨[(0, .ref ⟨0, [], 0⟩), (2, .ref ⟨1002, [], 0⟩), (3, .ref ⟨1003, [], 0⟩), (12, .v (.int .i64 n)), (13, .v (.int .i64 i))], [(0, rdA (S.drop p) e), (1002, btA zeroBt (.v (.slice none 0 0))), (1003, bcA loc t (.v (.slice none 0 0))), (9999, .ext I)], []⟩
  | (i, some l, p, e) => ⟨[(0, .ref ⟨0, [], 0⟩), (2, .ref ⟨1002, [], 0⟩), (3, .ref ⟨1003, [], 0⟩), (12, .v (.int .i64 n)), (13, .v (.int .i64 i))], [(0, rdA (S.drop p) e), (1002, btA zeroBt (.v (.slice none 0 0))), (1003, bcA loc t (.own 2 (l.map recA))), (9999, .ext I)], []⟩
theorem c38 (S : List UInt8) (p : Nat) (e : Int) (hS : S.length ≤ 1000000) (hp : p ≤ S.length) {Q : AV → Al → Prop} (h : ∀ c, roL c (batM S p e).1.l → Q (btA (batM S p e).1 c) [(0, rdA (S.drop (batM S p e).2.1) (batM S p e).2.2)]) : ACalls Try.prog 38 [(0, rdA (S.drop p) e)] [.ref ⟨0, [], 0⟩] Q := by
  refine ok38.N hmix rfl ?_
  intro I
  simp only [cc38, OI0, OI1, OI2, OI3, OI4, OI5, OI6, OI7, OI8, OI9, OI10, OI11, OI12, reduceIte, reduceCtorEq, Nat.reduceAdd, Nat.reduceEqDiff, Nat.reduceBEq, Nat.reduceLT, Nat.reduceLeDiff, Nat.reduceMul, Nat.reduceSub, Int.reduceLE, Int.reduceLT, Int.reduceEq, Int.reduceBEq, Int.reduceBNe, Int.reduceToNat, Int.reduceNeg, Nat.reduceBNe, forall_eq_or_imp, rdA, N_fz]
  refine c118 S 1000 p e hS hp (by omega) ?_
  have hq := intM_le (most := 1000) (e := e) hp
  unfold batM at h
  simp only at h
  generalize intM S 1000 p e = r at h hq
  obtain ⟨loc, q, e1⟩ := r
  simp only at h hq
  simp only [OI0, OI1, OI2, OI3, OI4, OI5, OI6, OI7, OI8, OI9, OI10, OI11, OI12, reduceIte, reduceCtorEq, Nat.reduceAdd, Nat.reduceEqDiff, Nat.reduceBEq, Nat.reduceLT, Nat.reduceLeDiff, Nat.reduceMul, Nat.reduceSub, Int.reduceLE, Int.reduceLT, Int.reduceEq, Int.reduceBEq, Int.reduceBNe, Int.reduceToNat, Int.reduceNeg, Nat.reduceBNe, forall_eq_or_imp, N_fz, mapS, take_recs, rdA, i64A]
  refine c119 S q e1 hS hq ?_
  have hq2 := timeM_le (e := e1) hq
  generalize timeM S q e1 = r at h hq2
  obtain ⟨t, q2, e2⟩ := r
  simp only at h hq2
  simp only [OI0, OI1, OI2, OI3, OI4, OI5, OI6, OI7, OI8, OI9, OI10, OI11, OI12, reduceIte, reduceCtorEq, Nat.reduceAdd, Nat.reduceEqDiff, Nat.reduceBEq, Nat.reduceLT, Nat.reduceLeDiff, Nat.reduceMul, Nat.reduceSub, Int.reduceLE, Int.reduceLT, Int.reduceEq, Int.reduceBEq, Int.reduceBNe, Int.reduceToNat, Int.reduceNeg, Nat.reduceBNe, forall_eq_or_imp, N_fz, mapS, take_recs, rdA, i64A, Tm.A, tmA]
  refine c118 S 64 q2 e2 hS hq2 (by omega) ?_
  have hq3 := intM_le (most := 64) (e := e2) hq2
  have hn := intM_most (S := S) (most := 64) (p := q2) (e := e2)
  generalize intM S 64 q2 e2 = r at h hq3 hn
  obtain ⟨n, q3, e3⟩ := r
  simp only at h hq3 hn
  simp only [OI0, OI1, OI2, OI3, OI4, OI5, OI6, OI7, OI8, OI9, OI10, OI11, OI12, reduceIte, reduceCtorEq, Nat.reduceAdd, Nat.reduceEqDiff, Nat.reduceBEq, Nat.reduceLT, Nat.reduceLeDiff, Nat.reduceMul, Nat.reduceSub, Int.reduceLE, Int.reduceLT, Int.reduceEq, Int.reduceBEq, Int.reduceBNe, Int.reduceToNat, Int.reduceNeg, Nat.reduceBNe, forall_eq_or_imp, N_fz, mapS, take_recs, rdA, i64A]
  have hlen := recM_len (S := S) n [] q3 e3
  generalize hR : recM S n [] q3 e3 = R at h hlen
  simp only [List.length_nil, Nat.zero_add] at hlen
  refine W_loop (st38 I S loc t n) (fun a => a.1 ≤ n ∧ (a.2.1.getD []).length = a.1 ∧ (a.1 ≠ 0 → a.2.1 ≠ none) ∧ recM S (n - a.1) (a.2.1.getD []) a.2.2.1 a.2.2.2 = R ∧ a.2.2.1 ≤ S.length) (fun a => n - a.1) ?_ ⟨(0, none, q3, e3), ⟨by omega, rfl, by simp, hR, hq3⟩, ?_⟩ ?_
  · rintro ⟨i, o, p', e'⟩ _
    cases o <;> rfl
  · simp only [OI0, OI1, OI2, OI3, OI4, OI5, OI6, OI7, OI8, OI9, OI10, OI11, OI12, reduceIte, reduceCtorEq, Nat.reduceAdd, Nat.reduceEqDiff, Nat.reduceBEq, Nat.reduceLT, Nat.reduceLeDiff, Nat.reduceMul, Nat.reduceSub, Int.reduceLE, Int.reduceLT, Int.reduceEq, Int.reduceBEq, Int.reduceBNe, Int.reduceToNat, Int.reduceNeg, Nat.reduceBNe, forall_eq_or_imp, N_fz, mapS, take_recs, st38, btA, zeroBt, bcA, rdA]
    try rfl
  rintro ⟨i, o, p', e'⟩ ⟨h1, h2, h2b, h3, h4⟩
  simp only at h1 h2 h2b h3 h4
  refine W_of_N ok38.small hmix ?_
  by_cases hi : i < n
  · have hi' : (i : Int) < n := by omega
    have w1 : IntKind.i64.wrap ((i : Int) + 1) = ((i + 1 : Nat) : Int) := by rw [wrap_i64 (by omega) (by omega)]; omega
    rw [show n - i = (n - (i + 1)) + 1 by omega, recM] at h3
    (try simp only at h3)
    have hp5 := sgnM_le (e := e') h4
    generalize hsg : sgnM S p' e' = r at h3 hp5
    obtain ⟨ka, p5, e5⟩ := r
    simp only at h3 hp5
    have hp6 := sgnM_le (e := e5) hp5
    generalize hsg2 : sgnM S p5 e5 = r at h3 hp6
    obtain ⟨kb, p6, e6⟩ := r
    simp only at h3 hp6
    cases o with
    | none =>
      simp only [OI0, OI1, OI2, OI3, OI4, OI5, OI6, OI7, OI8, OI9, OI10, OI11, OI12, reduceIte, reduceCtorEq, Nat.reduceAdd, Nat.reduceEqDiff, Nat.reduceBEq, Nat.reduceLT, Nat.reduceLeDiff, Nat.reduceMul, Nat.reduceSub, Int.reduceLE, Int.reduceLT, Int.reduceEq, Int.reduceBEq, Int.reduceBNe, Int.reduceToNat, Int.reduceNeg, Nat.reduceBNe, forall_eq_or_imp, N_fz, mapS, take_recs, st38, btA, zeroBt, bcA, rdA, hi']
      refine c120 S p' e' hS h4 ?_
      rw [hsg]
      simp only [OI0, OI1, OI2, OI3, OI4, OI5, OI6, OI7, OI8, OI9, OI10, OI11, OI12, reduceIte, reduceCtorEq, Nat.reduceAdd, Nat.reduceEqDiff, Nat.reduceBEq, Nat.reduceLT, Nat.reduceLeDiff, Nat.reduceMul, Nat.reduceSub, Int.reduceLE, Int.reduceLT, Int.reduceEq, Int.reduceBEq, Int.reduceBNe, Int.reduceToNat, Int.reduceNeg, Nat.reduceBNe, forall_eq_or_imp, N_fz, mapS, take_recs, rdA, i64A]
      refine c120 S p5 e5 hS hp5 ?_
      rw [hsg2]
      simp only [OI0, OI1, OI2, OI3, OI4, OI5, OI6, OI7, OI8, OI9, OI10, OI11, OI12, reduceIte, reduceCtorEq, Nat.reduceAdd, Nat.reduceEqDiff, Nat.reduceBEq, Nat.reduceLT, Nat.reduceLeDiff, Nat.reduceMul, Nat.reduceSub, Int.reduceLE, Int.reduceLT, Int.reduceEq, Int.reduceBEq, Int.reduceBNe, Int.reduceToNat, Int.reduceNeg, Nat.reduceBNe, forall_eq_or_imp, N_fz, mapS, take_recs, rdA, i64A, w1]
      refine ⟨(i + 1, some [(ka, kb)], p6, e6), ⟨⟨hi, by simpa using h2.symm, by simp, by simpa using h3, hp6⟩, by simp only; omega⟩, ?_⟩
      simp only [OI0, OI1, OI2, OI3, OI4, OI5, OI6, OI7, OI8, OI9, OI10, OI11, OI12, reduceIte, reduceCtorEq, Nat.reduceAdd, Nat.reduceEqDiff, Nat.reduceBEq, Nat.reduceLT, Nat.reduceLeDiff, Nat.reduceMul, Nat.reduceSub, Int.reduceLE, Int.reduceLT, Int.reduceEq, Int.reduceBEq, Int.reduceBNe, Int.reduceToNat, Int.reduceNeg, Nat.reduceBNe, forall_eq_or_imp, N_fz, mapS, take_recs, st38, btA, zeroBt, bcA, rdA, recA]
      try rfl
    | some l =>
      simp only [Option.getD_some] at h2 h3
      have b1 : l.length ≤ 8796093022207 := by omega
      simp only [OI0, OI1, OI2, OI3, OI4, OI5, OI6, OI7, OI8, OI9, OI10, OI11, OI12, reduceIte, reduceCtorEq, Nat.reduceAdd, Nat.reduceEqDiff, Nat.reduceBEq, Nat.reduceLT, Nat.reduceLeDiff, Nat.reduceMul, Nat.reduceSub, Int.reduceLE, Int.reduceLT, Int.reduceEq, Int.reduceBEq, Int.reduceBNe, Int.reduceToNat, Int.reduceNeg, Nat.reduceBNe, forall_eq_or_imp, N_fz, mapS, take_recs, st38, btA, zeroBt, bcA, rdA, hi']
      refine c120 S p' e' hS h4 ?_
      rw [hsg]
      simp only [OI0, OI1, OI2, OI3, OI4, OI5, OI6, OI7, OI8, OI9, OI10, OI11, OI12, reduceIte, reduceCtorEq, Nat.reduceAdd, Nat.reduceEqDiff, Nat.reduceBEq, Nat.reduceLT, Nat.reduceLeDiff, Nat.reduceMul, Nat.reduceSub, Int.reduceLE, Int.reduceLT, Int.reduceEq, Int.reduceBEq, Int.reduceBNe, Int.reduceToNat, Int.reduceNeg, Nat.reduceBNe, forall_eq_or_imp, N_fz, mapS, take_recs, rdA, i64A]
      refine c120 S p5 e5 hS hp5 ?_
      rw [hsg2]
      simp only [OI0, OI1, OI2, OI3, OI4, OI5, OI6, OI7, OI8, OI9, OI10, OI11, OI12, reduceIte, reduceCtorEq, Nat.reduceAdd, Nat.reduceEqDiff, Nat.reduceBEq, Nat.reduceLT, Nat.reduceLeDiff, Nat.reduceMul, Nat.reduceSub, Int.reduceLE, Int.reduceLT, Int.reduceEq, Int.reduceBEq, Int.reduceBNe, Int.reduceToNat, Int.reduceNeg, Nat.reduceBNe, forall_eq_or_imp, N_fz, mapS, take_recs, rdA, i64A, w1]
      refine ⟨⟨by omega, by omega⟩, (i + 1, some (l ++ [(ka, kb)]), p6, e6), ⟨⟨hi, by simpa using h2, by simp, by simpa using h3, hp6⟩, by simp only; omega⟩, ?_⟩
      simp only [OI0, OI1, OI2, OI3, OI4, OI5, OI6, OI7, OI8, OI9, OI10, OI11, OI12, reduceIte, reduceCtorEq, Nat.reduceAdd, Nat.reduceEqDiff, Nat.reduceBEq, Nat.reduceLT, Nat.reduceLeDiff, Nat.reduceMul, Nat.reduceSub, Int.reduceLE, Int.reduceLT, Int.reduceEq, Int.reduceBEq, Int.reduceBNe, Int.reduceToNat, Int.reduceNeg, Nat.reduceBNe, forall_eq_or_imp, N_fz, mapS, take_recs, st38, btA, zeroBt, bcA, rdA, recA]
      exact List.take_of_length_le (by simp)
  · obtain rfl : i = n := by omega
    rw [Nat.sub_self, recM] at h3
    subst h3
    simp only at h hlen
    cases o with
    | none =>
      have hi0 : i = 0 := by
        rcases Nat.eq_zero_or_pos i with h0 | h0
        · exact h0
        · exact absurd rfl (h2b (by omega))
      subst hi0
      simp only [OI0, OI1, OI2, OI3, OI4, OI5, OI6, OI7, OI8, OI9, OI10, OI11, OI12, reduceIte, reduceCtorEq, Nat.reduceAdd, Nat.reduceEqDiff, Nat.reduceBEq, Nat.reduceLT, Nat.reduceLeDiff, Nat.reduceMul, Nat.reduceSub, Int.reduceLE, Int.reduceLT, Int.reduceEq, Int.reduceBEq, Int.reduceBNe, Int.reduceToNat, Int.reduceNeg, Nat.reduceBNe, forall_eq_or_imp, N_fz, mapS, take_recs, st38, btA, zeroBt, bcA, rdA, Int.lt_irrefl, Int.natCast_zero]
      refine c121 (S.drop p') e' 3 ?_
      simp only [OI0, OI1, OI2, OI3, OI4, OI5, OI6, OI7, OI8, OI9, OI10, OI11, OI12, reduceIte, reduceCtorEq, Nat.reduceAdd, Nat.reduceEqDiff, Nat.reduceBEq, Nat.reduceLT, Nat.reduceLeDiff, Nat.reduceMul, Nat.reduceSub, Int.reduceLE, Int.reduceLT, Int.reduceEq, Int.reduceBEq, Int.reduceBNe, Int.reduceToNat, Int.reduceNeg, Nat.reduceBNe, forall_eq_or_imp, N_fz, mapS, take_recs, rdA]
      refine c40 (S.drop p') (if e' = 0 then 3 else e') ?_
      have hne : (if e' = 0 then (3 : Int) else e') ≠ 0 := by split <;> simp_all
      have hb : ((if e' = 0 then (3 : Int) else e') != 0) = true := by simpa using hne
      simp only [OI0, OI1, OI2, OI3, OI4, OI5, OI6, OI7, OI8, OI9, OI10, OI11, OI12, reduceIte, reduceCtorEq, Nat.reduceAdd, Nat.reduceEqDiff, Nat.reduceBEq, Nat.reduceLT, Nat.reduceLeDiff, Nat.reduceMul, Nat.reduceSub, Int.reduceLE, Int.reduceLT, Int.reduceEq, Int.reduceBEq, Int.reduceBNe, Int.reduceToNat, Int.reduceNeg, Nat.reduceBNe, forall_eq_or_imp, N_fz, mapS, take_recs, i64A, hb]
      simp only [true_and] at h
      rw [if_pos hne] at h
      exact h _ (.inl rfl)
    | some l =>
      simp only [Option.getD_some] at h2 h hlen
      by_cases hl : l.length = 0
      · have hi0 : i = 0 := by omega
        subst hi0
        have hl0 : l = [] := List.eq_nil_of_length_eq_zero hl
        subst hl0
        simp only [OI0, OI1, OI2, OI3, OI4, OI5, OI6, OI7, OI8, OI9, OI10, OI11, OI12, reduceIte, reduceCtorEq, Nat.reduceAdd, Nat.reduceEqDiff, Nat.reduceBEq, Nat.reduceLT, Nat.reduceLeDiff, Nat.reduceMul, Nat.reduceSub, Int.reduceLE, Int.reduceLT, Int.reduceEq, Int.reduceBEq, Int.reduceBNe, Int.reduceToNat, Int.reduceNeg, Nat.reduceBNe, forall_eq_or_imp, N_fz, mapS, take_recs, st38, btA, zeroBt, bcA, rdA, Int.lt_irrefl, Int.natCast_zero]
        refine c121 (S.drop p') e' 3 ?_
        simp only [OI0, OI1, OI2, OI3, OI4, OI5, OI6, OI7, OI8, OI9, OI10, OI11, OI12, reduceIte, reduceCtorEq, Nat.reduceAdd, Nat.reduceEqDiff, Nat.reduceBEq, Nat.reduceLT, Nat.reduceLeDiff, Nat.reduceMul, Nat.reduceSub, Int.reduceLE, Int.reduceLT, Int.reduceEq, Int.reduceBEq, Int.reduceBNe, Int.reduceToNat, Int.reduceNeg, Nat.reduceBNe, forall_eq_or_imp, N_fz, mapS, take_recs, rdA]
        refine c40 (S.drop p') (if e' = 0 then 3 else e') ?_
        have hne : (if e' = 0 then (3 : Int) else e') ≠ 0 := by split <;> simp_all
        have hb : ((if e' = 0 then (3 : Int) else e') != 0) = true := by simpa using hne
        simp only [OI0, OI1, OI2, OI3, OI4, OI5, OI6, OI7, OI8, OI9, OI10, OI11, OI12, reduceIte, reduceCtorEq, Nat.reduceAdd, Nat.reduceEqDiff, Nat.reduceBEq, Nat.reduceLT, Nat.reduceLeDiff, Nat.reduceMul, Nat.reduceSub, Int.reduceLE, Int.reduceLT, Int.reduceEq, Int.reduceBEq, Int.reduceBNe, Int.reduceToNat, Int.reduceNeg, Nat.reduceBNe, forall_eq_or_imp, N_fz, mapS, take_recs, i64A, hb]
        simp only [true_and] at h
        rw [if_pos hne] at h
        exact h _ (.inl rfl)
      · have hb0 : ((l.length : Int) == 0) = false := by simp; simpa using hl
        simp only [OI0, OI1, OI2, OI3, OI4, OI5, OI6, OI7, OI8, OI9, OI10, OI11, OI12, reduceIte, reduceCtorEq, Nat.reduceAdd, Nat.reduceEqDiff, Nat.reduceBEq, Nat.reduceLT, Nat.reduceLeDiff, Nat.reduceMul, Nat.reduceSub, Int.reduceLE, Int.reduceLT, Int.reduceEq, Int.reduceBEq, Int.reduceBNe, Int.reduceToNat, Int.reduceNeg, Nat.reduceBNe, forall_eq_or_imp, N_fz, mapS, take_recs, st38, btA, zeroBt, bcA, rdA, Int.lt_irrefl, hb0]
        refine c40 (S.drop p') e' ?_
        rw [if_neg (show ¬ (i = 0 ∧ e' = 0) by omega)] at h
        by_cases he : e' = 0
        · subst he
          simp only [ne_eq, not_true_eq_false, if_false] at h
          have hq := h (.lst 2 (l.map recA)) (.inr rfl)
          simp only [OI0, OI1, OI2, OI3, OI4, OI5, OI6, OI7, OI8, OI9, OI10, OI11, OI12, reduceIte, reduceCtorEq, Nat.reduceAdd, Nat.reduceEqDiff, Nat.reduceBEq, Nat.reduceLT, Nat.reduceLeDiff, Nat.reduceMul, Nat.reduceSub, Int.reduceLE, Int.reduceLT, Int.reduceEq, Int.reduceBEq, Int.reduceBNe, Int.reduceToNat, Int.reduceNeg, Nat.reduceBNe, forall_eq_or_imp, N_fz, mapS, take_recs, i64A, map_frz]
          exact hq
        · have hb : (e' != 0) = true := by simpa using he
          simp only [ne_eq, he, not_false_eq_true, if_true] at h
          simp only [OI0, OI1, OI2, OI3, OI4, OI5, OI6, OI7, OI8, OI9, OI10, OI11, OI12, reduceIte, reduceCtorEq, Nat.reduceAdd, Nat.reduceEqDiff, Nat.reduceBEq, Nat.reduceLT, Nat.reduceLeDiff, Nat.reduceMul, Nat.reduceSub, Int.reduceLE, Int.reduceLT, Int.reduceEq, Int.reduceBEq, Int.reduceBNe, Int.reduceToNat, Int.reduceNeg, Nat.reduceBNe, forall_eq_or_imp, N_fz, mapS, take_recs, i64A, hb]
          exact h _ (.inl rfl)
end Go.Proofs.Ythlehngbadianaa.Ow
