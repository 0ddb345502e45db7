/- What the functions of the program do, each once: contracts of the logic (part u4 u5). -/
import Derived.Test.YthlehngbadianaaDoorTu3
set_option linter.unusedVariables false
set_option linter.unusedSimpArgs false
set_option linter.unnecessarySimpa false
set_option maxRecDepth 100000
set_option maxHeartbeats 4000000
namespace Go.Proofs.YthlehngbadianaaDoor.Ow
open Go Go.RowKit Go.Proofs
/- watershed/table.Check -/
def cc73 : CC := (.seq (.region [⟨none, 2, (.box 0), [0], none, []⟩, ⟨none, 3, (.box 1), [1], none, []⟩, ⟨none, 4, (.val (.mv (.c (.int .i64 0)))), [4], none, []⟩]) (.seq (.seq (.region [⟨none, 10, (.val (.ld (.s 3) (some 4))), [], none, []⟩, ⟨none, 11, (.callP 23 [(.s 10)]), [10], none, []⟩, ⟨none, 5, (.val (.mv (.s 11))), [11], none, []⟩]) (.seq (.region [⟨none, 12, (.val (.mv (.s 5))), [], none, []⟩, ⟨none, 13, (.val (.bin .neq (.s 12) (.c (.int .i64 0)))), [12], none, []⟩]) (.cond (.s 13) (.seq (.region [⟨none, 14, (.val (.mv (.s 5))), [2, 3, 5, 13], none, []⟩, ⟨none, 4, (.val (.mv (.s 14))), [14], none, []⟩]) .ret) .skip))) (.seq (.seq (.region [⟨none, 15, (.val (.fa (.s 2) 0)), [5, 13], none, []⟩, ⟨none, 16, (.val (.ld (.s 15) none)), [15], none, []⟩, ⟨none, 17, (.val (.lnl (.s 16) 1)), [16], none, []⟩, ⟨none, 18, (.val (.bin .gtr (.s 17) (.c (.int .i64 4)))), [17], none, []⟩, ⟨none, 19, (.val (.mv (.s 18))), [18], none, []⟩, ⟨(some (19, false)), 20, (.val (.fa (.s 2) 1)), [], none, []⟩, ⟨(some (19, false)), 21, (.val (.ld (.s 20) none)), [20], none, []⟩, ⟨(some (19, false)), 22, (.val (.lnl (.s 21) 3)), [21], none, []⟩, ⟨(some (19, false)), 23, (.val (.bin .gtr (.s 22) (.c (.int .i64 12)))), [22], none, []⟩, ⟨none, 24, (.val (.pick (.s 19) (.c (.bool true)) (.s 23))), [19, 23], none, []⟩]) (.cond (.s 24) (.seq (.region [⟨none, 4, (.val (.mv (.c (.int .i64 7)))), [2, 3, 24], none, []⟩]) .ret) .skip)) (.seq (.seq (.region [⟨none, 25, (.val (.ld (.s 2) (some 2))), [24], none, []⟩, ⟨none, 26, (.val (.ld (.s 3) (some 4))), [], none, []⟩, ⟨none, 27, (.callP 49 [(.s 25), (.s 26)]), [25, 26], none, []⟩, ⟨none, 6, (.val (.mv (.s 27))), [27], none, []⟩]) (.seq (.region [⟨none, 28, (.val (.mv (.s 6))), [], none, []⟩, ⟨none, 29, (.val (.bin .neq (.s 28) (.c (.int .i64 0)))), [28], none, []⟩]) (.cond (.s 29) (.seq (.region [⟨none, 30, (.val (.mv (.s 6))), [2, 3, 6, 29], none, []⟩, ⟨none, 4, (.val (.mv (.s 30))), [30], none, []⟩]) .ret) .skip))) (.seq (.seq (.region [⟨none, 31, (.val (.fa (.s 2) 1)), [6, 29], none, []⟩, ⟨none, 32, (.val (.ld (.s 31) none)), [31], none, []⟩, ⟨none, 33, (.val (.lnl (.s 32) 3)), [], none, []⟩, ⟨none, 34, (.val (.mv (.c (.int .i64 0)))), [], none, []⟩]) (.block 0 (.loop (.seq (.region [⟨none, 35, (.val (.bin .lss (.s 34) (.s 33))), [], none, []⟩]) (.seq (.cond (.s 35) .skip (.exit 0)) (.seq (.block 1 (.seq (.region [⟨none, 36, (.val (.mv (.s 34))), [35], none, []⟩, ⟨none, 37, (.val (.ia (.s 32) (.s 34) 3)), [], none, []⟩, ⟨none, 38, (.val (.ld (.s 37) (some 3))), [37], none, []⟩, ⟨none, 8, (.alloc (.agg #[(.int .i64 0), (.int .i64 0), (.slice none 0 0)])), [], none, []⟩, ⟨none, 7, (.val (.mv (.s 36))), [36], none, []⟩, ⟨none, 0, (.store 3 (.s 8) (.s 38)), [38], none, []⟩]) (.seq (.region [⟨none, 39, (.val (.ld (.s 2) (some 2))), [], none, []⟩, ⟨none, 40, (.val (.ld (.s 8) (some 3))), [8], none, []⟩, ⟨none, 41, (.val (.fa (.s 2) 1)), [], none, []⟩, ⟨none, 42, (.val (.ld (.s 41) none)), [41], none, []⟩, ⟨none, 43, (.val (.mv (.s 7))), [7], none, []⟩, ⟨none, 44, (.val (.sl (.s 42) none (some (.s 43)) none 3)), [42, 43], none, []⟩, ⟨none, 45, (.val (.ld (.s 3) (some 4))), [], none, []⟩, ⟨none, 46, (.call 50 [(.s 39), (.s 40), (.s 44), (.s 45)]), [39, 40, 44, 45], none, []⟩, ⟨none, 9, (.val (.mv (.s 46))), [46], none, []⟩]) (.seq (.region [⟨none, 47, (.val (.mv (.s 9))), [], none, []⟩, ⟨none, 48, (.val (.bin .neq (.s 47) (.c (.int .i64 0)))), [47], none, []⟩]) (.cond (.s 48) (.seq (.region [⟨none, 49, (.val (.mv (.s 9))), [2, 3, 9, 32, 33, 34, 48], none, []⟩, ⟨none, 4, (.val (.mv (.s 49))), [49], none, []⟩]) .ret) .skip))))) (.region [⟨none, 50, (.val (.bin .add (.s 34) (.c (.int .i64 1)))), [9, 34, 48], none, []⟩, ⟨none, 34, (.val (.mv (.s 50))), [50], none, []⟩]))))))) (.seq (.region [⟨none, 4, (.val (.mv (.c (.int .i64 0)))), [2, 3, 32, 33, 34, 35], none, []⟩]) .ret))))))
theorem ok73 : FnOk Tryd.prog 27 cc73 [(.t 4)] 2 51 := ⟨⟨_, Tryd.func27, by kernel_rfl, by kernel_rfl, by kernel_rfl⟩, by decide, by decide⟩
structure SmallP (p : Pn) : Prop where
  re : p.re.length ≤ 20
  rt : p.rt.length ≤ 20
  nm : ∀ (i : Nat) s, p.re[i]? = some s → s.size ≤ 1000
  via : ∀ (i : Nat) r, p.rt[i]? = some r → r.via.length ≤ 20
/-- Bounds that hold of any plan that a text can say. -/
structure MedP (p : Pn) : Prop where
  re : p.re.length ≤ 100000
  rt : p.rt.length ≤ 100000
  nm : ∀ (i : Nat) s, p.re[i]? = some s → s.size ≤ 100000
  via : ∀ (i : Nat) r, p.rt[i]? = some r → r.via.length ≤ 100000
theorem SmallP.med {p : Pn} (h : SmallP p) : MedP p := ⟨by have := h.re; omega, by have := h.rt; omega, fun i s hs => by have := h.nm i s hs; omega, fun i r hr => by have := h.via i r hr; omega⟩
def rtE (n m : Int) : List Rt → List Rt → Int
  | _, [] => 0
  | ah, r :: t => if rtR n m ah r ≠ 0 then rtR n m ah r else rtE n m (ah ++ [r]) t
/-- What is wrong with a plan. -/
def chkP (p : Pn) (g : Gr) : Int :=
  if chk g ≠ 0 then chk g else if 4 < p.re.length ∨ 12 < p.rt.length then 7 else if relE (cns g.cl) p.re ≠ 0 then relE (cns g.cl) p.re else rtE g.cl.length p.re.length [] p.rt
theorem clE_once : ∀ (l : List Cl) (sn : List ByteArray), clE sn l = 0 → ∀ (i : Nat) s, (l.map (·.1))[i]? = some s → s ∉ sn ++ (l.map (·.1)).take i
  | [], sn, _, i, s, hs => by simp at hs
  | c :: l, sn, he, i, s, hs => by
    simp only [clE] at he
    split at he
    · exact absurd he ‹_›
    rename_i h1
    split at he
    · cases he
    have h0 := seeR0 (by simpa using h1)
    cases i with
    | zero =>
      simp only [List.map_cons, List.getElem?_cons_zero, Option.some.injEq] at hs
      subst hs
      simpa using memB_false.1 h0.2
    | succ i =>
      have := clE_once l (sn ++ [c.1]) he i s (by simpa using hs)
      simpa [List.append_assoc] using this
theorem chk_once {g : Gr} (h : chk g = 0) : onceN (cns g.cl) := by
  have hcl : clE [] g.cl = 0 := by
    unfold chk at h
    split at h
    · cases h
    split at h
    · cases h
    split at h
    · exact absurd h ‹_›
    rename_i h3
    simpa using h3
  intro i s hs
  have := clE_once g.cl [] hcl i s hs
  simpa [cns] using this
def st73 (I : World → Fp → Value → Fp → Prop) (p : Pn) (g : Gr) (i : Nat) : St :=
  ⟨[(34, .v (.int .i64 i)), (33, .v (.int .i64 p.rt.length)), (32, .lst 3 (p.rt.map rtA)), (3, .ref ⟨1003, [], 0⟩), (2, .ref ⟨1002, [], 0⟩)], [(1003, gA g), (1002, plA p), (9999, .ext I)], []⟩
theorem c73m (p : Pn) (g : Gr) (hp : MedP p) {Q : AV → Al → Prop} (h : Q (i64A (chkP p g)) []) : ACalls Tryd.prog 27 [] [plA p, gA g] Q := by
  refine ok73.N hmix rfl ?_
  intro I
  have hp1 := hp.re
  have hp2 := hp.rt
  simp only [cc73, OI, ↓reduceIte, reduceCtorEq, Nat.reduceAdd, Nat.reduceEqDiff, Nat.reduceBEq, Nat.reduceLT, Nat.reduceLeDiff, Nat.reduceMul, Nat.reduceSub, Int.reduceLE, Int.reduceLT, Int.reduceEq, Int.reduceBEq, Int.reduceBNe, Int.reduceToNat, Int.reduceNeg, Nat.reduceBNe, plA, gA, i64A]
  refine c65 g ?_
  by_cases hc : chk g = 0
  · have hF := chk0 hc
    have h4 := hF.cl4
    rw [chkP, if_neg (by simpa using hc)] at h
    simp only [OI, ↓reduceIte, reduceCtorEq, Nat.reduceAdd, Nat.reduceEqDiff, Nat.reduceBEq, Nat.reduceLT, Nat.reduceLeDiff, Nat.reduceMul, Nat.reduceSub, Int.reduceLE, Int.reduceLT, Int.reduceEq, Int.reduceBEq, Int.reduceBNe, Int.reduceToNat, Int.reduceNeg, Nat.reduceBNe, i64A, bneF hc]
    by_cases k1 : (4 : Int) < p.re.length
    · rw [if_pos (.inl (by omega))] at h
      simp only [OI, ↓reduceIte, reduceCtorEq, Nat.reduceAdd, Nat.reduceEqDiff, Nat.reduceBEq, Nat.reduceLT, Nat.reduceLeDiff, Nat.reduceMul, Nat.reduceSub, Int.reduceLE, Int.reduceLT, Int.reduceEq, Int.reduceBEq, Int.reduceBNe, Int.reduceToNat, Int.reduceNeg, Nat.reduceBNe, k1]
      exact h
    by_cases k2 : (12 : Int) < p.rt.length
    · rw [if_pos (.inr (by omega))] at h
      simp only [OI, ↓reduceIte, reduceCtorEq, Nat.reduceAdd, Nat.reduceEqDiff, Nat.reduceBEq, Nat.reduceLT, Nat.reduceLeDiff, Nat.reduceMul, Nat.reduceSub, Int.reduceLE, Int.reduceLT, Int.reduceEq, Int.reduceBEq, Int.reduceBNe, Int.reduceToNat, Int.reduceNeg, Nat.reduceBNe, k1, k2]
      exact h
    rw [if_neg (by omega)] at h
    simp only [OI, ↓reduceIte, reduceCtorEq, Nat.reduceAdd, Nat.reduceEqDiff, Nat.reduceBEq, Nat.reduceLT, Nat.reduceLeDiff, Nat.reduceMul, Nat.reduceSub, Int.reduceLE, Int.reduceLT, Int.reduceEq, Int.reduceBEq, Int.reduceBNe, Int.reduceToNat, Int.reduceNeg, Nat.reduceBNe, k1, k2]
    refine c164 p g (chk_once hc) (by omega) (by omega) ?_
    by_cases k3 : relE (cns g.cl) p.re = 0
    · rw [if_neg (by simpa using k3)] at h
      have k3' : relE (g.cl.map (·.1)) p.re = 0 := k3
      simp only [OI, ↓reduceIte, reduceCtorEq, Nat.reduceAdd, Nat.reduceEqDiff, Nat.reduceBEq, Nat.reduceLT, Nat.reduceLeDiff, Nat.reduceMul, Nat.reduceSub, Int.reduceLE, Int.reduceLT, Int.reduceEq, Int.reduceBEq, Int.reduceBNe, Int.reduceToNat, Int.reduceNeg, Nat.reduceBNe, i64A, bneF k3']
      refine W_loop (st73 I p g) (fun i => i ≤ p.rt.length ∧ rtE g.cl.length p.re.length [] p.rt = rtE g.cl.length p.re.length (p.rt.take i) (p.rt.drop i)) (fun i => p.rt.length - i) (fun _ _ => rfl) ⟨0, ⟨by omega, by simp⟩, ?_⟩ ?_
      · simp only [OI, ↓reduceIte, reduceCtorEq, Nat.reduceAdd, Nat.reduceEqDiff, Nat.reduceBEq, Nat.reduceLT, Nat.reduceLeDiff, Nat.reduceMul, Nat.reduceSub, Int.reduceLE, Int.reduceLT, Int.reduceEq, Int.reduceBEq, Int.reduceBNe, Int.reduceToNat, Int.reduceNeg, Nat.reduceBNe, st73, plA, gA]
        try rfl
      rintro i ⟨hi, he⟩
      refine W_of_N ok73.small hmix ?_
      by_cases hil : i < p.rt.length
      · have hil' : (i : Int) < p.rt.length := by omega
        have i0 : (0 : Int) ≤ i := by omega
        obtain ⟨y, hgi⟩ : ∃ y, p.rt[i]? = some y := ⟨_, List.getElem?_eq_getElem hil⟩
        have hdr : p.rt.drop i = y :: p.rt.drop (i + 1) := by
          obtain ⟨h1, h2⟩ := List.getElem?_eq_some_iff.1 hgi
          rw [List.drop_eq_getElem_cons h1, h2]
        have htk : p.rt.take (i + 1) = p.rt.take i ++ [y] := by rw [List.take_add_one, hgi]; rfl
        have w1 : IntKind.i64.wrap ((i : Int) + 1) = ((i + 1 : Nat) : Int) := by rw [wrI64 (by omega) (by omega)]; omega
        have htkm : List.take i (List.map rtA p.rt) = List.map rtA (p.rt.take i) := by rw [List.map_take]
        have hvia := hp.via i y hgi
        rw [hdr, rtE, ← htk] at he
        simp only [OI, ↓reduceIte, reduceCtorEq, Nat.reduceAdd, Nat.reduceEqDiff, Nat.reduceBEq, Nat.reduceLT, Nat.reduceLeDiff, Nat.reduceMul, Nat.reduceSub, Int.reduceLE, Int.reduceLT, Int.reduceEq, Int.reduceBEq, Int.reduceBNe, Int.reduceToNat, Int.reduceNeg, Nat.reduceBNe, st73, plA, gA, hil', i0, hgi, rtA, w1, htkm]
        refine ⟨by omega, c165 p y (p.rt.take i) g (by omega) (by rw [List.length_take]; omega) ?_⟩
        by_cases hz : rtR g.cl.length p.re.length (p.rt.take i) y = 0
        · rw [if_neg (by simpa using hz)] at he
          simp only [OI, ↓reduceIte, reduceCtorEq, Nat.reduceAdd, Nat.reduceEqDiff, Nat.reduceBEq, Nat.reduceLT, Nat.reduceLeDiff, Nat.reduceMul, Nat.reduceSub, Int.reduceLE, Int.reduceLT, Int.reduceEq, Int.reduceBEq, Int.reduceBNe, Int.reduceToNat, Int.reduceNeg, Nat.reduceBNe, i64A, bneF hz, w1]
          refine ⟨i + 1, ⟨⟨by omega, he⟩, by omega⟩, ?_⟩
          simp only [OI, ↓reduceIte, reduceCtorEq, Nat.reduceAdd, Nat.reduceEqDiff, Nat.reduceBEq, Nat.reduceLT, Nat.reduceLeDiff, Nat.reduceMul, Nat.reduceSub, Int.reduceLE, Int.reduceLT, Int.reduceEq, Int.reduceBEq, Int.reduceBNe, Int.reduceToNat, Int.reduceNeg, Nat.reduceBNe, st73, plA, gA]
          try rfl
        · rw [if_pos hz] at he
          rw [he] at h
          simp only [OI, ↓reduceIte, reduceCtorEq, Nat.reduceAdd, Nat.reduceEqDiff, Nat.reduceBEq, Nat.reduceLT, Nat.reduceLeDiff, Nat.reduceMul, Nat.reduceSub, Int.reduceLE, Int.reduceLT, Int.reduceEq, Int.reduceBEq, Int.reduceBNe, Int.reduceToNat, Int.reduceNeg, Nat.reduceBNe, i64A, bneT hz]
          exact h
      · obtain rfl : i = p.rt.length := by omega
        rw [List.drop_length, rtE] at he
        rw [he] at h
        simp only [OI, ↓reduceIte, reduceCtorEq, Nat.reduceAdd, Nat.reduceEqDiff, Nat.reduceBEq, Nat.reduceLT, Nat.reduceLeDiff, Nat.reduceMul, Nat.reduceSub, Int.reduceLE, Int.reduceLT, Int.reduceEq, Int.reduceBEq, Int.reduceBNe, Int.reduceToNat, Int.reduceNeg, Nat.reduceBNe, st73, plA, gA, Int.lt_irrefl]
        exact h
    · rw [if_pos k3] at h
      have k3' : ¬ relE (g.cl.map (·.1)) p.re = 0 := k3
      simp only [OI, ↓reduceIte, reduceCtorEq, Nat.reduceAdd, Nat.reduceEqDiff, Nat.reduceBEq, Nat.reduceLT, Nat.reduceLeDiff, Nat.reduceMul, Nat.reduceSub, Int.reduceLE, Int.reduceLT, Int.reduceEq, Int.reduceBEq, Int.reduceBNe, Int.reduceToNat, Int.reduceNeg, Nat.reduceBNe, i64A, bneT k3']
      exact h
  · rw [chkP, if_pos hc] at h
    simp only [OI, ↓reduceIte, reduceCtorEq, Nat.reduceAdd, Nat.reduceEqDiff, Nat.reduceBEq, Nat.reduceLT, Nat.reduceLeDiff, Nat.reduceMul, Nat.reduceSub, Int.reduceLE, Int.reduceLT, Int.reduceEq, Int.reduceBEq, Int.reduceBNe, Int.reduceToNat, Int.reduceNeg, Nat.reduceBNe, i64A, bneT hc]
    exact h
theorem c73 (p : Pn) (g : Gr) (hp : SmallP p) {Q : AV → Al → Prop} (h : Q (i64A (chkP p g)) []) : ACalls Tryd.prog 27 [] [plA p, gA g] Q := c73m p g hp.med h
end Go.Proofs.YthlehngbadianaaDoor.Ow
set_option maxRecDepth 100000
set_option maxHeartbeats 4000000
namespace Go.Proofs.YthlehngbadianaaDoor.Ow
open Go Go.RowKit Go.Proofs
/- watershed/watershedref18.Names -/
def cc166 : CC := (.seq (.region [⟨none, 1, (.box 0), [0], none, []⟩, ⟨none, 2, (.val (.mv (.c (.slice none 0 0)))), [2], none, []⟩]) (.seq (.region [⟨none, 3, (.val (.mv (.c (.slice none 0 0)))), [], none, []⟩]) (.seq (.seq (.region [⟨none, 4, (.val (.mv (.c (.int .i64 0)))), [], none, []⟩]) (.block 0 (.loop (.seq (.seq (.region [⟨none, 5, (.val (.mv (.s 4))), [], none, []⟩, ⟨none, 6, (.val (.fa (.s 1) 0)), [], none, []⟩, ⟨none, 7, (.val (.ld (.s 6) none)), [6], none, []⟩, ⟨none, 8, (.val (.lnl (.s 7) 2)), [7], none, []⟩, ⟨none, 9, (.val (.bin .lss (.s 5) (.s 8))), [5, 8], none, []⟩]) (.cond (.s 9) .skip (.exit 0))) (.seq (.block 1 (.region [⟨none, 12, (.val (.mv (.s 3))), [3, 9], none, []⟩, ⟨none, 13, (.val (.fa (.s 1) 0)), [], none, []⟩, ⟨none, 14, (.val (.ld (.s 13) none)), [13], none, []⟩, ⟨none, 15, (.val (.mv (.s 4))), [], none, []⟩, ⟨none, 16, (.val (.ia (.s 14) (.s 15) 2)), [14, 15], none, []⟩, ⟨none, 17, (.val (.fa (.s 16) 0)), [16], none, []⟩, ⟨none, 18, (.val (.ld (.s 17) none)), [17], none, []⟩, ⟨none, 19, (.lit 1 [(.s 18)]), [18], none, []⟩, ⟨none, 20, (.app 1 16 false (.s 12) (.s 19)), [12, 19], none, []⟩, ⟨none, 3, (.val (.mv (.s 20))), [20], none, []⟩])) (.region [⟨none, 10, (.val (.mv (.s 4))), [4], none, []⟩, ⟨none, 11, (.val (.bin .add (.s 10) (.c (.int .i64 1)))), [10], none, []⟩, ⟨none, 4, (.val (.mv (.s 11))), [11], none, []⟩])))))) (.seq (.region [⟨none, 21, (.val (.mv (.s 3))), [1, 3, 4, 9], none, []⟩, ⟨none, 2, (.val (.mv (.s 21))), [21], none, []⟩]) .ret))))
theorem ok166 : FnOk Tryd.prog 56 cc166 [(.t 2)] 1 22 := ⟨⟨_, Tryd.func56, by kernel_rfl, by kernel_rfl, by kernel_rfl⟩, by decide, by decide⟩
/- watershed/watershedref09.Find -/
def cc168 : CC := (.seq (.region [⟨none, 4, (.val (.mv (.c (.int .i64 0)))), [4], none, []⟩]) (.seq (.seq (.region [⟨none, 5, (.val (.mv (.c (.int .i64 0)))), [], none, []⟩]) (.block 0 (.loop (.seq (.seq (.region [⟨none, 6, (.val (.mv (.s 5))), [], none, []⟩, ⟨none, 7, (.val (.mv (.s 0))), [], none, []⟩, ⟨none, 8, (.val (.lnl (.s 7) 1)), [7], none, []⟩, ⟨none, 9, (.val (.bin .lss (.s 6) (.s 8))), [6, 8], none, []⟩]) (.cond (.s 9) .skip (.exit 0))) (.seq (.block 1 (.seq (.region [⟨none, 12, (.val (.mv (.s 0))), [9], none, []⟩, ⟨none, 13, (.val (.mv (.s 5))), [], none, []⟩, ⟨none, 14, (.val (.ia (.s 12) (.s 13) 1)), [12, 13], none, []⟩, ⟨none, 15, (.val (.ld (.s 14) none)), [14], none, []⟩, ⟨none, 16, (.val (.mv (.s 1))), [], none, []⟩, ⟨none, 17, (.val (.bin .eql (.s 15) (.s 16))), [15, 16], none, []⟩]) (.cond (.s 17) (.seq (.region [⟨none, 18, (.val (.mv (.s 5))), [0, 1, 5, 17], none, []⟩, ⟨none, 4, (.val (.mv (.s 18))), [18], none, []⟩]) .ret) .skip))) (.region [⟨none, 10, (.val (.mv (.s 5))), [5, 17], none, []⟩, ⟨none, 11, (.val (.bin .add (.s 10) (.c (.int .i64 1)))), [10], none, []⟩, ⟨none, 5, (.val (.mv (.s 11))), [11], none, []⟩])))))) (.seq (.region [⟨none, 4, (.val (.mv (.c (.int .i64 (-1))))), [0, 1, 5, 9], none, []⟩]) .ret)))
theorem ok168 : FnOk Tryd.prog 55 cc168 [(.t 4)] 2 19 := ⟨⟨_, Tryd.func55, by kernel_rfl, by kernel_rfl, by kernel_rfl⟩, by decide, by decide⟩
def st166 (I : World → Fp → Value → Fp → Prop) (g : Gr) (i : Nat) : St :=
  ⟨[(4, .v (.int .i64 i)), (3, .sl ⟨2020, [], 0⟩ 1 0 i), (1, .ref ⟨1001, [], 0⟩)], [(2020, .own 1 (((cns g.cl).take i).map nmA)), (1001, gA g), (9999, .ext I)], []⟩
theorem c166 (g : Gr) (hl : g.cl.length ≤ 100000) {Q : AV → Al → Prop} (h : Q (.own 1 ((cns g.cl).map nmA)) []) : ACalls Tryd.prog 56 [] [gA g] Q := by
  refine ok166.N hmix rfl ?_
  intro I
  simp only [cc166, OI, ↓reduceIte, reduceCtorEq, Nat.reduceAdd, Nat.reduceEqDiff, Nat.reduceBEq, Nat.reduceLT, Nat.reduceLeDiff, Nat.reduceMul, Nat.reduceSub, Int.reduceLE, Int.reduceLT, Int.reduceEq, Int.reduceBEq, Int.reduceBNe, Int.reduceToNat, Int.reduceNeg, Nat.reduceBNe, gA, i64A]
  refine W_nilS 3 2020 1 (by decide) rfl rfl (by decide) rfl ?_
  refine W_loop (st166 I g) (fun i => i ≤ g.cl.length) (fun i => g.cl.length - i) (fun _ _ => rfl) ⟨0, by omega, ?_⟩ ?_
  · simp only [OI, ↓reduceIte, reduceCtorEq, Nat.reduceAdd, Nat.reduceEqDiff, Nat.reduceBEq, Nat.reduceLT, Nat.reduceLeDiff, Nat.reduceMul, Nat.reduceSub, Int.reduceLE, Int.reduceLT, Int.reduceEq, Int.reduceBEq, Int.reduceBNe, Int.reduceToNat, Int.reduceNeg, Nat.reduceBNe, st166, gA, cns]
    try rfl
  rintro i hi
  refine W_of_N ok166.small hmix ?_
  by_cases hil : i < g.cl.length
  · have hil' : (i : Int) < g.cl.length := by omega
    have i0 : (0 : Int) ≤ i := by omega
    obtain ⟨c, hgi⟩ : ∃ c, g.cl[i]? = some c := ⟨_, List.getElem?_eq_getElem hil⟩
    have htk : (cns g.cl).take (i + 1) = (cns g.cl).take i ++ [c.1] := by rw [List.take_add_one, cns, List.getElem?_map, hgi]; rfl
    have w1 : IntKind.i64.wrap ((i : Int) + 1) = ((i + 1 : Nat) : Int) := by rw [wrI64 (by omega) (by omega)]; omega
    have hlt : ((cns g.cl).take i).length = i := by rw [List.length_take, cns, List.length_map]; omega
    simp only [OI, ↓reduceIte, reduceCtorEq, Nat.reduceAdd, Nat.reduceEqDiff, Nat.reduceBEq, Nat.reduceLT, Nat.reduceLeDiff, Nat.reduceMul, Nat.reduceSub, Int.reduceLE, Int.reduceLT, Int.reduceEq, Int.reduceBEq, Int.reduceBNe, Int.reduceToNat, Int.reduceNeg, Nat.reduceBNe, st166, hil', i0, hgi, clA, gA, w1, List.length_map, hlt]
    refine ⟨⟨by omega, by omega⟩, ?_⟩
    refine ⟨i + 1, ⟨by omega, by omega⟩, ?_⟩
    simp only [OI, ↓reduceIte, reduceCtorEq, Nat.reduceAdd, Nat.reduceEqDiff, Nat.reduceBEq, Nat.reduceLT, Nat.reduceLeDiff, Nat.reduceMul, Nat.reduceSub, Int.reduceLE, Int.reduceLT, Int.reduceEq, Int.reduceBEq, Int.reduceBNe, Int.reduceToNat, Int.reduceNeg, Nat.reduceBNe, st166, gA, htk, nmA, List.map_append, List.map_cons, List.map_nil]
  · obtain rfl : i = g.cl.length := by omega
    have hct : (cns g.cl).take g.cl.length = cns g.cl := List.take_of_length_le (by simp [cns])
    have hcl : (cns g.cl).length = g.cl.length := by simp [cns]
    have hmt : ((cns g.cl).map nmA).take g.cl.length = (cns g.cl).map nmA := List.take_of_length_le (by simp [cns])
    simp only [OI, ↓reduceIte, reduceCtorEq, Nat.reduceAdd, Nat.reduceEqDiff, Nat.reduceBEq, Nat.reduceLT, Nat.reduceLeDiff, Nat.reduceMul, Nat.reduceSub, Int.reduceLE, Int.reduceLT, Int.reduceEq, Int.reduceBEq, Int.reduceBNe, Int.reduceToNat, Int.reduceNeg, Nat.reduceBNe, st166, Int.lt_irrefl, gA, hct, hmt, hcl, List.length_map, Nat.le_refl]
    exact h
def st168 (I : World → Fp → Value → Fp → Prop) (l : List ByteArray) (s : ByteArray) (i : Nat) : St :=
  ⟨[(5, .v (.int .i64 i)), (0, .lst 1 (l.map nmA)), (1, nmA s)], [(9999, .ext I)], []⟩
theorem c168 (l : List ByteArray) (s : ByteArray) (hl : l.length ≤ 100000) {Q : AV → Al → Prop} (h : Q (i64A (idxP l (fun t => t.toList == s.toList))) []) : ACalls Tryd.prog 55 [] [.lst 1 (l.map nmA), nmA s] Q := by
  refine ok168.N hmix rfl ?_
  intro I
  simp only [cc168, OI, ↓reduceIte, reduceCtorEq, Nat.reduceAdd, Nat.reduceEqDiff, Nat.reduceBEq, Nat.reduceLT, Nat.reduceLeDiff, Nat.reduceMul, Nat.reduceSub, Int.reduceLE, Int.reduceLT, Int.reduceEq, Int.reduceBEq, Int.reduceBNe, Int.reduceToNat, Int.reduceNeg, Nat.reduceBNe, nmA, i64A]
  refine W_loop (st168 I l s) (fun i => i ≤ l.length ∧ ∀ (j : Nat) y, j < i → l[j]? = some y → (y.toList == s.toList) = false) (fun i => l.length - i) (fun _ _ => rfl) ⟨0, ⟨by omega, fun j y hj => by omega⟩, ?_⟩ ?_
  · simp only [OI, ↓reduceIte, reduceCtorEq, Nat.reduceAdd, Nat.reduceEqDiff, Nat.reduceBEq, Nat.reduceLT, Nat.reduceLeDiff, Nat.reduceMul, Nat.reduceSub, Int.reduceLE, Int.reduceLT, Int.reduceEq, Int.reduceBEq, Int.reduceBNe, Int.reduceToNat, Int.reduceNeg, Nat.reduceBNe, st168, nmA, i64A]
    try rfl
  rintro i ⟨hi, hall⟩
  refine W_of_N ok168.small hmix ?_
  by_cases hil : i < l.length
  · have hil' : (i : Int) < l.length := by omega
    have i0 : (0 : Int) ≤ i := by omega
    obtain ⟨y, hgi⟩ : ∃ y, l[i]? = some y := ⟨_, List.getElem?_eq_getElem hil⟩
    have w1 : IntKind.i64.wrap ((i : Int) + 1) = ((i + 1 : Nat) : Int) := by rw [wrI64 (by omega) (by omega)]; omega
    cases ht : (y.toList == s.toList) with
    | true =>
      simp only [OI, ↓reduceIte, reduceCtorEq, Nat.reduceAdd, Nat.reduceEqDiff, Nat.reduceBEq, Nat.reduceLT, Nat.reduceLeDiff, Nat.reduceMul, Nat.reduceSub, Int.reduceLE, Int.reduceLT, Int.reduceEq, Int.reduceBEq, Int.reduceBNe, Int.reduceToNat, Int.reduceNeg, Nat.reduceBNe, st168, nmA, i64A, hil', i0, hgi, w1, ht]
      rw [idxP_at hgi ht hall] at h
      exact h
    | false =>
      simp only [OI, ↓reduceIte, reduceCtorEq, Nat.reduceAdd, Nat.reduceEqDiff, Nat.reduceBEq, Nat.reduceLT, Nat.reduceLeDiff, Nat.reduceMul, Nat.reduceSub, Int.reduceLE, Int.reduceLT, Int.reduceEq, Int.reduceBEq, Int.reduceBNe, Int.reduceToNat, Int.reduceNeg, Nat.reduceBNe, st168, nmA, i64A, hil', i0, hgi, w1, ht]
      refine ⟨i + 1, ⟨⟨by omega, fun j z hj hz => ?_⟩, by omega⟩, ?_⟩
      · by_cases he : j = i
        · subst he; rw [hgi] at hz; obtain rfl := Option.some.inj hz; exact ht
        · exact hall j z (by omega) hz
      · simp only [OI, ↓reduceIte, reduceCtorEq, Nat.reduceAdd, Nat.reduceEqDiff, Nat.reduceBEq, Nat.reduceLT, Nat.reduceLeDiff, Nat.reduceMul, Nat.reduceSub, Int.reduceLE, Int.reduceLT, Int.reduceEq, Int.reduceBEq, Int.reduceBNe, Int.reduceToNat, Int.reduceNeg, Nat.reduceBNe, st168, nmA, i64A]
  · obtain rfl : i = l.length := by omega
    simp only [OI, ↓reduceIte, reduceCtorEq, Nat.reduceAdd, Nat.reduceEqDiff, Nat.reduceBEq, Nat.reduceLT, Nat.reduceLeDiff, Nat.reduceMul, Nat.reduceSub, Int.reduceLE, Int.reduceLT, Int.reduceEq, Int.reduceBEq, Int.reduceBNe, Int.reduceToNat, Int.reduceNeg, Nat.reduceBNe, st168, nmA, i64A, Int.lt_irrefl]
    rw [idxP_no fun j y hy => hall j y (List.getElem?_eq_some_iff.1 hy).1 hy] at h
    exact h
end Go.Proofs.YthlehngbadianaaDoor.Ow
