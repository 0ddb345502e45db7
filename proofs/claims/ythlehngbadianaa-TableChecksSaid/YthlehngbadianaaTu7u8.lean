/- What the functions of the program do, each once: contracts of the logic (part u7 u8). -/
import Derived.Test.YthlehngbadianaaTu6
set_option linter.unusedVariables false
set_option linter.unusedSimpArgs false
set_option linter.unnecessarySimpa false
set_option maxRecDepth 100000
set_option maxHeartbeats 4000000
namespace Go.Proofs.Ythlehngbadianaa.Ow
open Go Go.RowKit Go.Proofs
/- watershed/table.Ends -/
def cc75 : CC := (.seq (.region [⟨none, 2, (.box 0), [0], none, []⟩, ⟨none, 3, (.box 1), [1], none, []⟩, ⟨none, 4, (.val (.mv (.c (.int .i64 0)))), [4], none, []⟩]) (.seq (.seq (.region [⟨none, 5, (.val (.ld (.s 2) (some 2))), [], none, []⟩, ⟨none, 6, (.val (.ld (.s 3) (some 4))), [], none, []⟩, ⟨none, 7, (.callP 73 [(.s 5), (.s 6)]), [5, 6], none, []⟩, ⟨none, 8, (.val (.bin .neq (.s 7) (.c (.int .i64 0)))), [7], none, []⟩]) (.cond (.s 8) (.seq (.region [⟨none, 4, (.val (.mv (.c (.int .i64 0)))), [2, 3, 8], none, []⟩]) .ret) .skip)) (.seq (.region [⟨none, 9, (.val (.fa (.s 3) 0)), [3, 8], none, []⟩, ⟨none, 10, (.val (.ld (.s 9) none)), [9], none, []⟩, ⟨none, 11, (.val (.lnl (.s 10) 2)), [10], none, []⟩, ⟨none, 12, (.val (.fa (.s 2) 0)), [2], none, []⟩, ⟨none, 13, (.val (.ld (.s 12) none)), [12], none, []⟩, ⟨none, 14, (.val (.lnl (.s 13) 1)), [13], none, []⟩, ⟨none, 15, (.val (.bin .add (.s 11) (.s 14))), [11, 14], none, []⟩, ⟨none, 4, (.val (.mv (.s 15))), [15], none, []⟩]) .ret)))
theorem ok75 : FnOk Try.prog 75 cc75 [(.t 4)] 2 16 := ⟨⟨_, Try.func75, by kernel_rfl, by kernel_rfl, by kernel_rfl⟩, by decide, by decide⟩
/- watershed/watershedref18.Ends -/
def cc76 : CC := (.seq (.region [⟨none, 2, (.box 0), [0], none, []⟩, ⟨none, 3, (.box 1), [1], none, []⟩, ⟨none, 4, (.val (.mv (.c (.int .i64 0)))), [4], none, []⟩]) (.seq (.seq (.region [⟨none, 5, (.val (.ld (.s 2) (some 2))), [], none, []⟩, ⟨none, 6, (.val (.ld (.s 3) (some 4))), [], none, []⟩, ⟨none, 7, (.callP 74 [(.s 5), (.s 6)]), [5, 6], none, []⟩, ⟨none, 8, (.val (.bin .neq (.s 7) (.c (.int .i64 0)))), [7], none, []⟩]) (.cond (.s 8) (.seq (.region [⟨none, 4, (.val (.mv (.c (.int .i64 0)))), [2, 3, 8], none, []⟩]) .ret) .skip)) (.seq (.region [⟨none, 9, (.val (.fa (.s 3) 0)), [3, 8], none, []⟩, ⟨none, 10, (.val (.ld (.s 9) none)), [9], none, []⟩, ⟨none, 11, (.val (.lnl (.s 10) 2)), [10], none, []⟩, ⟨none, 12, (.val (.fa (.s 2) 0)), [2], none, []⟩, ⟨none, 13, (.val (.ld (.s 12) none)), [12], none, []⟩, ⟨none, 14, (.val (.lnl (.s 13) 1)), [13], none, []⟩, ⟨none, 15, (.val (.bin .add (.s 11) (.s 14))), [11, 14], none, []⟩, ⟨none, 4, (.val (.mv (.s 15))), [15], none, []⟩]) .ret)))
theorem ok76 : FnOk Try.prog 76 cc76 [(.t 4)] 2 16 := ⟨⟨_, Try.func76, by kernel_rfl, by kernel_rfl, by kernel_rfl⟩, by decide, by decide⟩
/- watershed/table.Way -/
def cc78 : CC := (.seq (.region [⟨none, 4, (.box 0), [0], none, []⟩, ⟨none, 5, (.box 1), [1], none, []⟩, ⟨none, 8, (.val (.mv (.c (.slice none 0 0)))), [8], none, []⟩, ⟨none, 9, (.val (.mv (.c (.int .i64 0)))), [9], none, []⟩]) (.seq (.seq (.region [⟨none, 16, (.val (.ld (.s 4) (some 2))), [], none, []⟩, ⟨none, 17, (.val (.ld (.s 5) (some 4))), [], none, []⟩, ⟨none, 18, (.callP 73 [(.s 16), (.s 17)]), [16, 17], none, []⟩, ⟨none, 10, (.val (.mv (.s 18))), [18], none, []⟩]) (.seq (.region [⟨none, 19, (.val (.mv (.s 10))), [], none, []⟩, ⟨none, 20, (.val (.bin .neq (.s 19) (.c (.int .i64 0)))), [19], none, []⟩]) (.cond (.s 20) (.seq (.region [⟨none, 21, (.val (.mv (.s 10))), [2, 3, 4, 5, 10, 20], none, []⟩, ⟨none, 8, (.val (.mv (.c (.slice none 0 0)))), [], none, []⟩, ⟨none, 9, (.val (.mv (.s 21))), [21], none, []⟩]) .ret) .skip))) (.seq (.seq (.region [⟨none, 22, (.val (.ld (.s 5) (some 4))), [10, 20], none, []⟩, ⟨none, 23, (.val (.mv (.s 2))), [], none, []⟩, ⟨none, 24, (.callP 170 [(.s 22), (.s 23)]), [22, 23], none, []⟩, ⟨none, 25, (.val (.un .not (.s 24))), [24], none, []⟩, ⟨none, 26, (.val (.mv (.s 25))), [25], none, []⟩, ⟨(some (26, false)), 27, (.val (.ld (.s 5) (some 4))), [], none, []⟩, ⟨(some (26, false)), 28, (.val (.mv (.s 3))), [], none, []⟩, ⟨(some (26, false)), 29, (.callP 170 [(.s 27), (.s 28)]), [27, 28], none, []⟩, ⟨(some (26, false)), 30, (.val (.un .not (.s 29))), [29], none, []⟩, ⟨none, 31, (.val (.pick (.s 26) (.c (.bool true)) (.s 30))), [26, 30], none, []⟩, ⟨none, 32, (.val (.mv (.s 31))), [31], none, []⟩, ⟨(some (32, false)), 33, (.val (.mv (.s 2))), [], none, []⟩, ⟨(some (32, false)), 34, (.val (.mv (.s 3))), [], none, []⟩, ⟨(some (32, false)), 35, (.val (.bin .eql (.s 33) (.s 34))), [33, 34], none, []⟩, ⟨none, 36, (.val (.pick (.s 32) (.c (.bool true)) (.s 35))), [32, 35], none, []⟩]) (.cond (.s 36) (.seq (.region [⟨none, 8, (.val (.mv (.c (.slice none 0 0)))), [2, 3, 4, 5, 36], none, []⟩, ⟨none, 9, (.val (.mv (.c (.int .i64 1)))), [], none, []⟩]) .ret) .skip)) (.seq (.region [⟨none, 37, (.val (.mv (.s 2))), [36], none, []⟩, ⟨none, 38, (.lit 1 [(.s 37)]), [37], none, []⟩, ⟨none, 11, (.val (.mv (.s 38))), [38], none, []⟩]) (.seq (.seq (.region [⟨none, 39, (.val (.fa (.s 4) 1)), [4], none, []⟩, ⟨none, 40, (.val (.ld (.s 39) none)), [39], none, []⟩, ⟨none, 41, (.val (.lnl (.s 40) 3)), [], none, []⟩, ⟨none, 42, (.val (.mv (.c (.int .i64 0)))), [], none, []⟩]) (.block 0 (.loop (.seq (.region [⟨none, 43, (.val (.bin .lss (.s 42) (.s 41))), [], none, []⟩]) (.seq (.cond (.s 43) .skip (.exit 0)) (.seq (.block 1 (.seq (.region [⟨none, 44, (.val (.ia (.s 40) (.s 42) 3)), [43], none, []⟩, ⟨none, 45, (.val (.ld (.s 44) (some 3))), [44], none, []⟩, ⟨none, 13, (.alloc (.agg #[(.int .i64 0), (.int .i64 0), (.slice none 0 0)])), [], none, []⟩, ⟨none, 0, (.store 3 (.s 13) (.s 45)), [45], none, []⟩]) (.seq (.seq (.region [⟨none, 46, (.val (.fa (.s 13) 0)), [], none, []⟩, ⟨none, 47, (.val (.ld (.s 46) none)), [46], none, []⟩, ⟨none, 48, (.val (.mv (.s 2))), [], none, []⟩, ⟨none, 49, (.val (.bin .neq (.s 47) (.s 48))), [47, 48], none, []⟩, ⟨none, 50, (.val (.mv (.s 49))), [49], none, []⟩, ⟨(some (50, false)), 51, (.val (.fa (.s 13) 1)), [], none, []⟩, ⟨(some (50, false)), 52, (.val (.ld (.s 51) none)), [], none, []⟩, ⟨(some (50, false)), 53, (.val (.mv (.s 3))), [], none, []⟩, ⟨(some (50, false)), 54, (.val (.bin .neq (.s 52) (.s 53))), [], none, []⟩, ⟨none, 55, (.val (.pick (.s 50) (.c (.bool true)) (.s 54))), [50], none, []⟩]) (.cond (.s 55) (.exit 1) .skip)) (.seq (.region [⟨none, 56, (.val (.fa (.s 13) 2)), [13, 55], none, []⟩, ⟨none, 57, (.val (.ld (.s 56) none)), [56], none, []⟩, ⟨none, 58, (.val (.lnl (.s 57) 1)), [], none, []⟩, ⟨none, 59, (.val (.mv (.c (.int .i64 0)))), [], none, []⟩]) (.block 2 (.loop (.seq (.region [⟨none, 60, (.val (.bin .lss (.s 59) (.s 58))), [], none, []⟩]) (.seq (.cond (.s 60) .skip (.exit 2)) (.seq (.block 3 (.seq (.region [⟨none, 61, (.val (.ia (.s 57) (.s 59) 1)), [60], none, []⟩, ⟨none, 62, (.val (.ld (.s 61) none)), [61], none, []⟩, ⟨none, 15, (.val (.mv (.s 62))), [62], none, []⟩]) (.region [⟨none, 63, (.val (.mv (.s 11))), [11], none, []⟩, ⟨none, 64, (.val (.fa (.s 5) 0)), [], none, []⟩, ⟨none, 65, (.val (.ld (.s 64) none)), [64], none, []⟩, ⟨none, 66, (.val (.lnl (.s 65) 2)), [65], none, []⟩, ⟨none, 67, (.val (.mv (.s 15))), [15], none, []⟩, ⟨none, 68, (.val (.bin .add (.s 66) (.s 67))), [66, 67], none, []⟩, ⟨none, 69, (.lit 1 [(.s 68)]), [68], none, []⟩, ⟨none, 70, (.app 1 8 false (.s 63) (.s 69)), [63, 69], none, []⟩, ⟨none, 11, (.val (.mv (.s 70))), [70], none, []⟩]))) (.region [⟨none, 71, (.val (.bin .add (.s 59) (.c (.int .i64 1)))), [59], none, []⟩, ⟨none, 59, (.val (.mv (.s 71))), [71], none, []⟩])))))))))) (.region [⟨none, 72, (.val (.bin .add (.s 42) (.c (.int .i64 1)))), [13, 42, 55, 57, 58, 59, 60], none, []⟩, ⟨none, 42, (.val (.mv (.s 72))), [72], none, []⟩]))))))) (.seq (.region [⟨none, 73, (.val (.mv (.s 11))), [2, 5, 11, 40, 41, 42, 43, 51, 52, 53, 54], none, []⟩, ⟨none, 74, (.val (.mv (.s 3))), [3], none, []⟩, ⟨none, 75, (.lit 1 [(.s 74)]), [74], none, []⟩, ⟨none, 76, (.app 1 8 false (.s 73) (.s 75)), [73, 75], none, []⟩, ⟨none, 8, (.val (.mv (.s 76))), [76], none, []⟩, ⟨none, 9, (.val (.mv (.c (.int .i64 0)))), [], none, []⟩]) .ret))))))
theorem ok78 : FnOk Try.prog 78 cc78 [(.t 8), (.t 9)] 4 77 := ⟨⟨_, Try.func78, by kernel_rfl, by kernel_rfl, by kernel_rfl⟩, by decide, by decide⟩
def endsR (p : Pn) (g : Gr) : Int := if chkP p g ≠ 0 then 0 else g.cl.length + p.re.length
theorem chkP0 {p : Pn} {g : Gr} (h : chkP p g = 0) : chk g = 0 ∧ p.re.length ≤ 4 ∧ p.rt.length ≤ 12 ∧ rtE g.cl.length p.re.length [] p.rt = 0 := by
  unfold chkP at h
  split at h
  · exact absurd h ‹_›
  split at h
  · cases h
  split at h
  · exact absurd h ‹_›
  rename_i h1 h2 h3
  exact ⟨by simpa using h1, by omega, by omega, h⟩
theorem rtE_via {n m : Int} : ∀ (l ah : List Rt), rtE n m ah l = 0 → ∀ r ∈ l, ∀ x ∈ r.via, 0 ≤ x ∧ x < m
  | [], ah, _, r, hr => by cases hr
  | a :: l, ah, he, r, hr => by
    simp only [rtE] at he
    split at he
    · exact absurd he ‹_›
    rename_i h1
    rcases List.mem_cons.1 hr with rfl | hr
    · intro x hx
      have h2 : rtR n m ah r = 0 := by simpa using h1
      unfold rtR at h2
      split at h2
      · cases h2
      rename_i h3
      have : ¬ r.via.any (badK m) = true := fun hb => h3 (.inr (.inr (.inr (.inr (.inr hb)))))
      rw [List.any_eq_true] at this
      have hnb : ¬ badK m x = true := fun hb => this ⟨x, hx, hb⟩
      simp only [badK, decide_eq_true_eq] at hnb
      omega
    · exact rtE_via l _ he r hr
theorem c75 (p : Pn) (g : Gr) (hp : SmallP p) {Q : AV → Al → Prop} (h : Q (i64A (endsR p g)) []) : ACalls Try.prog 75 [] [plA p, gA g] Q := by
  refine ok75.N hmix rfl ?_
  intro I
  simp only [cc75, OI, ↓reduceIte, reduceCtorEq, Nat.reduceAdd, Nat.reduceEqDiff, Nat.reduceBEq, Nat.reduceLT, Nat.reduceLeDiff, Nat.reduceMul, Nat.reduceSub, Int.reduceLE, Int.reduceLT, Int.reduceEq, Int.reduceBEq, Int.reduceBNe, Int.reduceToNat, Int.reduceNeg, Nat.reduceBNe, plA, gA, i64A]
  refine c73 p g hp ?_
  by_cases hc : chkP p g = 0
  · obtain ⟨h0, h1, h2, h3⟩ := chkP0 hc
    have h4 := (chk0 h0).cl4
    have w1 : IntKind.i64.wrap ((g.cl.length : Int) + p.re.length) = g.cl.length + p.re.length := wrI64 (by omega) (by omega)
    rw [endsR, if_neg (by simpa using hc)] at h
    simp only [OI, ↓reduceIte, reduceCtorEq, Nat.reduceAdd, Nat.reduceEqDiff, Nat.reduceBEq, Nat.reduceLT, Nat.reduceLeDiff, Nat.reduceMul, Nat.reduceSub, Int.reduceLE, Int.reduceLT, Int.reduceEq, Int.reduceBEq, Int.reduceBNe, Int.reduceToNat, Int.reduceNeg, Nat.reduceBNe, i64A, bneF hc, w1]
    exact h
  · rw [endsR, if_pos hc] at h
    simp only [OI, ↓reduceIte, reduceCtorEq, Nat.reduceAdd, Nat.reduceEqDiff, Nat.reduceBEq, Nat.reduceLT, Nat.reduceLeDiff, Nat.reduceMul, Nat.reduceSub, Int.reduceLE, Int.reduceLT, Int.reduceEq, Int.reduceBEq, Int.reduceBNe, Int.reduceToNat, Int.reduceNeg, Nat.reduceBNe, i64A, bneT hc]
    exact h
theorem c76 (p : Pn) (g : Gr) (hn : NmOk g) (hp : SmallP p) {Q : AV → Al → Prop} (h : Q (i64A (endsR p g)) []) : ACalls Try.prog 76 [] [plA p, gA g] Q := by
  refine ok76.N hmix rfl ?_
  intro I
  simp only [cc76, OI, ↓reduceIte, reduceCtorEq, Nat.reduceAdd, Nat.reduceEqDiff, Nat.reduceBEq, Nat.reduceLT, Nat.reduceLeDiff, Nat.reduceMul, Nat.reduceSub, Int.reduceLE, Int.reduceLT, Int.reduceEq, Int.reduceBEq, Int.reduceBNe, Int.reduceToNat, Int.reduceNeg, Nat.reduceBNe, plA, gA, i64A]
  refine c74 p g hn hp ?_
  by_cases hc : chkP p g = 0
  · obtain ⟨h0, h1, h2, h3⟩ := chkP0 hc
    have h4 := (chk0 h0).cl4
    have w1 : IntKind.i64.wrap ((g.cl.length : Int) + p.re.length) = g.cl.length + p.re.length := wrI64 (by omega) (by omega)
    rw [endsR, if_neg (by simpa using hc)] at h
    simp only [OI, ↓reduceIte, reduceCtorEq, Nat.reduceAdd, Nat.reduceEqDiff, Nat.reduceBEq, Nat.reduceLT, Nat.reduceLeDiff, Nat.reduceMul, Nat.reduceSub, Int.reduceLE, Int.reduceLT, Int.reduceEq, Int.reduceBEq, Int.reduceBNe, Int.reduceToNat, Int.reduceNeg, Nat.reduceBNe, i64A, bneF hc, w1]
    exact h
  · rw [endsR, if_pos hc] at h
    simp only [OI, ↓reduceIte, reduceCtorEq, Nat.reduceAdd, Nat.reduceEqDiff, Nat.reduceBEq, Nat.reduceLT, Nat.reduceLeDiff, Nat.reduceMul, Nat.reduceSub, Int.reduceLE, Int.reduceLT, Int.reduceEq, Int.reduceBEq, Int.reduceBNe, Int.reduceToNat, Int.reduceNeg, Nat.reduceBNe, i64A, bneT hc]
    exact h
/-- The ends of a route. -/
def wayR (n f t : Int) (l : List Rt) : List Int := l.flatMap fun r => if r.f = f ∧ r.t = t then r.via.map (n + ·) else []
def wayE (p : Pn) (g : Gr) (f t : Int) : Int := if chkP p g ≠ 0 then chkP p g else if f < 0 ∨ g.cl.length ≤ f ∨ t < 0 ∨ g.cl.length ≤ t ∨ f = t then 1 else 0
def wayL (p : Pn) (g : Gr) (f t : Int) : List Int := f :: wayR g.cl.length f t p.rt ++ [t]
def wL (n f t : Int) (l : List Rt) (v : List Int) : List Int := f :: (wayR n f t l ++ v.map (n + ·))
theorem wL_yes {n f t : Int} {l : List Rt} {r : Rt} (h : r.f = f ∧ r.t = t) : wL n f t (l ++ [r]) [] = wL n f t l r.via := by
  simp [wL, wayR, h]
theorem wL_no {n f t : Int} {l : List Rt} {r : Rt} (h : ¬ (r.f = f ∧ r.t = t)) : wL n f t (l ++ [r]) [] = wL n f t l [] := by
  simp [wL, wayR, h]
theorem wL_succ {n f t : Int} {l : List Rt} {v : List Int} {x : Int} : wL n f t l (v ++ [x]) = wL n f t l v ++ [n + x] := by
  simp [wL]
theorem wayR_len (n f t : Int) (k : Nat) : ∀ (l : List Rt), (∀ r ∈ l, r.via.length ≤ k) → (wayR n f t l).length ≤ l.length * k
  | [], _ => by simp [wayR]
  | r :: l, h => by
    have h1 := wayR_len n f t k l fun r hr => h r (List.mem_cons_of_mem _ hr)
    have h2 := h r (List.mem_cons_self ..)
    have : wayR n f t (r :: l) = (if r.f = f ∧ r.t = t then r.via.map (n + ·) else []) ++ wayR n f t l := by simp [wayR]
    rw [this, List.length_append, List.length_cons, Nat.add_mul]
    split
    · rw [List.length_map]; omega
    · simp; omega
def st78 (I : World → Fp → Value → Fp → Prop) (p : Pn) (g : Gr) (f t : Int) (i : Nat) : St :=
  ⟨[(42, .v (.int .i64 i)), (41, .v (.int .i64 p.rt.length)), (40, .lst 3 (p.rt.map rtA)), (11, .sl ⟨2070, [], 0⟩ 1 0 (wL g.cl.length f t (p.rt.take i) []).length), (5, .ref ⟨1005, [], 0⟩), (2, i64A f), (3, i64A t)], [(2070, .own 1 ((wL g.cl.length f t (p.rt.take i) []).map i64A)), (1005, gA g), (9999, .ext I)], []⟩
def st78b (I : World → Fp → Value → Fp → Prop) (p : Pn) (g : Gr) (f t : Int) (i : Nat) (r : Rt) (j : Nat) : St :=
  ⟨[(59, .v (.int .i64 j)), (58, .v (.int .i64 r.via.length)), (57, intsA r.via), (42, .v (.int .i64 i)), (41, .v (.int .i64 p.rt.length)), (40, .lst 3 (p.rt.map rtA)), (11, .sl ⟨2070, [], 0⟩ 1 0 (wL g.cl.length f t (p.rt.take i) (r.via.take j)).length), (5, .ref ⟨1005, [], 0⟩), (2, i64A f), (3, i64A t)], [(2070, .own 1 ((wL g.cl.length f t (p.rt.take i) (r.via.take j)).map i64A)), (1005, gA g), (9999, .ext I)], []⟩
theorem wL_len {p : Pn} (hp : SmallP p) (n f t : Int) (i : Nat) (v : List Int) (hv : v.length ≤ 20) (hr : p.rt.length ≤ 12) : (wL n f t (p.rt.take i) v).length ≤ 261 := by
  have h1 := wayR_len n f t 20 (p.rt.take i) fun r hr => by
    obtain ⟨k, hk⟩ := List.getElem?_of_mem (List.mem_of_mem_take hr)
    exact hp.via k r hk
  have h2 : (p.rt.take i).length ≤ 12 := by rw [List.length_take]; omega
  rw [wL, List.length_cons, List.length_append, List.length_map]
  omega
theorem c78 (p : Pn) (g : Gr) (hp : SmallP p) (f t : Int) (he : wayE p g f t = 0) {Q : AV → Al → Prop} (h : Q (.tup [.own 1 ((wayL p g f t).map i64A), i64A 0]) []) : ACalls Try.prog 78 [] [plA p, gA g, i64A f, i64A t] Q := by
  refine ok78.N hmix rfl ?_
  intro I
  have hc : chkP p g = 0 := by
    unfold wayE at he
    split at he
    · exact he
    · rename_i h1; simpa using h1
  have hft : ¬ (f < 0 ∨ g.cl.length ≤ f ∨ t < 0 ∨ g.cl.length ≤ t ∨ f = t) := by
    unfold wayE at he
    rw [if_neg (by simpa using hc)] at he
    split at he
    · cases he
    · assumption
  obtain ⟨h0, h1, h2, h3⟩ := chkP0 hc
  have h4 := (chk0 h0).cl4
  simp only [cc78, OI, ↓reduceIte, reduceCtorEq, Nat.reduceAdd, Nat.reduceEqDiff, Nat.reduceBEq, Nat.reduceLT, Nat.reduceLeDiff, Nat.reduceMul, Nat.reduceSub, Int.reduceLE, Int.reduceLT, Int.reduceEq, Int.reduceBEq, Int.reduceBNe, Int.reduceToNat, Int.reduceNeg, Nat.reduceBNe, plA, gA, i64A]
  refine c73 p g hp ?_
  simp only [OI, ↓reduceIte, reduceCtorEq, Nat.reduceAdd, Nat.reduceEqDiff, Nat.reduceBEq, Nat.reduceLT, Nat.reduceLeDiff, Nat.reduceMul, Nat.reduceSub, Int.reduceLE, Int.reduceLT, Int.reduceEq, Int.reduceBEq, Int.reduceBNe, Int.reduceToNat, Int.reduceNeg, Nat.reduceBNe, i64A, bneF hc]
  refine c170 g f ?_
  rw [decide_eq_true (by omega)]
  simp only [OI, ↓reduceIte, reduceCtorEq, Nat.reduceAdd, Nat.reduceEqDiff, Nat.reduceBEq, Nat.reduceLT, Nat.reduceLeDiff, Nat.reduceMul, Nat.reduceSub, Int.reduceLE, Int.reduceLT, Int.reduceEq, Int.reduceBEq, Int.reduceBNe, Int.reduceToNat, Int.reduceNeg, Nat.reduceBNe, i64A]
  refine c170 g t ?_
  rw [decide_eq_true (by omega)]
  have nft : ¬ f = t := by omega
  simp only [OI, ↓reduceIte, reduceCtorEq, Nat.reduceAdd, Nat.reduceEqDiff, Nat.reduceBEq, Nat.reduceLT, Nat.reduceLeDiff, Nat.reduceMul, Nat.reduceSub, Int.reduceLE, Int.reduceLT, Int.reduceEq, Int.reduceBEq, Int.reduceBNe, Int.reduceToNat, Int.reduceNeg, Nat.reduceBNe, i64A, beqF nft]
  refine W_mv 11 2038 2070 rfl rfl rfl (by decide) (by decide) rfl rfl ?_
  refine W_loop (st78 I p g f t) (fun i => i ≤ p.rt.length) (fun i => p.rt.length - i) (fun _ _ => rfl) ⟨0, by omega, ?_⟩ ?_
  · simp only [OI, ↓reduceIte, reduceCtorEq, Nat.reduceAdd, Nat.reduceEqDiff, Nat.reduceBEq, Nat.reduceLT, Nat.reduceLeDiff, Nat.reduceMul, Nat.reduceSub, Int.reduceLE, Int.reduceLT, Int.reduceEq, Int.reduceBEq, Int.reduceBNe, Int.reduceToNat, Int.reduceNeg, Nat.reduceBNe, st78, gA, i64A, wL, wayR, List.take_zero, List.flatMap_nil, List.map_nil, List.append_nil, List.map_cons, List.length_cons, List.length_nil, Nat.zero_add]
    try rfl
  rintro i hi
  refine W_of_N ok78.small hmix ?_
  by_cases hil : i < p.rt.length
  · have hil' : (i : Int) < p.rt.length := by omega
    have i0 : (0 : Int) ≤ i := by omega
    obtain ⟨y, hgi⟩ : ∃ y, p.rt[i]? = some y := ⟨_, List.getElem?_eq_getElem hil⟩
    have htk : p.rt.take (i + 1) = p.rt.take i ++ [y] := by rw [List.take_add_one, hgi]; rfl
    have w1 : IntKind.i64.wrap ((i : Int) + 1) = ((i + 1 : Nat) : Int) := by rw [wrI64 (by omega) (by omega)]; omega
    have hvia := hp.via i y hgi
    have hxs := rtE_via p.rt [] h3 y (List.mem_of_getElem? hgi)
    by_cases b1 : y.f = f
    · by_cases b2 : y.t = t
      · have hno := wL_yes (n := g.cl.length) (l := p.rt.take i) (r := y) ⟨b1, b2⟩
        simp only [OI, ↓reduceIte, reduceCtorEq, Nat.reduceAdd, Nat.reduceEqDiff, Nat.reduceBEq, Nat.reduceLT, Nat.reduceLeDiff, Nat.reduceMul, Nat.reduceSub, Int.reduceLE, Int.reduceLT, Int.reduceEq, Int.reduceBEq, Int.reduceBNe, Int.reduceToNat, Int.reduceNeg, Nat.reduceBNe, st78, gA, i64A, hil', i0, hgi, rtA, bneF b1, bneF b2]
        refine W_loop (st78b I p g f t i y) (fun j => j ≤ y.via.length) (fun j => y.via.length - j) (fun _ _ => rfl) ⟨0, by omega, ?_⟩ ?_
        · simp only [OI, ↓reduceIte, reduceCtorEq, Nat.reduceAdd, Nat.reduceEqDiff, Nat.reduceBEq, Nat.reduceLT, Nat.reduceLeDiff, Nat.reduceMul, Nat.reduceSub, Int.reduceLE, Int.reduceLT, Int.reduceEq, Int.reduceBEq, Int.reduceBNe, Int.reduceToNat, Int.reduceNeg, Nat.reduceBNe, st78b, gA, i64A, intsA, List.take_zero]
          try rfl
        rintro j hj
        refine W_of_N ok78.small hmix ?_
        by_cases hjl : j < y.via.length
        · have hjl' : (j : Int) < y.via.length := by omega
          have j0 : (0 : Int) ≤ j := by omega
          obtain ⟨x, hxi⟩ : ∃ x, y.via[j]? = some x := ⟨_, List.getElem?_eq_getElem hjl⟩
          have hx := hxs x (List.mem_of_getElem? hxi)
          have hjtk : y.via.take (j + 1) = y.via.take j ++ [x] := by rw [List.take_add_one, hxi]; rfl
          have wj : IntKind.i64.wrap ((j : Int) + 1) = ((j + 1 : Nat) : Int) := by rw [wrI64 (by omega) (by omega)]; omega
          have wx : IntKind.i64.wrap ((g.cl.length : Int) + x) = g.cl.length + x := wrI64 (by omega) (by omega)
          have hlen := wL_len hp g.cl.length f t i (y.via.take j) (by rw [List.length_take]; omega) h2
          simp only [OI, ↓reduceIte, reduceCtorEq, Nat.reduceAdd, Nat.reduceEqDiff, Nat.reduceBEq, Nat.reduceLT, Nat.reduceLeDiff, Nat.reduceMul, Nat.reduceSub, Int.reduceLE, Int.reduceLT, Int.reduceEq, Int.reduceBEq, Int.reduceBNe, Int.reduceToNat, Int.reduceNeg, Nat.reduceBNe, st78b, gA, i64A, intsA, hjl', j0, hxi, wj, wx]
          refine ⟨⟨by omega, by omega⟩, ?_⟩
          refine ⟨j + 1, ⟨by omega, by omega⟩, ?_⟩
          simp only [OI, ↓reduceIte, reduceCtorEq, Nat.reduceAdd, Nat.reduceEqDiff, Nat.reduceBEq, Nat.reduceLT, Nat.reduceLeDiff, Nat.reduceMul, Nat.reduceSub, Int.reduceLE, Int.reduceLT, Int.reduceEq, Int.reduceBEq, Int.reduceBNe, Int.reduceToNat, Int.reduceNeg, Nat.reduceBNe, st78b, gA, i64A, intsA, hjtk, wL_succ, List.map_append, List.map_cons, List.map_nil, List.length_append, List.length_cons, List.length_nil]
          try rfl
        · obtain rfl : j = y.via.length := by omega
          simp only [OI, ↓reduceIte, reduceCtorEq, Nat.reduceAdd, Nat.reduceEqDiff, Nat.reduceBEq, Nat.reduceLT, Nat.reduceLeDiff, Nat.reduceMul, Nat.reduceSub, Int.reduceLE, Int.reduceLT, Int.reduceEq, Int.reduceBEq, Int.reduceBNe, Int.reduceToNat, Int.reduceNeg, Nat.reduceBNe, st78b, gA, i64A, intsA, Int.lt_irrefl, w1, List.take_length]
          refine ⟨i + 1, ⟨by omega, by omega⟩, ?_⟩
          simp only [OI, ↓reduceIte, reduceCtorEq, Nat.reduceAdd, Nat.reduceEqDiff, Nat.reduceBEq, Nat.reduceLT, Nat.reduceLeDiff, Nat.reduceMul, Nat.reduceSub, Int.reduceLE, Int.reduceLT, Int.reduceEq, Int.reduceBEq, Int.reduceBNe, Int.reduceToNat, Int.reduceNeg, Nat.reduceBNe, st78, gA, i64A, htk, hno]
          try rfl
      · have hno := wL_no (n := g.cl.length) (l := p.rt.take i) (r := y) (f := f) (t := t) (fun h => b2 h.2)
        simp only [OI, ↓reduceIte, reduceCtorEq, Nat.reduceAdd, Nat.reduceEqDiff, Nat.reduceBEq, Nat.reduceLT, Nat.reduceLeDiff, Nat.reduceMul, Nat.reduceSub, Int.reduceLE, Int.reduceLT, Int.reduceEq, Int.reduceBEq, Int.reduceBNe, Int.reduceToNat, Int.reduceNeg, Nat.reduceBNe, st78, gA, i64A, hil', i0, hgi, rtA, bneF b1, bneT b2, w1]
        refine ⟨i + 1, ⟨by omega, by omega⟩, ?_⟩
        simp only [OI, ↓reduceIte, reduceCtorEq, Nat.reduceAdd, Nat.reduceEqDiff, Nat.reduceBEq, Nat.reduceLT, Nat.reduceLeDiff, Nat.reduceMul, Nat.reduceSub, Int.reduceLE, Int.reduceLT, Int.reduceEq, Int.reduceBEq, Int.reduceBNe, Int.reduceToNat, Int.reduceNeg, Nat.reduceBNe, st78, gA, i64A, htk, hno]
        try rfl
    · have hno := wL_no (n := g.cl.length) (l := p.rt.take i) (r := y) (f := f) (t := t) (fun h => b1 h.1)
      simp only [OI, ↓reduceIte, reduceCtorEq, Nat.reduceAdd, Nat.reduceEqDiff, Nat.reduceBEq, Nat.reduceLT, Nat.reduceLeDiff, Nat.reduceMul, Nat.reduceSub, Int.reduceLE, Int.reduceLT, Int.reduceEq, Int.reduceBEq, Int.reduceBNe, Int.reduceToNat, Int.reduceNeg, Nat.reduceBNe, st78, gA, i64A, hil', i0, hgi, rtA, bneT b1, w1]
      refine ⟨i + 1, ⟨by omega, by omega⟩, ?_⟩
      simp only [OI, ↓reduceIte, reduceCtorEq, Nat.reduceAdd, Nat.reduceEqDiff, Nat.reduceBEq, Nat.reduceLT, Nat.reduceLeDiff, Nat.reduceMul, Nat.reduceSub, Int.reduceLE, Int.reduceLT, Int.reduceEq, Int.reduceBEq, Int.reduceBNe, Int.reduceToNat, Int.reduceNeg, Nat.reduceBNe, st78, gA, i64A, htk, hno]
      try rfl
  · obtain rfl : i = p.rt.length := by omega
    have hlen := wL_len hp g.cl.length f t p.rt.length [] (by simp) h2
    rw [List.take_length] at hlen
    simp only [OI, ↓reduceIte, reduceCtorEq, Nat.reduceAdd, Nat.reduceEqDiff, Nat.reduceBEq, Nat.reduceLT, Nat.reduceLeDiff, Nat.reduceMul, Nat.reduceSub, Int.reduceLE, Int.reduceLT, Int.reduceEq, Int.reduceBEq, Int.reduceBNe, Int.reduceToNat, Int.reduceNeg, Nat.reduceBNe, st78, gA, i64A, Int.lt_irrefl, List.take_length]
    refine ⟨⟨by omega, by omega⟩, ?_⟩
    have e1 : List.map i64A (wL g.cl.length f t p.rt []) ++ [AV.v (.int .i64 t)] = (wayL p g f t).map i64A := by simp [wL, wayL, i64A]
    have e2 : (wL g.cl.length f t p.rt []).length + 1 = ((wayL p g f t).map i64A).length := by simp [wL, wayL]
    rw [e1, e2, List.take_length]
    exact h
theorem c78n (p : Pn) (g : Gr) (hp : SmallP p) (f t : Int) (he : ¬ wayE p g f t = 0) {Q : AV → Al → Prop} (h : Q (.tup [.v (.slice none 0 0), i64A (wayE p g f t)]) []) : ACalls Try.prog 78 [] [plA p, gA g, i64A f, i64A t] Q := by
  refine ok78.N hmix rfl ?_
  intro I
  simp only [cc78, OI, ↓reduceIte, reduceCtorEq, Nat.reduceAdd, Nat.reduceEqDiff, Nat.reduceBEq, Nat.reduceLT, Nat.reduceLeDiff, Nat.reduceMul, Nat.reduceSub, Int.reduceLE, Int.reduceLT, Int.reduceEq, Int.reduceBEq, Int.reduceBNe, Int.reduceToNat, Int.reduceNeg, Nat.reduceBNe, plA, gA, i64A]
  refine c73 p g hp ?_
  by_cases hc : chkP p g = 0
  · have hft : f < 0 ∨ g.cl.length ≤ f ∨ t < 0 ∨ g.cl.length ≤ t ∨ f = t := by
      unfold wayE at he
      rw [if_neg (by simpa using hc)] at he
      split at he
      · assumption
      · exact absurd rfl he
    rw [wayE, if_neg (by simpa using hc), if_pos hft] at h
    simp only [OI, ↓reduceIte, reduceCtorEq, Nat.reduceAdd, Nat.reduceEqDiff, Nat.reduceBEq, Nat.reduceLT, Nat.reduceLeDiff, Nat.reduceMul, Nat.reduceSub, Int.reduceLE, Int.reduceLT, Int.reduceEq, Int.reduceBEq, Int.reduceBNe, Int.reduceToNat, Int.reduceNeg, Nat.reduceBNe, i64A, bneF hc]
    refine c170 g f ?_
    by_cases i1 : 0 ≤ f ∧ f < g.cl.length
    · rw [decide_eq_true i1]
      simp only [OI, ↓reduceIte, reduceCtorEq, Nat.reduceAdd, Nat.reduceEqDiff, Nat.reduceBEq, Nat.reduceLT, Nat.reduceLeDiff, Nat.reduceMul, Nat.reduceSub, Int.reduceLE, Int.reduceLT, Int.reduceEq, Int.reduceBEq, Int.reduceBNe, Int.reduceToNat, Int.reduceNeg, Nat.reduceBNe, i64A]
      refine c170 g t ?_
      by_cases i2 : 0 ≤ t ∧ t < g.cl.length
      · rw [decide_eq_true i2]
        have nft : f = t := by omega
        subst nft
        simp only [OI, ↓reduceIte, reduceCtorEq, Nat.reduceAdd, Nat.reduceEqDiff, Nat.reduceBEq, Nat.reduceLT, Nat.reduceLeDiff, Nat.reduceMul, Nat.reduceSub, Int.reduceLE, Int.reduceLT, Int.reduceEq, Int.reduceBEq, Int.reduceBNe, Int.reduceToNat, Int.reduceNeg, Nat.reduceBNe, i64A, beq_self_eq_true]
        exact h
      · rw [decide_eq_false i2]
        simp only [OI, ↓reduceIte, reduceCtorEq, Nat.reduceAdd, Nat.reduceEqDiff, Nat.reduceBEq, Nat.reduceLT, Nat.reduceLeDiff, Nat.reduceMul, Nat.reduceSub, Int.reduceLE, Int.reduceLT, Int.reduceEq, Int.reduceBEq, Int.reduceBNe, Int.reduceToNat, Int.reduceNeg, Nat.reduceBNe, i64A]
        exact h
    · rw [decide_eq_false i1]
      simp only [OI, ↓reduceIte, reduceCtorEq, Nat.reduceAdd, Nat.reduceEqDiff, Nat.reduceBEq, Nat.reduceLT, Nat.reduceLeDiff, Nat.reduceMul, Nat.reduceSub, Int.reduceLE, Int.reduceLT, Int.reduceEq, Int.reduceBEq, Int.reduceBNe, Int.reduceToNat, Int.reduceNeg, Nat.reduceBNe, i64A]
      exact h
  · rw [wayE, if_pos hc] at h
    simp only [OI, ↓reduceIte, reduceCtorEq, Nat.reduceAdd, Nat.reduceEqDiff, Nat.reduceBEq, Nat.reduceLT, Nat.reduceLeDiff, Nat.reduceMul, Nat.reduceSub, Int.reduceLE, Int.reduceLT, Int.reduceEq, Int.reduceBEq, Int.reduceBNe, Int.reduceToNat, Int.reduceNeg, Nat.reduceBNe, i64A, bneT hc]
    exact h
end Go.Proofs.Ythlehngbadianaa.Ow
set_option maxRecDepth 100000
set_option maxHeartbeats 4000000
namespace Go.Proofs.Ythlehngbadianaa.Ow
open Go Go.RowKit Go.Proofs
/- watershed/watershedref18.Way -/
def cc79 : CC := (.seq (.region [⟨none, 4, (.box 0), [0], none, []⟩, ⟨none, 5, (.box 1), [1], none, []⟩, ⟨none, 8, (.val (.mv (.c (.slice none 0 0)))), [8], none, []⟩, ⟨none, 9, (.val (.mv (.c (.int .i64 0)))), [9], none, []⟩]) (.seq (.region [⟨none, 16, (.val (.ld (.s 4) (some 2))), [], none, []⟩, ⟨none, 17, (.val (.ld (.s 5) (some 4))), [], none, []⟩, ⟨none, 18, (.callP 74 [(.s 16), (.s 17)]), [16, 17], none, []⟩, ⟨none, 10, (.val (.mv (.s 18))), [18], none, []⟩]) (.seq (.seq (.region [⟨none, 19, (.val (.mv (.s 10))), [], none, []⟩, ⟨none, 20, (.val (.bin .neq (.s 19) (.c (.int .i64 0)))), [19], none, []⟩]) (.cond (.s 20) (.seq (.region [⟨none, 21, (.val (.mv (.s 10))), [2, 3, 4, 5, 10, 20], none, []⟩, ⟨none, 8, (.val (.mv (.c (.slice none 0 0)))), [], none, []⟩, ⟨none, 9, (.val (.mv (.s 21))), [21], none, []⟩]) .ret) .skip)) (.seq (.region [⟨none, 22, (.val (.fa (.s 5) 0)), [5, 10, 20], none, []⟩, ⟨none, 23, (.val (.ld (.s 22) none)), [22], none, []⟩, ⟨none, 24, (.val (.lnl (.s 23) 2)), [23], none, []⟩, ⟨none, 11, (.val (.mv (.s 24))), [24], none, []⟩]) (.seq (.seq (.region [⟨none, 25, (.val (.mv (.s 2))), [], none, []⟩, ⟨none, 26, (.val (.bin .lss (.s 25) (.c (.int .i64 0)))), [25], none, []⟩, ⟨none, 27, (.val (.mv (.s 26))), [26], none, []⟩, ⟨(some (27, false)), 28, (.val (.mv (.s 2))), [], none, []⟩, ⟨(some (27, false)), 29, (.val (.mv (.s 11))), [], none, []⟩, ⟨(some (27, false)), 30, (.val (.bin .geq (.s 28) (.s 29))), [28, 29], none, []⟩, ⟨none, 31, (.val (.pick (.s 27) (.c (.bool true)) (.s 30))), [27, 30], none, []⟩, ⟨none, 32, (.val (.mv (.s 31))), [31], none, []⟩, ⟨(some (32, false)), 33, (.val (.mv (.s 3))), [], none, []⟩, ⟨(some (32, false)), 34, (.val (.bin .lss (.s 33) (.c (.int .i64 0)))), [33], none, []⟩, ⟨none, 35, (.val (.pick (.s 32) (.c (.bool true)) (.s 34))), [32, 34], none, []⟩, ⟨none, 36, (.val (.mv (.s 35))), [35], none, []⟩, ⟨(some (36, false)), 37, (.val (.mv (.s 3))), [], none, []⟩, ⟨(some (36, false)), 38, (.val (.mv (.s 11))), [], none, []⟩, ⟨(some (36, false)), 39, (.val (.bin .geq (.s 37) (.s 38))), [37, 38], none, []⟩, ⟨none, 40, (.val (.pick (.s 36) (.c (.bool true)) (.s 39))), [36, 39], none, []⟩, ⟨none, 41, (.val (.mv (.s 40))), [40], none, []⟩, ⟨(some (41, false)), 42, (.val (.mv (.s 2))), [], none, []⟩, ⟨(some (41, false)), 43, (.val (.mv (.s 3))), [], none, []⟩, ⟨(some (41, false)), 44, (.val (.bin .eql (.s 42) (.s 43))), [42, 43], none, []⟩, ⟨none, 45, (.val (.pick (.s 41) (.c (.bool true)) (.s 44))), [41, 44], none, []⟩]) (.cond (.s 45) (.seq (.region [⟨none, 8, (.val (.mv (.c (.slice none 0 0)))), [2, 3, 4, 11, 45], none, []⟩, ⟨none, 9, (.val (.mv (.c (.int .i64 1)))), [], none, []⟩]) .ret) .skip)) (.seq (.region [⟨none, 46, (.val (.mv (.s 2))), [45], none, []⟩, ⟨none, 47, (.lit 1 [(.s 46)]), [46], none, []⟩, ⟨none, 12, (.val (.mv (.s 47))), [47], none, []⟩]) (.seq (.seq (.region [⟨none, 13, (.val (.mv (.c (.int .i64 0)))), [], none, []⟩]) (.block 0 (.loop (.seq (.seq (.region [⟨none, 48, (.val (.mv (.s 13))), [], none, []⟩, ⟨none, 49, (.val (.fa (.s 4) 1)), [], none, []⟩, ⟨none, 50, (.val (.ld (.s 49) none)), [49], none, []⟩, ⟨none, 51, (.val (.lnl (.s 50) 3)), [50], none, []⟩, ⟨none, 52, (.val (.bin .lss (.s 48) (.s 51))), [48, 51], none, []⟩]) (.cond (.s 52) .skip (.exit 0))) (.seq (.block 1 (.seq (.region [⟨none, 55, (.val (.fa (.s 4) 1)), [52], none, []⟩, ⟨none, 56, (.val (.ld (.s 55) none)), [55], none, []⟩, ⟨none, 57, (.val (.mv (.s 13))), [], none, []⟩, ⟨none, 58, (.val (.ia (.s 56) (.s 57) 3)), [56, 57], none, []⟩, ⟨none, 59, (.val (.ld (.s 58) (some 3))), [58], none, []⟩, ⟨none, 14, (.alloc (.agg #[(.int .i64 0), (.int .i64 0), (.slice none 0 0)])), [], none, []⟩, ⟨none, 0, (.store 3 (.s 14) (.s 59)), [59], none, []⟩]) (.seq (.region [⟨none, 15, (.val (.mv (.c (.int .i64 0)))), [], none, []⟩]) (.block 2 (.loop (.seq (.seq (.region [⟨none, 60, (.val (.mv (.s 15))), [], none, []⟩, ⟨none, 61, (.val (.fa (.s 14) 2)), [], none, []⟩, ⟨none, 62, (.val (.ld (.s 61) none)), [61], none, []⟩, ⟨none, 63, (.val (.lnl (.s 62) 1)), [62], none, []⟩, ⟨none, 64, (.val (.bin .lss (.s 60) (.s 63))), [60, 63], none, []⟩, ⟨none, 65, (.val (.mv (.s 64))), [64], none, []⟩, ⟨(some (65, true)), 66, (.val (.fa (.s 14) 0)), [], none, []⟩, ⟨(some (65, true)), 67, (.val (.ld (.s 66) none)), [], none, []⟩, ⟨(some (65, true)), 68, (.val (.mv (.s 2))), [], none, []⟩, ⟨(some (65, true)), 69, (.val (.bin .eql (.s 67) (.s 68))), [], none, []⟩, ⟨none, 70, (.val (.pick (.s 65) (.s 69) (.c (.bool false)))), [65], none, []⟩, ⟨none, 71, (.val (.mv (.s 70))), [70], none, []⟩, ⟨(some (71, true)), 72, (.val (.fa (.s 14) 1)), [], none, []⟩, ⟨(some (71, true)), 73, (.val (.ld (.s 72) none)), [], none, []⟩, ⟨(some (71, true)), 74, (.val (.mv (.s 3))), [], none, []⟩, ⟨(some (71, true)), 75, (.val (.bin .eql (.s 73) (.s 74))), [], none, []⟩, ⟨none, 76, (.val (.pick (.s 71) (.s 75) (.c (.bool false)))), [71], none, []⟩]) (.cond (.s 76) .skip (.exit 2))) (.seq (.block 3 (.region [⟨none, 79, (.val (.mv (.s 12))), [12, 76], none, []⟩, ⟨none, 80, (.val (.mv (.s 11))), [], none, []⟩, ⟨none, 81, (.val (.fa (.s 14) 2)), [], none, []⟩, ⟨none, 82, (.val (.ld (.s 81) none)), [81], none, []⟩, ⟨none, 83, (.val (.mv (.s 15))), [], none, []⟩, ⟨none, 84, (.val (.ia (.s 82) (.s 83) 1)), [82, 83], none, []⟩, ⟨none, 85, (.val (.ld (.s 84) none)), [84], none, []⟩, ⟨none, 86, (.val (.bin .add (.s 80) (.s 85))), [80, 85], none, []⟩, ⟨none, 87, (.lit 1 [(.s 86)]), [86], none, []⟩, ⟨none, 88, (.app 1 8 false (.s 79) (.s 87)), [79, 87], none, []⟩, ⟨none, 12, (.val (.mv (.s 88))), [88], none, []⟩])) (.region [⟨none, 77, (.val (.mv (.s 15))), [15], none, []⟩, ⟨none, 78, (.val (.bin .add (.s 77) (.c (.int .i64 1)))), [77], none, []⟩, ⟨none, 15, (.val (.mv (.s 78))), [78], none, []⟩])))))))) (.region [⟨none, 53, (.val (.mv (.s 13))), [13, 14, 15, 76], none, []⟩, ⟨none, 54, (.val (.bin .add (.s 53) (.c (.int .i64 1)))), [53], none, []⟩, ⟨none, 13, (.val (.mv (.s 54))), [54], none, []⟩])))))) (.seq (.region [⟨none, 89, (.val (.mv (.s 12))), [2, 4, 11, 12, 13, 52, 66, 67, 68, 69, 72, 73, 74, 75], none, []⟩, ⟨none, 90, (.val (.mv (.s 3))), [3], none, []⟩, ⟨none, 91, (.lit 1 [(.s 90)]), [90], none, []⟩, ⟨none, 92, (.app 1 8 false (.s 89) (.s 91)), [89, 91], none, []⟩, ⟨none, 8, (.val (.mv (.s 92))), [92], none, []⟩, ⟨none, 9, (.val (.mv (.c (.int .i64 0)))), [], none, []⟩]) .ret))))))))
theorem ok79 : FnOk Try.prog 79 cc79 [(.t 8), (.t 9)] 4 93 := ⟨⟨_, Try.func79, by kernel_rfl, by kernel_rfl, by kernel_rfl⟩, by decide, by decide⟩
def st79 (I : World → Fp → Value → Fp → Prop) (p : Pn) (g : Gr) (f t : Int) (i : Nat) : St :=
  ⟨[(13, .v (.int .i64 i)), (12, .sl ⟨2088, [], 0⟩ 1 0 (wL g.cl.length f t (p.rt.take i) []).length), (11, .v (.int .i64 g.cl.length)), (4, .ref ⟨1004, [], 0⟩), (2, i64A f), (3, i64A t)], [(2088, .own 1 ((wL g.cl.length f t (p.rt.take i) []).map i64A)), (1004, plA p), (9999, .ext I)], []⟩
def st79b (I : World → Fp → Value → Fp → Prop) (p : Pn) (g : Gr) (f t : Int) (i : Nat) (r : Rt) (v : List Int) (j : Nat) : St :=
  ⟨[(15, .v (.int .i64 j)), (14, .ref ⟨1014, [], 0⟩), (13, .v (.int .i64 i)), (12, .sl ⟨2088, [], 0⟩ 1 0 (wL g.cl.length f t (p.rt.take i) v).length), (11, .v (.int .i64 g.cl.length)), (4, .ref ⟨1004, [], 0⟩), (2, i64A f), (3, i64A t)], [(1014, rtA r), (2088, .own 1 ((wL g.cl.length f t (p.rt.take i) v).map i64A)), (1004, plA p), (9999, .ext I)], []⟩
theorem c79 (p : Pn) (g : Gr) (hn : NmOk g) (hp : SmallP p) (f t : Int) (he : wayE p g f t = 0) {Q : AV → Al → Prop} (h : Q (.tup [.own 1 ((wayL p g f t).map i64A), i64A 0]) []) : ACalls Try.prog 79 [] [plA p, gA g, i64A f, i64A t] Q := by
  refine ok79.N hmix rfl ?_
  intro I
  have hc : chkP p g = 0 := by
    unfold wayE at he
    split at he
    · exact he
    · rename_i h1; simpa using h1
  have hft : ¬ (f < 0 ∨ g.cl.length ≤ f ∨ t < 0 ∨ g.cl.length ≤ t ∨ f = t) := by
    unfold wayE at he
    rw [if_neg (by simpa using hc)] at he
    split at he
    · cases he
    · assumption
  obtain ⟨h0, h1, h2, h3⟩ := chkP0 hc
  have h4 := (chk0 h0).cl4
  simp only [cc79, OI, ↓reduceIte, reduceCtorEq, Nat.reduceAdd, Nat.reduceEqDiff, Nat.reduceBEq, Nat.reduceLT, Nat.reduceLeDiff, Nat.reduceMul, Nat.reduceSub, Int.reduceLE, Int.reduceLT, Int.reduceEq, Int.reduceBEq, Int.reduceBNe, Int.reduceToNat, Int.reduceNeg, Nat.reduceBNe, plA, gA, i64A]
  refine c74 p g hn hp ?_
  have nft : ¬ f = t := by omega
  have f0 : ¬ f < 0 := by omega
  have f1 : ¬ (g.cl.length : Int) ≤ f := by omega
  have t0 : ¬ t < 0 := by omega
  have t1 : ¬ (g.cl.length : Int) ≤ t := by omega
  simp only [OI, ↓reduceIte, reduceCtorEq, Nat.reduceAdd, Nat.reduceEqDiff, Nat.reduceBEq, Nat.reduceLT, Nat.reduceLeDiff, Nat.reduceMul, Nat.reduceSub, Int.reduceLE, Int.reduceLT, Int.reduceEq, Int.reduceBEq, Int.reduceBNe, Int.reduceToNat, Int.reduceNeg, Nat.reduceBNe, i64A, bneF hc, f0, f1, t0, t1, beqF nft]
  refine W_mv 12 2047 2088 rfl rfl rfl (by decide) (by decide) rfl rfl ?_
  refine W_loop (st79 I p g f t) (fun i => i ≤ p.rt.length) (fun i => p.rt.length - i) (fun _ _ => rfl) ⟨0, by omega, ?_⟩ ?_
  · simp only [OI, ↓reduceIte, reduceCtorEq, Nat.reduceAdd, Nat.reduceEqDiff, Nat.reduceBEq, Nat.reduceLT, Nat.reduceLeDiff, Nat.reduceMul, Nat.reduceSub, Int.reduceLE, Int.reduceLT, Int.reduceEq, Int.reduceBEq, Int.reduceBNe, Int.reduceToNat, Int.reduceNeg, Nat.reduceBNe, st79, plA, i64A, wL, wayR, List.take_zero, List.flatMap_nil, List.map_nil, List.append_nil, List.map_cons, List.length_cons, List.length_nil, Nat.zero_add]
    try rfl
  rintro i hi
  refine W_of_N ok79.small hmix ?_
  by_cases hil : i < p.rt.length
  · have hil' : (i : Int) < p.rt.length := by omega
    have i0 : (0 : Int) ≤ i := by omega
    obtain ⟨y, hgi⟩ : ∃ y, p.rt[i]? = some y := ⟨_, List.getElem?_eq_getElem hil⟩
    have htk : p.rt.take (i + 1) = p.rt.take i ++ [y] := by rw [List.take_add_one, hgi]; rfl
    have w1 : IntKind.i64.wrap ((i : Int) + 1) = ((i + 1 : Nat) : Int) := by rw [wrI64 (by omega) (by omega)]; omega
    have hvia := hp.via i y hgi
    have hxs := rtE_via p.rt [] h3 y (List.mem_of_getElem? hgi)
    simp only [OI, ↓reduceIte, reduceCtorEq, Nat.reduceAdd, Nat.reduceEqDiff, Nat.reduceBEq, Nat.reduceLT, Nat.reduceLeDiff, Nat.reduceMul, Nat.reduceSub, Int.reduceLE, Int.reduceLT, Int.reduceEq, Int.reduceBEq, Int.reduceBNe, Int.reduceToNat, Int.reduceNeg, Nat.reduceBNe, st79, plA, i64A, hil', i0, hgi, rtA]
    by_cases b : y.f = f ∧ y.t = t
    · obtain ⟨b1, b2⟩ := b
      have hno := wL_yes (n := g.cl.length) (l := p.rt.take i) (r := y) ⟨b1, b2⟩
      refine W_loop (fun j => st79b I p g f t i y (y.via.take j) j) (fun j => j ≤ y.via.length) (fun j => y.via.length - j) (fun _ _ => rfl) ⟨0, by omega, ?_⟩ ?_
      · simp only [OI, ↓reduceIte, reduceCtorEq, Nat.reduceAdd, Nat.reduceEqDiff, Nat.reduceBEq, Nat.reduceLT, Nat.reduceLeDiff, Nat.reduceMul, Nat.reduceSub, Int.reduceLE, Int.reduceLT, Int.reduceEq, Int.reduceBEq, Int.reduceBNe, Int.reduceToNat, Int.reduceNeg, Nat.reduceBNe, st79b, plA, i64A, rtA, List.take_zero]
        try rfl
      rintro j hj
      refine W_of_N ok79.small hmix ?_
      by_cases hjl : j < y.via.length
      · have hjl' : (j : Int) < y.via.length := by omega
        have j0 : (0 : Int) ≤ j := by omega
        obtain ⟨x, hxi⟩ : ∃ x, y.via[j]? = some x := ⟨_, List.getElem?_eq_getElem hjl⟩
        have hx := hxs x (List.mem_of_getElem? hxi)
        have hjtk : y.via.take (j + 1) = y.via.take j ++ [x] := by rw [List.take_add_one, hxi]; rfl
        have wj : IntKind.i64.wrap ((j : Int) + 1) = ((j + 1 : Nat) : Int) := by rw [wrI64 (by omega) (by omega)]; omega
        have wx : IntKind.i64.wrap ((g.cl.length : Int) + x) = g.cl.length + x := wrI64 (by omega) (by omega)
        have hlen := wL_len hp g.cl.length f t i (y.via.take j) (by rw [List.length_take]; omega) h2
        simp only [OI, ↓reduceIte, reduceCtorEq, Nat.reduceAdd, Nat.reduceEqDiff, Nat.reduceBEq, Nat.reduceLT, Nat.reduceLeDiff, Nat.reduceMul, Nat.reduceSub, Int.reduceLE, Int.reduceLT, Int.reduceEq, Int.reduceBEq, Int.reduceBNe, Int.reduceToNat, Int.reduceNeg, Nat.reduceBNe, st79b, plA, rtA, i64A, hjl', j0, hxi, wj, wx, b1, b2, beq_self_eq_true]
        refine ⟨⟨by omega, by omega⟩, ?_⟩
        refine ⟨j + 1, ⟨by omega, by omega⟩, ?_⟩
        simp only [OI, ↓reduceIte, reduceCtorEq, Nat.reduceAdd, Nat.reduceEqDiff, Nat.reduceBEq, Nat.reduceLT, Nat.reduceLeDiff, Nat.reduceMul, Nat.reduceSub, Int.reduceLE, Int.reduceLT, Int.reduceEq, Int.reduceBEq, Int.reduceBNe, Int.reduceToNat, Int.reduceNeg, Nat.reduceBNe, st79b, plA, rtA, i64A, hjtk, wL_succ, List.map_append, List.map_cons, List.map_nil, List.length_append, List.length_cons, List.length_nil]
        try rfl
      · obtain rfl : j = y.via.length := by omega
        simp only [OI, ↓reduceIte, reduceCtorEq, Nat.reduceAdd, Nat.reduceEqDiff, Nat.reduceBEq, Nat.reduceLT, Nat.reduceLeDiff, Nat.reduceMul, Nat.reduceSub, Int.reduceLE, Int.reduceLT, Int.reduceEq, Int.reduceBEq, Int.reduceBNe, Int.reduceToNat, Int.reduceNeg, Nat.reduceBNe, st79b, plA, rtA, i64A, Int.lt_irrefl, w1, List.take_length]
        refine ⟨i + 1, ⟨by omega, by omega⟩, ?_⟩
        simp only [OI, ↓reduceIte, reduceCtorEq, Nat.reduceAdd, Nat.reduceEqDiff, Nat.reduceBEq, Nat.reduceLT, Nat.reduceLeDiff, Nat.reduceMul, Nat.reduceSub, Int.reduceLE, Int.reduceLT, Int.reduceEq, Int.reduceBEq, Int.reduceBNe, Int.reduceToNat, Int.reduceNeg, Nat.reduceBNe, st79, plA, i64A, htk, hno]
        try rfl
    · have hno := wL_no (n := g.cl.length) (l := p.rt.take i) (r := y) (f := f) (t := t) b
      refine W_loop (fun j => st79b I p g f t i y [] j) (fun j => j = 0) (fun j => 0) (fun _ _ => rfl) ⟨0, rfl, ?_⟩ ?_
      · simp only [OI, ↓reduceIte, reduceCtorEq, Nat.reduceAdd, Nat.reduceEqDiff, Nat.reduceBEq, Nat.reduceLT, Nat.reduceLeDiff, Nat.reduceMul, Nat.reduceSub, Int.reduceLE, Int.reduceLT, Int.reduceEq, Int.reduceBEq, Int.reduceBNe, Int.reduceToNat, Int.reduceNeg, Nat.reduceBNe, st79b, plA, i64A, rtA]
        try rfl
      rintro j rfl
      refine W_of_N ok79.small hmix ?_
      by_cases hv0 : (0 : Int) < y.via.length
      · by_cases b1 : y.f = f
        · have b2 : ¬ y.t = t := fun e => b ⟨b1, e⟩
          simp only [OI, ↓reduceIte, reduceCtorEq, Nat.reduceAdd, Nat.reduceEqDiff, Nat.reduceBEq, Nat.reduceLT, Nat.reduceLeDiff, Nat.reduceMul, Nat.reduceSub, Int.reduceLE, Int.reduceLT, Int.reduceEq, Int.reduceBEq, Int.reduceBNe, Int.reduceToNat, Int.reduceNeg, Nat.reduceBNe, st79b, plA, rtA, i64A, hv0, b1, beq_self_eq_true, beqF b2, w1, Int.natCast_zero]
          refine ⟨i + 1, ⟨by omega, by omega⟩, ?_⟩
          simp only [OI, ↓reduceIte, reduceCtorEq, Nat.reduceAdd, Nat.reduceEqDiff, Nat.reduceBEq, Nat.reduceLT, Nat.reduceLeDiff, Nat.reduceMul, Nat.reduceSub, Int.reduceLE, Int.reduceLT, Int.reduceEq, Int.reduceBEq, Int.reduceBNe, Int.reduceToNat, Int.reduceNeg, Nat.reduceBNe, st79, plA, i64A, htk, hno]
          try rfl
        · simp only [OI, ↓reduceIte, reduceCtorEq, Nat.reduceAdd, Nat.reduceEqDiff, Nat.reduceBEq, Nat.reduceLT, Nat.reduceLeDiff, Nat.reduceMul, Nat.reduceSub, Int.reduceLE, Int.reduceLT, Int.reduceEq, Int.reduceBEq, Int.reduceBNe, Int.reduceToNat, Int.reduceNeg, Nat.reduceBNe, st79b, plA, rtA, i64A, hv0, beqF b1, w1, Int.natCast_zero]
          refine ⟨i + 1, ⟨by omega, by omega⟩, ?_⟩
          simp only [OI, ↓reduceIte, reduceCtorEq, Nat.reduceAdd, Nat.reduceEqDiff, Nat.reduceBEq, Nat.reduceLT, Nat.reduceLeDiff, Nat.reduceMul, Nat.reduceSub, Int.reduceLE, Int.reduceLT, Int.reduceEq, Int.reduceBEq, Int.reduceBNe, Int.reduceToNat, Int.reduceNeg, Nat.reduceBNe, st79, plA, i64A, htk, hno]
          try rfl
      · simp only [OI, ↓reduceIte, reduceCtorEq, Nat.reduceAdd, Nat.reduceEqDiff, Nat.reduceBEq, Nat.reduceLT, Nat.reduceLeDiff, Nat.reduceMul, Nat.reduceSub, Int.reduceLE, Int.reduceLT, Int.reduceEq, Int.reduceBEq, Int.reduceBNe, Int.reduceToNat, Int.reduceNeg, Nat.reduceBNe, st79b, plA, rtA, i64A, hv0, w1, Int.natCast_zero]
        refine ⟨i + 1, ⟨by omega, by omega⟩, ?_⟩
        simp only [OI, ↓reduceIte, reduceCtorEq, Nat.reduceAdd, Nat.reduceEqDiff, Nat.reduceBEq, Nat.reduceLT, Nat.reduceLeDiff, Nat.reduceMul, Nat.reduceSub, Int.reduceLE, Int.reduceLT, Int.reduceEq, Int.reduceBEq, Int.reduceBNe, Int.reduceToNat, Int.reduceNeg, Nat.reduceBNe, st79, plA, i64A, htk, hno]
        try rfl
  · obtain rfl : i = p.rt.length := by omega
    have hlen := wL_len hp g.cl.length f t p.rt.length [] (by simp) h2
    rw [List.take_length] at hlen
    simp only [OI, ↓reduceIte, reduceCtorEq, Nat.reduceAdd, Nat.reduceEqDiff, Nat.reduceBEq, Nat.reduceLT, Nat.reduceLeDiff, Nat.reduceMul, Nat.reduceSub, Int.reduceLE, Int.reduceLT, Int.reduceEq, Int.reduceBEq, Int.reduceBNe, Int.reduceToNat, Int.reduceNeg, Nat.reduceBNe, st79, plA, i64A, Int.lt_irrefl, List.take_length]
    refine ⟨⟨by omega, by omega⟩, ?_⟩
    have e1 : List.map i64A (wL g.cl.length f t p.rt []) ++ [AV.v (.int .i64 t)] = (wayL p g f t).map i64A := by simp [wL, wayL, i64A]
    have e2 : (wL g.cl.length f t p.rt []).length + 1 = ((wayL p g f t).map i64A).length := by simp [wL, wayL]
    rw [e1, e2, List.take_length]
    exact h
theorem c79n (p : Pn) (g : Gr) (hn : NmOk g) (hp : SmallP p) (f t : Int) (he : ¬ wayE p g f t = 0) {Q : AV → Al → Prop} (h : Q (.tup [.v (.slice none 0 0), i64A (wayE p g f t)]) []) : ACalls Try.prog 79 [] [plA p, gA g, i64A f, i64A t] Q := by
  refine ok79.N hmix rfl ?_
  intro I
  simp only [cc79, OI, ↓reduceIte, reduceCtorEq, Nat.reduceAdd, Nat.reduceEqDiff, Nat.reduceBEq, Nat.reduceLT, Nat.reduceLeDiff, Nat.reduceMul, Nat.reduceSub, Int.reduceLE, Int.reduceLT, Int.reduceEq, Int.reduceBEq, Int.reduceBNe, Int.reduceToNat, Int.reduceNeg, Nat.reduceBNe, plA, gA, i64A]
  refine c74 p g hn hp ?_
  by_cases hc : chkP p g = 0
  · have hft : f < 0 ∨ g.cl.length ≤ f ∨ t < 0 ∨ g.cl.length ≤ t ∨ f = t := by
      unfold wayE at he
      rw [if_neg (by simpa using hc)] at he
      split at he
      · assumption
      · exact absurd rfl he
    rw [wayE, if_neg (by simpa using hc), if_pos hft] at h
    by_cases f0 : f < 0
    · simp only [OI, ↓reduceIte, reduceCtorEq, Nat.reduceAdd, Nat.reduceEqDiff, Nat.reduceBEq, Nat.reduceLT, Nat.reduceLeDiff, Nat.reduceMul, Nat.reduceSub, Int.reduceLE, Int.reduceLT, Int.reduceEq, Int.reduceBEq, Int.reduceBNe, Int.reduceToNat, Int.reduceNeg, Nat.reduceBNe, i64A, bneF hc, f0]
      exact h
    by_cases f1 : (g.cl.length : Int) ≤ f
    · simp only [OI, ↓reduceIte, reduceCtorEq, Nat.reduceAdd, Nat.reduceEqDiff, Nat.reduceBEq, Nat.reduceLT, Nat.reduceLeDiff, Nat.reduceMul, Nat.reduceSub, Int.reduceLE, Int.reduceLT, Int.reduceEq, Int.reduceBEq, Int.reduceBNe, Int.reduceToNat, Int.reduceNeg, Nat.reduceBNe, i64A, bneF hc, f0, f1]
      exact h
    by_cases t0 : t < 0
    · simp only [OI, ↓reduceIte, reduceCtorEq, Nat.reduceAdd, Nat.reduceEqDiff, Nat.reduceBEq, Nat.reduceLT, Nat.reduceLeDiff, Nat.reduceMul, Nat.reduceSub, Int.reduceLE, Int.reduceLT, Int.reduceEq, Int.reduceBEq, Int.reduceBNe, Int.reduceToNat, Int.reduceNeg, Nat.reduceBNe, i64A, bneF hc, f0, f1, t0]
      exact h
    by_cases t1 : (g.cl.length : Int) ≤ t
    · simp only [OI, ↓reduceIte, reduceCtorEq, Nat.reduceAdd, Nat.reduceEqDiff, Nat.reduceBEq, Nat.reduceLT, Nat.reduceLeDiff, Nat.reduceMul, Nat.reduceSub, Int.reduceLE, Int.reduceLT, Int.reduceEq, Int.reduceBEq, Int.reduceBNe, Int.reduceToNat, Int.reduceNeg, Nat.reduceBNe, i64A, bneF hc, f0, f1, t0, t1]
      exact h
    have nft : f = t := by omega
    subst nft
    simp only [OI, ↓reduceIte, reduceCtorEq, Nat.reduceAdd, Nat.reduceEqDiff, Nat.reduceBEq, Nat.reduceLT, Nat.reduceLeDiff, Nat.reduceMul, Nat.reduceSub, Int.reduceLE, Int.reduceLT, Int.reduceEq, Int.reduceBEq, Int.reduceBNe, Int.reduceToNat, Int.reduceNeg, Nat.reduceBNe, i64A, bneF hc, f0, f1, beq_self_eq_true]
    exact h
  · rw [wayE, if_pos hc] at h
    simp only [OI, ↓reduceIte, reduceCtorEq, Nat.reduceAdd, Nat.reduceEqDiff, Nat.reduceBEq, Nat.reduceLT, Nat.reduceLeDiff, Nat.reduceMul, Nat.reduceSub, Int.reduceLE, Int.reduceLT, Int.reduceEq, Int.reduceBEq, Int.reduceBNe, Int.reduceToNat, Int.reduceNeg, Nat.reduceBNe, i64A, bneT hc]
    exact h
end Go.Proofs.Ythlehngbadianaa.Ow
