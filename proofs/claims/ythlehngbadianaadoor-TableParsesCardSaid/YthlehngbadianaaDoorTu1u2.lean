/- What the functions of the program do, each once: contracts of the logic (part u1 u2). -/
import Derived.Test.YthlehngbadianaaDoorTh3h4
import Derived.LoopTactic
set_option linter.unusedVariables false
set_option linter.unusedSimpArgs false
set_option linter.unnecessarySimpa false
set_option maxRecDepth 100000
set_option maxHeartbeats 4000000
namespace Go.Proofs.YthlehngbadianaaDoor.Ow
open Go Go.RowKit Go.Proofs
/-- A route; a plan. -/
structure Rt where
  f : Int
  t : Int
  via : List Int
structure Pn where
  re : List ByteArray
  rt : List Rt
def nmA (s : ByteArray) : AV := .v (.string s)
def rtA (r : Rt) : AV := .agg [.v (.int .i64 r.f), .v (.int .i64 r.t), .lst 1 (r.via.map i64A)]
def plA (p : Pn) : AV := .agg [.lst 1 (p.re.map nmA), .lst 3 (p.rt.map rtA)]
/-- Where the first one stands of which P is true; below nought: nowhere. -/
def idxP {α : Type} (l : List α) (P : α → Bool) : Int := match l.findIdx? P with | some i => i | none => -1
theorem idxP_at {α : Type} {l : List α} {P : α → Bool} {x : α} {i : Nat} (hi : l[i]? = some x) (hx : P x = true) (h : ∀ (j : Nat) y, j < i → l[j]? = some y → P y = false) : idxP l P = i := by
  obtain ⟨hil, hxe⟩ := List.getElem?_eq_some_iff.1 hi
  have : l.findIdx? P = some i := by
    rw [List.findIdx?_eq_some_iff_getElem]
    refine ⟨hil, by rw [hxe]; exact hx, fun j hj => ?_⟩
    have := h j l[j] hj (List.getElem?_eq_getElem (by omega))
    rw [this]; simp
  simp only [idxP, this]
theorem idxP_no {α : Type} {l : List α} {P : α → Bool} (h : ∀ (j : Nat) y, l[j]? = some y → P y = false) : idxP l P = -1 := by
  have : l.findIdx? P = none := by
    rw [List.findIdx?_eq_none_iff]
    intro y hy
    obtain ⟨j, hj⟩ := List.getElem?_of_mem hy
    exact h j y hj
  simp only [idxP, this]
theorem idxP_any {α : Type} (l : List α) (P : α → Bool) : decide (0 ≤ idxP l P) = l.any P := by
  unfold idxP
  split
  · rename_i i hi
    rw [List.findIdx?_eq_some_iff_getElem] at hi
    obtain ⟨h1, h2, _⟩ := hi
    have : l.any P = true := by rw [List.any_eq_true]; exact ⟨l[i], List.getElem_mem h1, h2⟩
    rw [this]; simp
  · rename_i hi
    rw [List.findIdx?_eq_none_iff] at hi
    have : l.any P = false := by rw [List.any_eq_false]; intro x hx; rw [hi x hx]; simp
    rw [this]; simp
def badK (m : Int) (k : Int) : Bool := decide (k < 0 ∨ m ≤ k)
def sameK (r a : Rt) : Bool := decide (a.f = r.f ∧ a.t = r.t)
/- watershed/table.cluster -/
def cc170 : CC := (.seq (.region [⟨none, 2, (.box 0), [0], none, []⟩, ⟨none, 4, (.val (.mv (.c (.bool false)))), [4], none, []⟩]) (.seq (.region [⟨none, 5, (.val (.mv (.s 1))), [], none, []⟩, ⟨none, 6, (.val (.bin .geq (.s 5) (.c (.int .i64 0)))), [5], none, []⟩, ⟨none, 7, (.val (.mv (.s 6))), [6], none, []⟩, ⟨(some (7, true)), 8, (.val (.mv (.s 1))), [1], none, []⟩, ⟨(some (7, true)), 9, (.val (.fa (.s 2) 0)), [2], none, []⟩, ⟨(some (7, true)), 10, (.val (.ld (.s 9) none)), [9], none, []⟩, ⟨(some (7, true)), 11, (.val (.lnl (.s 10) 2)), [10], none, []⟩, ⟨(some (7, true)), 12, (.val (.bin .lss (.s 8) (.s 11))), [8, 11], none, []⟩, ⟨none, 13, (.val (.pick (.s 7) (.s 12) (.c (.bool false)))), [7, 12], none, []⟩, ⟨none, 4, (.val (.mv (.s 13))), [13], none, []⟩]) .ret))
theorem ok170 : FnOk Tryd.prog 79 cc170 [(.t 4)] 2 14 := ⟨⟨_, Tryd.func79, by kernel_rfl, by kernel_rfl, by kernel_rfl⟩, by decide, by decide⟩
/- (watershed/table.Plan).route$1 -/
def cc207 : CC := (.seq (.region [⟨none, 3, (.val (.mv (.c (.bool false)))), [3], none, []⟩]) (.seq (.region [⟨none, 4, (.val (.mv (.s 0))), [], none, []⟩, ⟨none, 5, (.val (.bin .lss (.s 4) (.c (.int .i64 0)))), [4], none, []⟩, ⟨none, 6, (.val (.mv (.s 5))), [5], none, []⟩, ⟨(some (6, false)), 7, (.val (.mv (.s 0))), [0], none, []⟩, ⟨(some (6, false)), 8, (.val (.fa (.s 1) 0)), [1], none, []⟩, ⟨(some (6, false)), 9, (.val (.ld (.s 8) none)), [8], none, []⟩, ⟨(some (6, false)), 10, (.val (.lnl (.s 9) 1)), [9], none, []⟩, ⟨(some (6, false)), 11, (.val (.bin .geq (.s 7) (.s 10))), [7, 10], none, []⟩, ⟨none, 12, (.val (.pick (.s 6) (.c (.bool true)) (.s 11))), [6, 11], none, []⟩, ⟨none, 3, (.val (.mv (.s 12))), [12], none, []⟩]) .ret))
theorem ok207 : FnOk Tryd.prog 78 cc207 [(.t 3)] 2 13 := ⟨⟨_, Tryd.func78, by kernel_rfl, by kernel_rfl, by kernel_rfl⟩, by decide, by decide⟩
/- (watershed/table.Plan).route$2 -/
def cc211 : CC := (.seq (.region [⟨none, 2, (.box 0), [0], none, []⟩, ⟨none, 3, (.val (.mv (.c (.bool false)))), [3], none, []⟩]) (.seq (.region [⟨none, 4, (.val (.fa (.s 2) 0)), [], none, []⟩, ⟨none, 5, (.val (.ld (.s 4) none)), [4], none, []⟩, ⟨none, 6, (.val (.fa (.s 1) 0)), [], none, []⟩, ⟨none, 7, (.val (.ld (.s 6) none)), [6], none, []⟩, ⟨none, 8, (.val (.bin .eql (.s 5) (.s 7))), [5, 7], none, []⟩, ⟨none, 9, (.val (.mv (.s 8))), [8], none, []⟩, ⟨(some (9, true)), 10, (.val (.fa (.s 2) 1)), [2], none, []⟩, ⟨(some (9, true)), 11, (.val (.ld (.s 10) none)), [10], none, []⟩, ⟨(some (9, true)), 12, (.val (.fa (.s 1) 1)), [1], none, []⟩, ⟨(some (9, true)), 13, (.val (.ld (.s 12) none)), [12], none, []⟩, ⟨(some (9, true)), 14, (.val (.bin .eql (.s 11) (.s 13))), [11, 13], none, []⟩, ⟨none, 15, (.val (.pick (.s 9) (.s 14) (.c (.bool false)))), [9, 14], none, []⟩, ⟨none, 3, (.val (.mv (.s 15))), [15], none, []⟩]) .ret))
theorem ok211 : FnOk Tryd.prog 83 cc211 [(.t 3)] 2 16 := ⟨⟨_, Tryd.func83, by kernel_rfl, by kernel_rfl, by kernel_rfl⟩, by decide, by decide⟩
/- slices.IndexFunc[[]int,int] -/
def cc232 : CC := (.seq (.region [⟨none, 4, (.val (.mv (.c (.int .i64 0)))), [4], none, []⟩]) (.seq (.seq (.region [⟨none, 6, (.val (.mv (.s 0))), [], none, []⟩, ⟨none, 7, (.val (.lnl (.s 6) 1)), [6], none, []⟩, ⟨none, 8, (.val (.mv (.c (.int .i64 0)))), [], none, []⟩]) (.block 0 (.loop (.seq (.region [⟨none, 9, (.val (.bin .lss (.s 8) (.s 7))), [], none, []⟩]) (.seq (.cond (.s 9) .skip (.exit 0)) (.seq (.block 1 (.seq (.region [⟨none, 10, (.val (.mv (.s 8))), [9], none, []⟩, ⟨none, 5, (.val (.mv (.s 10))), [10], none, []⟩]) (.seq (.region [⟨none, 11, (.val (.mv (.s 1))), [], none, []⟩, ⟨none, 12, (.val (.mv (.s 0))), [], none, []⟩, ⟨none, 13, (.val (.mv (.s 5))), [], none, []⟩, ⟨none, 14, (.val (.ia (.s 12) (.s 13) 1)), [12, 13], none, []⟩, ⟨none, 15, (.val (.ld (.s 14) none)), [14], none, []⟩, ⟨none, 16, (.callC (.s 11) [(.s 15)]), [11, 15], none, []⟩]) (.cond (.s 16) (.seq (.region [⟨none, 17, (.val (.mv (.s 5))), [0, 1, 5, 7, 8, 16], none, []⟩, ⟨none, 4, (.val (.mv (.s 17))), [17], none, []⟩]) .ret) .skip)))) (.region [⟨none, 18, (.val (.bin .add (.s 8) (.c (.int .i64 1)))), [5, 8, 16], none, []⟩, ⟨none, 8, (.val (.mv (.s 18))), [18], none, []⟩]))))))) (.seq (.region [⟨none, 4, (.val (.mv (.c (.int .i64 (-1))))), [0, 1, 7, 8, 9], none, []⟩]) .ret)))
theorem ok232 : FnOk Tryd.prog 102 cc232 [(.t 4)] 2 19 := ⟨⟨_, Tryd.func102, by kernel_rfl, by kernel_rfl, by kernel_rfl⟩, by decide, by decide⟩
/- slices.IndexFunc[[]watershed/table.Route,watershed/table.Route] -/
def cc233 : CC := (.seq (.region [⟨none, 4, (.val (.mv (.c (.int .i64 0)))), [4], none, []⟩]) (.seq (.seq (.region [⟨none, 6, (.val (.mv (.s 0))), [], none, []⟩, ⟨none, 7, (.val (.lnl (.s 6) 3)), [6], none, []⟩, ⟨none, 8, (.val (.mv (.c (.int .i64 0)))), [], none, []⟩]) (.block 0 (.loop (.seq (.region [⟨none, 9, (.val (.bin .lss (.s 8) (.s 7))), [], none, []⟩]) (.seq (.cond (.s 9) .skip (.exit 0)) (.seq (.block 1 (.seq (.region [⟨none, 10, (.val (.mv (.s 8))), [9], none, []⟩, ⟨none, 5, (.val (.mv (.s 10))), [10], none, []⟩]) (.seq (.region [⟨none, 11, (.val (.mv (.s 1))), [], none, []⟩, ⟨none, 12, (.val (.mv (.s 0))), [], none, []⟩, ⟨none, 13, (.val (.mv (.s 5))), [], none, []⟩, ⟨none, 14, (.val (.ia (.s 12) (.s 13) 3)), [12, 13], none, []⟩, ⟨none, 15, (.val (.ld (.s 14) (some 3))), [14], none, []⟩, ⟨none, 16, (.callC (.s 11) [(.s 15)]), [11, 15], none, []⟩]) (.cond (.s 16) (.seq (.region [⟨none, 17, (.val (.mv (.s 5))), [0, 1, 5, 7, 8, 16], none, []⟩, ⟨none, 4, (.val (.mv (.s 17))), [17], none, []⟩]) .ret) .skip)))) (.region [⟨none, 18, (.val (.bin .add (.s 8) (.c (.int .i64 1)))), [5, 8, 16], none, []⟩, ⟨none, 8, (.val (.mv (.s 18))), [18], none, []⟩]))))))) (.seq (.region [⟨none, 4, (.val (.mv (.c (.int .i64 (-1))))), [0, 1, 7, 8, 9], none, []⟩]) .ret)))
theorem ok233 : FnOk Tryd.prog 104 cc233 [(.t 4)] 2 19 := ⟨⟨_, Tryd.func104, by kernel_rfl, by kernel_rfl, by kernel_rfl⟩, by decide, by decide⟩
/- slices.ContainsFunc[[]int,int] -/
def cc208 : CC := (.seq (.region [⟨none, 4, (.val (.mv (.c (.bool false)))), [4], none, []⟩]) (.seq (.region [⟨none, 5, (.val (.mv (.s 0))), [0], none, []⟩, ⟨none, 6, (.val (.mv (.s 1))), [1], none, []⟩, ⟨none, 7, (.call 102 [(.s 5), (.s 6)]), [5, 6], none, []⟩, ⟨none, 8, (.val (.bin .geq (.s 7) (.c (.int .i64 0)))), [7], none, []⟩, ⟨none, 4, (.val (.mv (.s 8))), [8], none, []⟩]) .ret))
theorem ok208 : FnOk Tryd.prog 80 cc208 [(.t 4)] 2 9 := ⟨⟨_, Tryd.func80, by kernel_rfl, by kernel_rfl, by kernel_rfl⟩, by decide, by decide⟩
/- slices.ContainsFunc[[]watershed/table.Route,watershed/table.Route] -/
def cc210 : CC := (.seq (.region [⟨none, 4, (.val (.mv (.c (.bool false)))), [4], none, []⟩]) (.seq (.region [⟨none, 5, (.val (.mv (.s 0))), [0], none, []⟩, ⟨none, 6, (.val (.mv (.s 1))), [1], none, []⟩, ⟨none, 7, (.call 104 [(.s 5), (.s 6)]), [5, 6], none, []⟩, ⟨none, 8, (.val (.bin .geq (.s 7) (.c (.int .i64 0)))), [7], none, []⟩, ⟨none, 4, (.val (.mv (.s 8))), [8], none, []⟩]) .ret))
theorem ok210 : FnOk Tryd.prog 82 cc210 [(.t 4)] 2 9 := ⟨⟨_, Tryd.func82, by kernel_rfl, by kernel_rfl, by kernel_rfl⟩, by decide, by decide⟩
theorem c170 (g : Gr) (c : Int) {Q : AV → Al → Prop} (h : Q (.v (.bool (decide (0 ≤ c ∧ c < g.cl.length)))) []) : ACalls Tryd.prog 79 [] [gA g, i64A c] Q := by
  refine ok170.N hmix rfl ?_
  intro I
  by_cases i0 : 0 ≤ c <;> by_cases i1 : c < (g.cl.length : Int) <;>
  · simp only [cc170, OI, ↓reduceIte, reduceCtorEq, Nat.reduceAdd, Nat.reduceEqDiff, Nat.reduceBEq, Nat.reduceLT, Nat.reduceLeDiff, Nat.reduceMul, Nat.reduceSub, Int.reduceLE, Int.reduceLT, Int.reduceEq, Int.reduceBEq, Int.reduceBNe, Int.reduceToNat, Int.reduceNeg, Nat.reduceBNe, gA, i64A, i0, i1]
    simpa [i0, i1] using h
theorem c207 (p : Pn) (k : Int) {Q : AV → Al → Prop} (h : Q (.v (.bool (badK p.re.length k))) []) : ACalls Tryd.prog 78 [] [i64A k, .fptr (plA p) 0] Q := by
  refine ok207.N hmix rfl ?_
  intro I
  by_cases i0 : k < 0 <;> by_cases i1 : (p.re.length : Int) ≤ k <;>
  · simp only [cc207, OI, ↓reduceIte, reduceCtorEq, Nat.reduceAdd, Nat.reduceEqDiff, Nat.reduceBEq, Nat.reduceLT, Nat.reduceLeDiff, Nat.reduceMul, Nat.reduceSub, Int.reduceLE, Int.reduceLT, Int.reduceEq, Int.reduceBEq, Int.reduceBNe, Int.reduceToNat, Int.reduceNeg, Nat.reduceBNe, plA, i64A, i0, i1]
    simpa [badK, i0, i1] using h
theorem c211 (r a : Rt) {Q : AV → Al → Prop} (h : Q (.v (.bool (sameK r a))) []) : ACalls Tryd.prog 83 [] [rtA a, .fptr (rtA r) 0] Q := by
  refine ok211.N hmix rfl ?_
  intro I
  by_cases i0 : a.f = r.f
  · by_cases i1 : a.t = r.t
    · simp only [cc211, OI, ↓reduceIte, reduceCtorEq, Nat.reduceAdd, Nat.reduceEqDiff, Nat.reduceBEq, Nat.reduceLT, Nat.reduceLeDiff, Nat.reduceMul, Nat.reduceSub, Int.reduceLE, Int.reduceLT, Int.reduceEq, Int.reduceBEq, Int.reduceBNe, Int.reduceToNat, Int.reduceNeg, Nat.reduceBNe, rtA, i64A, i0, i1, beq_self_eq_true]
      simpa [sameK, i0, i1] using h
    · simp only [cc211, OI, ↓reduceIte, reduceCtorEq, Nat.reduceAdd, Nat.reduceEqDiff, Nat.reduceBEq, Nat.reduceLT, Nat.reduceLeDiff, Nat.reduceMul, Nat.reduceSub, Int.reduceLE, Int.reduceLT, Int.reduceEq, Int.reduceBEq, Int.reduceBNe, Int.reduceToNat, Int.reduceNeg, Nat.reduceBNe, rtA, i64A, i0, beq_self_eq_true, beqF i1]
      simpa [sameK, i0, i1] using h
  · simp only [cc211, OI, ↓reduceIte, reduceCtorEq, Nat.reduceAdd, Nat.reduceEqDiff, Nat.reduceBEq, Nat.reduceLT, Nat.reduceLeDiff, Nat.reduceMul, Nat.reduceSub, Int.reduceLE, Int.reduceLT, Int.reduceEq, Int.reduceBEq, Int.reduceBNe, Int.reduceToNat, Int.reduceNeg, Nat.reduceBNe, rtA, i64A, beqF i0]
    simpa [sameK, i0] using h
theorem fnGood207 : fnGood Tryd.prog 78 = true := by kernel_rfl
theorem fnGood211 : fnGood Tryd.prog 83 = true := by kernel_rfl
def st232 (I : World → Fp → Value → Fp → Prop) (p : Pn) (l : List Int) (i : Nat) : St := ⟨[(8, .v (.int .i64 i)), (7, .v (.int .i64 l.length)), (0, intsA l), (1, .fn 78 [.fptr (plA p) 0])], [(9999, .ext I)], []⟩
theorem c232 (p : Pn) (l : List Int) (hl : l.length ≤ 1000000) {Q : AV → Al → Prop} (h : Q (i64A (idxP l (badK p.re.length))) []) : ACalls Tryd.prog 102 [] [intsA l, .fn 78 [.fptr (plA p) 0]] Q := by
  refine ok232.N hmix rfl ?_
  intro I
  simp only [cc232, OI, ↓reduceIte, reduceCtorEq, Nat.reduceAdd, Nat.reduceEqDiff, Nat.reduceBEq, Nat.reduceLT, Nat.reduceLeDiff, Nat.reduceMul, Nat.reduceSub, Int.reduceLE, Int.reduceLT, Int.reduceEq, Int.reduceBEq, Int.reduceBNe, Int.reduceToNat, Int.reduceNeg, Nat.reduceBNe, intsA, i64A]
  refine W_loop (st232 I p l) (fun i => i ≤ l.length ∧ ∀ (j : Nat) y, j < i → l[j]? = some y → badK p.re.length y = false) (fun i => l.length - i) (fun _ _ => rfl) ⟨0, ⟨by omega, fun j y hj => by omega⟩, ?_⟩ ?_
  · simp only [OI, ↓reduceIte, reduceCtorEq, Nat.reduceAdd, Nat.reduceEqDiff, Nat.reduceBEq, Nat.reduceLT, Nat.reduceLeDiff, Nat.reduceMul, Nat.reduceSub, Int.reduceLE, Int.reduceLT, Int.reduceEq, Int.reduceBEq, Int.reduceBNe, Int.reduceToNat, Int.reduceNeg, Nat.reduceBNe, st232, intsA, i64A]
    try rfl
  rintro i ⟨hi, hall⟩
  refine W_of_N ok232.small hmix ?_
  by_cases hil : i < l.length
  · have hil' : (i : Int) < l.length := by omega
    have i0 : (0 : Int) ≤ i := by omega
    have hgi : l[i]? = some l[i] := List.getElem?_eq_getElem hil
    have w1 : IntKind.i64.wrap ((i : Int) + 1) = ((i + 1 : Nat) : Int) := by rw [wrI64 (by omega) (by omega)]; omega
    generalize l[i] = y at hgi
    simp only [OI, ↓reduceIte, reduceCtorEq, Nat.reduceAdd, Nat.reduceEqDiff, Nat.reduceBEq, Nat.reduceLT, Nat.reduceLeDiff, Nat.reduceMul, Nat.reduceSub, Int.reduceLE, Int.reduceLT, Int.reduceEq, Int.reduceBEq, Int.reduceBNe, Int.reduceToNat, Int.reduceNeg, Nat.reduceBNe, st232, intsA, i64A, hil', i0, hgi, fnGood207, capOk]
    refine c207 p y ?_
    by_cases hb : badK p.re.length y = true
    · simp only [OI, ↓reduceIte, reduceCtorEq, Nat.reduceAdd, Nat.reduceEqDiff, Nat.reduceBEq, Nat.reduceLT, Nat.reduceLeDiff, Nat.reduceMul, Nat.reduceSub, Int.reduceLE, Int.reduceLT, Int.reduceEq, Int.reduceBEq, Int.reduceBNe, Int.reduceToNat, Int.reduceNeg, Nat.reduceBNe, st232, intsA, i64A, hb]
      rw [idxP_at hgi hb hall] at h
      exact h
    · have hb' : badK p.re.length y = false := by simpa using hb
      simp only [OI, ↓reduceIte, reduceCtorEq, Nat.reduceAdd, Nat.reduceEqDiff, Nat.reduceBEq, Nat.reduceLT, Nat.reduceLeDiff, Nat.reduceMul, Nat.reduceSub, Int.reduceLE, Int.reduceLT, Int.reduceEq, Int.reduceBEq, Int.reduceBNe, Int.reduceToNat, Int.reduceNeg, Nat.reduceBNe, st232, intsA, i64A, hb', w1]
      refine ⟨i + 1, ⟨⟨by omega, fun j z hj hz => ?_⟩, by omega⟩, ?_⟩
      · by_cases he : j = i
        · subst he; rw [hgi] at hz; obtain rfl := Option.some.inj hz; exact hb'
        · exact hall j z (by omega) hz
      · simp only [OI, ↓reduceIte, reduceCtorEq, Nat.reduceAdd, Nat.reduceEqDiff, Nat.reduceBEq, Nat.reduceLT, Nat.reduceLeDiff, Nat.reduceMul, Nat.reduceSub, Int.reduceLE, Int.reduceLT, Int.reduceEq, Int.reduceBEq, Int.reduceBNe, Int.reduceToNat, Int.reduceNeg, Nat.reduceBNe, st232, intsA, i64A]
  · obtain rfl : i = l.length := by omega
    simp only [OI, ↓reduceIte, reduceCtorEq, Nat.reduceAdd, Nat.reduceEqDiff, Nat.reduceBEq, Nat.reduceLT, Nat.reduceLeDiff, Nat.reduceMul, Nat.reduceSub, Int.reduceLE, Int.reduceLT, Int.reduceEq, Int.reduceBEq, Int.reduceBNe, Int.reduceToNat, Int.reduceNeg, Nat.reduceBNe, st232, intsA, i64A, Int.lt_irrefl]
    rw [idxP_no fun j y hy => hall j y (List.getElem?_eq_some_iff.1 hy).1 hy] at h
    exact h
def st233 (I : World → Fp → Value → Fp → Prop) (r : Rt) (l : List Rt) (i : Nat) : St := ⟨[(8, .v (.int .i64 i)), (7, .v (.int .i64 l.length)), (0, .lst 3 (l.map rtA)), (1, .fn 83 [.fptr (rtA r) 0])], [(9999, .ext I)], []⟩
theorem c233 (r : Rt) (l : List Rt) (hl : l.length ≤ 1000000) {Q : AV → Al → Prop} (h : Q (i64A (idxP l (sameK r))) []) : ACalls Tryd.prog 104 [] [.lst 3 (l.map rtA), .fn 83 [.fptr (rtA r) 0]] Q := by
  refine ok233.N hmix rfl ?_
  intro I
  simp only [cc233, OI, ↓reduceIte, reduceCtorEq, Nat.reduceAdd, Nat.reduceEqDiff, Nat.reduceBEq, Nat.reduceLT, Nat.reduceLeDiff, Nat.reduceMul, Nat.reduceSub, Int.reduceLE, Int.reduceLT, Int.reduceEq, Int.reduceBEq, Int.reduceBNe, Int.reduceToNat, Int.reduceNeg, Nat.reduceBNe, i64A]
  refine W_loop (st233 I r l) (fun i => i ≤ l.length ∧ ∀ (j : Nat) y, j < i → l[j]? = some y → sameK r y = false) (fun i => l.length - i) (fun _ _ => rfl) ⟨0, ⟨by omega, fun j y hj => by omega⟩, ?_⟩ ?_
  · simp only [OI, ↓reduceIte, reduceCtorEq, Nat.reduceAdd, Nat.reduceEqDiff, Nat.reduceBEq, Nat.reduceLT, Nat.reduceLeDiff, Nat.reduceMul, Nat.reduceSub, Int.reduceLE, Int.reduceLT, Int.reduceEq, Int.reduceBEq, Int.reduceBNe, Int.reduceToNat, Int.reduceNeg, Nat.reduceBNe, st233, i64A]
    try rfl
  rintro i ⟨hi, hall⟩
  refine W_of_N ok233.small hmix ?_
  by_cases hil : i < l.length
  · have hil' : (i : Int) < l.length := by omega
    have i0 : (0 : Int) ≤ i := by omega
    have hgi : l[i]? = some l[i] := List.getElem?_eq_getElem hil
    have w1 : IntKind.i64.wrap ((i : Int) + 1) = ((i + 1 : Nat) : Int) := by rw [wrI64 (by omega) (by omega)]; omega
    generalize l[i] = y at hgi
    simp only [OI, ↓reduceIte, reduceCtorEq, Nat.reduceAdd, Nat.reduceEqDiff, Nat.reduceBEq, Nat.reduceLT, Nat.reduceLeDiff, Nat.reduceMul, Nat.reduceSub, Int.reduceLE, Int.reduceLT, Int.reduceEq, Int.reduceBEq, Int.reduceBNe, Int.reduceToNat, Int.reduceNeg, Nat.reduceBNe, st233, i64A, rtA, hil', i0, hgi, fnGood211, capOk]
    refine c211 r y ?_
    by_cases hb : sameK r y = true
    · simp only [OI, ↓reduceIte, reduceCtorEq, Nat.reduceAdd, Nat.reduceEqDiff, Nat.reduceBEq, Nat.reduceLT, Nat.reduceLeDiff, Nat.reduceMul, Nat.reduceSub, Int.reduceLE, Int.reduceLT, Int.reduceEq, Int.reduceBEq, Int.reduceBNe, Int.reduceToNat, Int.reduceNeg, Nat.reduceBNe, st233, i64A, hb]
      rw [idxP_at hgi hb hall] at h
      exact h
    · have hb' : sameK r y = false := by simpa using hb
      simp only [OI, ↓reduceIte, reduceCtorEq, Nat.reduceAdd, Nat.reduceEqDiff, Nat.reduceBEq, Nat.reduceLT, Nat.reduceLeDiff, Nat.reduceMul, Nat.reduceSub, Int.reduceLE, Int.reduceLT, Int.reduceEq, Int.reduceBEq, Int.reduceBNe, Int.reduceToNat, Int.reduceNeg, Nat.reduceBNe, st233, i64A, hb', w1]
      refine ⟨i + 1, ⟨⟨by omega, fun j z hj hz => ?_⟩, by omega⟩, ?_⟩
      · by_cases he : j = i
        · subst he; rw [hgi] at hz; obtain rfl := Option.some.inj hz; exact hb'
        · exact hall j z (by omega) hz
      · simp only [OI, ↓reduceIte, reduceCtorEq, Nat.reduceAdd, Nat.reduceEqDiff, Nat.reduceBEq, Nat.reduceLT, Nat.reduceLeDiff, Nat.reduceMul, Nat.reduceSub, Int.reduceLE, Int.reduceLT, Int.reduceEq, Int.reduceBEq, Int.reduceBNe, Int.reduceToNat, Int.reduceNeg, Nat.reduceBNe, st233, i64A, rtA]
  · obtain rfl : i = l.length := by omega
    simp only [OI, ↓reduceIte, reduceCtorEq, Nat.reduceAdd, Nat.reduceEqDiff, Nat.reduceBEq, Nat.reduceLT, Nat.reduceLeDiff, Nat.reduceMul, Nat.reduceSub, Int.reduceLE, Int.reduceLT, Int.reduceEq, Int.reduceBEq, Int.reduceBNe, Int.reduceToNat, Int.reduceNeg, Nat.reduceBNe, st233, i64A, Int.lt_irrefl]
    rw [idxP_no fun j y hy => hall j y (List.getElem?_eq_some_iff.1 hy).1 hy] at h
    exact h
theorem c208 (p : Pn) (l : List Int) (hl : l.length ≤ 1000000) {Q : AV → Al → Prop} (h : Q (.v (.bool (l.any (badK p.re.length)))) []) : ACalls Tryd.prog 80 [] [intsA l, .fn 78 [.fptr (plA p) 0]] Q := by
  refine ok208.N hmix rfl ?_
  intro I
  simp only [cc208, OI, ↓reduceIte, reduceCtorEq, Nat.reduceAdd, Nat.reduceEqDiff, Nat.reduceBEq, Nat.reduceLT, Nat.reduceLeDiff, Nat.reduceMul, Nat.reduceSub, Int.reduceLE, Int.reduceLT, Int.reduceEq, Int.reduceBEq, Int.reduceBNe, Int.reduceToNat, Int.reduceNeg, Nat.reduceBNe, intsA, i64A]
  refine c232 p l hl ?_
  simp only [OI, ↓reduceIte, reduceCtorEq, Nat.reduceAdd, Nat.reduceEqDiff, Nat.reduceBEq, Nat.reduceLT, Nat.reduceLeDiff, Nat.reduceMul, Nat.reduceSub, Int.reduceLE, Int.reduceLT, Int.reduceEq, Int.reduceBEq, Int.reduceBNe, Int.reduceToNat, Int.reduceNeg, Nat.reduceBNe, i64A, idxP_any]
  exact h
theorem c210 (r : Rt) (l : List Rt) (hl : l.length ≤ 1000000) {Q : AV → Al → Prop} (h : Q (.v (.bool (l.any (sameK r)))) []) : ACalls Tryd.prog 82 [] [.lst 3 (l.map rtA), .fn 83 [.fptr (rtA r) 0]] Q := by
  refine ok210.N hmix rfl ?_
  intro I
  simp only [cc210, OI, ↓reduceIte, reduceCtorEq, Nat.reduceAdd, Nat.reduceEqDiff, Nat.reduceBEq, Nat.reduceLT, Nat.reduceLeDiff, Nat.reduceMul, Nat.reduceSub, Int.reduceLE, Int.reduceLT, Int.reduceEq, Int.reduceBEq, Int.reduceBNe, Int.reduceToNat, Int.reduceNeg, Nat.reduceBNe, i64A]
  refine c233 r l hl ?_
  simp only [OI, ↓reduceIte, reduceCtorEq, Nat.reduceAdd, Nat.reduceEqDiff, Nat.reduceBEq, Nat.reduceLT, Nat.reduceLeDiff, Nat.reduceMul, Nat.reduceSub, Int.reduceLE, Int.reduceLT, Int.reduceEq, Int.reduceBEq, Int.reduceBNe, Int.reduceToNat, Int.reduceNeg, Nat.reduceBNe, i64A, idxP_any]
  exact h
end Go.Proofs.YthlehngbadianaaDoor.Ow
set_option maxRecDepth 100000
set_option maxHeartbeats 4000000
namespace Go.Proofs.YthlehngbadianaaDoor.Ow
open Go Go.RowKit Go.Proofs
/- slices.Index[[]int,int] -/
def cc145 : CC := (.seq (.region [⟨none, 4, (.val (.mv (.c (.int .i64 0)))), [4], none, []⟩]) (.seq (.seq (.region [⟨none, 6, (.val (.mv (.s 0))), [], none, []⟩, ⟨none, 7, (.val (.lnl (.s 6) 1)), [6], none, []⟩, ⟨none, 8, (.val (.mv (.c (.int .i64 0)))), [], none, []⟩]) (.block 0 (.loop (.seq (.region [⟨none, 9, (.val (.bin .lss (.s 8) (.s 7))), [], none, []⟩]) (.seq (.cond (.s 9) .skip (.exit 0)) (.seq (.block 1 (.seq (.region [⟨none, 10, (.val (.mv (.s 8))), [9], none, []⟩, ⟨none, 5, (.val (.mv (.s 10))), [10], none, []⟩]) (.seq (.region [⟨none, 11, (.val (.mv (.s 1))), [], none, []⟩, ⟨none, 12, (.val (.mv (.s 0))), [], none, []⟩, ⟨none, 13, (.val (.mv (.s 5))), [], none, []⟩, ⟨none, 14, (.val (.ia (.s 12) (.s 13) 1)), [12, 13], none, []⟩, ⟨none, 15, (.val (.ld (.s 14) none)), [14], none, []⟩, ⟨none, 16, (.val (.bin .eql (.s 11) (.s 15))), [11, 15], none, []⟩]) (.cond (.s 16) (.seq (.region [⟨none, 17, (.val (.mv (.s 5))), [0, 1, 5, 7, 8, 16], none, []⟩, ⟨none, 4, (.val (.mv (.s 17))), [17], none, []⟩]) .ret) .skip)))) (.region [⟨none, 18, (.val (.bin .add (.s 8) (.c (.int .i64 1)))), [5, 8, 16], none, []⟩, ⟨none, 8, (.val (.mv (.s 18))), [18], none, []⟩]))))))) (.seq (.region [⟨none, 4, (.val (.mv (.c (.int .i64 (-1))))), [0, 1, 7, 8, 9], none, []⟩]) .ret)))
theorem ok145 : FnOk Tryd.prog 103 cc145 [(.t 4)] 2 19 := ⟨⟨_, Tryd.func103, by kernel_rfl, by kernel_rfl, by kernel_rfl⟩, by decide, by decide⟩
/- slices.Contains[[]int,int] -/
def cc209 : CC := (.seq (.region [⟨none, 4, (.val (.mv (.c (.bool false)))), [4], none, []⟩]) (.seq (.region [⟨none, 5, (.val (.mv (.s 0))), [0], none, []⟩, ⟨none, 6, (.val (.mv (.s 1))), [1], none, []⟩, ⟨none, 7, (.call 103 [(.s 5), (.s 6)]), [5, 6], none, []⟩, ⟨none, 8, (.val (.bin .geq (.s 7) (.c (.int .i64 0)))), [7], none, []⟩, ⟨none, 4, (.val (.mv (.s 8))), [8], none, []⟩]) .ret))
theorem ok209 : FnOk Tryd.prog 81 cc209 [(.t 4)] 2 9 := ⟨⟨_, Tryd.func81, by kernel_rfl, by kernel_rfl, by kernel_rfl⟩, by decide, by decide⟩
/- (watershed/table.Plan).route -/
def cc165 : CC := (.seq (.region [⟨none, 4, (.box 0), [0], none, []⟩, ⟨none, 5, (.box 1), [1], none, []⟩, ⟨none, 7, (.box 3), [3], none, []⟩, ⟨none, 8, (.val (.mv (.c (.int .i64 0)))), [8], none, []⟩]) (.seq (.region [⟨none, 12, (.val (.fnv 78 [(.s 4)])), [4], none, []⟩, ⟨none, 9, (.val (.mv (.s 12))), [12], none, []⟩]) (.seq (.seq (.region [⟨none, 13, (.val (.ld (.s 7) (some 4))), [], none, []⟩, ⟨none, 14, (.val (.fa (.s 5) 0)), [], none, []⟩, ⟨none, 15, (.val (.ld (.s 14) none)), [14], none, []⟩, ⟨none, 16, (.callP 79 [(.s 13), (.s 15)]), [13, 15], none, []⟩, ⟨none, 17, (.val (.un .not (.s 16))), [16], none, []⟩, ⟨none, 18, (.val (.mv (.s 17))), [17], none, []⟩, ⟨(some (18, false)), 19, (.val (.ld (.s 7) (some 4))), [7], none, []⟩, ⟨(some (18, false)), 20, (.val (.fa (.s 5) 1)), [], none, []⟩, ⟨(some (18, false)), 21, (.val (.ld (.s 20) none)), [20], none, []⟩, ⟨(some (18, false)), 22, (.callP 79 [(.s 19), (.s 21)]), [19, 21], none, []⟩, ⟨(some (18, false)), 23, (.val (.un .not (.s 22))), [22], none, []⟩, ⟨none, 24, (.val (.pick (.s 18) (.c (.bool true)) (.s 23))), [18, 23], none, []⟩, ⟨none, 25, (.val (.mv (.s 24))), [24], none, []⟩, ⟨(some (25, false)), 26, (.val (.fa (.s 5) 0)), [], none, []⟩, ⟨(some (25, false)), 27, (.val (.ld (.s 26) none)), [26], none, []⟩, ⟨(some (25, false)), 28, (.val (.fa (.s 5) 1)), [], none, []⟩, ⟨(some (25, false)), 29, (.val (.ld (.s 28) none)), [28], none, []⟩, ⟨(some (25, false)), 30, (.val (.bin .eql (.s 27) (.s 29))), [27, 29], none, []⟩, ⟨none, 31, (.val (.pick (.s 25) (.c (.bool true)) (.s 30))), [25, 30], none, []⟩, ⟨none, 32, (.val (.mv (.s 31))), [31], none, []⟩, ⟨(some (32, false)), 33, (.val (.fa (.s 5) 2)), [], none, []⟩, ⟨(some (32, false)), 34, (.val (.ld (.s 33) none)), [33], none, []⟩, ⟨(some (32, false)), 35, (.val (.mv (.s 9))), [9], none, []⟩, ⟨(some (32, false)), 36, (.call 80 [(.s 34), (.s 35)]), [34, 35], none, []⟩, ⟨none, 37, (.val (.pick (.s 32) (.c (.bool true)) (.s 36))), [32, 36], none, []⟩]) (.cond (.s 37) (.seq (.region [⟨none, 8, (.val (.mv (.c (.int .i64 1)))), [2, 5, 37], none, []⟩]) .ret) .skip)) (.seq (.seq (.region [⟨none, 38, (.val (.fa (.s 5) 2)), [37], none, []⟩, ⟨none, 39, (.val (.ld (.s 38) none)), [38], none, []⟩, ⟨none, 40, (.val (.lnl (.s 39) 1)), [], none, []⟩, ⟨none, 41, (.val (.mv (.c (.int .i64 0)))), [], none, []⟩]) (.block 0 (.loop (.seq (.region [⟨none, 42, (.val (.bin .lss (.s 41) (.s 40))), [], none, []⟩]) (.seq (.cond (.s 42) .skip (.exit 0)) (.seq (.block 1 (.seq (.region [⟨none, 43, (.val (.mv (.s 41))), [42], none, []⟩, ⟨none, 44, (.val (.ia (.s 39) (.s 41) 1)), [], none, []⟩, ⟨none, 45, (.val (.ld (.s 44) none)), [44], none, []⟩, ⟨none, 10, (.val (.mv (.s 43))), [43], none, []⟩, ⟨none, 11, (.val (.mv (.s 45))), [45], none, []⟩]) (.seq (.region [⟨none, 46, (.val (.fa (.s 5) 2)), [], none, []⟩, ⟨none, 47, (.val (.ld (.s 46) none)), [46], none, []⟩, ⟨none, 48, (.val (.mv (.s 10))), [10], none, []⟩, ⟨none, 49, (.val (.sl (.s 47) none (some (.s 48)) none 1)), [47, 48], none, []⟩, ⟨none, 50, (.val (.mv (.s 11))), [11], none, []⟩, ⟨none, 51, (.call 81 [(.s 49), (.s 50)]), [49, 50], none, []⟩]) (.cond (.s 51) (.seq (.region [⟨none, 8, (.val (.mv (.c (.int .i64 4)))), [2, 5, 39, 40, 41, 51], none, []⟩]) .ret) .skip)))) (.region [⟨none, 52, (.val (.bin .add (.s 41) (.c (.int .i64 1)))), [41, 51], none, []⟩, ⟨none, 41, (.val (.mv (.s 52))), [52], none, []⟩]))))))) (.seq (.seq (.region [⟨none, 53, (.val (.mv (.s 2))), [2, 39, 40, 41, 42], none, []⟩, ⟨none, 54, (.val (.fnv 83 [(.s 5)])), [5], none, []⟩, ⟨none, 55, (.call 82 [(.s 53), (.s 54)]), [53, 54], none, []⟩]) (.cond (.s 55) (.seq (.region [⟨none, 8, (.val (.mv (.c (.int .i64 4)))), [55], none, []⟩]) .ret) .skip)) (.seq (.region [⟨none, 8, (.val (.mv (.c (.int .i64 0)))), [55], none, []⟩]) .ret))))))
theorem ok165 : FnOk Tryd.prog 50 cc165 [(.t 8)] 4 56 := ⟨⟨_, Tryd.func50, by kernel_rfl, by kernel_rfl, by kernel_rfl⟩, by decide, by decide⟩
def eqZ (x : Int) (y : Int) : Bool := y == x
def st145 (I : World → Fp → Value → Fp → Prop) (l : List Int) (x : Int) (i : Nat) : St := ⟨[(8, .v (.int .i64 i)), (7, .v (.int .i64 l.length)), (0, intsA l), (1, i64A x)], [(9999, .ext I)], []⟩
theorem c145 (l : List Int) (x : Int) (hl : l.length ≤ 1000000) {Q : AV → Al → Prop} (h : Q (i64A (idxP l (eqZ x))) []) : ACalls Tryd.prog 103 [] [intsA l, i64A x] Q := by
  refine ok145.N hmix rfl ?_
  intro I
  simp only [cc145, OI, ↓reduceIte, reduceCtorEq, Nat.reduceAdd, Nat.reduceEqDiff, Nat.reduceBEq, Nat.reduceLT, Nat.reduceLeDiff, Nat.reduceMul, Nat.reduceSub, Int.reduceLE, Int.reduceLT, Int.reduceEq, Int.reduceBEq, Int.reduceBNe, Int.reduceToNat, Int.reduceNeg, Nat.reduceBNe, intsA, i64A]
  refine W_loop (st145 I l x) (fun i => i ≤ l.length ∧ ∀ (j : Nat) y, j < i → l[j]? = some y → eqZ x y = false) (fun i => l.length - i) (fun _ _ => rfl) ⟨0, ⟨by omega, fun j y hj => by omega⟩, ?_⟩ ?_
  · simp only [OI, ↓reduceIte, reduceCtorEq, Nat.reduceAdd, Nat.reduceEqDiff, Nat.reduceBEq, Nat.reduceLT, Nat.reduceLeDiff, Nat.reduceMul, Nat.reduceSub, Int.reduceLE, Int.reduceLT, Int.reduceEq, Int.reduceBEq, Int.reduceBNe, Int.reduceToNat, Int.reduceNeg, Nat.reduceBNe, st145, intsA, i64A]
    try rfl
  rintro i ⟨hi, hall⟩
  refine W_of_N ok145.small hmix ?_
  by_cases hil : i < l.length
  · have hil' : (i : Int) < l.length := by omega
    have i0 : (0 : Int) ≤ i := by omega
    have hgi : l[i]? = some l[i] := List.getElem?_eq_getElem hil
    have w1 : IntKind.i64.wrap ((i : Int) + 1) = ((i + 1 : Nat) : Int) := by rw [wrI64 (by omega) (by omega)]; omega
    generalize l[i] = y at hgi
    by_cases hxy : x = y
    · subst hxy
      simp only [OI, ↓reduceIte, reduceCtorEq, Nat.reduceAdd, Nat.reduceEqDiff, Nat.reduceBEq, Nat.reduceLT, Nat.reduceLeDiff, Nat.reduceMul, Nat.reduceSub, Int.reduceLE, Int.reduceLT, Int.reduceEq, Int.reduceBEq, Int.reduceBNe, Int.reduceToNat, Int.reduceNeg, Nat.reduceBNe, st145, intsA, i64A, hil', i0, hgi, beq_self_eq_true]
      rw [idxP_at hgi (by simp [eqZ]) hall] at h
      exact h
    · simp only [OI, ↓reduceIte, reduceCtorEq, Nat.reduceAdd, Nat.reduceEqDiff, Nat.reduceBEq, Nat.reduceLT, Nat.reduceLeDiff, Nat.reduceMul, Nat.reduceSub, Int.reduceLE, Int.reduceLT, Int.reduceEq, Int.reduceBEq, Int.reduceBNe, Int.reduceToNat, Int.reduceNeg, Nat.reduceBNe, st145, intsA, i64A, hil', i0, hgi, beqF hxy, w1]
      refine ⟨i + 1, ⟨⟨by omega, fun j z hj hz => ?_⟩, by omega⟩, ?_⟩
      · by_cases he : j = i
        · subst he; rw [hgi] at hz; obtain rfl := Option.some.inj hz; simpa [eqZ] using fun e => hxy e.symm
        · exact hall j z (by omega) hz
      · simp only [OI, ↓reduceIte, reduceCtorEq, Nat.reduceAdd, Nat.reduceEqDiff, Nat.reduceBEq, Nat.reduceLT, Nat.reduceLeDiff, Nat.reduceMul, Nat.reduceSub, Int.reduceLE, Int.reduceLT, Int.reduceEq, Int.reduceBEq, Int.reduceBNe, Int.reduceToNat, Int.reduceNeg, Nat.reduceBNe, st145, intsA, i64A]
  · obtain rfl : i = l.length := by omega
    simp only [OI, ↓reduceIte, reduceCtorEq, Nat.reduceAdd, Nat.reduceEqDiff, Nat.reduceBEq, Nat.reduceLT, Nat.reduceLeDiff, Nat.reduceMul, Nat.reduceSub, Int.reduceLE, Int.reduceLT, Int.reduceEq, Int.reduceBEq, Int.reduceBNe, Int.reduceToNat, Int.reduceNeg, Nat.reduceBNe, st145, intsA, i64A, Int.lt_irrefl]
    rw [idxP_no fun j y hy => hall j y (List.getElem?_eq_some_iff.1 hy).1 hy] at h
    exact h
theorem c209 (l : List Int) (x : Int) (hl : l.length ≤ 1000000) {Q : AV → Al → Prop} (h : Q (.v (.bool (l.any (eqZ x)))) []) : ACalls Tryd.prog 81 [] [intsA l, i64A x] Q := by
  refine ok209.N hmix rfl ?_
  intro I
  simp only [cc209, OI, ↓reduceIte, reduceCtorEq, Nat.reduceAdd, Nat.reduceEqDiff, Nat.reduceBEq, Nat.reduceLT, Nat.reduceLeDiff, Nat.reduceMul, Nat.reduceSub, Int.reduceLE, Int.reduceLT, Int.reduceEq, Int.reduceBEq, Int.reduceBNe, Int.reduceToNat, Int.reduceNeg, Nat.reduceBNe, intsA, i64A]
  refine c145 l x hl ?_
  simp only [OI, ↓reduceIte, reduceCtorEq, Nat.reduceAdd, Nat.reduceEqDiff, Nat.reduceBEq, Nat.reduceLT, Nat.reduceLeDiff, Nat.reduceMul, Nat.reduceSub, Int.reduceLE, Int.reduceLT, Int.reduceEq, Int.reduceBEq, Int.reduceBNe, Int.reduceToNat, Int.reduceNeg, Nat.reduceBNe, i64A, idxP_any]
  exact h
/-- Is one of them ahead in the list? -/
def dupF : List Int → List Int → Bool
  | _, [] => false
  | pre, x :: r => if pre.any (eqZ x) = true then true else dupF (pre ++ [x]) r
/-- What is wrong with a route. -/
def rtR (n m : Int) (ahead : List Rt) (r : Rt) : Int :=
  if r.f < 0 ∨ n ≤ r.f ∨ r.t < 0 ∨ n ≤ r.t ∨ r.f = r.t ∨ r.via.any (badK m) = true then 1 else if dupF [] r.via = true then 4 else if ahead.any (sameK r) = true then 4 else 0
def st165 (I : World → Fp → Value → Fp → Prop) (p : Pn) (r : Rt) (ahead : List Rt) (i : Nat) : St :=
  ⟨[(41, .v (.int .i64 i)), (40, .v (.int .i64 r.via.length)), (39, intsA r.via), (5, .ref ⟨1005, [], 0⟩), (2, .lst 3 (ahead.map rtA))], [(1005, rtA r), (9999, .ext I)], []⟩
theorem c165 (p : Pn) (r : Rt) (ahead : List Rt) (g : Gr) (hv : r.via.length ≤ 100000) (ha : ahead.length ≤ 100000) {Q : AV → Al → Prop} (h : Q (i64A (rtR g.cl.length p.re.length ahead r)) []) : ACalls Tryd.prog 50 [] [plA p, rtA r, .lst 3 (ahead.map rtA), gA g] Q := by
  refine ok165.N hmix rfl ?_
  intro I
  have bad : (r.f < 0 ∨ (g.cl.length : Int) ≤ r.f ∨ r.t < 0 ∨ (g.cl.length : Int) ≤ r.t ∨ r.f = r.t ∨ r.via.any (badK p.re.length) = true) → Q (.v (.int .i64 1)) [] := by
    intro hb
    rw [rtR, if_pos hb] at h; exact h
  simp only [cc165, OI, ↓reduceIte, reduceCtorEq, Nat.reduceAdd, Nat.reduceEqDiff, Nat.reduceBEq, Nat.reduceLT, Nat.reduceLeDiff, Nat.reduceMul, Nat.reduceSub, Int.reduceLE, Int.reduceLT, Int.reduceEq, Int.reduceBEq, Int.reduceBNe, Int.reduceToNat, Int.reduceNeg, Nat.reduceBNe, plA, rtA, gA, i64A]
  refine c170 g r.f ?_
  by_cases b1 : 0 ≤ r.f ∧ r.f < g.cl.length
  · rw [decide_eq_true b1]
    simp only [OI, ↓reduceIte, reduceCtorEq, Nat.reduceAdd, Nat.reduceEqDiff, Nat.reduceBEq, Nat.reduceLT, Nat.reduceLeDiff, Nat.reduceMul, Nat.reduceSub, Int.reduceLE, Int.reduceLT, Int.reduceEq, Int.reduceBEq, Int.reduceBNe, Int.reduceToNat, Int.reduceNeg, Nat.reduceBNe, i64A]
    refine c170 g r.t ?_
    by_cases b2 : 0 ≤ r.t ∧ r.t < g.cl.length
    · rw [decide_eq_true b2]
      simp only [OI, ↓reduceIte, reduceCtorEq, Nat.reduceAdd, Nat.reduceEqDiff, Nat.reduceBEq, Nat.reduceLT, Nat.reduceLeDiff, Nat.reduceMul, Nat.reduceSub, Int.reduceLE, Int.reduceLT, Int.reduceEq, Int.reduceBEq, Int.reduceBNe, Int.reduceToNat, Int.reduceNeg, Nat.reduceBNe, i64A]
      by_cases b3 : r.f = r.t
      · simp only [OI, ↓reduceIte, reduceCtorEq, Nat.reduceAdd, Nat.reduceEqDiff, Nat.reduceBEq, Nat.reduceLT, Nat.reduceLeDiff, Nat.reduceMul, Nat.reduceSub, Int.reduceLE, Int.reduceLT, Int.reduceEq, Int.reduceBEq, Int.reduceBNe, Int.reduceToNat, Int.reduceNeg, Nat.reduceBNe, i64A, beqT b3]
        exact bad (by omega)
      · simp only [OI, ↓reduceIte, reduceCtorEq, Nat.reduceAdd, Nat.reduceEqDiff, Nat.reduceBEq, Nat.reduceLT, Nat.reduceLeDiff, Nat.reduceMul, Nat.reduceSub, Int.reduceLE, Int.reduceLT, Int.reduceEq, Int.reduceBEq, Int.reduceBNe, Int.reduceToNat, Int.reduceNeg, Nat.reduceBNe, i64A, beqF b3]
        refine c208 p r.via (by omega) ?_
        by_cases b4 : r.via.any (badK p.re.length) = true
        · simp only [OI, ↓reduceIte, reduceCtorEq, Nat.reduceAdd, Nat.reduceEqDiff, Nat.reduceBEq, Nat.reduceLT, Nat.reduceLeDiff, Nat.reduceMul, Nat.reduceSub, Int.reduceLE, Int.reduceLT, Int.reduceEq, Int.reduceBEq, Int.reduceBNe, Int.reduceToNat, Int.reduceNeg, Nat.reduceBNe, i64A, b4]
          exact bad (by simp [b4])
        · have b4' : r.via.any (badK p.re.length) = false := by simpa using b4
          simp only [OI, ↓reduceIte, reduceCtorEq, Nat.reduceAdd, Nat.reduceEqDiff, Nat.reduceBEq, Nat.reduceLT, Nat.reduceLeDiff, Nat.reduceMul, Nat.reduceSub, Int.reduceLE, Int.reduceLT, Int.reduceEq, Int.reduceBEq, Int.reduceBNe, Int.reduceToNat, Int.reduceNeg, Nat.reduceBNe, i64A, b4']
          have hfin : rtR g.cl.length p.re.length ahead r = if dupF [] r.via = true then 4 else if ahead.any (sameK r) = true then 4 else 0 := by
            rw [rtR, if_neg (by simp only [b4']; simp; omega)]
          rw [hfin] at h
          refine W_loop (st165 I p r ahead) (fun i => i ≤ r.via.length ∧ dupF [] r.via = dupF (r.via.take i) (r.via.drop i)) (fun i => r.via.length - i) (fun _ _ => rfl) ⟨0, ⟨by omega, by simp⟩, ?_⟩ ?_
          · simp only [OI, ↓reduceIte, reduceCtorEq, Nat.reduceAdd, Nat.reduceEqDiff, Nat.reduceBEq, Nat.reduceLT, Nat.reduceLeDiff, Nat.reduceMul, Nat.reduceSub, Int.reduceLE, Int.reduceLT, Int.reduceEq, Int.reduceBEq, Int.reduceBNe, Int.reduceToNat, Int.reduceNeg, Nat.reduceBNe, st165, intsA, i64A, rtA]
            try rfl
          rintro i ⟨hi, he⟩
          refine W_of_N ok165.small hmix ?_
          by_cases hil : i < r.via.length
          · have hil' : (i : Int) < r.via.length := by omega
            have i0 : (0 : Int) ≤ i := by omega
            have hgi : r.via[i]? = some r.via[i] := List.getElem?_eq_getElem hil
            have hdr : r.via.drop i = r.via[i] :: r.via.drop (i + 1) := List.drop_eq_getElem_cons hil
            have htk : r.via.take (i + 1) = r.via.take i ++ [r.via[i]] := by rw [List.take_add_one, hgi]; rfl
            have w1 : IntKind.i64.wrap ((i : Int) + 1) = ((i + 1 : Nat) : Int) := by rw [wrI64 (by omega) (by omega)]; omega
            generalize r.via[i] = y at hgi hdr htk
            rw [hdr, dupF, ← htk] at he
            simp only [OI, ↓reduceIte, reduceCtorEq, Nat.reduceAdd, Nat.reduceEqDiff, Nat.reduceBEq, Nat.reduceLT, Nat.reduceLeDiff, Nat.reduceMul, Nat.reduceSub, Int.reduceLE, Int.reduceLT, Int.reduceEq, Int.reduceBEq, Int.reduceBNe, Int.reduceToNat, Int.reduceNeg, Nat.reduceBNe, st165, intsA, i64A, rtA, hil', i0, hgi]
            have htkm : List.take i (List.map i64A r.via) = List.map i64A (r.via.take i) := by rw [List.map_take]
            rw [htkm]
            refine ⟨by omega, c209 (r.via.take i) y (by rw [List.length_take]; omega) ?_⟩
            by_cases hd : (r.via.take i).any (eqZ y) = true
            · rw [if_pos hd] at he
              rw [he] at h
              simp only [if_true] at h
              simp only [OI, ↓reduceIte, reduceCtorEq, Nat.reduceAdd, Nat.reduceEqDiff, Nat.reduceBEq, Nat.reduceLT, Nat.reduceLeDiff, Nat.reduceMul, Nat.reduceSub, Int.reduceLE, Int.reduceLT, Int.reduceEq, Int.reduceBEq, Int.reduceBNe, Int.reduceToNat, Int.reduceNeg, Nat.reduceBNe, hd]
              exact h
            · have hd' : (r.via.take i).any (eqZ y) = false := by simpa using hd
              rw [if_neg hd] at he
              simp only [OI, ↓reduceIte, reduceCtorEq, Nat.reduceAdd, Nat.reduceEqDiff, Nat.reduceBEq, Nat.reduceLT, Nat.reduceLeDiff, Nat.reduceMul, Nat.reduceSub, Int.reduceLE, Int.reduceLT, Int.reduceEq, Int.reduceBEq, Int.reduceBNe, Int.reduceToNat, Int.reduceNeg, Nat.reduceBNe, hd', w1]
              refine ⟨i + 1, ⟨⟨by omega, he⟩, by omega⟩, ?_⟩
              simp only [OI, ↓reduceIte, reduceCtorEq, Nat.reduceAdd, Nat.reduceEqDiff, Nat.reduceBEq, Nat.reduceLT, Nat.reduceLeDiff, Nat.reduceMul, Nat.reduceSub, Int.reduceLE, Int.reduceLT, Int.reduceEq, Int.reduceBEq, Int.reduceBNe, Int.reduceToNat, Int.reduceNeg, Nat.reduceBNe, st165, intsA, i64A, rtA]
              try rfl
          · obtain rfl : i = r.via.length := by omega
            rw [List.drop_length, dupF] at he
            rw [he] at h
            simp only [Bool.false_eq_true, if_false] at h
            simp only [OI, ↓reduceIte, reduceCtorEq, Nat.reduceAdd, Nat.reduceEqDiff, Nat.reduceBEq, Nat.reduceLT, Nat.reduceLeDiff, Nat.reduceMul, Nat.reduceSub, Int.reduceLE, Int.reduceLT, Int.reduceEq, Int.reduceBEq, Int.reduceBNe, Int.reduceToNat, Int.reduceNeg, Nat.reduceBNe, st165, intsA, i64A, rtA, Int.lt_irrefl]
            refine c210 r ahead (by omega) ?_
            by_cases b5 : ahead.any (sameK r) = true
            · simp only [OI, ↓reduceIte, reduceCtorEq, Nat.reduceAdd, Nat.reduceEqDiff, Nat.reduceBEq, Nat.reduceLT, Nat.reduceLeDiff, Nat.reduceMul, Nat.reduceSub, Int.reduceLE, Int.reduceLT, Int.reduceEq, Int.reduceBEq, Int.reduceBNe, Int.reduceToNat, Int.reduceNeg, Nat.reduceBNe, b5]
              rw [if_pos b5] at h; exact h
            · have b5' : ahead.any (sameK r) = false := by simpa using b5
              simp only [OI, ↓reduceIte, reduceCtorEq, Nat.reduceAdd, Nat.reduceEqDiff, Nat.reduceBEq, Nat.reduceLT, Nat.reduceLeDiff, Nat.reduceMul, Nat.reduceSub, Int.reduceLE, Int.reduceLT, Int.reduceEq, Int.reduceBEq, Int.reduceBNe, Int.reduceToNat, Int.reduceNeg, Nat.reduceBNe, b5']
              rw [if_neg b5] at h; exact h
    · rw [decide_eq_false b2]
      simp only [OI, ↓reduceIte, reduceCtorEq, Nat.reduceAdd, Nat.reduceEqDiff, Nat.reduceBEq, Nat.reduceLT, Nat.reduceLeDiff, Nat.reduceMul, Nat.reduceSub, Int.reduceLE, Int.reduceLT, Int.reduceEq, Int.reduceBEq, Int.reduceBNe, Int.reduceToNat, Int.reduceNeg, Nat.reduceBNe, i64A]
      exact bad (by omega)
  · rw [decide_eq_false b1]
    simp only [OI, ↓reduceIte, reduceCtorEq, Nat.reduceAdd, Nat.reduceEqDiff, Nat.reduceBEq, Nat.reduceLT, Nat.reduceLeDiff, Nat.reduceMul, Nat.reduceSub, Int.reduceLE, Int.reduceLT, Int.reduceEq, Int.reduceBEq, Int.reduceBNe, Int.reduceToNat, Int.reduceNeg, Nat.reduceBNe, i64A]
    exact bad (by omega)
end Go.Proofs.YthlehngbadianaaDoor.Ow
