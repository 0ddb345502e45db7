/- What the functions of the program do, each once: contracts of the logic (part u9 u10). -/
import Derived.Test.YthlehngbadianaaTu7u8
set_option linter.unusedVariables false
set_option linter.unusedSimpArgs false
set_option linter.unnecessarySimpa false
set_option maxRecDepth 100000
set_option maxHeartbeats 4000000
namespace Go.Proofs.Ythlehngbadianaa.Ow
open Go Go.RowKit Go.Proofs
/- watershed/table.beside -/
def cc171 : CC := (.seq (.region [⟨none, 6, (.box 0), [0], none, []⟩, ⟨none, 7, (.box 1), [1], none, []⟩, ⟨none, 12, (.val (.mv (.c (.int .i64 0)))), [12], none, []⟩, ⟨none, 13, (.val (.mv (.c (.int .i64 0)))), [13], none, []⟩]) (.seq (.region [⟨none, 18, (.val (.ld (.s 6) (some 2))), [6], none, []⟩, ⟨none, 19, (.val (.ld (.s 7) (some 4))), [7], none, []⟩, ⟨none, 20, (.val (.mv (.s 2))), [2], none, []⟩, ⟨none, 21, (.val (.mv (.s 3))), [3], none, []⟩, ⟨none, 22, (.callP 78 [(.s 18), (.s 19), (.s 20), (.s 21)]), [18, 19, 20, 21], none, []⟩, ⟨none, 17, (.val (.mv (.s 22))), [22], none, []⟩, ⟨none, 23, (.val (.ext (.s 17) 0)), [], none, []⟩, ⟨none, 24, (.val (.ext (.s 17) 1)), [17], none, []⟩, ⟨none, 14, (.val (.mv (.s 23))), [23], none, []⟩, ⟨none, 15, (.val (.mv (.s 24))), [24], none, []⟩]) (.seq (.seq (.region [⟨none, 25, (.val (.mv (.s 15))), [], none, []⟩, ⟨none, 26, (.val (.bin .neq (.s 25) (.c (.int .i64 0)))), [25], none, []⟩]) (.cond (.s 26) (.seq (.region [⟨none, 27, (.val (.mv (.s 15))), [4, 5, 14, 15, 26], none, []⟩, ⟨none, 12, (.val (.mv (.c (.int .i64 0)))), [], none, []⟩, ⟨none, 13, (.val (.mv (.s 27))), [27], none, []⟩]) .ret) .skip)) (.seq (.region [⟨none, 28, (.val (.mv (.s 14))), [15, 26], none, []⟩, ⟨none, 29, (.val (.mv (.s 4))), [4], none, []⟩, ⟨none, 30, (.call 145 [(.s 28), (.s 29)]), [28, 29], none, []⟩, ⟨none, 16, (.val (.mv (.s 30))), [30], none, []⟩]) (.seq (.seq (.region [⟨none, 31, (.val (.mv (.s 16))), [], none, []⟩, ⟨none, 32, (.val (.bin .lss (.s 31) (.c (.int .i64 0)))), [31], none, []⟩, ⟨none, 33, (.val (.mv (.s 32))), [32], none, []⟩, ⟨(some (33, false)), 34, (.val (.mv (.s 16))), [], none, []⟩, ⟨(some (33, false)), 35, (.val (.mv (.s 5))), [], none, []⟩, ⟨(some (33, false)), 36, (.val (.bin .add (.s 34) (.s 35))), [34, 35], none, []⟩, ⟨(some (33, false)), 37, (.val (.bin .lss (.s 36) (.c (.int .i64 0)))), [36], none, []⟩, ⟨none, 38, (.val (.pick (.s 33) (.c (.bool true)) (.s 37))), [33, 37], none, []⟩, ⟨none, 39, (.val (.mv (.s 38))), [38], none, []⟩, ⟨(some (39, false)), 40, (.val (.mv (.s 16))), [], none, []⟩, ⟨(some (39, false)), 41, (.val (.mv (.s 5))), [], none, []⟩, ⟨(some (39, false)), 42, (.val (.bin .add (.s 40) (.s 41))), [40, 41], none, []⟩, ⟨(some (39, false)), 43, (.val (.mv (.s 14))), [], none, []⟩, ⟨(some (39, false)), 44, (.val (.lnl (.s 43) 1)), [43], none, []⟩, ⟨(some (39, false)), 45, (.val (.bin .geq (.s 42) (.s 44))), [42, 44], none, []⟩, ⟨none, 46, (.val (.pick (.s 39) (.c (.bool true)) (.s 45))), [39, 45], none, []⟩]) (.cond (.s 46) (.seq (.region [⟨none, 12, (.val (.mv (.c (.int .i64 0)))), [5, 14, 16, 46], none, []⟩, ⟨none, 13, (.val (.mv (.c (.int .i64 3)))), [], none, []⟩]) .ret) .skip)) (.seq (.region [⟨none, 47, (.val (.mv (.s 14))), [14, 46], none, []⟩, ⟨none, 48, (.val (.mv (.s 16))), [16], none, []⟩, ⟨none, 49, (.val (.mv (.s 5))), [5], none, []⟩, ⟨none, 50, (.val (.bin .add (.s 48) (.s 49))), [48, 49], none, []⟩, ⟨none, 51, (.val (.ia (.s 47) (.s 50) 1)), [47, 50], none, []⟩, ⟨none, 52, (.val (.ld (.s 51) none)), [51], none, []⟩, ⟨none, 12, (.val (.mv (.s 52))), [52], none, []⟩, ⟨none, 13, (.val (.mv (.c (.int .i64 0)))), [], none, []⟩]) .ret))))))
theorem ok171 : FnOk Try.prog 171 cc171 [(.t 12), (.t 13)] 6 53 := ⟨⟨_, Try.func171, by kernel_rfl, by kernel_rfl, by kernel_rfl⟩, by decide, by decide⟩
/- watershed/table.Next -/
def cc80 : CC := (.seq (.region [⟨none, 5, (.box 0), [0], none, []⟩, ⟨none, 6, (.box 1), [1], none, []⟩, ⟨none, 10, (.val (.mv (.c (.int .i64 0)))), [10], none, []⟩, ⟨none, 11, (.val (.mv (.c (.int .i64 0)))), [11], none, []⟩]) (.seq (.region [⟨none, 12, (.val (.ld (.s 5) (some 2))), [5], none, []⟩, ⟨none, 13, (.val (.ld (.s 6) (some 4))), [6], none, []⟩, ⟨none, 14, (.val (.mv (.s 2))), [2], none, []⟩, ⟨none, 15, (.val (.mv (.s 3))), [3], none, []⟩, ⟨none, 16, (.val (.mv (.s 4))), [4], none, []⟩, ⟨none, 17, (.callP 171 [(.s 12), (.s 13), (.s 14), (.s 15), (.s 16), (.c (.int .i64 1))]), [12, 13, 14, 15, 16], none, []⟩, ⟨none, 18, (.val (.ext (.s 17) 0)), [], none, []⟩, ⟨none, 19, (.val (.ext (.s 17) 1)), [17], none, []⟩, ⟨none, 10, (.val (.mv (.s 18))), [18], none, []⟩, ⟨none, 11, (.val (.mv (.s 19))), [19], none, []⟩]) .ret))
theorem ok80 : FnOk Try.prog 80 cc80 [(.t 10), (.t 11)] 5 20 := ⟨⟨_, Try.func80, by kernel_rfl, by kernel_rfl, by kernel_rfl⟩, by decide, by decide⟩
/- watershed/table.Ahead -/
def cc82 : CC := (.seq (.region [⟨none, 5, (.box 0), [0], none, []⟩, ⟨none, 6, (.box 1), [1], none, []⟩, ⟨none, 10, (.val (.mv (.c (.int .i64 0)))), [10], none, []⟩, ⟨none, 11, (.val (.mv (.c (.int .i64 0)))), [11], none, []⟩]) (.seq (.region [⟨none, 12, (.val (.ld (.s 5) (some 2))), [5], none, []⟩, ⟨none, 13, (.val (.ld (.s 6) (some 4))), [6], none, []⟩, ⟨none, 14, (.val (.mv (.s 2))), [2], none, []⟩, ⟨none, 15, (.val (.mv (.s 3))), [3], none, []⟩, ⟨none, 16, (.val (.mv (.s 4))), [4], none, []⟩, ⟨none, 17, (.callP 171 [(.s 12), (.s 13), (.s 14), (.s 15), (.s 16), (.c (.int .i64 (-1)))]), [12, 13, 14, 15, 16], none, []⟩, ⟨none, 18, (.val (.ext (.s 17) 0)), [], none, []⟩, ⟨none, 19, (.val (.ext (.s 17) 1)), [17], none, []⟩, ⟨none, 10, (.val (.mv (.s 18))), [18], none, []⟩, ⟨none, 11, (.val (.mv (.s 19))), [19], none, []⟩]) .ret))
theorem ok82 : FnOk Try.prog 82 cc82 [(.t 10), (.t 11)] 5 20 := ⟨⟨_, Try.func82, by kernel_rfl, by kernel_rfl, by kernel_rfl⟩, by decide, by decide⟩
/-- The end beside an end. -/
def besV (w : List Int) (a b : Int) : Int × Int := if idxP w (eqZ a) < 0 ∨ idxP w (eqZ a) + b < 0 ∨ (w.length : Int) ≤ idxP w (eqZ a) + b then (0, 3) else (w.getD (idxP w (eqZ a) + b).toNat 0, 0)
def bes (p : Pn) (g : Gr) (f t a b : Int) : Int × Int := if wayE p g f t ≠ 0 then (0, wayE p g f t) else besV (wayL p g f t) a b
theorem idxP_lt {α : Type} {l : List α} {P : α → Bool} : -1 ≤ idxP l P ∧ idxP l P < l.length := by
  unfold idxP
  split
  · rename_i i hi
    rw [List.findIdx?_eq_some_iff_getElem] at hi
    obtain ⟨h1, _⟩ := hi
    omega
  · omega
theorem way_ok {p : Pn} {g : Gr} {f t : Int} (he : wayE p g f t = 0) : chkP p g = 0 ∧ ¬ (f < 0 ∨ g.cl.length ≤ f ∨ t < 0 ∨ g.cl.length ≤ t ∨ f = t) := by
  unfold wayE at he
  split at he
  · exact absurd he ‹_›
  split at he
  · cases he
  rename_i h1 h2
  exact ⟨by simpa using h1, h2⟩
theorem wayL_len {p : Pn} {g : Gr} {f t : Int} (hp : SmallP p) (he : wayE p g f t = 0) : (wayL p g f t).length ≤ 262 := by
  obtain ⟨h0, h1, h2, h3⟩ := chkP0 (way_ok he).1
  have := wL_len hp g.cl.length f t p.rt.length [] (by simp) h2
  rw [List.take_length] at this
  simp only [wL, List.map_nil, List.append_nil] at this
  simp only [wayL, List.length_append, List.length_cons, List.length_nil] at this ⊢
  omega
theorem c171 (p : Pn) (g : Gr) (hp : SmallP p) (f t a b : Int) (hb : b = 1 ∨ b = -1) {Q : AV → Al → Prop} (h : Q (.tup [i64A (bes p g f t a b).1, i64A (bes p g f t a b).2]) []) : ACalls Try.prog 171 [] [plA p, gA g, i64A f, i64A t, i64A a, i64A b] Q := by
  refine ok171.N hmix rfl ?_
  intro I
  simp only [cc171, OI, ↓reduceIte, reduceCtorEq, Nat.reduceAdd, Nat.reduceEqDiff, Nat.reduceBEq, Nat.reduceLT, Nat.reduceLeDiff, Nat.reduceMul, Nat.reduceSub, Int.reduceLE, Int.reduceLT, Int.reduceEq, Int.reduceBEq, Int.reduceBNe, Int.reduceToNat, Int.reduceNeg, Nat.reduceBNe, plA, gA, i64A]
  by_cases he : wayE p g f t = 0
  · refine c78 p g hp f t he ?_
    have hlen := wayL_len hp he
    rw [bes, if_neg (by simpa using he)] at h
    generalize wayL p g f t = w at h hlen
    have t1 : List.map frz (List.take w.length (List.map i64A w)) = List.map i64A w := fz_map i64A (fun _ => rfl) rfl
    simp only [OI, ↓reduceIte, reduceCtorEq, Nat.reduceAdd, Nat.reduceEqDiff, Nat.reduceBEq, Nat.reduceLT, Nat.reduceLeDiff, Nat.reduceMul, Nat.reduceSub, Int.reduceLE, Int.reduceLT, Int.reduceEq, Int.reduceBEq, Int.reduceBNe, Int.reduceToNat, Int.reduceNeg, Nat.reduceBNe, i64A, bneF rfl, t1]
    refine c145 w a (by omega) ?_
    have hil := idxP_lt (l := w) (P := eqZ a)
    unfold besV at h
    have hget : ∀ (k : Int), 0 ≤ k → k < w.length → w[k.toNat]? = some (w.getD k.toNat 0) := fun k h0 h1 => by
      rw [List.getD, List.getElem?_eq_getElem (by omega)]; rfl
    generalize idxP w (eqZ a) = k at h hil
    have wk : IntKind.i64.wrap (k + b) = k + b := by rcases hb with rfl | rfl <;> exact wrI64 (by omega) (by omega)
    by_cases k0 : k < 0
    · rw [if_pos (.inl k0)] at h
      simp only [OI, ↓reduceIte, reduceCtorEq, Nat.reduceAdd, Nat.reduceEqDiff, Nat.reduceBEq, Nat.reduceLT, Nat.reduceLeDiff, Nat.reduceMul, Nat.reduceSub, Int.reduceLE, Int.reduceLT, Int.reduceEq, Int.reduceBEq, Int.reduceBNe, Int.reduceToNat, Int.reduceNeg, Nat.reduceBNe, i64A, k0]
      exact h
    by_cases k1 : k + b < 0
    · rw [if_pos (.inr (.inl k1))] at h
      simp only [OI, ↓reduceIte, reduceCtorEq, Nat.reduceAdd, Nat.reduceEqDiff, Nat.reduceBEq, Nat.reduceLT, Nat.reduceLeDiff, Nat.reduceMul, Nat.reduceSub, Int.reduceLE, Int.reduceLT, Int.reduceEq, Int.reduceBEq, Int.reduceBNe, Int.reduceToNat, Int.reduceNeg, Nat.reduceBNe, i64A, k0, wk, k1]
      exact h
    by_cases k2 : (w.length : Int) ≤ k + b
    · rw [if_pos (.inr (.inr k2))] at h
      simp only [OI, ↓reduceIte, reduceCtorEq, Nat.reduceAdd, Nat.reduceEqDiff, Nat.reduceBEq, Nat.reduceLT, Nat.reduceLeDiff, Nat.reduceMul, Nat.reduceSub, Int.reduceLE, Int.reduceLT, Int.reduceEq, Int.reduceBEq, Int.reduceBNe, Int.reduceToNat, Int.reduceNeg, Nat.reduceBNe, i64A, k0, wk, k1, k2, List.length_take, List.length_map, Nat.min_self]
      exact h
    · rw [if_neg (by omega)] at h
      have k3 : 0 ≤ k + b := by omega
      have k4 : k + b < w.length := by omega
      simp only [OI, ↓reduceIte, reduceCtorEq, Nat.reduceAdd, Nat.reduceEqDiff, Nat.reduceBEq, Nat.reduceLT, Nat.reduceLeDiff, Nat.reduceMul, Nat.reduceSub, Int.reduceLE, Int.reduceLT, Int.reduceEq, Int.reduceBEq, Int.reduceBNe, Int.reduceToNat, Int.reduceNeg, Nat.reduceBNe, i64A, k0, wk, k1, k2, k3, k4, hget _ k3 k4, List.length_take, List.length_map, Nat.min_self]
      exact h
  · refine c78n p g hp f t he ?_
    rw [bes, if_pos he] at h
    simp only [OI, ↓reduceIte, reduceCtorEq, Nat.reduceAdd, Nat.reduceEqDiff, Nat.reduceBEq, Nat.reduceLT, Nat.reduceLeDiff, Nat.reduceMul, Nat.reduceSub, Int.reduceLE, Int.reduceLT, Int.reduceEq, Int.reduceBEq, Int.reduceBNe, Int.reduceToNat, Int.reduceNeg, Nat.reduceBNe, i64A, bneT he]
    exact h
theorem c80 (p : Pn) (g : Gr) (hp : SmallP p) (f t a : Int) {Q : AV → Al → Prop} (h : Q (.tup [i64A (bes p g f t a 1).1, i64A (bes p g f t a 1).2]) []) : ACalls Try.prog 80 [] [plA p, gA g, i64A f, i64A t, i64A a] Q := by
  refine ok80.N hmix rfl ?_
  intro I
  simp only [cc80, OI, ↓reduceIte, reduceCtorEq, Nat.reduceAdd, Nat.reduceEqDiff, Nat.reduceBEq, Nat.reduceLT, Nat.reduceLeDiff, Nat.reduceMul, Nat.reduceSub, Int.reduceLE, Int.reduceLT, Int.reduceEq, Int.reduceBEq, Int.reduceBNe, Int.reduceToNat, Int.reduceNeg, Nat.reduceBNe, plA, gA, i64A]
  refine c171 p g hp f t a 1 (.inl rfl) ?_
  simp only [OI, ↓reduceIte, reduceCtorEq, Nat.reduceAdd, Nat.reduceEqDiff, Nat.reduceBEq, Nat.reduceLT, Nat.reduceLeDiff, Nat.reduceMul, Nat.reduceSub, Int.reduceLE, Int.reduceLT, Int.reduceEq, Int.reduceBEq, Int.reduceBNe, Int.reduceToNat, Int.reduceNeg, Nat.reduceBNe, i64A]
  exact h
theorem c82 (p : Pn) (g : Gr) (hp : SmallP p) (f t a : Int) {Q : AV → Al → Prop} (h : Q (.tup [i64A (bes p g f t a (-1)).1, i64A (bes p g f t a (-1)).2]) []) : ACalls Try.prog 82 [] [plA p, gA g, i64A f, i64A t, i64A a] Q := by
  refine ok82.N hmix rfl ?_
  intro I
  simp only [cc82, OI, ↓reduceIte, reduceCtorEq, Nat.reduceAdd, Nat.reduceEqDiff, Nat.reduceBEq, Nat.reduceLT, Nat.reduceLeDiff, Nat.reduceMul, Nat.reduceSub, Int.reduceLE, Int.reduceLT, Int.reduceEq, Int.reduceBEq, Int.reduceBNe, Int.reduceToNat, Int.reduceNeg, Nat.reduceBNe, plA, gA, i64A]
  refine c171 p g hp f t a (-1) (.inr rfl) ?_
  simp only [OI, ↓reduceIte, reduceCtorEq, Nat.reduceAdd, Nat.reduceEqDiff, Nat.reduceBEq, Nat.reduceLT, Nat.reduceLeDiff, Nat.reduceMul, Nat.reduceSub, Int.reduceLE, Int.reduceLT, Int.reduceEq, Int.reduceBEq, Int.reduceBNe, Int.reduceToNat, Int.reduceNeg, Nat.reduceBNe, i64A]
  exact h
end Go.Proofs.Ythlehngbadianaa.Ow
set_option maxRecDepth 100000
set_option maxHeartbeats 4000000
namespace Go.Proofs.Ythlehngbadianaa.Ow
open Go Go.RowKit Go.Proofs
/- watershed/watershedref18.Next -/
def cc81 : CC := (.seq (.region [⟨none, 5, (.box 0), [0], none, []⟩, ⟨none, 6, (.box 1), [1], none, []⟩, ⟨none, 10, (.val (.mv (.c (.int .i64 0)))), [10], none, []⟩, ⟨none, 11, (.val (.mv (.c (.int .i64 0)))), [11], none, []⟩]) (.seq (.region [⟨none, 16, (.val (.ld (.s 5) (some 2))), [5], none, []⟩, ⟨none, 17, (.val (.ld (.s 6) (some 4))), [6], none, []⟩, ⟨none, 18, (.val (.mv (.s 2))), [2], none, []⟩, ⟨none, 19, (.val (.mv (.s 3))), [3], none, []⟩, ⟨none, 20, (.callP 79 [(.s 16), (.s 17), (.s 18), (.s 19)]), [16, 17, 18, 19], none, []⟩, ⟨none, 15, (.val (.mv (.s 20))), [20], none, []⟩, ⟨none, 21, (.val (.ext (.s 15) 0)), [], none, []⟩, ⟨none, 22, (.val (.ext (.s 15) 1)), [15], none, []⟩, ⟨none, 12, (.val (.mv (.s 21))), [21], none, []⟩, ⟨none, 13, (.val (.mv (.s 22))), [22], none, []⟩]) (.seq (.seq (.region [⟨none, 23, (.val (.mv (.s 13))), [], none, []⟩, ⟨none, 24, (.val (.bin .neq (.s 23) (.c (.int .i64 0)))), [23], none, []⟩]) (.cond (.s 24) (.seq (.region [⟨none, 25, (.val (.mv (.s 13))), [4, 12, 13, 24], none, []⟩, ⟨none, 10, (.val (.mv (.c (.int .i64 0)))), [], none, []⟩, ⟨none, 11, (.val (.mv (.s 25))), [25], none, []⟩]) .ret) .skip)) (.seq (.seq (.region [⟨none, 14, (.val (.mv (.c (.int .i64 0)))), [13, 24], none, []⟩]) (.block 0 (.loop (.seq (.seq (.region [⟨none, 26, (.val (.mv (.s 14))), [], none, []⟩, ⟨none, 27, (.val (.mv (.s 12))), [], none, []⟩, ⟨none, 28, (.val (.lnl (.s 27) 1)), [27], none, []⟩, ⟨none, 29, (.val (.bin .sub (.s 28) (.c (.int .i64 1)))), [28], none, []⟩, ⟨none, 30, (.val (.bin .lss (.s 26) (.s 29))), [26, 29], none, []⟩]) (.cond (.s 30) .skip (.exit 0))) (.seq (.block 1 (.seq (.region [⟨none, 33, (.val (.mv (.s 12))), [30], none, []⟩, ⟨none, 34, (.val (.mv (.s 14))), [], none, []⟩, ⟨none, 35, (.val (.ia (.s 33) (.s 34) 1)), [33, 34], none, []⟩, ⟨none, 36, (.val (.ld (.s 35) none)), [35], none, []⟩, ⟨none, 37, (.val (.mv (.s 4))), [], none, []⟩, ⟨none, 38, (.val (.bin .eql (.s 36) (.s 37))), [36, 37], none, []⟩]) (.cond (.s 38) (.seq (.region [⟨none, 39, (.val (.mv (.s 12))), [4, 12, 38], none, []⟩, ⟨none, 40, (.val (.mv (.s 14))), [14], none, []⟩, ⟨none, 41, (.val (.bin .add (.s 40) (.c (.int .i64 1)))), [40], none, []⟩, ⟨none, 42, (.val (.ia (.s 39) (.s 41) 1)), [39, 41], none, []⟩, ⟨none, 43, (.val (.ld (.s 42) none)), [42], none, []⟩, ⟨none, 10, (.val (.mv (.s 43))), [43], none, []⟩, ⟨none, 11, (.val (.mv (.c (.int .i64 0)))), [], none, []⟩]) .ret) .skip))) (.region [⟨none, 31, (.val (.mv (.s 14))), [14, 38], none, []⟩, ⟨none, 32, (.val (.bin .add (.s 31) (.c (.int .i64 1)))), [31], none, []⟩, ⟨none, 14, (.val (.mv (.s 32))), [32], none, []⟩])))))) (.seq (.region [⟨none, 10, (.val (.mv (.c (.int .i64 0)))), [4, 12, 14, 30], none, []⟩, ⟨none, 11, (.val (.mv (.c (.int .i64 3)))), [], none, []⟩]) .ret)))))
theorem ok81 : FnOk Try.prog 81 cc81 [(.t 10), (.t 11)] 5 44 := ⟨⟨_, Try.func81, by kernel_rfl, by kernel_rfl, by kernel_rfl⟩, by decide, by decide⟩
/- watershed/watershedref18.Ahead -/
def cc83 : CC := (.seq (.region [⟨none, 5, (.box 0), [0], none, []⟩, ⟨none, 6, (.box 1), [1], none, []⟩, ⟨none, 10, (.val (.mv (.c (.int .i64 0)))), [10], none, []⟩, ⟨none, 11, (.val (.mv (.c (.int .i64 0)))), [11], none, []⟩]) (.seq (.region [⟨none, 16, (.val (.ld (.s 5) (some 2))), [5], none, []⟩, ⟨none, 17, (.val (.ld (.s 6) (some 4))), [6], none, []⟩, ⟨none, 18, (.val (.mv (.s 2))), [2], none, []⟩, ⟨none, 19, (.val (.mv (.s 3))), [3], none, []⟩, ⟨none, 20, (.callP 79 [(.s 16), (.s 17), (.s 18), (.s 19)]), [16, 17, 18, 19], none, []⟩, ⟨none, 15, (.val (.mv (.s 20))), [20], none, []⟩, ⟨none, 21, (.val (.ext (.s 15) 0)), [], none, []⟩, ⟨none, 22, (.val (.ext (.s 15) 1)), [15], none, []⟩, ⟨none, 12, (.val (.mv (.s 21))), [21], none, []⟩, ⟨none, 13, (.val (.mv (.s 22))), [22], none, []⟩]) (.seq (.seq (.region [⟨none, 23, (.val (.mv (.s 13))), [], none, []⟩, ⟨none, 24, (.val (.bin .neq (.s 23) (.c (.int .i64 0)))), [23], none, []⟩]) (.cond (.s 24) (.seq (.region [⟨none, 25, (.val (.mv (.s 13))), [4, 12, 13, 24], none, []⟩, ⟨none, 10, (.val (.mv (.c (.int .i64 0)))), [], none, []⟩, ⟨none, 11, (.val (.mv (.s 25))), [25], none, []⟩]) .ret) .skip)) (.seq (.seq (.region [⟨none, 14, (.val (.mv (.c (.int .i64 1)))), [13, 24], none, []⟩]) (.block 0 (.loop (.seq (.seq (.region [⟨none, 26, (.val (.mv (.s 14))), [], none, []⟩, ⟨none, 27, (.val (.mv (.s 12))), [], none, []⟩, ⟨none, 28, (.val (.lnl (.s 27) 1)), [27], none, []⟩, ⟨none, 29, (.val (.bin .lss (.s 26) (.s 28))), [26, 28], none, []⟩]) (.cond (.s 29) .skip (.exit 0))) (.seq (.block 1 (.seq (.region [⟨none, 32, (.val (.mv (.s 12))), [29], none, []⟩, ⟨none, 33, (.val (.mv (.s 14))), [], none, []⟩, ⟨none, 34, (.val (.ia (.s 32) (.s 33) 1)), [32, 33], none, []⟩, ⟨none, 35, (.val (.ld (.s 34) none)), [34], none, []⟩, ⟨none, 36, (.val (.mv (.s 4))), [], none, []⟩, ⟨none, 37, (.val (.bin .eql (.s 35) (.s 36))), [35, 36], none, []⟩]) (.cond (.s 37) (.seq (.region [⟨none, 38, (.val (.mv (.s 12))), [4, 12, 37], none, []⟩, ⟨none, 39, (.val (.mv (.s 14))), [14], none, []⟩, ⟨none, 40, (.val (.bin .sub (.s 39) (.c (.int .i64 1)))), [39], none, []⟩, ⟨none, 41, (.val (.ia (.s 38) (.s 40) 1)), [38, 40], none, []⟩, ⟨none, 42, (.val (.ld (.s 41) none)), [41], none, []⟩, ⟨none, 10, (.val (.mv (.s 42))), [42], none, []⟩, ⟨none, 11, (.val (.mv (.c (.int .i64 0)))), [], none, []⟩]) .ret) .skip))) (.region [⟨none, 30, (.val (.mv (.s 14))), [14, 37], none, []⟩, ⟨none, 31, (.val (.bin .add (.s 30) (.c (.int .i64 1)))), [30], none, []⟩, ⟨none, 14, (.val (.mv (.s 31))), [31], none, []⟩])))))) (.seq (.region [⟨none, 10, (.val (.mv (.c (.int .i64 0)))), [4, 12, 14, 29], none, []⟩, ⟨none, 11, (.val (.mv (.c (.int .i64 3)))), [], none, []⟩]) .ret)))))
theorem ok83 : FnOk Try.prog 83 cc83 [(.t 10), (.t 11)] 5 43 := ⟨⟨_, Try.func83, by kernel_rfl, by kernel_rfl, by kernel_rfl⟩, by decide, by decide⟩
theorem idxP_get {α : Type} {l : List α} {P : α → Bool} (h : 0 ≤ idxP l P) : ∃ x, l[(idxP l P).toNat]? = some x ∧ P x = true := by
  unfold idxP at h ⊢
  split
  · rename_i i hi
    rw [List.findIdx?_eq_some_iff_getElem] at hi
    obtain ⟨h1, h2, _⟩ := hi
    exact ⟨l[i], by simp [List.getElem?_eq_getElem h1], h2⟩
  · rename_i hi
    simp only [hi] at h
    exact absurd h (by decide)
theorem wayL_two {p : Pn} {g : Gr} {f t : Int} : 2 ≤ (wayL p g f t).length ∧ (wayL p g f t)[0]? = some f := by
  refine ⟨?_, by simp [wayL]⟩
  simp only [wayL, List.length_append, List.length_cons, List.length_nil]
  omega
theorem wayL_tail {p : Pn} {g : Gr} {f t : Int} (he : wayE p g f t = 0) (j : Nat) (y : Int) (hj : 1 ≤ j) (hy : (wayL p g f t)[j]? = some y) : ¬ y = f := by
  obtain ⟨hc, hft⟩ := way_ok he
  obtain ⟨h0, h1, h2, h3⟩ := chkP0 hc
  obtain ⟨k, rfl⟩ : ∃ k, j = k + 1 := ⟨j - 1, by omega⟩
  have hm : y ∈ wayR g.cl.length f t p.rt ++ [t] := by
    have : wayL p g f t = f :: (wayR g.cl.length f t p.rt ++ [t]) := by simp [wayL]
    rw [this, List.getElem?_cons_succ] at hy
    exact List.mem_of_getElem? hy
  rcases List.mem_append.1 hm with hm | hm
  · unfold wayR at hm
    rw [List.mem_flatMap] at hm
    obtain ⟨r, hr, hm⟩ := hm
    split at hm
    · obtain ⟨x, hx, rfl⟩ := List.mem_map.1 hm
      have := rtE_via p.rt [] h3 r hr x hx
      omega
    · cases hm
  · simp at hm; omega
def st81 (I : World → Fp → Value → Fp → Prop) (w : List Int) (a : Int) (i : Nat) : St :=
  ⟨[(14, .v (.int .i64 i)), (12, .sl ⟨2020, [], 0⟩ 1 0 w.length), (4, i64A a)], [(2020, .own 1 (w.map i64A)), (9999, .ext I)], []⟩
theorem c81 (p : Pn) (g : Gr) (hn : NmOk g) (hp : SmallP p) (f t a : Int) {Q : AV → Al → Prop} (h : Q (.tup [i64A (bes p g f t a 1).1, i64A (bes p g f t a 1).2]) []) : ACalls Try.prog 81 [] [plA p, gA g, i64A f, i64A t, i64A a] Q := by
  refine ok81.N hmix rfl ?_
  intro I
  simp only [cc81, OI, ↓reduceIte, reduceCtorEq, Nat.reduceAdd, Nat.reduceEqDiff, Nat.reduceBEq, Nat.reduceLT, Nat.reduceLeDiff, Nat.reduceMul, Nat.reduceSub, Int.reduceLE, Int.reduceLT, Int.reduceEq, Int.reduceBEq, Int.reduceBNe, Int.reduceToNat, Int.reduceNeg, Nat.reduceBNe, plA, gA, i64A]
  by_cases he : wayE p g f t = 0
  · refine c79 p g hn hp f t he ?_
    have hlen := wayL_len hp he
    have h2 := (wayL_two (p := p) (g := g) (f := f) (t := t)).1
    rw [bes, if_neg (by simpa using he)] at h
    generalize wayL p g f t = w at h hlen h2
    simp only [OI, ↓reduceIte, reduceCtorEq, Nat.reduceAdd, Nat.reduceEqDiff, Nat.reduceBEq, Nat.reduceLT, Nat.reduceLeDiff, Nat.reduceMul, Nat.reduceSub, Int.reduceLE, Int.reduceLT, Int.reduceEq, Int.reduceBEq, Int.reduceBNe, Int.reduceToNat, Int.reduceNeg, Nat.reduceBNe, i64A, bneF rfl]
    have ws : IntKind.i64.wrap ((w.length : Int) - 1) = w.length - 1 := wrI64 (by omega) (by omega)
    refine W_loop (st81 I w a) (fun i => i ≤ w.length - 1 ∧ ∀ (j : Nat) y, j < i → w[j]? = some y → eqZ a y = false) (fun i => w.length - 1 - i) (fun _ _ => rfl) ⟨0, ⟨by omega, fun j y hj => by omega⟩, ?_⟩ ?_
    · simp only [OI, ↓reduceIte, reduceCtorEq, Nat.reduceAdd, Nat.reduceEqDiff, Nat.reduceBEq, Nat.reduceLT, Nat.reduceLeDiff, Nat.reduceMul, Nat.reduceSub, Int.reduceLE, Int.reduceLT, Int.reduceEq, Int.reduceBEq, Int.reduceBNe, Int.reduceToNat, Int.reduceNeg, Nat.reduceBNe, List.length_take, List.length_map, Nat.min_self, st81, i64A]
      try rfl
    rintro i ⟨hi, hall⟩
    refine W_of_N ok81.small hmix ?_
    by_cases hil : i < w.length - 1
    · have hil' : (i : Int) < (w.length : Int) - 1 := by omega
      have i0 : (0 : Int) ≤ i := by omega
      have i1 : (i : Int) < w.length := by omega
      have i2 : (0 : Int) ≤ ((i + 1 : Nat) : Int) := by omega
      have i3 : ((i + 1 : Nat) : Int) < w.length := by omega
      have hgi : w[i]? = some w[i] := List.getElem?_eq_getElem (by omega)
      have hgn : w[i + 1]? = some w[i + 1] := List.getElem?_eq_getElem (by omega)
      have w1 : IntKind.i64.wrap ((i : Int) + 1) = ((i + 1 : Nat) : Int) := by rw [wrI64 (by omega) (by omega)]; omega
      generalize w[i] = y at hgi
      generalize w[i + 1] = z at hgn
      by_cases hy : y = a
      · subst hy
        have e := idxP_at hgi (by simp [eqZ]) hall
        rw [besV, e, if_neg (by omega)] at h
        have e2 : ((i : Int) + 1).toNat = i + 1 := by omega
        rw [e2, List.getD, hgn] at h
        simp only [OI, ↓reduceIte, reduceCtorEq, Nat.reduceAdd, Nat.reduceEqDiff, Nat.reduceBEq, Nat.reduceLT, Nat.reduceLeDiff, Nat.reduceMul, Nat.reduceSub, Int.reduceLE, Int.reduceLT, Int.reduceEq, Int.reduceBEq, Int.reduceBNe, Int.reduceToNat, Int.reduceNeg, Nat.reduceBNe, List.length_take, List.length_map, Nat.min_self, st81, i64A, ws, hil', i0, i1, hgi, beq_self_eq_true, w1, i2, i3, Int.toNat_natCast, hgn]
        exact h
      · simp only [OI, ↓reduceIte, reduceCtorEq, Nat.reduceAdd, Nat.reduceEqDiff, Nat.reduceBEq, Nat.reduceLT, Nat.reduceLeDiff, Nat.reduceMul, Nat.reduceSub, Int.reduceLE, Int.reduceLT, Int.reduceEq, Int.reduceBEq, Int.reduceBNe, Int.reduceToNat, Int.reduceNeg, Nat.reduceBNe, List.length_take, List.length_map, Nat.min_self, st81, i64A, ws, hil', i0, i1, hgi, beqF hy, w1]
        refine ⟨i + 1, ⟨⟨by omega, fun j z hj hz => ?_⟩, by omega⟩, ?_⟩
        · by_cases hji : j = i
          · subst hji; rw [hgi] at hz; obtain rfl := Option.some.inj hz; simpa [eqZ] using hy
          · exact hall j z (by omega) hz
        · simp only [OI, ↓reduceIte, reduceCtorEq, Nat.reduceAdd, Nat.reduceEqDiff, Nat.reduceBEq, Nat.reduceLT, Nat.reduceLeDiff, Nat.reduceMul, Nat.reduceSub, Int.reduceLE, Int.reduceLT, Int.reduceEq, Int.reduceBEq, Int.reduceBNe, Int.reduceToNat, Int.reduceNeg, Nat.reduceBNe, List.length_take, List.length_map, Nat.min_self, st81, i64A]
          try rfl
    · have hil' : ¬ (i : Int) < (w.length : Int) - 1 := by omega
      have hk : idxP w (eqZ a) < 0 ∨ idxP w (eqZ a) + 1 < 0 ∨ (w.length : Int) ≤ idxP w (eqZ a) + 1 := by
        by_cases k0 : idxP w (eqZ a) < 0
        · exact .inl k0
        · obtain ⟨x, hx, hpx⟩ := idxP_get (l := w) (P := eqZ a) (by omega)
          refine .inr (.inr ?_)
          have := fun hlt => hall _ x hlt hx
          rw [hpx] at this
          have : ¬ (idxP w (eqZ a)).toNat < i := fun hlt => by cases this hlt
          omega
      rw [besV, if_pos hk] at h
      simp only [OI, ↓reduceIte, reduceCtorEq, Nat.reduceAdd, Nat.reduceEqDiff, Nat.reduceBEq, Nat.reduceLT, Nat.reduceLeDiff, Nat.reduceMul, Nat.reduceSub, Int.reduceLE, Int.reduceLT, Int.reduceEq, Int.reduceBEq, Int.reduceBNe, Int.reduceToNat, Int.reduceNeg, Nat.reduceBNe, List.length_take, List.length_map, Nat.min_self, st81, i64A, ws, hil']
      exact h
  · refine c79n p g hn hp f t he ?_
    rw [bes, if_pos he] at h
    simp only [OI, ↓reduceIte, reduceCtorEq, Nat.reduceAdd, Nat.reduceEqDiff, Nat.reduceBEq, Nat.reduceLT, Nat.reduceLeDiff, Nat.reduceMul, Nat.reduceSub, Int.reduceLE, Int.reduceLT, Int.reduceEq, Int.reduceBEq, Int.reduceBNe, Int.reduceToNat, Int.reduceNeg, Nat.reduceBNe, i64A, bneT he]
    exact h
theorem c83 (p : Pn) (g : Gr) (hn : NmOk g) (hp : SmallP p) (f t a : Int) {Q : AV → Al → Prop} (h : Q (.tup [i64A (bes p g f t a (-1)).1, i64A (bes p g f t a (-1)).2]) []) : ACalls Try.prog 83 [] [plA p, gA g, i64A f, i64A t, i64A a] Q := by
  refine ok83.N hmix rfl ?_
  intro I
  simp only [cc83, OI, ↓reduceIte, reduceCtorEq, Nat.reduceAdd, Nat.reduceEqDiff, Nat.reduceBEq, Nat.reduceLT, Nat.reduceLeDiff, Nat.reduceMul, Nat.reduceSub, Int.reduceLE, Int.reduceLT, Int.reduceEq, Int.reduceBEq, Int.reduceBNe, Int.reduceToNat, Int.reduceNeg, Nat.reduceBNe, plA, gA, i64A]
  by_cases he : wayE p g f t = 0
  · refine c79 p g hn hp f t he ?_
    have hlen := wayL_len hp he
    obtain ⟨h2, hw0⟩ := wayL_two (p := p) (g := g) (f := f) (t := t)
    have htl := wayL_tail he
    rw [bes, if_neg (by simpa using he)] at h
    generalize wayL p g f t = w at h hlen h2 hw0 htl
    simp only [OI, ↓reduceIte, reduceCtorEq, Nat.reduceAdd, Nat.reduceEqDiff, Nat.reduceBEq, Nat.reduceLT, Nat.reduceLeDiff, Nat.reduceMul, Nat.reduceSub, Int.reduceLE, Int.reduceLT, Int.reduceEq, Int.reduceBEq, Int.reduceBNe, Int.reduceToNat, Int.reduceNeg, Nat.reduceBNe, i64A, bneF rfl]
    refine W_loop (st81 I w a) (fun i => 1 ≤ i ∧ i ≤ w.length ∧ ∀ (j : Nat) y, 1 ≤ j → j < i → w[j]? = some y → eqZ a y = false) (fun i => w.length - i) (fun _ _ => rfl) ⟨1, ⟨by omega, by omega, fun j y hj => by omega⟩, ?_⟩ ?_
    · simp only [OI, ↓reduceIte, reduceCtorEq, Nat.reduceAdd, Nat.reduceEqDiff, Nat.reduceBEq, Nat.reduceLT, Nat.reduceLeDiff, Nat.reduceMul, Nat.reduceSub, Int.reduceLE, Int.reduceLT, Int.reduceEq, Int.reduceBEq, Int.reduceBNe, Int.reduceToNat, Int.reduceNeg, Nat.reduceBNe, List.length_take, List.length_map, Nat.min_self, st81, i64A]
      try rfl
    rintro i ⟨hi1, hi, hall⟩
    refine W_of_N ok83.small hmix ?_
    by_cases hil : i < w.length
    · have hil' : (i : Int) < w.length := by omega
      have i0 : (0 : Int) ≤ i := by omega
      have i2 : (0 : Int) ≤ ((i - 1 : Nat) : Int) := by omega
      have i3 : ((i - 1 : Nat) : Int) < w.length := by omega
      have hgi : w[i]? = some w[i] := List.getElem?_eq_getElem (by omega)
      have hgn : w[i - 1]? = some w[i - 1] := List.getElem?_eq_getElem (by omega)
      have w1 : IntKind.i64.wrap ((i : Int) + 1) = ((i + 1 : Nat) : Int) := by rw [wrI64 (by omega) (by omega)]; omega
      have w2 : IntKind.i64.wrap ((i : Int) - 1) = ((i - 1 : Nat) : Int) := by rw [wrI64 (by omega) (by omega)]; omega
      generalize w[i] = y at hgi
      generalize w[i - 1] = z at hgn
      by_cases hy : y = a
      · subst hy
        have nyf := htl i y hi1 hgi
        have e := idxP_at (P := eqZ y) hgi (by simp [eqZ]) (fun j x hj hx => by
          by_cases hj1 : 1 ≤ j
          · exact hall j x hj1 hj hx
          · obtain rfl : j = 0 := by omega
            rw [hw0] at hx
            obtain rfl := Option.some.inj hx
            simpa [eqZ] using fun e => nyf e.symm)
        rw [besV, e, if_neg (by omega)] at h
        have e2 : ((i : Int) + -1).toNat = i - 1 := by omega
        rw [e2, List.getD, hgn] at h
        simp only [OI, ↓reduceIte, reduceCtorEq, Nat.reduceAdd, Nat.reduceEqDiff, Nat.reduceBEq, Nat.reduceLT, Nat.reduceLeDiff, Nat.reduceMul, Nat.reduceSub, Int.reduceLE, Int.reduceLT, Int.reduceEq, Int.reduceBEq, Int.reduceBNe, Int.reduceToNat, Int.reduceNeg, Nat.reduceBNe, List.length_take, List.length_map, Nat.min_self, st81, i64A, hil', i0, hgi, beq_self_eq_true, w2, i2, i3, Int.toNat_natCast, hgn]
        exact h
      · simp only [OI, ↓reduceIte, reduceCtorEq, Nat.reduceAdd, Nat.reduceEqDiff, Nat.reduceBEq, Nat.reduceLT, Nat.reduceLeDiff, Nat.reduceMul, Nat.reduceSub, Int.reduceLE, Int.reduceLT, Int.reduceEq, Int.reduceBEq, Int.reduceBNe, Int.reduceToNat, Int.reduceNeg, Nat.reduceBNe, List.length_take, List.length_map, Nat.min_self, st81, i64A, hil', i0, hgi, beqF hy, w1]
        refine ⟨i + 1, ⟨⟨by omega, by omega, fun j z hj1 hj hz => ?_⟩, by omega⟩, ?_⟩
        · by_cases hji : j = i
          · subst hji; rw [hgi] at hz; obtain rfl := Option.some.inj hz; simpa [eqZ] using hy
          · exact hall j z hj1 (by omega) hz
        · simp only [OI, ↓reduceIte, reduceCtorEq, Nat.reduceAdd, Nat.reduceEqDiff, Nat.reduceBEq, Nat.reduceLT, Nat.reduceLeDiff, Nat.reduceMul, Nat.reduceSub, Int.reduceLE, Int.reduceLT, Int.reduceEq, Int.reduceBEq, Int.reduceBNe, Int.reduceToNat, Int.reduceNeg, Nat.reduceBNe, List.length_take, List.length_map, Nat.min_self, st81, i64A]
          try rfl
    · obtain rfl : i = w.length := by omega
      have hk : idxP w (eqZ a) < 0 ∨ idxP w (eqZ a) + -1 < 0 ∨ (w.length : Int) ≤ idxP w (eqZ a) + -1 := by
        by_cases k0 : idxP w (eqZ a) < 0
        · exact .inl k0
        · obtain ⟨x, hx, hpx⟩ := idxP_get (l := w) (P := eqZ a) (by omega)
          refine .inr (.inl ?_)
          have hlt := (List.getElem?_eq_some_iff.1 hx).1
          have : ¬ 1 ≤ (idxP w (eqZ a)).toNat := fun h1 => by
            have := hall _ x h1 hlt hx
            rw [hpx] at this; cases this
          omega
      rw [besV, if_pos hk] at h
      simp only [OI, ↓reduceIte, reduceCtorEq, Nat.reduceAdd, Nat.reduceEqDiff, Nat.reduceBEq, Nat.reduceLT, Nat.reduceLeDiff, Nat.reduceMul, Nat.reduceSub, Int.reduceLE, Int.reduceLT, Int.reduceEq, Int.reduceBEq, Int.reduceBNe, Int.reduceToNat, Int.reduceNeg, Nat.reduceBNe, List.length_take, List.length_map, Nat.min_self, st81, i64A, Int.lt_irrefl]
      exact h
  · refine c79n p g hn hp f t he ?_
    rw [bes, if_pos he] at h
    simp only [OI, ↓reduceIte, reduceCtorEq, Nat.reduceAdd, Nat.reduceEqDiff, Nat.reduceBEq, Nat.reduceLT, Nat.reduceLeDiff, Nat.reduceMul, Nat.reduceSub, Int.reduceLE, Int.reduceLT, Int.reduceEq, Int.reduceBEq, Int.reduceBNe, Int.reduceToNat, Int.reduceNeg, Nat.reduceBNe, i64A, bneT he]
    exact h
end Go.Proofs.Ythlehngbadianaa.Ow
