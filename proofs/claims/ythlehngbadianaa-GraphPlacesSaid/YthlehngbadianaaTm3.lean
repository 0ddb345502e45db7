/- What the functions of the program do, each once: contracts of the logic (part m3). -/
import Derived.Test.YthlehngbadianaaTm2
import Derived.Test.YthlehngbadianaaTdt
set_option linter.unusedVariables false
set_option linter.unusedSimpArgs false
set_option linter.unnecessarySimpa false
set_option maxRecDepth 100000
set_option maxHeartbeats 4000000
namespace Go.Proofs.Ythlehngbadianaa.Ow
open Go Go.RowKit Go.Proofs
/- watershed/watershedlaw05.From -/
def cc49 : CC := (.seq (.region [⟨none, 1, (.box 0), [0], none, []⟩, ⟨none, 2, (.alloc (.agg #[(.int .i64 0), (.int .i64 0), (.int .u32 0), (.int .u32 0), (.int .u32 0), (.int .u32 0), (.int .i64 0), (.int .u32 0), (.int .u32 0), (.int .u32 0)])), [], none, []⟩]) (.seq (.region [⟨none, 3, (.val (.fa (.s 1) 0)), [], none, []⟩, ⟨none, 4, (.val (.ld (.s 3) none)), [3], none, []⟩, ⟨none, 5, (.val (.fa (.s 1) 1)), [], none, []⟩, ⟨none, 6, (.val (.ld (.s 5) none)), [5], none, []⟩, ⟨none, 7, (.val (.fa (.s 1) 2)), [], none, []⟩, ⟨none, 8, (.val (.ld (.s 7) (some 4))), [7], none, []⟩, ⟨none, 9, (.val (.fa (.s 1) 6)), [], none, []⟩, ⟨none, 10, (.val (.ld (.s 9) none)), [9], none, []⟩, ⟨none, 11, (.val (.fa (.s 1) 7)), [1], none, []⟩, ⟨none, 12, (.val (.ld (.s 11) (some 3))), [11], none, []⟩, ⟨none, 13, (.val (.bld [(.int .i64 0), (.int .i64 0), (.int .u32 0), (.int .u32 0), (.int .u32 0), (.int .u32 0), (.int .i64 0), (.int .u32 0), (.int .u32 0), (.int .u32 0)] [(0, (1, (.s 4))), (1, (1, (.s 6))), (2, (4, (.s 8))), (6, (1, (.s 10))), (7, (3, (.s 12)))])), [4, 6, 8, 10, 12], none, []⟩, ⟨none, 0, (.store 10 (.s 2) (.s 13)), [13], none, []⟩]) .ret))
theorem ok49 : FnOk Try.prog 49 cc49 [(.c 2 92 (some 10))] 1 14 := ⟨⟨_, Try.func49, by kernel_rfl, by kernel_rfl, by kernel_rfl⟩, by decide, by decide⟩

/- watershed/watershedref09.Fits -/
def cc51 : CC := (.seq (.region [⟨none, 3, (.box 0), [0], none, []⟩, ⟨none, 5, (.box 2), [2], none, []⟩, ⟨none, 6, (.val (.mv (.c (.bool false)))), [6], none, []⟩]) (.seq (.region [⟨none, 12, (.val (.ld (.s 3) (some 4))), [], none, []⟩, ⟨none, 13, (.val (.mv (.s 1))), [1], none, []⟩, ⟨none, 14, (.callP 46 [(.s 12), (.s 13)]), [12, 13], none, []⟩, ⟨none, 11, (.val (.mv (.s 14))), [14], none, []⟩, ⟨none, 15, (.val (.ext (.s 11) 0)), [], none, []⟩, ⟨none, 16, (.val (.ext (.s 11) 1)), [], none, []⟩, ⟨none, 17, (.val (.ext (.s 11) 2)), [11], none, []⟩, ⟨none, 7, (.val (.mv (.s 15))), [15], none, []⟩, ⟨none, 8, (.val (.mv (.s 16))), [16], none, []⟩, ⟨none, 9, (.val (.mv (.s 17))), [17], none, []⟩]) (.seq (.seq (.region [⟨none, 18, (.val (.mv (.s 9))), [9], none, []⟩, ⟨none, 19, (.val (.bin .neq (.s 18) (.c (.int .i64 0)))), [18], none, []⟩, ⟨none, 20, (.val (.mv (.s 19))), [19], none, []⟩, ⟨(some (20, false)), 21, (.val (.ld (.s 5) (some 5))), [], none, []⟩, ⟨(some (20, false)), 22, (.callP 117 [(.s 21)]), [21], none, []⟩, ⟨(some (20, false)), 23, (.val (.bin .neq (.s 22) (.c (.int .i64 0)))), [22], none, []⟩, ⟨none, 24, (.val (.pick (.s 20) (.c (.bool true)) (.s 23))), [20, 23], none, []⟩, ⟨none, 25, (.val (.mv (.s 24))), [24], none, []⟩, ⟨(some (25, false)), 26, (.val (.fa (.s 5) 1)), [], none, []⟩, ⟨(some (25, false)), 27, (.val (.ld (.s 26) none)), [26], none, []⟩, ⟨(some (25, false)), 28, (.val (.mv (.s 8))), [], none, []⟩, ⟨(some (25, false)), 29, (.val (.bin .neq (.s 27) (.s 28))), [27, 28], none, []⟩, ⟨none, 30, (.val (.pick (.s 25) (.c (.bool true)) (.s 29))), [25, 29], none, []⟩]) (.cond (.s 30) (.seq (.region [⟨none, 6, (.val (.mv (.c (.bool false)))), [3, 5, 7, 8, 30], none, []⟩]) .ret) .skip)) (.seq (.seq (.region [⟨none, 31, (.val (.mv (.s 8))), [8, 30], none, []⟩, ⟨none, 32, (.val (.bin .sub (.s 31) (.c (.int .i64 1)))), [31], none, []⟩, ⟨none, 10, (.val (.mv (.s 32))), [32], none, []⟩]) (.block 0 (.loop (.seq (.seq (.region [⟨none, 33, (.val (.mv (.s 10))), [], none, []⟩, ⟨none, 34, (.val (.bin .geq (.s 33) (.c (.int .i64 0)))), [33], none, []⟩]) (.cond (.s 34) .skip (.exit 0))) (.seq (.block 1 (.seq (.seq (.region [⟨none, 37, (.val (.mv (.s 10))), [34], none, []⟩, ⟨none, 38, (.val (.fa (.s 5) 2)), [], none, []⟩, ⟨none, 39, (.val (.iaa (.s 38) (.s 37) 3 1)), [37, 38], none, []⟩, ⟨none, 40, (.val (.ld (.s 39) none)), [39], none, []⟩, ⟨none, 41, (.val (.cvi .i64 (.s 40))), [40], none, []⟩, ⟨none, 42, (.val (.fa (.s 3) 1)), [], none, []⟩, ⟨none, 43, (.val (.ld (.s 42) none)), [42], none, []⟩, ⟨none, 44, (.val (.mv (.s 7))), [], none, []⟩, ⟨none, 45, (.val (.ia (.s 43) (.s 44) 3)), [43, 44], none, []⟩, ⟨none, 46, (.val (.fa (.s 45) 2)), [45], none, []⟩, ⟨none, 47, (.val (.ld (.s 46) none)), [46], none, []⟩, ⟨none, 48, (.val (.bin .geq (.s 41) (.s 47))), [41, 47], none, []⟩]) (.cond (.s 48) (.seq (.region [⟨none, 6, (.val (.mv (.c (.bool false)))), [3, 5, 7, 10, 48], none, []⟩]) .ret) .skip)) (.region [⟨none, 49, (.val (.fa (.s 3) 1)), [48], none, []⟩, ⟨none, 50, (.val (.ld (.s 49) none)), [49], none, []⟩, ⟨none, 51, (.val (.mv (.s 7))), [7], none, []⟩, ⟨none, 52, (.val (.ia (.s 50) (.s 51) 3)), [50, 51], none, []⟩, ⟨none, 53, (.val (.fa (.s 52) 1)), [52], none, []⟩, ⟨none, 54, (.val (.ld (.s 53) none)), [53], none, []⟩, ⟨none, 7, (.val (.mv (.s 54))), [54], none, []⟩]))) (.region [⟨none, 35, (.val (.mv (.s 10))), [10], none, []⟩, ⟨none, 36, (.val (.bin .sub (.s 35) (.c (.int .i64 1)))), [35], none, []⟩, ⟨none, 10, (.val (.mv (.s 36))), [36], none, []⟩])))))) (.seq (.region [⟨none, 6, (.val (.mv (.c (.bool true)))), [3, 5, 7, 10, 34], none, []⟩]) .ret)))))
theorem ok51 : FnOk Try.prog 51 cc51 [(.t 6)] 3 55 := ⟨⟨_, Try.func51, by kernel_rfl, by kernel_rfl, by kernel_rfl⟩, by decide, by decide⟩


theorem c49 (p : P7) {Q : AV → Al → Prop} (h : Q (pA p) []) : ACalls Try.prog 49 [] [pA p] Q := by
  refine ok49.N hmix rfl ?_
  intro I
  simp only [cc49, OI0, OI1, OI2, OI3, OI4, OI5, OI6, OI7, OI8, OI9, OI10, OI11, OI12, ↓reduceIte, reduceCtorEq, Nat.reduceAdd, Nat.reduceEqDiff, Nat.reduceBEq, Nat.reduceLT, Nat.reduceLeDiff, Nat.reduceMul, Nat.reduceSub, Int.reduceLE, Int.reduceLT, Int.reduceEq, Int.reduceBEq, Int.reduceBNe, Int.reduceToNat, Int.reduceNeg, Nat.reduceBNe, forall_eq_or_imp, pA]
  exact h
def rndAt (lo : List Lo) (i : Int) : Int := match lo[i.toNat]? with | some l => l.2.2 | none => 1
def nth3 (x y z : Int) (n : Nat) : Int := if n = 0 then x else if n = 1 then y else z
def fitN (lo : List Lo) (x y z : Int) : Nat → Int → Bool
  | 0, _ => true
  | n + 1, k => if rndAt lo k ≤ nth3 x y z n then false else fitN lo x y z n (upAt lo k)
def fitR (g : Gr) (loc ep d x y z : Int) : Bool :=
  if (scR g loc).2.2 ≠ 0 then false else if chkT ep d x y z ≠ 0 then false else if d ≠ (scR g loc).2.1 then false else fitN g.lo x y z d.toNat (scR g loc).1
def st51 (I : World → Fp → Value → Fp → Prop) (g : Gr) (ep d x y z : Int) (a : Nat × Int) : St :=
  ⟨[(10, .v (.int .i64 ((a.1 : Int) - 1))), (7, .v (.int .i64 a.2)), (5, .ref ⟨1005, [], 0⟩), (3, .ref ⟨1003, [], 0⟩)], [(1005, tmI ep d x y z), (1003, gA g), (9999, .ext I)], []⟩
theorem deepN_up {lo : List Lo} {N : Nat} (hW : WfL lo N) {k : Int} {n : Nat} (hk : k < N) (h : deepN lo k = (n + 1 : Nat)) : 0 ≤ k ∧ upAt lo k < k ∧ deepN lo (upAt lo k) = n ∧ -1 ≤ upAt lo k := by
  have h0 : 0 ≤ k := by
    rcases Int.lt_or_le k 0 with h1 | h1
    · rw [deepN_neg h1] at h; omega
    · exact h1
  obtain ⟨l, hl, a, b⟩ := hW k.toNat (by omega)
  have hu : upAt lo k = l.2.1 := by simp only [upAt, hl]
  have hlt : upAt lo k < k := by omega
  rw [deepN_pos h0 hlt] at h
  exact ⟨h0, hlt, by omega, by omega⟩
theorem chkT0 {ep d x y z : Int} (h : chkT ep d x y z = 0) : 0 ≤ d ∧ d ≤ 3 ∧ ep ≤ 1048576 ∧ x ≤ 1048576 ∧ y ≤ 1048576 ∧ z ≤ 1048576 := by
  unfold chkT at h
  split at h
  · cases h
  split at h
  · cases h
  omega
theorem c51 (g : Gr) (hn : NmOk g) (loc : Int) (ep d x y z : Int) (hx : 0 ≤ x) (hy : 0 ≤ y) (hz : 0 ≤ z) {Q : AV → Al → Prop} (h : Q (.v (.bool (fitR g loc ep d x y z))) []) : ACalls Try.prog 51 [] [gA g, i64A loc, tmI ep d x y z] Q := by
  refine ok51.N hmix rfl ?_
  intro I
  simp only [cc51, OI0, OI1, OI2, OI3, OI4, OI5, OI6, OI7, OI8, OI9, OI10, OI11, OI12, ↓reduceIte, reduceCtorEq, Nat.reduceAdd, Nat.reduceEqDiff, Nat.reduceBEq, Nat.reduceLT, Nat.reduceLeDiff, Nat.reduceMul, Nat.reduceSub, Int.reduceLE, Int.reduceLT, Int.reduceEq, Int.reduceBEq, Int.reduceBNe, Int.reduceToNat, Int.reduceNeg, Nat.reduceBNe, forall_eq_or_imp, gA, i64A, tmI]
  refine c46f g hn loc ?_
  by_cases h2 : (scR g loc).2.2 = 0
  · simp only [OI0, OI1, OI2, OI3, OI4, OI5, OI6, OI7, OI8, OI9, OI10, OI11, OI12, ↓reduceIte, reduceCtorEq, Nat.reduceAdd, Nat.reduceEqDiff, Nat.reduceBEq, Nat.reduceLT, Nat.reduceLeDiff, Nat.reduceMul, Nat.reduceSub, Int.reduceLE, Int.reduceLT, Int.reduceEq, Int.reduceBEq, Int.reduceBNe, Int.reduceToNat, Int.reduceNeg, Nat.reduceBNe, forall_eq_or_imp, i64A, bneF h2]
    refine c117 ep d x y z ?_
    by_cases h3 : chkT ep d x y z = 0
    · simp only [OI0, OI1, OI2, OI3, OI4, OI5, OI6, OI7, OI8, OI9, OI10, OI11, OI12, ↓reduceIte, reduceCtorEq, Nat.reduceAdd, Nat.reduceEqDiff, Nat.reduceBEq, Nat.reduceLT, Nat.reduceLeDiff, Nat.reduceMul, Nat.reduceSub, Int.reduceLE, Int.reduceLT, Int.reduceEq, Int.reduceBEq, Int.reduceBNe, Int.reduceToNat, Int.reduceNeg, Nat.reduceBNe, forall_eq_or_imp, i64A, bneF h3]
      by_cases h4 : d = (scR g loc).2.1
      · have hb := chkT0 h3
        simp only [OI0, OI1, OI2, OI3, OI4, OI5, OI6, OI7, OI8, OI9, OI10, OI11, OI12, ↓reduceIte, reduceCtorEq, Nat.reduceAdd, Nat.reduceEqDiff, Nat.reduceBEq, Nat.reduceLT, Nat.reduceLeDiff, Nat.reduceMul, Nat.reduceSub, Int.reduceLE, Int.reduceLT, Int.reduceEq, Int.reduceBEq, Int.reduceBNe, Int.reduceToNat, Int.reduceNeg, Nat.reduceBNe, forall_eq_or_imp, i64A, bneF h4]
        have hc : chk g = 0 := by
          rcases Decidable.em (chk g = 0) with hc | hc
          · exact hc
          · rw [scR, if_pos hc] at h2; exact absurd h2 hc
        have hl : ¬ (loc < 0 ∨ 2 * (g.op.length : Int) ≤ loc) := by
          intro hh
          rw [scR, if_neg (by simpa using hc), if_pos hh] at h2; cases h2
        have hF := chk0 hc
        obtain ⟨o, ho⟩ : ∃ o, g.op[(loc / 2).toNat]? = some o := ⟨_, List.getElem?_eq_getElem (by omega)⟩
        have hs : scL g loc = loopA g o (loc % 2).toNat := by simp only [scL, ho]
        have hin := loopA_in hF ho (loc % 2).toNat
        rw [← hs] at hin
        have hR : scR g loc = (scL g loc, deepN g.lo (scL g loc), 0) := by rw [scR, if_neg (by simpa using hc), if_neg hl]
        have hlo6 := hF.lo6
        simp only [fitR, h2, h3, ← h4, ne_eq, not_true_eq_false, if_false] at h
        obtain ⟨n, rfl⟩ : ∃ n : Nat, d = n := ⟨d.toNat, by omega⟩
        have w1 : IntKind.i64.wrap ((scR g loc).2.1 - 1) = (n : Int) - 1 := by rw [← h4]; exact wrI64 (by omega) (by omega)
        simp only [OI0, OI1, OI2, OI3, OI4, OI5, OI6, OI7, OI8, OI9, OI10, OI11, OI12, ↓reduceIte, reduceCtorEq, Nat.reduceAdd, Nat.reduceEqDiff, Nat.reduceBEq, Nat.reduceLT, Nat.reduceLeDiff, Nat.reduceMul, Nat.reduceSub, Int.reduceLE, Int.reduceLT, Int.reduceEq, Int.reduceBEq, Int.reduceBNe, Int.reduceToNat, Int.reduceNeg, Nat.reduceBNe, forall_eq_or_imp, w1]
        refine W_loop (st51 I g ep n x y z) (fun a => a.1 ≤ 3 ∧ deepN g.lo a.2 = a.1 ∧ -1 ≤ a.2 ∧ a.2 < g.lo.length ∧ fitN g.lo x y z n (scR g loc).1 = fitN g.lo x y z a.1 a.2) (fun a => a.1) (fun _ _ => rfl) ⟨(n, (scR g loc).1), ⟨by simp only; omega, by rw [hR] at h4 ⊢; exact h4.symm, by rw [hR]; exact hin.1, by rw [hR]; exact hin.2, rfl⟩, ?_⟩ ?_
        · simp only [OI0, OI1, OI2, OI3, OI4, OI5, OI6, OI7, OI8, OI9, OI10, OI11, OI12, ↓reduceIte, reduceCtorEq, Nat.reduceAdd, Nat.reduceEqDiff, Nat.reduceBEq, Nat.reduceLT, Nat.reduceLeDiff, Nat.reduceMul, Nat.reduceSub, Int.reduceLE, Int.reduceLT, Int.reduceEq, Int.reduceBEq, Int.reduceBNe, Int.reduceToNat, Int.reduceNeg, Nat.reduceBNe, forall_eq_or_imp, st51, gA, tmI]
          try rfl
        rintro ⟨m, k⟩ ⟨a1, a2, a3, a4, a5⟩
        simp only at a1 a2 a3 a4 a5
        refine W_of_N ok51.small hmix ?_
        rcases m with _ | m
        · simp only [OI0, OI1, OI2, OI3, OI4, OI5, OI6, OI7, OI8, OI9, OI10, OI11, OI12, ↓reduceIte, reduceCtorEq, Nat.reduceAdd, Nat.reduceEqDiff, Nat.reduceBEq, Nat.reduceLT, Nat.reduceLeDiff, Nat.reduceMul, Nat.reduceSub, Int.reduceLE, Int.reduceLT, Int.reduceEq, Int.reduceBEq, Int.reduceBNe, Int.reduceToNat, Int.reduceNeg, Nat.reduceBNe, forall_eq_or_imp, st51, gA, tmI]
          rw [Int.toNat_natCast, a5] at h
          exact h
        · obtain ⟨k0, k1, k2, k3⟩ := deepN_up hF.wf a4 a2
          obtain ⟨l, hll, _, _⟩ := hF.wf k.toNat (by omega)
          have hup : upAt g.lo k = l.2.1 := by simp only [upAt, hll]
          have hrn : rndAt g.lo k = l.2.2 := by simp only [rndAt, hll]
          have hr8 := (chk_lo hc k.toNat l hll).2
          rw [hup] at k1 k2 k3
          have ww : ∀ t : Int, 0 ≤ t → t ≤ 1048576 → IntKind.i64.wrap t = t := fun t _ _ => wrI64 (by omega) (by omega)
          have wx := ww x hx hb.2.2.2.1
          have wy := ww y hy hb.2.2.2.2.1
          have wz := ww z hz hb.2.2.2.2.2
          simp only [fitN, hup, hrn] at a5
          have hm : m = 0 ∨ m = 1 ∨ m = 2 := by omega
          have s1 : (1 : Int) - 1 = 0 := rfl
          have s2 : (2 : Int) - 1 = 1 := rfl
          have s3 : (3 : Int) - 1 = 2 := rfl
          have v0 : IntKind.i64.wrap 0 = 0 := rfl
          have v1 : IntKind.i64.wrap 1 = 1 := rfl
          rcases hm with rfl | rfl | rfl
          · have e0 : ((0 + 1 : Nat) : Int) - 1 = 0 := by omega
            have w0 : IntKind.i64.wrap (0 - 1) = -1 := wrI64 (by omega) (by omega)
            by_cases ht : l.2.2 ≤ x
            · rw [if_pos (by simpa [nth3] using ht)] at a5
              simp only [OI0, OI1, OI2, OI3, OI4, OI5, OI6, OI7, OI8, OI9, OI10, OI11, OI12, ↓reduceIte, reduceCtorEq, Nat.reduceAdd, Nat.reduceEqDiff, Nat.reduceBEq, Nat.reduceLT, Nat.reduceLeDiff, Nat.reduceMul, Nat.reduceSub, Int.reduceLE, Int.reduceLT, Int.reduceEq, Int.reduceBEq, Int.reduceBNe, Int.reduceToNat, Int.reduceNeg, Nat.reduceBNe, forall_eq_or_imp, st51, gA, tmI, e0, w0, s1, s2, s3, v0, v1, wx, ht, hll, loA, k0, a4]
              rw [Int.toNat_natCast, a5] at h
              exact h
            · rw [if_neg (by simpa [nth3] using ht)] at a5
              simp only [OI0, OI1, OI2, OI3, OI4, OI5, OI6, OI7, OI8, OI9, OI10, OI11, OI12, ↓reduceIte, reduceCtorEq, Nat.reduceAdd, Nat.reduceEqDiff, Nat.reduceBEq, Nat.reduceLT, Nat.reduceLeDiff, Nat.reduceMul, Nat.reduceSub, Int.reduceLE, Int.reduceLT, Int.reduceEq, Int.reduceBEq, Int.reduceBNe, Int.reduceToNat, Int.reduceNeg, Nat.reduceBNe, forall_eq_or_imp, st51, gA, tmI, e0, w0, s1, s2, s3, v0, v1, wx, ht, hll, loA, k0, a4]
              refine ⟨(0, l.2.1), ⟨⟨by simp only; omega, by simpa using k2, by simp only; omega, by simp only; omega, by simpa using a5⟩, by simp⟩, ?_⟩
              simp only [OI0, OI1, OI2, OI3, OI4, OI5, OI6, OI7, OI8, OI9, OI10, OI11, OI12, ↓reduceIte, reduceCtorEq, Nat.reduceAdd, Nat.reduceEqDiff, Nat.reduceBEq, Nat.reduceLT, Nat.reduceLeDiff, Nat.reduceMul, Nat.reduceSub, Int.reduceLE, Int.reduceLT, Int.reduceEq, Int.reduceBEq, Int.reduceBNe, Int.reduceToNat, Int.reduceNeg, Nat.reduceBNe, forall_eq_or_imp, st51, gA, tmI, loA, s1, s2, s3]
              try rfl
          · have e0 : ((1 + 1 : Nat) : Int) - 1 = 1 := by omega
            have w0 : IntKind.i64.wrap (1 - 1) = 0 := wrI64 (by omega) (by omega)
            by_cases ht : l.2.2 ≤ y
            · rw [if_pos (by simpa [nth3] using ht)] at a5
              simp only [OI0, OI1, OI2, OI3, OI4, OI5, OI6, OI7, OI8, OI9, OI10, OI11, OI12, ↓reduceIte, reduceCtorEq, Nat.reduceAdd, Nat.reduceEqDiff, Nat.reduceBEq, Nat.reduceLT, Nat.reduceLeDiff, Nat.reduceMul, Nat.reduceSub, Int.reduceLE, Int.reduceLT, Int.reduceEq, Int.reduceBEq, Int.reduceBNe, Int.reduceToNat, Int.reduceNeg, Nat.reduceBNe, forall_eq_or_imp, st51, gA, tmI, e0, w0, s1, s2, s3, v0, v1, wy, ht, hll, loA, k0, a4]
              rw [Int.toNat_natCast, a5] at h
              exact h
            · rw [if_neg (by simpa [nth3] using ht)] at a5
              simp only [OI0, OI1, OI2, OI3, OI4, OI5, OI6, OI7, OI8, OI9, OI10, OI11, OI12, ↓reduceIte, reduceCtorEq, Nat.reduceAdd, Nat.reduceEqDiff, Nat.reduceBEq, Nat.reduceLT, Nat.reduceLeDiff, Nat.reduceMul, Nat.reduceSub, Int.reduceLE, Int.reduceLT, Int.reduceEq, Int.reduceBEq, Int.reduceBNe, Int.reduceToNat, Int.reduceNeg, Nat.reduceBNe, forall_eq_or_imp, st51, gA, tmI, e0, w0, s1, s2, s3, v0, v1, wy, ht, hll, loA, k0, a4]
              refine ⟨(1, l.2.1), ⟨⟨by simp only; omega, by simpa using k2, by simp only; omega, by simp only; omega, by simpa using a5⟩, by simp⟩, ?_⟩
              simp only [OI0, OI1, OI2, OI3, OI4, OI5, OI6, OI7, OI8, OI9, OI10, OI11, OI12, ↓reduceIte, reduceCtorEq, Nat.reduceAdd, Nat.reduceEqDiff, Nat.reduceBEq, Nat.reduceLT, Nat.reduceLeDiff, Nat.reduceMul, Nat.reduceSub, Int.reduceLE, Int.reduceLT, Int.reduceEq, Int.reduceBEq, Int.reduceBNe, Int.reduceToNat, Int.reduceNeg, Nat.reduceBNe, forall_eq_or_imp, st51, gA, tmI, loA, s1, s2, s3]
              try rfl
          · have e0 : ((2 + 1 : Nat) : Int) - 1 = 2 := by omega
            have w0 : IntKind.i64.wrap (2 - 1) = 1 := wrI64 (by omega) (by omega)
            by_cases ht : l.2.2 ≤ z
            · rw [if_pos (by simpa [nth3] using ht)] at a5
              simp only [OI0, OI1, OI2, OI3, OI4, OI5, OI6, OI7, OI8, OI9, OI10, OI11, OI12, ↓reduceIte, reduceCtorEq, Nat.reduceAdd, Nat.reduceEqDiff, Nat.reduceBEq, Nat.reduceLT, Nat.reduceLeDiff, Nat.reduceMul, Nat.reduceSub, Int.reduceLE, Int.reduceLT, Int.reduceEq, Int.reduceBEq, Int.reduceBNe, Int.reduceToNat, Int.reduceNeg, Nat.reduceBNe, forall_eq_or_imp, st51, gA, tmI, e0, w0, s1, s2, s3, v0, v1, wz, ht, hll, loA, k0, a4]
              rw [Int.toNat_natCast, a5] at h
              exact h
            · rw [if_neg (by simpa [nth3] using ht)] at a5
              simp only [OI0, OI1, OI2, OI3, OI4, OI5, OI6, OI7, OI8, OI9, OI10, OI11, OI12, ↓reduceIte, reduceCtorEq, Nat.reduceAdd, Nat.reduceEqDiff, Nat.reduceBEq, Nat.reduceLT, Nat.reduceLeDiff, Nat.reduceMul, Nat.reduceSub, Int.reduceLE, Int.reduceLT, Int.reduceEq, Int.reduceBEq, Int.reduceBNe, Int.reduceToNat, Int.reduceNeg, Nat.reduceBNe, forall_eq_or_imp, st51, gA, tmI, e0, w0, s1, s2, s3, v0, v1, wz, ht, hll, loA, k0, a4]
              refine ⟨(2, l.2.1), ⟨⟨by simp only; omega, by simpa using k2, by simp only; omega, by simp only; omega, by simpa using a5⟩, by simp⟩, ?_⟩
              simp only [OI0, OI1, OI2, OI3, OI4, OI5, OI6, OI7, OI8, OI9, OI10, OI11, OI12, ↓reduceIte, reduceCtorEq, Nat.reduceAdd, Nat.reduceEqDiff, Nat.reduceBEq, Nat.reduceLT, Nat.reduceLeDiff, Nat.reduceMul, Nat.reduceSub, Int.reduceLE, Int.reduceLT, Int.reduceEq, Int.reduceBEq, Int.reduceBNe, Int.reduceToNat, Int.reduceNeg, Nat.reduceBNe, forall_eq_or_imp, st51, gA, tmI, loA, s1, s2, s3]
              try rfl
      · simp only [fitR, h2, h3, h4, ne_eq, not_true_eq_false, not_false_eq_true, if_true, if_false] at h
        simp only [OI0, OI1, OI2, OI3, OI4, OI5, OI6, OI7, OI8, OI9, OI10, OI11, OI12, ↓reduceIte, reduceCtorEq, Nat.reduceAdd, Nat.reduceEqDiff, Nat.reduceBEq, Nat.reduceLT, Nat.reduceLeDiff, Nat.reduceMul, Nat.reduceSub, Int.reduceLE, Int.reduceLT, Int.reduceEq, Int.reduceBEq, Int.reduceBNe, Int.reduceToNat, Int.reduceNeg, Nat.reduceBNe, forall_eq_or_imp, i64A, bneT h4]
        exact h
    · simp only [fitR, h2, h3, ne_eq, not_true_eq_false, not_false_eq_true, if_true, if_false] at h
      simp only [OI0, OI1, OI2, OI3, OI4, OI5, OI6, OI7, OI8, OI9, OI10, OI11, OI12, ↓reduceIte, reduceCtorEq, Nat.reduceAdd, Nat.reduceEqDiff, Nat.reduceBEq, Nat.reduceLT, Nat.reduceLeDiff, Nat.reduceMul, Nat.reduceSub, Int.reduceLE, Int.reduceLT, Int.reduceEq, Int.reduceBEq, Int.reduceBNe, Int.reduceToNat, Int.reduceNeg, Nat.reduceBNe, forall_eq_or_imp, i64A, bneT h3]
      exact h
  · simp only [fitR, h2, ne_eq, not_false_eq_true, if_true] at h
    simp only [OI0, OI1, OI2, OI3, OI4, OI5, OI6, OI7, OI8, OI9, OI10, OI11, OI12, ↓reduceIte, reduceCtorEq, Nat.reduceAdd, Nat.reduceEqDiff, Nat.reduceBEq, Nat.reduceLT, Nat.reduceLeDiff, Nat.reduceMul, Nat.reduceSub, Int.reduceLE, Int.reduceLT, Int.reduceEq, Int.reduceBEq, Int.reduceBNe, Int.reduceToNat, Int.reduceNeg, Nat.reduceBNe, forall_eq_or_imp, i64A, bneT h2]
    exact h
end Go.Proofs.Ythlehngbadianaa.Ow
