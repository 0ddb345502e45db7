/- What the functions of the program do, each once: contracts of the logic (part x4). -/
import Derived.Test.YthlehngbadianaaDoorTx3
import Derived.Test.YthlehngbadianaaDoorTxrkj
set_option linter.unusedVariables false
set_option linter.unusedSimpArgs false
set_option linter.unnecessarySimpa false
set_option maxRecDepth 100000
set_option maxHeartbeats 4000000
namespace Go.Proofs.YthlehngbadianaaDoor.Ow
open Go Go.RowKit Go.Proofs
/- watershed/data.Parse -/
def cc1002 : CC := (.seq (.region [⟨none, 2, (.val (.mv (.c (.slice none 0 0)))), [2], none, []⟩, ⟨none, 3, (.val (.mv (.c (.int .i64 0)))), [3], none, []⟩]) (.seq (.seq (.region [⟨none, 14, (.val (.mv (.s 0))), [], none, []⟩, ⟨none, 15, (.val (.bin .eql (.s 14) (.c (.string ⟨#[45]⟩)))), [14], none, []⟩]) (.cond (.s 15) (.seq (.region [⟨none, 2, (.val (.mv (.c (.slice none 0 0)))), [0, 15], none, []⟩, ⟨none, 3, (.val (.mv (.c (.int .i64 0)))), [], none, []⟩]) .ret) .skip)) (.seq (.region [⟨none, 4, (.val (.mv (.c (.slice none 0 0)))), [15], none, []⟩]) (.seq (.seq (.region [⟨none, 16, (.val (.mv (.s 0))), [0], none, []⟩, ⟨none, 17, (.callP 16 [(.s 16), (.c (.string ⟨#[44]⟩))]), [16], none, []⟩, ⟨none, 18, (.val (.lnl (.s 17) 1)), [], none, []⟩, ⟨none, 19, (.val (.mv (.c (.int .i64 0)))), [], none, []⟩]) (.block 0 (.loop (.seq (.region [⟨none, 20, (.val (.bin .lss (.s 19) (.s 18))), [], none, []⟩]) (.seq (.cond (.s 20) .skip (.exit 0)) (.seq (.block 1 (.seq (.region [⟨none, 21, (.val (.ia (.s 17) (.s 19) 1)), [20], none, []⟩, ⟨none, 22, (.val (.ld (.s 21) none)), [21], none, []⟩, ⟨none, 6, (.val (.mv (.s 22))), [22], none, []⟩]) (.seq (.region [⟨none, 24, (.val (.mv (.s 6))), [6], none, []⟩, ⟨none, 25, (.callP 17 [(.s 24), (.c (.string ⟨#[58]⟩))]), [24], none, []⟩, ⟨none, 23, (.val (.mv (.s 25))), [25], none, []⟩, ⟨none, 26, (.val (.ext (.s 23) 0)), [], none, []⟩, ⟨none, 27, (.val (.ext (.s 23) 1)), [], none, []⟩, ⟨none, 28, (.val (.ext (.s 23) 2)), [23], none, []⟩, ⟨none, 7, (.val (.mv (.s 26))), [26], none, []⟩, ⟨none, 8, (.val (.mv (.s 27))), [27], none, []⟩, ⟨none, 9, (.val (.mv (.s 28))), [9, 28], none, []⟩]) (.seq (.region [⟨none, 30, (.val (.mv (.s 7))), [7], none, []⟩, ⟨none, 31, (.callP 18 [(.s 30)]), [30], none, []⟩, ⟨none, 29, (.val (.mv (.s 31))), [31], none, []⟩, ⟨none, 32, (.val (.ext (.s 29) 0)), [], none, []⟩, ⟨none, 33, (.val (.ext (.s 29) 1)), [29], none, []⟩, ⟨none, 10, (.val (.mv (.s 32))), [32], none, []⟩, ⟨none, 11, (.val (.mv (.s 33))), [33], none, []⟩]) (.seq (.region [⟨none, 35, (.val (.mv (.s 8))), [8], none, []⟩, ⟨none, 36, (.callP 18 [(.s 35)]), [35], none, []⟩, ⟨none, 34, (.val (.mv (.s 36))), [36], none, []⟩, ⟨none, 37, (.val (.ext (.s 34) 0)), [], none, []⟩, ⟨none, 38, (.val (.ext (.s 34) 1)), [34], none, []⟩, ⟨none, 12, (.val (.mv (.s 37))), [37], none, []⟩, ⟨none, 13, (.val (.mv (.s 38))), [38], none, []⟩]) (.seq (.seq (.region [⟨none, 39, (.val (.mv (.s 11))), [11], none, []⟩, ⟨none, 40, (.val (.bin .neq (.s 39) (.c (.int .i64 0)))), [39], none, []⟩, ⟨none, 41, (.val (.mv (.s 40))), [40], none, []⟩, ⟨(some (41, false)), 42, (.val (.mv (.s 13))), [13], none, []⟩, ⟨(some (41, false)), 43, (.val (.bin .neq (.s 42) (.c (.int .i64 0)))), [], none, []⟩, ⟨none, 44, (.val (.pick (.s 41) (.c (.bool true)) (.s 43))), [41], none, []⟩]) (.cond (.s 44) (.seq (.region [⟨none, 2, (.val (.mv (.c (.slice none 0 0)))), [4, 10, 12, 17, 18, 19, 42, 43, 44], none, []⟩, ⟨none, 3, (.val (.mv (.c (.int .i64 6)))), [], none, []⟩]) .ret) .skip)) (.region [⟨none, 45, (.val (.mv (.s 4))), [4, 44], none, []⟩, ⟨none, 46, (.val (.mv (.s 10))), [10], none, []⟩, ⟨none, 47, (.val (.mv (.s 12))), [12], none, []⟩, ⟨none, 48, (.val (.bld [(.int .i64 0), (.int .i64 0)] [(0, (1, (.s 46))), (1, (1, (.s 47)))])), [46, 47], none, []⟩, ⟨none, 49, (.lit 2 [(.s 48)]), [48], none, []⟩, ⟨none, 50, (.app 2 16 false (.s 45) (.s 49)), [45, 49], none, []⟩, ⟨none, 4, (.val (.mv (.s 50))), [50], none, []⟩]))))))) (.region [⟨none, 51, (.val (.bin .add (.s 19) (.c (.int .i64 1)))), [19], none, []⟩, ⟨none, 19, (.val (.mv (.s 51))), [51], none, []⟩]))))))) (.seq (.seq (.region [⟨none, 52, (.val (.mv (.s 4))), [17, 18, 19, 20, 42, 43], none, []⟩, ⟨none, 53, (.val (.lnl (.s 52) 2)), [52], none, []⟩, ⟨none, 54, (.val (.bin .gtr (.s 53) (.c (.int .i64 64)))), [53], none, []⟩]) (.cond (.s 54) (.seq (.region [⟨none, 2, (.val (.mv (.c (.slice none 0 0)))), [4, 54], none, []⟩, ⟨none, 3, (.val (.mv (.c (.int .i64 7)))), [], none, []⟩]) .ret) .skip)) (.seq (.region [⟨none, 55, (.val (.mv (.s 4))), [4, 54], none, []⟩, ⟨none, 2, (.val (.mv (.s 55))), [55], none, []⟩, ⟨none, 3, (.val (.mv (.c (.int .i64 0)))), [], none, []⟩]) .ret))))))
theorem ok1002 : FnOk Tryd.prog 5 cc1002 [(.t 2), (.t 3)] 1 56 := ⟨⟨_, Tryd.func5, by kernel_rfl, by kernel_rfl, by kernel_rfl⟩, by decide, by decide⟩
/- watershed/watershedref11.Parse -/
def cc1003 : CC := (.seq (.region [⟨none, 2, (.val (.mv (.c (.slice none 0 0)))), [2], none, []⟩, ⟨none, 3, (.val (.mv (.c (.int .i64 0)))), [3], none, []⟩]) (.seq (.seq (.region [⟨none, 13, (.val (.mv (.s 0))), [], none, []⟩, ⟨none, 14, (.val (.bin .eql (.s 13) (.c (.string ⟨#[45]⟩)))), [13], none, []⟩]) (.cond (.s 14) (.seq (.region [⟨none, 2, (.val (.mv (.c (.slice none 0 0)))), [0, 14], none, []⟩, ⟨none, 3, (.val (.mv (.c (.int .i64 0)))), [], none, []⟩]) .ret) .skip)) (.seq (.region [⟨none, 4, (.val (.mv (.c (.slice none 0 0)))), [14], none, []⟩]) (.seq (.region [⟨none, 5, (.val (.mv (.c (.int .i64 0)))), [], none, []⟩]) (.seq (.seq (.region [⟨none, 6, (.val (.mv (.c (.int .i64 0)))), [], none, []⟩]) (.block 0 (.loop (.seq (.seq (.region [⟨none, 15, (.val (.mv (.s 6))), [], none, []⟩, ⟨none, 16, (.val (.mv (.s 0))), [], none, []⟩, ⟨none, 17, (.val (.lns (.s 16))), [16], none, []⟩, ⟨none, 18, (.val (.bin .leq (.s 15) (.s 17))), [15, 17], none, []⟩]) (.cond (.s 18) .skip (.exit 0))) (.seq (.block 1 (.seq (.seq (.region [⟨none, 21, (.val (.mv (.s 6))), [18], none, []⟩, ⟨none, 22, (.val (.mv (.s 0))), [], none, []⟩, ⟨none, 23, (.val (.lns (.s 22))), [22], none, []⟩, ⟨none, 24, (.val (.bin .lss (.s 21) (.s 23))), [21, 23], none, []⟩, ⟨none, 25, (.val (.mv (.s 24))), [24], none, []⟩, ⟨(some (25, true)), 26, (.val (.mv (.s 0))), [], none, []⟩, ⟨(some (25, true)), 27, (.val (.mv (.s 6))), [], none, []⟩, ⟨(some (25, true)), 28, (.val (.is (.s 26) (.s 27))), [], none, []⟩, ⟨(some (25, true)), 29, (.val (.bin .neq (.s 28) (.c (.int .u8 44)))), [], none, []⟩, ⟨none, 30, (.val (.pick (.s 25) (.s 29) (.c (.bool false)))), [25], none, []⟩]) (.cond (.s 30) (.exit 1) .skip)) (.seq (.region [⟨none, 31, (.val (.mv (.s 0))), [30], none, []⟩, ⟨none, 32, (.val (.mv (.s 5))), [5], none, []⟩, ⟨none, 33, (.val (.mv (.s 6))), [], none, []⟩, ⟨none, 34, (.val (.ss (.s 31) (some (.s 32)) (some (.s 33)))), [31, 32, 33], none, []⟩, ⟨none, 7, (.val (.mv (.s 34))), [34], none, []⟩]) (.seq (.region [⟨none, 35, (.val (.mv (.s 6))), [], none, []⟩, ⟨none, 36, (.val (.bin .add (.s 35) (.c (.int .i64 1)))), [35], none, []⟩, ⟨none, 5, (.val (.mv (.s 36))), [36], none, []⟩]) (.seq (.region [⟨none, 8, (.val (.mv (.c (.int .i64 0)))), [], none, []⟩]) (.seq (.block 2 (.loop (.seq (.seq (.region [⟨none, 37, (.val (.mv (.s 8))), [], none, []⟩, ⟨none, 38, (.val (.mv (.s 7))), [], none, []⟩, ⟨none, 39, (.val (.lns (.s 38))), [38], none, []⟩, ⟨none, 40, (.val (.bin .lss (.s 37) (.s 39))), [37, 39], none, []⟩, ⟨none, 41, (.val (.mv (.s 40))), [40], none, []⟩, ⟨(some (41, true)), 42, (.val (.mv (.s 7))), [], none, []⟩, ⟨(some (41, true)), 43, (.val (.mv (.s 8))), [], none, []⟩, ⟨(some (41, true)), 44, (.val (.is (.s 42) (.s 43))), [], none, []⟩, ⟨(some (41, true)), 45, (.val (.bin .neq (.s 44) (.c (.int .u8 58)))), [], none, []⟩, ⟨none, 46, (.val (.pick (.s 41) (.s 45) (.c (.bool false)))), [41], none, []⟩]) (.cond (.s 46) .skip (.exit 2))) (.block 3 (.region [⟨none, 47, (.val (.mv (.s 8))), [8, 46], none, []⟩, ⟨none, 48, (.val (.bin .add (.s 47) (.c (.int .i64 1)))), [47], none, []⟩, ⟨none, 8, (.val (.mv (.s 48))), [48], none, []⟩]))))) (.seq (.seq (.region [⟨none, 49, (.val (.mv (.s 8))), [46], none, []⟩, ⟨none, 50, (.val (.mv (.s 7))), [], none, []⟩, ⟨none, 51, (.val (.lns (.s 50))), [50], none, []⟩, ⟨none, 52, (.val (.bin .eql (.s 49) (.s 51))), [49, 51], none, []⟩]) (.cond (.s 52) (.seq (.region [⟨none, 2, (.val (.mv (.c (.slice none 0 0)))), [0, 4, 5, 6, 7, 8, 26, 27, 28, 29, 42, 43, 44, 45, 52, 71, 72], none, []⟩, ⟨none, 3, (.val (.mv (.c (.int .i64 6)))), [], none, []⟩]) .ret) .skip)) (.seq (.region [⟨none, 54, (.val (.mv (.s 7))), [52], none, []⟩, ⟨none, 55, (.val (.mv (.s 8))), [], none, []⟩, ⟨none, 56, (.val (.ss (.s 54) none (some (.s 55)))), [54, 55], none, []⟩, ⟨none, 57, (.callP 19 [(.s 56)]), [56], none, []⟩, ⟨none, 53, (.val (.mv (.s 57))), [57], none, []⟩, ⟨none, 58, (.val (.ext (.s 53) 0)), [], none, []⟩, ⟨none, 59, (.val (.ext (.s 53) 1)), [53], none, []⟩, ⟨none, 9, (.val (.mv (.s 58))), [58], none, []⟩, ⟨none, 10, (.val (.mv (.s 59))), [59], none, []⟩]) (.seq (.region [⟨none, 61, (.val (.mv (.s 7))), [7], none, []⟩, ⟨none, 62, (.val (.mv (.s 8))), [8], none, []⟩, ⟨none, 63, (.val (.bin .add (.s 62) (.c (.int .i64 1)))), [62], none, []⟩, ⟨none, 64, (.val (.ss (.s 61) (some (.s 63)) none)), [61, 63], none, []⟩, ⟨none, 65, (.callP 19 [(.s 64)]), [64], none, []⟩, ⟨none, 60, (.val (.mv (.s 65))), [65], none, []⟩, ⟨none, 66, (.val (.ext (.s 60) 0)), [], none, []⟩, ⟨none, 67, (.val (.ext (.s 60) 1)), [60], none, []⟩, ⟨none, 11, (.val (.mv (.s 66))), [66], none, []⟩, ⟨none, 12, (.val (.mv (.s 67))), [67], none, []⟩]) (.seq (.seq (.region [⟨none, 68, (.val (.mv (.s 10))), [10], none, []⟩, ⟨none, 69, (.val (.bin .neq (.s 68) (.c (.int .i64 0)))), [68], none, []⟩, ⟨none, 70, (.val (.mv (.s 69))), [69], none, []⟩, ⟨(some (70, false)), 71, (.val (.mv (.s 12))), [12], none, []⟩, ⟨(some (70, false)), 72, (.val (.bin .neq (.s 71) (.c (.int .i64 0)))), [], none, []⟩, ⟨none, 73, (.val (.pick (.s 70) (.c (.bool true)) (.s 72))), [70], none, []⟩]) (.cond (.s 73) (.seq (.region [⟨none, 2, (.val (.mv (.c (.slice none 0 0)))), [0, 4, 5, 6, 9, 11, 26, 27, 28, 29, 42, 43, 44, 45, 71, 72, 73], none, []⟩, ⟨none, 3, (.val (.mv (.c (.int .i64 6)))), [], none, []⟩]) .ret) .skip)) (.region [⟨none, 74, (.val (.mv (.s 4))), [4, 73], none, []⟩, ⟨none, 75, (.val (.mv (.s 9))), [9], none, []⟩, ⟨none, 76, (.val (.mv (.s 11))), [11], none, []⟩, ⟨none, 77, (.val (.bld [(.int .i64 0), (.int .i64 0)] [(0, (1, (.s 75))), (1, (1, (.s 76)))])), [75, 76], none, []⟩, ⟨none, 78, (.lit 2 [(.s 77)]), [77], none, []⟩, ⟨none, 79, (.app 2 16 false (.s 74) (.s 78)), [74, 78], none, []⟩, ⟨none, 4, (.val (.mv (.s 79))), [79], none, []⟩]))))))))))) (.region [⟨none, 19, (.val (.mv (.s 6))), [6, 30], none, []⟩, ⟨none, 20, (.val (.bin .add (.s 19) (.c (.int .i64 1)))), [19], none, []⟩, ⟨none, 6, (.val (.mv (.s 20))), [20], none, []⟩])))))) (.seq (.seq (.region [⟨none, 80, (.val (.mv (.s 4))), [0, 5, 6, 18, 26, 27, 28, 29, 42, 43, 44, 45, 71, 72], none, []⟩, ⟨none, 81, (.val (.lnl (.s 80) 2)), [80], none, []⟩, ⟨none, 82, (.val (.bin .gtr (.s 81) (.c (.int .i64 64)))), [81], none, []⟩]) (.cond (.s 82) (.seq (.region [⟨none, 2, (.val (.mv (.c (.slice none 0 0)))), [4, 82], none, []⟩, ⟨none, 3, (.val (.mv (.c (.int .i64 7)))), [], none, []⟩]) .ret) .skip)) (.seq (.region [⟨none, 83, (.val (.mv (.s 4))), [4, 82], none, []⟩, ⟨none, 2, (.val (.mv (.s 83))), [83], none, []⟩, ⟨none, 3, (.val (.mv (.c (.int .i64 0)))), [], none, []⟩]) .ret)))))))
theorem ok1003 : FnOk Tryd.prog 6 cc1003 [(.t 2), (.t 3)] 1 84 := ⟨⟨_, Tryd.func6, by kernel_rfl, by kernel_rfl, by kernel_rfl⟩, by decide, by decide⟩
/-- The record that a word says. -/
def recW (w : List UInt8) : Option (Int × Int) := if 58 ∈ w then
    match sgnR (w.takeWhile (· != 58)), sgnR ((w.dropWhile (· != 58)).drop 1) with
    | some a, some b => some (a, b)
    | _, _ => none
  else none
def psL : List (List UInt8) → Option (List (Int × Int))
  | [] => some []
  | w :: ws => match recW w with
    | none => none
    | some r => (psL ws).map (r :: ·)
def prsO (S : List UInt8) : List (Int × Int) × Int := if S = [45] then ([], 0) else match psL (cutL 44 S) with
  | none => ([], 6)
  | some l => if 64 < l.length then ([], 7) else (l, 0)
/-- Records: none, or a list of one's own. -/
def recsO : List (Int × Int) → AV
  | [] => .v (.slice none 0 0)
  | r :: rs => .own 2 ((r :: rs).map recA)
theorem recW_at {a r : List UInt8} (h : 58 ∉ a) : recW (a ++ 58 :: r) = match sgnR a, sgnR r with
    | some a, some b => some (a, b)
    | _, _ => none := by
  have e1 : (a ++ 58 :: r).takeWhile (· != 58) = a := by
    rw [List.takeWhile_append_of_pos (by intro x hx; rw [bne_iff_ne]; rintro rfl; exact h hx)]; simp
  have e2 : (a ++ 58 :: r).dropWhile (· != 58) = 58 :: r := by
    rw [List.dropWhile_append_of_pos (by intro x hx; rw [bne_iff_ne]; rintro rfl; exact h hx)]; simp
  rw [recW, if_pos (by simp), e1, e2]; rfl
theorem recW_no {a : List UInt8} (h : 58 ∉ a) : recW a = none := by rw [recW, if_neg h]
theorem sgn_nil : sgnO [] = (0, 6) := by
  have : sgnR [] = none := by simp [sgnR, natR]
  rw [sgnO, this]
theorem psL_ok : ∀ {ws : List (List UInt8)} {l : List (Int × Int)}, psL ws = some l → l.length = ws.length
  | [], l, h => by cases h; rfl
  | w :: ws, l, h => by
    unfold psL at h
    split at h
    · cases h
    · cases hp : psL ws with
      | none => rw [hp] at h; cases h
      | some l' => rw [hp] at h; cases h; simp [psL_ok hp]
theorem recsO_own {l : List (Int × Int)} (h : l ≠ []) : recsO l = .own 2 (l.map recA) := by
  cases l with
  | nil => exact absurd rfl h
  | cons => rfl
theorem cutL_len (c : UInt8) : ∀ l : List UInt8, (cutL c l).length ≤ l.length + 1
  | [] => by simp [cutL]
  | b :: l => by
    have ih := cutL_len c l
    rw [cutL]
    split
    · simp; omega
    · split
      · simp
      · rename_i x xs hx; rw [hx] at ih; simp at ih ⊢; omega
theorem cutL_sz (c : UInt8) : ∀ (l w : List UInt8), w ∈ cutL c l → w.length ≤ l.length
  | [], w, h => by simp [cutL] at h; simp [h]
  | b :: l, w, h => by
    have ih := cutL_sz c l
    rw [cutL] at h
    split at h
    · rcases List.mem_cons.1 h with rfl | h
      · simp
      · have := ih w h; simp; omega
    · split at h
      · simp at h; subst h; simp
      · rename_i x xs hx
        rcases List.mem_cons.1 h with rfl | h
        · have := ih x (by rw [hx]; simp); simp; omega
        · have := ih w (by rw [hx]; simp [h]); simp; omega
def st1002 (I : World → Fp → Value → Fp → Prop) (ws : List (List UInt8)) : List (Int × Int) × Nat → St
  | (l, i) => ⟨[(19, .v (.int .i64 i)), (18, .v (.int .i64 ws.length)), (17, .lst 1 (strsA ws)), (4, .sl ⟨2050, [], 0⟩ 2 0 l.length)], [(2050, .own 2 (l.map recA)), (9999, .ext I)], []⟩
theorem c1002 (S : List UInt8) (hS : S.length ≤ 5000) {Q : AV → Al → Prop} (h : Q (.tup [recsO (prsO S).1, i64A (prsO S).2]) []) : ACalls Tryd.prog 5 [] [strV S] Q := by
  refine ok1002.N hmix rfl ?_
  intro I
  have e45 : ((⟨S.toArray⟩ : ByteArray).toList == (⟨#[45]⟩ : ByteArray).toList) = decide (S = [45]) := by
    have e : (⟨#[45]⟩ : ByteArray).toList = [45] := ba_toL [45]
    rw [ba_toL, e, Bool.eq_iff_iff, beq_iff_eq, decide_eq_true_eq]
  by_cases hs : S = [45]
  · have hd : decide (S = [45]) = true := decide_eq_true hs
    simp only [cc1002, OI, ↓reduceIte, reduceCtorEq, Nat.reduceAdd, Nat.reduceEqDiff, Nat.reduceBEq, Nat.reduceLT, Nat.reduceLeDiff, Nat.reduceMul, Nat.reduceSub, Int.reduceLE, Int.reduceLT, Int.reduceEq, Int.reduceBEq, Int.reduceBNe, Int.reduceToNat, Int.reduceNeg, Nat.reduceBNe, strV, e45, hd]
    rw [prsO, if_pos hs] at h
    exact h
  have hd : decide (S = [45]) = false := decide_eq_false hs
  simp only [cc1002, OI, ↓reduceIte, reduceCtorEq, Nat.reduceAdd, Nat.reduceEqDiff, Nat.reduceBEq, Nat.reduceLT, Nat.reduceLeDiff, Nat.reduceMul, Nat.reduceSub, Int.reduceLE, Int.reduceLT, Int.reduceEq, Int.reduceBEq, Int.reduceBNe, Int.reduceToNat, Int.reduceNeg, Nat.reduceBNe, strV, e45, hd]
  refine c1008 _ 44 (by rw [ba_size]; omega) ?_
  have e2 : ((cutW 44 ⟨S.toArray⟩).map fun s => AV.v (.string s)) = strsA (cutL 44 S) := by rw [cutW, List.map_map]; rfl
  have e3 : (strsA (cutL 44 S)).length = (cutL 44 S).length := by simp [strsA]
  simp only [OI, ↓reduceIte, reduceCtorEq, Nat.reduceAdd, Nat.reduceEqDiff, Nat.reduceBEq, Nat.reduceLT, Nat.reduceLeDiff, Nat.reduceMul, Nat.reduceSub, Int.reduceLE, Int.reduceLT, Int.reduceEq, Int.reduceBEq, Int.reduceBNe, Int.reduceToNat, Int.reduceNeg, Nat.reduceBNe, e2, e3]
  refine W_nilS 4 2050 2 (by decide) rfl rfl (by decide) rfl ?_
  rw [prsO, if_neg hs] at h
  have hwl := cutL_len 44 S
  have hws := cutL_sz 44 S
  have hne := cutL_ne 44 S
  generalize cutL 44 S = ws at h hwl hws hne
  refine W_loop (st1002 I ws) (fun a => a.2 ≤ ws.length ∧ a.1.length = a.2 ∧ psL ws = (psL (ws.drop a.2)).map (a.1 ++ ·)) (fun a => ws.length - a.2) (fun _ _ => rfl) ⟨([], 0), ⟨by simp, rfl, by simp⟩, ?_⟩ ?_
  · simp only [OI, ↓reduceIte, reduceCtorEq, Nat.reduceAdd, Nat.reduceEqDiff, Nat.reduceBEq, Nat.reduceLT, Nat.reduceLeDiff, Nat.reduceMul, Nat.reduceSub, Int.reduceLE, Int.reduceLT, Int.reduceEq, Int.reduceBEq, Int.reduceBNe, Int.reduceToNat, Int.reduceNeg, Nat.reduceBNe, st1002, strV, strsA]
    try rfl
  rintro ⟨l, i⟩ ⟨hi, hli, hp⟩
  simp only at hi hli hp
  refine W_of_N ok1002.small hmix ?_
  by_cases hil : i < ws.length
  · have hil' : (i : Int) < ws.length := by omega
    have i0 : (0 : Int) ≤ i := by omega
    obtain ⟨w, hw⟩ : ∃ w, ws[i]? = some w := ⟨_, List.getElem?_eq_getElem hil⟩
    have hwz := hws w (List.mem_of_getElem? hw)
    have w1 : IntKind.i64.wrap ((i : Int) + 1) = ((i + 1 : Nat) : Int) := by rw [wrI64 (by omega) (by omega)]; omega
    have hA : (strsA ws)[i]? = some (AV.v (.string ⟨w.toArray⟩)) := by rw [strsA, List.getElem?_map, hw]; rfl
    have hAl : (strsA ws).length = ws.length := by simp [strsA]
    rw [drop_cons' hw, psL] at hp
    have bad : recW w = none → Q (.tup [.v (.slice none 0 0), .v (.int .i64 6)]) [] := by
      intro e
      rw [e] at hp
      rw [hp] at h
      exact h
    simp only [OI, ↓reduceIte, reduceCtorEq, Nat.reduceAdd, Nat.reduceEqDiff, Nat.reduceBEq, Nat.reduceLT, Nat.reduceLeDiff, Nat.reduceMul, Nat.reduceSub, Int.reduceLE, Int.reduceLT, Int.reduceEq, Int.reduceBEq, Int.reduceBNe, Int.reduceToNat, Int.reduceNeg, Nat.reduceBNe, st1002, hil', i0, hA, hAl]
    by_cases hc : 58 ∈ w
    · obtain ⟨a, r, rfl, ha⟩ := List.eq_append_cons_of_mem hc
      rw [recW_at ha] at hp bad
      have hal : a.length + r.length + 1 ≤ S.length := by simp at hwz; omega
      refine c1009a a r 58 ha (by omega) ?_
      simp only [OI, ↓reduceIte, reduceCtorEq, Nat.reduceAdd, Nat.reduceEqDiff, Nat.reduceBEq, Nat.reduceLT, Nat.reduceLeDiff, Nat.reduceMul, Nat.reduceSub, Int.reduceLE, Int.reduceLT, Int.reduceEq, Int.reduceBEq, Int.reduceBNe, Int.reduceToNat, Int.reduceNeg, Nat.reduceBNe, strV]
      refine c1010 a (by omega) ?_
      cases hk : sgnR a with
      | none =>
        have ek : sgnO a = (0, 6) := by rw [sgnO, hk]
        simp only [OI, ↓reduceIte, reduceCtorEq, Nat.reduceAdd, Nat.reduceEqDiff, Nat.reduceBEq, Nat.reduceLT, Nat.reduceLeDiff, Nat.reduceMul, Nat.reduceSub, Int.reduceLE, Int.reduceLT, Int.reduceEq, Int.reduceBEq, Int.reduceBNe, Int.reduceToNat, Int.reduceNeg, Nat.reduceBNe, strV, i64A, ek]
        refine c1010 r (by omega) ?_
        simp only [OI, ↓reduceIte, reduceCtorEq, Nat.reduceAdd, Nat.reduceEqDiff, Nat.reduceBEq, Nat.reduceLT, Nat.reduceLeDiff, Nat.reduceMul, Nat.reduceSub, Int.reduceLE, Int.reduceLT, Int.reduceEq, Int.reduceBEq, Int.reduceBNe, Int.reduceToNat, Int.reduceNeg, Nat.reduceBNe, i64A]
        exact bad (by rw [hk])
      | some k =>
        have ek : sgnO a = (k, 0) := by rw [sgnO, hk]
        simp only [OI, ↓reduceIte, reduceCtorEq, Nat.reduceAdd, Nat.reduceEqDiff, Nat.reduceBEq, Nat.reduceLT, Nat.reduceLeDiff, Nat.reduceMul, Nat.reduceSub, Int.reduceLE, Int.reduceLT, Int.reduceEq, Int.reduceBEq, Int.reduceBNe, Int.reduceToNat, Int.reduceNeg, Nat.reduceBNe, strV, i64A, ek]
        refine c1010 r (by omega) ?_
        cases hv : sgnR r with
        | none =>
          have ev : sgnO r = (0, 6) := by rw [sgnO, hv]
          simp only [OI, ↓reduceIte, reduceCtorEq, Nat.reduceAdd, Nat.reduceEqDiff, Nat.reduceBEq, Nat.reduceLT, Nat.reduceLeDiff, Nat.reduceMul, Nat.reduceSub, Int.reduceLE, Int.reduceLT, Int.reduceEq, Int.reduceBEq, Int.reduceBNe, Int.reduceToNat, Int.reduceNeg, Nat.reduceBNe, i64A, ev]
          exact bad (by rw [hk, hv])
        | some v =>
          have ev : sgnO r = (v, 0) := by rw [sgnO, hv]
          rw [hk, hv] at hp
          simp only at hp
          simp only [OI, ↓reduceIte, reduceCtorEq, Nat.reduceAdd, Nat.reduceEqDiff, Nat.reduceBEq, Nat.reduceLT, Nat.reduceLeDiff, Nat.reduceMul, Nat.reduceSub, Int.reduceLE, Int.reduceLT, Int.reduceEq, Int.reduceBEq, Int.reduceBNe, Int.reduceToNat, Int.reduceNeg, Nat.reduceBNe, i64A, ev, w1]
          refine ⟨⟨by omega, by omega⟩, ⟨(l ++ [(k, v)], i + 1), ⟨⟨by simp only; omega, by simp; omega, ?_⟩, by simp only; omega⟩, ?_⟩⟩
          · simp only
            rw [hp, Option.map_map]
            congr 1
            funext x
            simp
          · simp only [OI, ↓reduceIte, reduceCtorEq, Nat.reduceAdd, Nat.reduceEqDiff, Nat.reduceBEq, Nat.reduceLT, Nat.reduceLeDiff, Nat.reduceMul, Nat.reduceSub, Int.reduceLE, Int.reduceLT, Int.reduceEq, Int.reduceBEq, Int.reduceBNe, Int.reduceToNat, Int.reduceNeg, Nat.reduceBNe, st1002, strV, strsA, recA, List.map_append, List.map_cons, List.map_nil, List.length_append, List.length_cons, List.length_nil]
            try rfl
    · refine c1009b w 58 hc ?_
      simp only [OI, ↓reduceIte, reduceCtorEq, Nat.reduceAdd, Nat.reduceEqDiff, Nat.reduceBEq, Nat.reduceLT, Nat.reduceLeDiff, Nat.reduceMul, Nat.reduceSub, Int.reduceLE, Int.reduceLT, Int.reduceEq, Int.reduceBEq, Int.reduceBNe, Int.reduceToNat, Int.reduceNeg, Nat.reduceBNe, strV]
      refine c1010 w (by omega) ?_
      have ev : sgnO [] = (0, 6) := sgn_nil
      cases hk : sgnR w with
      | none =>
        have ek : sgnO w = (0, 6) := by rw [sgnO, hk]
        simp only [OI, ↓reduceIte, reduceCtorEq, Nat.reduceAdd, Nat.reduceEqDiff, Nat.reduceBEq, Nat.reduceLT, Nat.reduceLeDiff, Nat.reduceMul, Nat.reduceSub, Int.reduceLE, Int.reduceLT, Int.reduceEq, Int.reduceBEq, Int.reduceBNe, Int.reduceToNat, Int.reduceNeg, Nat.reduceBNe, strV, i64A, ek]
        refine c1010 [] (by simp) ?_
        simp only [OI, ↓reduceIte, reduceCtorEq, Nat.reduceAdd, Nat.reduceEqDiff, Nat.reduceBEq, Nat.reduceLT, Nat.reduceLeDiff, Nat.reduceMul, Nat.reduceSub, Int.reduceLE, Int.reduceLT, Int.reduceEq, Int.reduceBEq, Int.reduceBNe, Int.reduceToNat, Int.reduceNeg, Nat.reduceBNe, i64A]
        exact bad (recW_no hc)
      | some k =>
        have ek : sgnO w = (k, 0) := by rw [sgnO, hk]
        simp only [OI, ↓reduceIte, reduceCtorEq, Nat.reduceAdd, Nat.reduceEqDiff, Nat.reduceBEq, Nat.reduceLT, Nat.reduceLeDiff, Nat.reduceMul, Nat.reduceSub, Int.reduceLE, Int.reduceLT, Int.reduceEq, Int.reduceBEq, Int.reduceBNe, Int.reduceToNat, Int.reduceNeg, Nat.reduceBNe, strV, i64A, ek]
        refine c1010 [] (by simp) ?_
        simp only [OI, ↓reduceIte, reduceCtorEq, Nat.reduceAdd, Nat.reduceEqDiff, Nat.reduceBEq, Nat.reduceLT, Nat.reduceLeDiff, Nat.reduceMul, Nat.reduceSub, Int.reduceLE, Int.reduceLT, Int.reduceEq, Int.reduceBEq, Int.reduceBNe, Int.reduceToNat, Int.reduceNeg, Nat.reduceBNe, i64A, ev]
        exact bad (recW_no hc)
  · obtain rfl : i = ws.length := by omega
    rw [List.drop_length, psL] at hp
    simp only [Option.map_some, List.append_nil] at hp
    rw [hp] at h
    simp only at h
    have hl0 : l ≠ [] := by
      intro e; rw [e] at hli; exact hne (List.eq_nil_of_length_eq_zero hli.symm)
    have hll : (l.map recA).length = l.length := by simp
    by_cases h64 : (64 : Int) < l.length
    · simp only [OI, ↓reduceIte, reduceCtorEq, Nat.reduceAdd, Nat.reduceEqDiff, Nat.reduceBEq, Nat.reduceLT, Nat.reduceLeDiff, Nat.reduceMul, Nat.reduceSub, Int.reduceLE, Int.reduceLT, Int.reduceEq, Int.reduceBEq, Int.reduceBNe, Int.reduceToNat, Int.reduceNeg, Nat.reduceBNe, st1002, Int.lt_irrefl, h64]
      rw [if_pos (by omega)] at h
      rw [take_recs, if_pos (by rw [hll]; exact h64)]
      exact h
    · simp only [OI, ↓reduceIte, reduceCtorEq, Nat.reduceAdd, Nat.reduceEqDiff, Nat.reduceBEq, Nat.reduceLT, Nat.reduceLeDiff, Nat.reduceMul, Nat.reduceSub, Int.reduceLE, Int.reduceLT, Int.reduceEq, Int.reduceBEq, Int.reduceBNe, Int.reduceToNat, Int.reduceNeg, Nat.reduceBNe, st1002, Int.lt_irrefl, h64]
      rw [if_neg (by omega)] at h
      simp only at h
      rw [recsO_own hl0] at h
      rw [take_recs, if_neg (by rw [hll]; exact h64)]
      exact h
def st1003 (I : World → Fp → Value → Fp → Prop) (S : List UInt8) : List (Int × Int) × Nat × Nat → St
  | (l, a, i) => ⟨[(6, .v (.int .i64 i)), (5, .v (.int .i64 a)), (4, .sl ⟨2079, [], 0⟩ 2 0 l.length), (0, strV S)], [(2079, .own 2 (l.map recA)), (9999, .ext I)], []⟩
def st1003b (I : World → Fp → Value → Fp → Prop) (S : List UInt8) (l : List (Int × Int)) (i : Nat) (w : List UInt8) (k : Nat) : St :=
  ⟨[(8, .v (.int .i64 k)), (7, strV w), (6, .v (.int .i64 i)), (5, .v (.int .i64 (i + 1 : Nat))), (4, .sl ⟨2079, [], 0⟩ 2 0 l.length), (0, strV S)], [(2079, .own 2 (l.map recA)), (9999, .ext I)], []⟩
theorem byte_ne {b c : UInt8} (h : ¬ b = c) : (((UInt8.toNat b : Nat) : Int) == ((UInt8.toNat c : Nat) : Int)) = false := by
  rw [beq_eq_false_iff_ne]; intro e; apply h; apply UInt8.toNat_inj.1; omega
theorem c1003 (S : List UInt8) (hS : S.length ≤ 5000) {Q : AV → Al → Prop} (h : Q (.tup [recsO (prsO S).1, i64A (prsO S).2]) []) : ACalls Tryd.prog 6 [] [strV S] Q := by
  refine ok1003.N hmix rfl ?_
  intro I
  have e45 : ((⟨S.toArray⟩ : ByteArray).toList == (⟨#[45]⟩ : ByteArray).toList) = decide (S = [45]) := by
    have e : (⟨#[45]⟩ : ByteArray).toList = [45] := ba_toL [45]
    rw [ba_toL, e, Bool.eq_iff_iff, beq_iff_eq, decide_eq_true_eq]
  by_cases hs : S = [45]
  · have hd : decide (S = [45]) = true := decide_eq_true hs
    simp only [cc1003, OI, ↓reduceIte, reduceCtorEq, Nat.reduceAdd, Nat.reduceEqDiff, Nat.reduceBEq, Nat.reduceLT, Nat.reduceLeDiff, Nat.reduceMul, Nat.reduceSub, Int.reduceLE, Int.reduceLT, Int.reduceEq, Int.reduceBEq, Int.reduceBNe, Int.reduceToNat, Int.reduceNeg, Nat.reduceBNe, strV, e45, hd]
    rw [prsO, if_pos hs] at h
    exact h
  have hd : decide (S = [45]) = false := decide_eq_false hs
  simp only [cc1003, OI, ↓reduceIte, reduceCtorEq, Nat.reduceAdd, Nat.reduceEqDiff, Nat.reduceBEq, Nat.reduceLT, Nat.reduceLeDiff, Nat.reduceMul, Nat.reduceSub, Int.reduceLE, Int.reduceLT, Int.reduceEq, Int.reduceBEq, Int.reduceBNe, Int.reduceToNat, Int.reduceNeg, Nat.reduceBNe, strV, e45, hd]
  refine W_nilS 4 2079 2 (by decide) rfl rfl (by decide) rfl ?_
  rw [prsO, if_neg hs] at h
  have hsz := ba_size S
  refine W_loop (st1003 I S) (fun a => a.2.2 ≤ S.length + 1 ∧ a.2.1 ≤ a.2.2 ∧ a.1.length ≤ a.2.2 ∧ ((a.2.1 ≤ S.length ∧ a.2.2 ≤ S.length ∧ 44 ∉ (S.drop a.2.1).take (a.2.2 - a.2.1) ∧ psL (cutL 44 S) = (psL (cutL 44 (S.drop a.2.1))).map (a.1 ++ ·)) ∨ (a.2.2 = S.length + 1 ∧ a.1 ≠ [] ∧ psL (cutL 44 S) = some a.1))) (fun a => S.length + 1 - a.2.2) (fun _ _ => rfl) ⟨([], 0, 0), ⟨by simp, by simp, by simp, .inl ⟨by simp, by simp, by simp, by simp⟩⟩, ?_⟩ ?_
  · simp only [OI, ↓reduceIte, reduceCtorEq, Nat.reduceAdd, Nat.reduceEqDiff, Nat.reduceBEq, Nat.reduceLT, Nat.reduceLeDiff, Nat.reduceMul, Nat.reduceSub, Int.reduceLE, Int.reduceLT, Int.reduceEq, Int.reduceBEq, Int.reduceBNe, Int.reduceToNat, Int.reduceNeg, Nat.reduceBNe, st1003, strV]
    try rfl
  rintro ⟨l, at_, i⟩ ⟨hi, hat, hll, hinv⟩
  simp only at hi hat hll hinv
  refine W_of_N ok1003.small hmix ?_
  by_cases hil : i ≤ S.length
  · have hil' : (i : Int) ≤ S.length := by omega
    have i0 : (0 : Int) ≤ i := by omega
    obtain ⟨ha1, _, hno, hp⟩ := hinv.resolve_right (by omega)
    have w1 : IntKind.i64.wrap ((i : Int) + 1) = ((i + 1 : Nat) : Int) := by rw [wrI64 (by omega) (by omega)]; omega
    by_cases hc : ∃ b, S[i]? = some b ∧ ¬ b = 44
    · obtain ⟨b, hb, hb44⟩ := hc
      have hlt := (List.getElem?_eq_some_iff.1 hb).1
      have hlt' : (i : Int) < S.length := by omega
      have h44 : (((UInt8.toNat b : Nat) : Int) != 44) = true := by rw [bne, show (((UInt8.toNat b : Nat) : Int) == 44) = false from byte_ne hb44]; rfl
      simp only [OI, ↓reduceIte, reduceCtorEq, Nat.reduceAdd, Nat.reduceEqDiff, Nat.reduceBEq, Nat.reduceLT, Nat.reduceLeDiff, Nat.reduceMul, Nat.reduceSub, Int.reduceLE, Int.reduceLT, Int.reduceEq, Int.reduceBEq, Int.reduceBNe, Int.reduceToNat, Int.reduceNeg, Nat.reduceBNe, st1003, strV, hsz, hil', hlt', i0, ba_at, hb, h44, w1]
      refine ⟨(l, at_, i + 1), ⟨⟨by simp only; omega, by simp only; omega, by simp only; omega, .inl ⟨ha1, by simp only; omega, ?_, hp⟩⟩, by simp only; omega⟩, ?_⟩
      · simp only
        have e : i + 1 - at_ = (i - at_) + 1 := by omega
        rw [e, List.take_add_one, List.getElem?_drop, show at_ + (i - at_) = i by omega, hb]
        simp only [List.mem_append, not_or]
        exact ⟨hno, by simpa using fun e => hb44 e.symm⟩
      · simp only [OI, ↓reduceIte, reduceCtorEq, Nat.reduceAdd, Nat.reduceEqDiff, Nat.reduceBEq, Nat.reduceLT, Nat.reduceLeDiff, Nat.reduceMul, Nat.reduceSub, Int.reduceLE, Int.reduceLT, Int.reduceEq, Int.reduceBEq, Int.reduceBNe, Int.reduceToNat, Int.reduceNeg, Nat.reduceBNe, st1003, strV]
        try rfl
    · have hcut : cutL 44 (S.drop at_) = (S.drop at_).take (i - at_) :: (if i < S.length then cutL 44 (S.drop (i + 1)) else []) := by
        by_cases hlt : i < S.length
        · obtain ⟨b, hb⟩ : ∃ b, S[i]? = some b := ⟨_, List.getElem?_eq_getElem hlt⟩
          have hb44 : b = 44 := Classical.not_not.1 fun e => hc ⟨b, hb, e⟩
          subst hb44
          have hdr : S.drop at_ = (S.drop at_).take (i - at_) ++ 44 :: S.drop (i + 1) := by
            conv => lhs; rw [← List.take_append_drop (i - at_) (S.drop at_)]
            rw [List.drop_drop, show at_ + (i - at_) = i by omega, drop_cons' hb]
          rw [if_pos hlt]
          conv => lhs; rw [hdr]
          exact cutL_at hno
        · have htl : (S.drop at_).take (i - at_) = S.drop at_ := List.take_of_length_le (by simp; omega)
          rw [if_neg hlt, htl]
          rw [htl] at hno
          exact cutL_no hno
      have hwl : ((S.drop at_).take (i - at_)).length = i - at_ := by simp; omega
      rw [hcut, psL] at hp
      generalize hw : (S.drop at_).take (i - at_) = w at hp hwl hno
      have bad : recW w = none → Q (.tup [.v (.slice none 0 0), .v (.int .i64 6)]) [] := by
        intro e
        rw [e] at hp
        rw [hp] at h
        exact h
      have enter : (⟨S.toArray⟩ : ByteArray).extract at_ i = ⟨w.toArray⟩ := by rw [ba_cut, hw]
      have next : ∀ r, recW w = some r → (i + 1 ≤ S.length ∧ i + 1 ≤ S.length ∧ 44 ∉ (S.drop (i + 1)).take (i + 1 - (i + 1)) ∧ psL (cutL 44 S) = (psL (cutL 44 (S.drop (i + 1)))).map ((l ++ [r]) ++ ·)) ∨ (i + 1 = S.length + 1 ∧ l ++ [r] ≠ [] ∧ psL (cutL 44 S) = some (l ++ [r])) := by
        intro r hr
        rw [hr] at hp
        simp only at hp
        by_cases hlt : i < S.length
        · rw [if_pos hlt] at hp
          refine .inl ⟨by omega, by omega, by simp, ?_⟩
          rw [hp, Option.map_map]
          congr 1
          funext x
          simp
        · rw [if_neg hlt, psL] at hp
          refine .inr ⟨by omega, by simp, ?_⟩
          rw [hp]; rfl
      clear hp
      have hszw := ba_size w
      have a0 : (0 : Int) ≤ at_ := by omega
      have a1 : (at_ : Int) ≤ i := by omega
      by_cases hlt : i < S.length
      all_goals first
        | (have hlt' : (i : Int) < S.length := by omega
           obtain ⟨b, hb⟩ : ∃ b, S[i]? = some b := ⟨_, List.getElem?_eq_getElem hlt⟩
           have hb44 : b = 44 := Classical.not_not.1 fun e => hc ⟨b, hb, e⟩
           have h44 : (((UInt8.toNat b : Nat) : Int) != 44) = false := by rw [hb44]; rfl
           simp only [OI, ↓reduceIte, reduceCtorEq, Nat.reduceAdd, Nat.reduceEqDiff, Nat.reduceBEq, Nat.reduceLT, Nat.reduceLeDiff, Nat.reduceMul, Nat.reduceSub, Int.reduceLE, Int.reduceLT, Int.reduceEq, Int.reduceBEq, Int.reduceBNe, Int.reduceToNat, Int.reduceNeg, Nat.reduceBNe, st1003, strV, hsz, hil', hlt', i0, ba_at, hb, h44, w1, a0, a1, enter])
        | (have hlt' : ¬ (i : Int) < S.length := by omega
           simp only [OI, ↓reduceIte, reduceCtorEq, Nat.reduceAdd, Nat.reduceEqDiff, Nat.reduceBEq, Nat.reduceLT, Nat.reduceLeDiff, Nat.reduceMul, Nat.reduceSub, Int.reduceLE, Int.reduceLT, Int.reduceEq, Int.reduceBEq, Int.reduceBNe, Int.reduceToNat, Int.reduceNeg, Nat.reduceBNe, st1003, strV, hsz, hil', hlt', i0, ba_at, w1, a0, a1, enter])
      all_goals
        refine W_loop (st1003b I S l i w) (fun k => k ≤ w.length ∧ 58 ∉ w.take k) (fun k => w.length - k) (fun _ _ => rfl) ⟨0, ⟨by simp, by simp⟩, ?_⟩ ?_
        · simp only [OI, ↓reduceIte, reduceCtorEq, Nat.reduceAdd, Nat.reduceEqDiff, Nat.reduceBEq, Nat.reduceLT, Nat.reduceLeDiff, Nat.reduceMul, Nat.reduceSub, Int.reduceLE, Int.reduceLT, Int.reduceEq, Int.reduceBEq, Int.reduceBNe, Int.reduceToNat, Int.reduceNeg, Nat.reduceBNe, st1003b, strV]
          try rfl
        rintro k ⟨hk, hk58⟩
        refine W_of_N ok1003.small hmix ?_
        by_cases hcc : ∃ c, w[k]? = some c ∧ ¬ c = 58
        · obtain ⟨c, hcw, hc58⟩ := hcc
          have hkl := (List.getElem?_eq_some_iff.1 hcw).1
          have hkl' : (k : Int) < w.length := by omega
          have k0 : (0 : Int) ≤ k := by omega
          have h58 : (((UInt8.toNat c : Nat) : Int) != 58) = true := by rw [bne, show (((UInt8.toNat c : Nat) : Int) == 58) = false from byte_ne hc58]; rfl
          have wk : IntKind.i64.wrap ((k : Int) + 1) = ((k + 1 : Nat) : Int) := by rw [wrI64 (by omega) (by omega)]; omega
          simp only [OI, ↓reduceIte, reduceCtorEq, Nat.reduceAdd, Nat.reduceEqDiff, Nat.reduceBEq, Nat.reduceLT, Nat.reduceLeDiff, Nat.reduceMul, Nat.reduceSub, Int.reduceLE, Int.reduceLT, Int.reduceEq, Int.reduceBEq, Int.reduceBNe, Int.reduceToNat, Int.reduceNeg, Nat.reduceBNe, st1003b, strV, hszw, hkl', k0, ba_at, hcw, h58, wk]
          refine ⟨k + 1, ⟨⟨by omega, ?_⟩, by omega⟩, ?_⟩
          · rw [List.take_add_one, hcw]
            simp only [List.mem_append, not_or]
            exact ⟨hk58, by simpa using fun e => hc58 e.symm⟩
          · simp only [OI, ↓reduceIte, reduceCtorEq, Nat.reduceAdd, Nat.reduceEqDiff, Nat.reduceBEq, Nat.reduceLT, Nat.reduceLeDiff, Nat.reduceMul, Nat.reduceSub, Int.reduceLE, Int.reduceLT, Int.reduceEq, Int.reduceBEq, Int.reduceBNe, Int.reduceToNat, Int.reduceNeg, Nat.reduceBNe, st1003b, strV]
            try rfl
        · by_cases hkl : k < w.length
          · obtain ⟨c, hcw⟩ : ∃ c, w[k]? = some c := ⟨_, List.getElem?_eq_getElem hkl⟩
            have hc58 : c = 58 := Classical.not_not.1 fun e => hcc ⟨c, hcw, e⟩
            have hkl' : (k : Int) < w.length := by omega
            have k0 : (0 : Int) ≤ k := by omega
            have h58 : (((UInt8.toNat c : Nat) : Int) != 58) = false := by rw [hc58]; rfl
            have wk : IntKind.i64.wrap ((k : Int) + 1) = ((k + 1 : Nat) : Int) := by rw [wrI64 (by omega) (by omega)]; omega
            have kne : ((k : Int) == (w.length : Int)) = false := by rw [beq_eq_false_iff_ne]; omega
            have hw2 : w = w.take k ++ 58 :: w.drop (k + 1) := by
              rw [← hc58, ← drop_cons' hcw, List.take_append_drop]
            have hrec := recW_at (r := w.drop (k + 1)) hk58
            rw [← hw2] at hrec
            have kl0 : (0 : Int) ≤ ((k + 1 : Nat) : Int) := by omega
            have kl1 : ((k + 1 : Nat) : Int) ≤ w.length := by omega
            have kl2 : (k : Int) ≤ w.length := by omega
            have x1 : (⟨w.toArray⟩ : ByteArray).extract 0 k = ⟨(w.take k).toArray⟩ := by rw [ba_cut]; simp
            have x2 : (⟨w.toArray⟩ : ByteArray).extract (k + 1) w.length = ⟨(w.drop (k + 1)).toArray⟩ := by
              rw [ba_cut, List.take_of_length_le (by simp)]
            simp only [OI, ↓reduceIte, reduceCtorEq, Nat.reduceAdd, Nat.reduceEqDiff, Nat.reduceBEq, Nat.reduceLT, Nat.reduceLeDiff, Nat.reduceMul, Nat.reduceSub, Int.reduceLE, Int.reduceLT, Int.reduceEq, Int.reduceBEq, Int.reduceBNe, Int.reduceToNat, Int.reduceNeg, Nat.reduceBNe, st1003b, strV, hszw, hkl', k0, ba_at, hcw, h58, wk, kne, kl0, kl1, kl2, x1, x2]
            refine c1011 (w.take k) ?_
            cases hx : sgnR (w.take k) with
            | none =>
              have ek : sgnO (w.take k) = (0, 6) := by rw [sgnO, hx]
              simp only [OI, ↓reduceIte, reduceCtorEq, Nat.reduceAdd, Nat.reduceEqDiff, Nat.reduceBEq, Nat.reduceLT, Nat.reduceLeDiff, Nat.reduceMul, Nat.reduceSub, Int.reduceLE, Int.reduceLT, Int.reduceEq, Int.reduceBEq, Int.reduceBNe, Int.reduceToNat, Int.reduceNeg, Nat.reduceBNe, strV, i64A, ek, hszw, wk, kl0, kl1, x2]
              refine c1011 (w.drop (k + 1)) ?_
              simp only [OI, ↓reduceIte, reduceCtorEq, Nat.reduceAdd, Nat.reduceEqDiff, Nat.reduceBEq, Nat.reduceLT, Nat.reduceLeDiff, Nat.reduceMul, Nat.reduceSub, Int.reduceLE, Int.reduceLT, Int.reduceEq, Int.reduceBEq, Int.reduceBNe, Int.reduceToNat, Int.reduceNeg, Nat.reduceBNe, i64A]
              exact bad (by rw [hrec, hx])
            | some v1 =>
              have ek : sgnO (w.take k) = (v1, 0) := by rw [sgnO, hx]
              simp only [OI, ↓reduceIte, reduceCtorEq, Nat.reduceAdd, Nat.reduceEqDiff, Nat.reduceBEq, Nat.reduceLT, Nat.reduceLeDiff, Nat.reduceMul, Nat.reduceSub, Int.reduceLE, Int.reduceLT, Int.reduceEq, Int.reduceBEq, Int.reduceBNe, Int.reduceToNat, Int.reduceNeg, Nat.reduceBNe, strV, i64A, ek, hszw, wk, kl0, kl1, x2]
              refine c1011 (w.drop (k + 1)) ?_
              cases hy : sgnR (w.drop (k + 1)) with
              | none =>
                have ev : sgnO (w.drop (k + 1)) = (0, 6) := by rw [sgnO, hy]
                simp only [OI, ↓reduceIte, reduceCtorEq, Nat.reduceAdd, Nat.reduceEqDiff, Nat.reduceBEq, Nat.reduceLT, Nat.reduceLeDiff, Nat.reduceMul, Nat.reduceSub, Int.reduceLE, Int.reduceLT, Int.reduceEq, Int.reduceBEq, Int.reduceBNe, Int.reduceToNat, Int.reduceNeg, Nat.reduceBNe, i64A, ev]
                exact bad (by rw [hrec, hx, hy])
              | some v2 =>
                have ev : sgnO (w.drop (k + 1)) = (v2, 0) := by rw [sgnO, hy]
                have hn := next (v1, v2) (by rw [hrec, hx, hy])
                simp only [OI, ↓reduceIte, reduceCtorEq, Nat.reduceAdd, Nat.reduceEqDiff, Nat.reduceBEq, Nat.reduceLT, Nat.reduceLeDiff, Nat.reduceMul, Nat.reduceSub, Int.reduceLE, Int.reduceLT, Int.reduceEq, Int.reduceBEq, Int.reduceBNe, Int.reduceToNat, Int.reduceNeg, Nat.reduceBNe, i64A, ev, w1]
                refine ⟨⟨by omega, by omega⟩, ⟨(l ++ [(v1, v2)], i + 1, i + 1), ⟨⟨by simp only; omega, Nat.le_refl _, by simp; omega, hn⟩, by simp only; omega⟩, ?_⟩⟩
                simp only [OI, ↓reduceIte, reduceCtorEq, Nat.reduceAdd, Nat.reduceEqDiff, Nat.reduceBEq, Nat.reduceLT, Nat.reduceLeDiff, Nat.reduceMul, Nat.reduceSub, Int.reduceLE, Int.reduceLT, Int.reduceEq, Int.reduceBEq, Int.reduceBNe, Int.reduceToNat, Int.reduceNeg, Nat.reduceBNe, st1003, strV, recA, List.map_append, List.map_cons, List.map_nil, List.length_append, List.length_cons, List.length_nil]
                try rfl
          · obtain rfl : k = w.length := by omega
            rw [List.take_of_length_le (Nat.le_refl _)] at hk58
            simp only [OI, ↓reduceIte, reduceCtorEq, Nat.reduceAdd, Nat.reduceEqDiff, Nat.reduceBEq, Nat.reduceLT, Nat.reduceLeDiff, Nat.reduceMul, Nat.reduceSub, Int.reduceLE, Int.reduceLT, Int.reduceEq, Int.reduceBEq, Int.reduceBNe, Int.reduceToNat, Int.reduceNeg, Nat.reduceBNe, st1003b, strV, hszw, Int.lt_irrefl, beq_self_eq_true]
            exact bad (recW_no hk58)
  · obtain rfl : i = S.length + 1 := by omega
    obtain ⟨_, hl0, hp⟩ := hinv.resolve_left (by omega)
    rw [hp] at h
    simp only at h
    have hil' : ¬ ((S.length + 1 : Nat) : Int) ≤ S.length := by omega
    have hml : (l.map recA).length = l.length := by simp
    by_cases h64 : (64 : Int) < l.length
    · simp only [OI, ↓reduceIte, reduceCtorEq, Nat.reduceAdd, Nat.reduceEqDiff, Nat.reduceBEq, Nat.reduceLT, Nat.reduceLeDiff, Nat.reduceMul, Nat.reduceSub, Int.reduceLE, Int.reduceLT, Int.reduceEq, Int.reduceBEq, Int.reduceBNe, Int.reduceToNat, Int.reduceNeg, Nat.reduceBNe, st1003, strV, hsz, hil', h64]
      rw [if_pos (by omega)] at h
      rw [take_recs, if_pos (by rw [hml]; exact h64)]
      exact h
    · simp only [OI, ↓reduceIte, reduceCtorEq, Nat.reduceAdd, Nat.reduceEqDiff, Nat.reduceBEq, Nat.reduceLT, Nat.reduceLeDiff, Nat.reduceMul, Nat.reduceSub, Int.reduceLE, Int.reduceLT, Int.reduceEq, Int.reduceBEq, Int.reduceBNe, Int.reduceToNat, Int.reduceNeg, Nat.reduceBNe, st1003, strV, hsz, hil', h64]
      rw [if_neg (by omega)] at h
      simp only at h
      rw [recsO_own hl0] at h
      rw [take_recs, if_neg (by rw [hml]; exact h64)]
      exact h
end Go.Proofs.YthlehngbadianaaDoor.Ow
