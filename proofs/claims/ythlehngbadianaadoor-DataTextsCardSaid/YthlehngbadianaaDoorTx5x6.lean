/- What the functions of the program do, each once: contracts of the logic (part x5 x6). -/
import Derived.Test.YthlehngbadianaaDoorTx4
import Derived.Test.YthlehngbadianaaDoorTxrkj
set_option linter.unusedVariables false
set_option linter.unusedSimpArgs false
set_option linter.unnecessarySimpa false
set_option maxRecDepth 100000
set_option maxHeartbeats 4000000
namespace Go.Proofs.YthlehngbadianaaDoor.Ow
open Go Go.RowKit Go.Proofs
/- watershed/data.Text -/
def cc1004 : CC := (.seq (.region [⟨none, 2, (.val (.mv (.c (.string ⟨#[]⟩)))), [2], none, []⟩]) (.seq (.seq (.region [⟨none, 6, (.val (.mv (.s 0))), [], none, []⟩, ⟨none, 7, (.val (.lnl (.s 6) 2)), [6], none, []⟩, ⟨none, 8, (.val (.bin .eql (.s 7) (.c (.int .i64 0)))), [7], none, []⟩]) (.cond (.s 8) (.seq (.region [⟨none, 2, (.val (.mv (.c (.string ⟨#[45]⟩)))), [0, 8], none, []⟩]) .ret) .skip)) (.seq (.region [⟨none, 3, (.val (.mv (.c (.slice none 0 0)))), [8], none, []⟩]) (.seq (.seq (.region [⟨none, 9, (.val (.mv (.s 0))), [0], none, []⟩, ⟨none, 10, (.val (.lnl (.s 9) 2)), [], none, []⟩, ⟨none, 11, (.val (.mv (.c (.int .i64 0)))), [], none, []⟩]) (.block 0 (.loop (.seq (.region [⟨none, 12, (.val (.bin .lss (.s 11) (.s 10))), [], none, []⟩]) (.seq (.cond (.s 12) .skip (.exit 0)) (.seq (.block 1 (.seq (.region [⟨none, 13, (.val (.ia (.s 9) (.s 11) 2)), [12], none, []⟩, ⟨none, 14, (.val (.ld (.s 13) (some 2))), [13], none, []⟩, ⟨none, 5, (.alloc (.agg #[(.int .i64 0), (.int .i64 0)])), [], none, []⟩, ⟨none, 0, (.store 2 (.s 5) (.s 14)), [14], none, []⟩]) (.region [⟨none, 15, (.val (.mv (.s 3))), [3], none, []⟩, ⟨none, 16, (.val (.fa (.s 5) 0)), [], none, []⟩, ⟨none, 17, (.val (.ld (.s 16) none)), [16], none, []⟩, ⟨none, 20, (.val (.fa (.s 5) 1)), [5], none, []⟩, ⟨none, 21, (.val (.ld (.s 20) none)), [20], none, []⟩, ⟨none, 18, (.callP 20 [(.s 17)]), [17], none, []⟩, ⟨none, 19, (.val (.bin .add (.s 18) (.c (.string ⟨#[58]⟩)))), [18], none, []⟩, ⟨none, 22, (.callP 20 [(.s 21)]), [21], none, []⟩, ⟨none, 23, (.val (.bin .add (.s 19) (.s 22))), [19, 22], none, []⟩, ⟨none, 24, (.lit 1 [(.s 23)]), [23], none, []⟩, ⟨none, 25, (.app 1 16 false (.s 15) (.s 24)), [15, 24], none, []⟩, ⟨none, 3, (.val (.mv (.s 25))), [25], none, []⟩]))) (.region [⟨none, 26, (.val (.bin .add (.s 11) (.c (.int .i64 1)))), [11], none, []⟩, ⟨none, 11, (.val (.mv (.s 26))), [26], none, []⟩]))))))) (.seq (.region [⟨none, 27, (.val (.mv (.s 3))), [3, 9, 10, 11, 12], none, []⟩, ⟨none, 28, (.call 21 [(.s 27), (.c (.string ⟨#[44]⟩))]), [27], none, []⟩, ⟨none, 2, (.val (.mv (.s 28))), [28], none, []⟩]) .ret)))))
theorem ok1004 : FnOk Tryd.prog 7 cc1004 [(.t 2)] 1 29 := ⟨⟨_, Tryd.func7, by kernel_rfl, by kernel_rfl, by kernel_rfl⟩, by decide, by decide⟩
/- watershed/watershedref11.Text -/
def cc1005 : CC := (.seq (.region [⟨none, 2, (.val (.mv (.c (.string ⟨#[]⟩)))), [2], none, []⟩]) (.seq (.seq (.region [⟨none, 5, (.val (.mv (.s 0))), [], none, []⟩, ⟨none, 6, (.val (.lnl (.s 5) 2)), [5], none, []⟩, ⟨none, 7, (.val (.bin .eql (.s 6) (.c (.int .i64 0)))), [6], none, []⟩]) (.cond (.s 7) (.seq (.region [⟨none, 2, (.val (.mv (.c (.string ⟨#[45]⟩)))), [0, 7], none, []⟩]) .ret) .skip)) (.seq (.region [⟨none, 3, (.val (.mv (.c (.string ⟨#[]⟩)))), [7], none, []⟩]) (.seq (.seq (.region [⟨none, 4, (.val (.mv (.c (.int .i64 0)))), [], none, []⟩]) (.block 0 (.loop (.seq (.seq (.region [⟨none, 8, (.val (.mv (.s 4))), [], none, []⟩, ⟨none, 9, (.val (.mv (.s 0))), [], none, []⟩, ⟨none, 10, (.val (.lnl (.s 9) 2)), [9], none, []⟩, ⟨none, 11, (.val (.bin .lss (.s 8) (.s 10))), [8, 10], none, []⟩]) (.cond (.s 11) .skip (.exit 0))) (.seq (.block 1 (.seq (.seq (.region [⟨none, 14, (.val (.mv (.s 4))), [11], none, []⟩, ⟨none, 15, (.val (.bin .gtr (.s 14) (.c (.int .i64 0)))), [14], none, []⟩]) (.cond (.s 15) (.region [⟨none, 16, (.val (.mv (.s 3))), [3, 15], none, []⟩, ⟨none, 17, (.val (.bin .add (.s 16) (.c (.string ⟨#[44]⟩)))), [16], none, []⟩, ⟨none, 3, (.val (.mv (.s 17))), [17], none, []⟩]) .skip)) (.region [⟨none, 18, (.val (.mv (.s 3))), [3, 15], none, []⟩, ⟨none, 19, (.val (.mv (.s 0))), [], none, []⟩, ⟨none, 20, (.val (.mv (.s 4))), [], none, []⟩, ⟨none, 21, (.val (.ia (.s 19) (.s 20) 2)), [19, 20], none, []⟩, ⟨none, 22, (.val (.fa (.s 21) 0)), [21], none, []⟩, ⟨none, 23, (.val (.ld (.s 22) none)), [22], none, []⟩, ⟨none, 27, (.val (.mv (.s 0))), [], none, []⟩, ⟨none, 28, (.val (.mv (.s 4))), [], none, []⟩, ⟨none, 29, (.val (.ia (.s 27) (.s 28) 2)), [27, 28], none, []⟩, ⟨none, 30, (.val (.fa (.s 29) 1)), [29], none, []⟩, ⟨none, 31, (.val (.ld (.s 30) none)), [30], none, []⟩, ⟨none, 24, (.callP 22 [(.s 23)]), [23], none, []⟩, ⟨none, 25, (.val (.bin .add (.s 18) (.s 24))), [18, 24], none, []⟩, ⟨none, 26, (.val (.bin .add (.s 25) (.c (.string ⟨#[58]⟩)))), [25], none, []⟩, ⟨none, 32, (.callP 22 [(.s 31)]), [31], none, []⟩, ⟨none, 33, (.val (.bin .add (.s 26) (.s 32))), [26, 32], none, []⟩, ⟨none, 3, (.val (.mv (.s 33))), [33], none, []⟩]))) (.region [⟨none, 12, (.val (.mv (.s 4))), [4], none, []⟩, ⟨none, 13, (.val (.bin .add (.s 12) (.c (.int .i64 1)))), [12], none, []⟩, ⟨none, 4, (.val (.mv (.s 13))), [13], none, []⟩])))))) (.seq (.region [⟨none, 34, (.val (.mv (.s 3))), [0, 3, 4, 11], none, []⟩, ⟨none, 2, (.val (.mv (.s 34))), [34], none, []⟩]) .ret)))))
theorem ok1005 : FnOk Tryd.prog 9 cc1005 [(.t 2)] 1 35 := ⟨⟨_, Tryd.func9, by kernel_rfl, by kernel_rfl, by kernel_rfl⟩, by decide, by decide⟩
def recT (r : Int × Int) : List UInt8 := decL r.1 ++ 58 :: decL r.2
def txR (l : List (Int × Int)) : List UInt8 := if l = [] then [45] else Lib.join (l.map recT) [44]
theorem decL_len {v : Int} (h0 : -9223372036854775808 ≤ v) (h1 : v < 9223372036854775808) : (decL v).length ≤ 20 := by
  have := digs_64 h0 h1
  rw [decL]; split <;> simp <;> omega
theorem recT_len {r : Int × Int} (h : okR r) : (recT r).length ≤ 41 := by
  have h1 := decL_len h.1.1 h.1.2
  have h2 := decL_len h.2.1 h.2.2
  simp [recT]; omega
theorem joinTail_snoc (sep : List UInt8) (r : List (List UInt8)) (x : List UInt8) : Lib.joinTail sep (r ++ [x]) = Lib.joinTail sep r ++ (sep ++ x) := by simp [Lib.joinTail]
theorem join_snoc {r : List (List UInt8)} (h : r ≠ []) (x sep : List UInt8) : Lib.join (r ++ [x]) sep = Lib.join r sep ++ (sep ++ x) := by
  obtain ⟨y, ys, rfl⟩ := List.exists_cons_of_ne_nil h
  rw [List.cons_append, Lib.join_cons, Lib.join_cons, joinTail_snoc, List.append_assoc]
theorem join_len {B : Nat} : ∀ (r : List (List UInt8)), (∀ x ∈ r, x.length ≤ B) → (Lib.join r [44]).length ≤ (B + 1) * r.length
  | [], _ => by simp [Lib.join_nil]
  | x :: r, h => by
    have hx := h x (List.mem_cons_self ..)
    have key : ∀ r : List (List UInt8), (∀ x ∈ r, x.length ≤ B) → (Lib.joinTail [44] r).length ≤ (B + 1) * r.length := by
      intro r
      induction r with
      | nil => intro _; simp [Lib.joinTail]
      | cons y ys ih =>
        intro hh
        have h1 := hh y (List.mem_cons_self ..)
        have h2 := ih fun z hz => hh z (List.mem_cons_of_mem _ hz)
        have e : Lib.joinTail [44] (y :: ys) = ([44] ++ y) ++ Lib.joinTail [44] ys := by simp [Lib.joinTail]
        rw [e, List.length_append, List.length_append, show (y :: ys).length = ys.length + 1 from rfl, Nat.mul_add]
        simp; omega
    have h2 := key r fun z hz => h z (List.mem_cons_of_mem _ hz)
    rw [Lib.join_cons, List.length_append, List.length_cons, Nat.mul_add]
    omega
theorem ba_app (a b : List UInt8) : (⟨a.toArray⟩ : ByteArray) ++ ⟨b.toArray⟩ = ⟨(a ++ b).toArray⟩ := by
  apply ByteArray.ext; simp
def st1004 (I : World → Fp → Value → Fp → Prop) (l : List (Int × Int)) (i : Nat) : St :=
  ⟨[(11, .v (.int .i64 i)), (10, .v (.int .i64 l.length)), (9, .lst 2 (l.map recA)), (3, .sl ⟨2025, [], 0⟩ 1 0 i)], [(2025, .own 1 (strsA ((l.take i).map recT))), (9999, .ext I)], []⟩
theorem c1004 (l : List (Int × Int)) (hl : l.length ≤ 300) (hr : ∀ r ∈ l, okR r) {Q : AV → Al → Prop} (h : Q (strV (txR l)) []) : ACalls Tryd.prog 7 [] [.lst 2 (l.map recA)] Q := by
  refine ok1004.N hmix rfl ?_
  intro I
  have hml : (l.map recA).length = l.length := by simp
  by_cases hn : l = []
  · subst hn
    simp only [cc1004, OI, ↓reduceIte, reduceCtorEq, Nat.reduceAdd, Nat.reduceEqDiff, Nat.reduceBEq, Nat.reduceLT, Nat.reduceLeDiff, Nat.reduceMul, Nat.reduceSub, Int.reduceLE, Int.reduceLT, Int.reduceEq, Int.reduceBEq, Int.reduceBNe, Int.reduceToNat, Int.reduceNeg, Nat.reduceBNe, List.map_nil, List.length_nil, Int.natCast_zero, beq_self_eq_true]
    exact h
  have hz : ((l.length : Int) == 0) = false := by
    rw [beq_eq_false_iff_ne]; intro e; exact hn (List.eq_nil_of_length_eq_zero (by omega))
  simp only [cc1004, OI, ↓reduceIte, reduceCtorEq, Nat.reduceAdd, Nat.reduceEqDiff, Nat.reduceBEq, Nat.reduceLT, Nat.reduceLeDiff, Nat.reduceMul, Nat.reduceSub, Int.reduceLE, Int.reduceLT, Int.reduceEq, Int.reduceBEq, Int.reduceBNe, Int.reduceToNat, Int.reduceNeg, Nat.reduceBNe, hml, hz]
  refine W_nilS 3 2025 1 (by decide) rfl rfl (by decide) rfl ?_
  refine W_loop (st1004 I l) (fun i => i ≤ l.length) (fun i => l.length - i) (fun _ _ => rfl) ⟨0, by omega, ?_⟩ ?_
  · simp only [OI, ↓reduceIte, reduceCtorEq, Nat.reduceAdd, Nat.reduceEqDiff, Nat.reduceBEq, Nat.reduceLT, Nat.reduceLeDiff, Nat.reduceMul, Nat.reduceSub, Int.reduceLE, Int.reduceLT, Int.reduceEq, Int.reduceBEq, Int.reduceBNe, Int.reduceToNat, Int.reduceNeg, Nat.reduceBNe, st1004, strsA, List.take_zero, List.map_nil, Int.natCast_zero]
    try rfl
  intro i hi
  refine W_of_N ok1004.small hmix ?_
  by_cases hil : i < l.length
  · have hil' : (i : Int) < l.length := by omega
    have i0 : (0 : Int) ≤ i := by omega
    have hgi : l[i]? = some l[i] := List.getElem?_eq_getElem hil
    have ho := hr l[i] (List.getElem_mem hil)
    generalize l[i] = r at hgi ho
    have w1 : IntKind.i64.wrap ((i : Int) + 1) = ((i + 1 : Nat) : Int) := by rw [wrI64 (by omega) (by omega)]; omega
    have hA : (l.map recA)[i]? = some (AV.agg [.v (.int .i64 r.1), .v (.int .i64 r.2)]) := by rw [List.getElem?_map, hgi]; rfl
    have b1 := decL_len ho.1.1 ho.1.2
    have b2 := decL_len ho.2.1 ho.2.2
    simp only [OI, ↓reduceIte, reduceCtorEq, Nat.reduceAdd, Nat.reduceEqDiff, Nat.reduceBEq, Nat.reduceLT, Nat.reduceLeDiff, Nat.reduceMul, Nat.reduceSub, Int.reduceLE, Int.reduceLT, Int.reduceEq, Int.reduceBEq, Int.reduceBNe, Int.reduceToNat, Int.reduceNeg, Nat.reduceBNe, st1004, hil', i0, hA, hml]
    have z1 : (decB r.1).size = (decL r.1).length := rfl
    have z2 : (decB r.2).size = (decL r.2).length := rfl
    have z3 : (⟨#[58]⟩ : ByteArray).size = 1 := rfl
    have z4 : (decB r.1 ++ ⟨#[58]⟩ : ByteArray).size = (decL r.1).length + 1 := by rw [ByteArray.size_append]; rfl
    refine c198 r.1 ho.1.1 ho.1.2 ?_
    simp only [OI, ↓reduceIte, reduceCtorEq, Nat.reduceAdd, Nat.reduceEqDiff, Nat.reduceBEq, Nat.reduceLT, Nat.reduceLeDiff, Nat.reduceMul, Nat.reduceSub, Int.reduceLE, Int.reduceLT, Int.reduceEq, Int.reduceBEq, Int.reduceBNe, Int.reduceToNat, Int.reduceNeg, Nat.reduceBNe]
    rw [cat_if (by omega)]
    refine ⟨_, rfl, ?_⟩
    refine c198 r.2 ho.2.1 ho.2.2 ?_
    simp only [OI, ↓reduceIte, reduceCtorEq, Nat.reduceAdd, Nat.reduceEqDiff, Nat.reduceBEq, Nat.reduceLT, Nat.reduceLeDiff, Nat.reduceMul, Nat.reduceSub, Int.reduceLE, Int.reduceLT, Int.reduceEq, Int.reduceBEq, Int.reduceBNe, Int.reduceToNat, Int.reduceNeg, Nat.reduceBNe]
    rw [cat_if (by omega)]
    refine ⟨_, rfl, ?_⟩
    have e : decB r.1 ++ ⟨#[58]⟩ ++ decB r.2 = (⟨(recT r).toArray⟩ : ByteArray) := by
      apply ByteArray.ext; simp [decB, recT]
    have hsl : (strsA ((l.take i).map recT)).length = i := by simp [strsA]; omega
    have htk : l.take (i + 1) = l.take i ++ [r] := by rw [List.take_add_one, hgi]; rfl
    rw [if_pos hsl.symm]
    refine ⟨_, rfl, ?_⟩
    simp only [OI, ↓reduceIte, reduceCtorEq, Nat.reduceAdd, Nat.reduceEqDiff, Nat.reduceBEq, Nat.reduceLT, Nat.reduceLeDiff, Nat.reduceMul, Nat.reduceSub, Int.reduceLE, Int.reduceLT, Int.reduceEq, Int.reduceBEq, Int.reduceBNe, Int.reduceToNat, Int.reduceNeg, Nat.reduceBNe, w1, hsl]
    refine ⟨⟨by omega, by omega⟩, ⟨i + 1, ⟨by omega, by omega⟩, ?_⟩⟩
    simp only [OI, ↓reduceIte, reduceCtorEq, Nat.reduceAdd, Nat.reduceEqDiff, Nat.reduceBEq, Nat.reduceLT, Nat.reduceLeDiff, Nat.reduceMul, Nat.reduceSub, Int.reduceLE, Int.reduceLT, Int.reduceEq, Int.reduceBEq, Int.reduceBNe, Int.reduceToNat, Int.reduceNeg, Nat.reduceBNe, st1004, htk, e, strsA, strV, List.map_append, List.map_cons, List.map_nil]
    try rfl
  · obtain rfl : i = l.length := by omega
    have hsl : (strsA ((l.take l.length).map recT)).length = l.length := by simp [strsA]
    simp only [OI, ↓reduceIte, reduceCtorEq, Nat.reduceAdd, Nat.reduceEqDiff, Nat.reduceBEq, Nat.reduceLT, Nat.reduceLeDiff, Nat.reduceMul, Nat.reduceSub, Int.reduceLE, Int.reduceLT, Int.reduceEq, Int.reduceBEq, Int.reduceBNe, Int.reduceToNat, Int.reduceNeg, Nat.reduceBNe, st1004, Int.lt_irrefl]
    have e : (strsA (l.map recT)).length = l.length := by simp [strsA]
    have e1 : (strsA (l.map recT)).take l.length = strsA (l.map recT) := List.take_of_length_le (by omega)
    have e2 : (strsA (l.map recT)).map frz = ((l.map recT).map fun w => (⟨w.toArray⟩ : ByteArray)).map fun s => AV.v (.string s) := by
      rw [strsA, List.map_map, List.map_map, List.map_map, List.map_map]; rfl
    have e3 : ((l.map recT).map fun w => (⟨w.toArray⟩ : ByteArray)).map (·.data.toList) = l.map recT := by
      rw [List.map_map]; conv => rhs; rw [← List.map_id (l.map recT)]
      exact List.map_congr_left fun w _ => rfl
    have hj := join_len (B := 41) (l.map recT) (fun x hx => by obtain ⟨r, h1, rfl⟩ := List.mem_map.1 hx; exact recT_len (hr r h1))
    simp only [List.length_map] at hj
    rw [if_pos (by omega), e1, e2]
    refine c163 _ ⟨#[44]⟩ (by simp; omega) ?_ ?_
    · rw [e3]; exact Nat.le_trans hj (by omega)
    · rw [e3]
      simp only [OI, ↓reduceIte, reduceCtorEq, Nat.reduceAdd, Nat.reduceEqDiff, Nat.reduceBEq, Nat.reduceLT, Nat.reduceLeDiff, Nat.reduceMul, Nat.reduceSub, Int.reduceLE, Int.reduceLT, Int.reduceEq, Int.reduceBEq, Int.reduceBNe, Int.reduceToNat, Int.reduceNeg, Nat.reduceBNe]
      rw [txR, if_neg hn] at h
      exact h
def st1005 (I : World → Fp → Value → Fp → Prop) (l : List (Int × Int)) (i : Nat) : St :=
  ⟨[(4, .v (.int .i64 i)), (3, strV (Lib.join ((l.take i).map recT) [44])), (0, .lst 2 (l.map recA))], [(9999, .ext I)], []⟩
theorem c1005 (l : List (Int × Int)) (c : AV) (hc : roL c l) (hl : l.length ≤ 300) (hr : ∀ r ∈ l, okR r) {Q : AV → Al → Prop} (h : Q (strV (txR l)) []) : ACalls Tryd.prog 9 [] [c] Q := by
  refine ok1005.N hmix rfl ?_
  intro I
  have hml : (l.map recA).length = l.length := by simp
  rcases roL_cases hc with ⟨rfl, rfl⟩ | rfl
  · simp only [cc1005, OI, ↓reduceIte, reduceCtorEq, Nat.reduceAdd, Nat.reduceEqDiff, Nat.reduceBEq, Nat.reduceLT, Nat.reduceLeDiff, Nat.reduceMul, Nat.reduceSub, Int.reduceLE, Int.reduceLT, Int.reduceEq, Int.reduceBEq, Int.reduceBNe, Int.reduceToNat, Int.reduceNeg, Nat.reduceBNe]
    exact h
  by_cases hn : l = []
  · subst hn
    simp only [cc1005, OI, ↓reduceIte, reduceCtorEq, Nat.reduceAdd, Nat.reduceEqDiff, Nat.reduceBEq, Nat.reduceLT, Nat.reduceLeDiff, Nat.reduceMul, Nat.reduceSub, Int.reduceLE, Int.reduceLT, Int.reduceEq, Int.reduceBEq, Int.reduceBNe, Int.reduceToNat, Int.reduceNeg, Nat.reduceBNe, List.map_nil, List.length_nil, Int.natCast_zero, beq_self_eq_true]
    exact h
  have hz : ((l.length : Int) == 0) = false := by
    rw [beq_eq_false_iff_ne]; intro e; exact hn (List.eq_nil_of_length_eq_zero (by omega))
  have hjl : ∀ i, (Lib.join ((l.take i).map recT) [44]).length ≤ 42 * 300 := by
    intro i
    have hj := join_len (B := 41) ((l.take i).map recT) (fun x hx => by obtain ⟨r, h1, rfl⟩ := List.mem_map.1 hx; exact recT_len (hr r (List.mem_of_mem_take h1)))
    simp only [List.length_map, List.length_take] at hj
    refine Nat.le_trans hj (Nat.mul_le_mul_left 42 (by omega))
  simp only [cc1005, OI, ↓reduceIte, reduceCtorEq, Nat.reduceAdd, Nat.reduceEqDiff, Nat.reduceBEq, Nat.reduceLT, Nat.reduceLeDiff, Nat.reduceMul, Nat.reduceSub, Int.reduceLE, Int.reduceLT, Int.reduceEq, Int.reduceBEq, Int.reduceBNe, Int.reduceToNat, Int.reduceNeg, Nat.reduceBNe, hml, hz]
  refine W_loop (st1005 I l) (fun i => i ≤ l.length) (fun i => l.length - i) (fun _ _ => rfl) ⟨0, by omega, ?_⟩ ?_
  · simp only [OI, ↓reduceIte, reduceCtorEq, Nat.reduceAdd, Nat.reduceEqDiff, Nat.reduceBEq, Nat.reduceLT, Nat.reduceLeDiff, Nat.reduceMul, Nat.reduceSub, Int.reduceLE, Int.reduceLT, Int.reduceEq, Int.reduceBEq, Int.reduceBNe, Int.reduceToNat, Int.reduceNeg, Nat.reduceBNe, st1005, strV, List.take_zero, List.map_nil, Lib.join_nil]
    try rfl
  intro i hi
  refine W_of_N ok1005.small hmix ?_
  by_cases hil : i < l.length
  · have hil' : (i : Int) < l.length := by omega
    have i0 : (0 : Int) ≤ i := by omega
    have hgi : l[i]? = some l[i] := List.getElem?_eq_getElem hil
    have ho := hr l[i] (List.getElem_mem hil)
    generalize l[i] = r at hgi ho
    have w1 : IntKind.i64.wrap ((i : Int) + 1) = ((i + 1 : Nat) : Int) := by rw [wrI64 (by omega) (by omega)]; omega
    have hA : (l.map recA)[i]? = some (AV.agg [.v (.int .i64 r.1), .v (.int .i64 r.2)]) := by rw [List.getElem?_map, hgi]; rfl
    have b1 := decL_len ho.1.1 ho.1.2
    have b2 := decL_len ho.2.1 ho.2.2
    have hj := hjl i
    have htk : l.take (i + 1) = l.take i ++ [r] := by rw [List.take_add_one, hgi]; rfl
    have z1 : (decB r.1).size = (decL r.1).length := rfl
    have z2 : (decB r.2).size = (decL r.2).length := rfl
    have z3 : (⟨#[58]⟩ : ByteArray).size = 1 := rfl
    have fin : ∃ P : List UInt8, P.length ≤ 12601 ∧ P ++ recT r = Lib.join ((l.take (i + 1)).map recT) [44] ∧ (0 < i → P = Lib.join ((l.take i).map recT) [44] ++ [44]) ∧ (¬ 0 < i → P = Lib.join ((l.take i).map recT) [44]) := by
      rw [htk, List.map_append]
      by_cases i1 : 0 < i
      · have hne : (l.take i).map recT ≠ [] := by
          intro e
          have := congrArg List.length e
          rw [List.length_map, List.length_take, List.length_nil] at this
          omega
        refine ⟨Lib.join ((l.take i).map recT) [44] ++ [44], by rw [List.length_append]; exact Nat.add_le_add_right hj 1, ?_, fun _ => rfl, fun e => absurd i1 e⟩
        rw [List.map_singleton, join_snoc hne, List.append_assoc]
      · obtain rfl : i = 0 := by omega
        exact ⟨[], by simp, by simp [Lib.join_one], fun e => absurd e i1, fun _ => by simp [Lib.join_nil]⟩
    obtain ⟨P, hP1, hP2, hP3, hP4⟩ := fin
    have zP := ba_size P
    have z4 : (⟨P.toArray⟩ ++ decB r.1 : ByteArray).size = P.length + (decL r.1).length := by rw [ByteArray.size_append]; rfl
    have z5 : (⟨P.toArray⟩ ++ decB r.1 ++ ⟨#[58]⟩ : ByteArray).size = P.length + (decL r.1).length + 1 := by rw [ByteArray.size_append, z4]; rfl
    have e : ⟨P.toArray⟩ ++ decB r.1 ++ ⟨#[58]⟩ ++ decB r.2 = (⟨(P ++ recT r).toArray⟩ : ByteArray) := by
      apply ByteArray.ext; simp [decB, recT]
    rw [hP2] at e
    by_cases i1 : (0 : Int) < i
    all_goals first
      | (have i1' : (0 : Int) < i := i1
         have hJ := hP3 (by omega)
         have zJ := ba_size (Lib.join ((l.take i).map recT) [44])
         have z44 : (⟨#[44]⟩ : ByteArray).size = 1 := rfl
         have e44 : (⟨(Lib.join ((l.take i).map recT) [44]).toArray⟩ : ByteArray) ++ ⟨#[44]⟩ = ⟨P.toArray⟩ := by rw [hJ]; exact ba_app _ [44]
         simp only [OI, ↓reduceIte, reduceCtorEq, Nat.reduceAdd, Nat.reduceEqDiff, Nat.reduceBEq, Nat.reduceLT, Nat.reduceLeDiff, Nat.reduceMul, Nat.reduceSub, Int.reduceLE, Int.reduceLT, Int.reduceEq, Int.reduceBEq, Int.reduceBNe, Int.reduceToNat, Int.reduceNeg, Nat.reduceBNe, st1005, strV, hil', i0, i1, hA, hml]
         rw [cat_if (by omega)]
         refine ⟨_, rfl, ?_⟩
         rw [e44])
      | (have hJ := hP4 (by omega)
         rw [← hJ] at hj
         simp only [OI, ↓reduceIte, reduceCtorEq, Nat.reduceAdd, Nat.reduceEqDiff, Nat.reduceBEq, Nat.reduceLT, Nat.reduceLeDiff, Nat.reduceMul, Nat.reduceSub, Int.reduceLE, Int.reduceLT, Int.reduceEq, Int.reduceBEq, Int.reduceBNe, Int.reduceToNat, Int.reduceNeg, Nat.reduceBNe, st1005, strV, hil', i0, i1, hA, hml, ← hJ])
    all_goals
      refine c152 r.1 ho.1.1 ho.1.2 ?_
      simp only [OI, ↓reduceIte, reduceCtorEq, Nat.reduceAdd, Nat.reduceEqDiff, Nat.reduceBEq, Nat.reduceLT, Nat.reduceLeDiff, Nat.reduceMul, Nat.reduceSub, Int.reduceLE, Int.reduceLT, Int.reduceEq, Int.reduceBEq, Int.reduceBNe, Int.reduceToNat, Int.reduceNeg, Nat.reduceBNe]
      rw [cat_if (by omega)]
      refine ⟨_, rfl, ?_⟩
      simp only [OI, ↓reduceIte, reduceCtorEq, Nat.reduceAdd, Nat.reduceEqDiff, Nat.reduceBEq, Nat.reduceLT, Nat.reduceLeDiff, Nat.reduceMul, Nat.reduceSub, Int.reduceLE, Int.reduceLT, Int.reduceEq, Int.reduceBEq, Int.reduceBNe, Int.reduceToNat, Int.reduceNeg, Nat.reduceBNe]
      rw [cat_if (by omega)]
      refine ⟨_, rfl, ?_⟩
      try simp only [OI, ↓reduceIte, reduceCtorEq, Nat.reduceAdd, Nat.reduceEqDiff, Nat.reduceBEq, Nat.reduceLT, Nat.reduceLeDiff, Nat.reduceMul, Nat.reduceSub, Int.reduceLE, Int.reduceLT, Int.reduceEq, Int.reduceBEq, Int.reduceBNe, Int.reduceToNat, Int.reduceNeg, Nat.reduceBNe]
      refine c152 r.2 ho.2.1 ho.2.2 ?_
      simp only [OI, ↓reduceIte, reduceCtorEq, Nat.reduceAdd, Nat.reduceEqDiff, Nat.reduceBEq, Nat.reduceLT, Nat.reduceLeDiff, Nat.reduceMul, Nat.reduceSub, Int.reduceLE, Int.reduceLT, Int.reduceEq, Int.reduceBEq, Int.reduceBNe, Int.reduceToNat, Int.reduceNeg, Nat.reduceBNe]
      rw [cat_if (by omega)]
      refine ⟨_, rfl, ?_⟩
      simp only [OI, ↓reduceIte, reduceCtorEq, Nat.reduceAdd, Nat.reduceEqDiff, Nat.reduceBEq, Nat.reduceLT, Nat.reduceLeDiff, Nat.reduceMul, Nat.reduceSub, Int.reduceLE, Int.reduceLT, Int.reduceEq, Int.reduceBEq, Int.reduceBNe, Int.reduceToNat, Int.reduceNeg, Nat.reduceBNe, w1]
      refine ⟨i + 1, ⟨by omega, by omega⟩, ?_⟩
      simp only [OI, ↓reduceIte, reduceCtorEq, Nat.reduceAdd, Nat.reduceEqDiff, Nat.reduceBEq, Nat.reduceLT, Nat.reduceLeDiff, Nat.reduceMul, Nat.reduceSub, Int.reduceLE, Int.reduceLT, Int.reduceEq, Int.reduceBEq, Int.reduceBNe, Int.reduceToNat, Int.reduceNeg, Nat.reduceBNe, st1005, strV, e]
      try rfl
  · obtain rfl : i = l.length := by omega
    simp only [OI, ↓reduceIte, reduceCtorEq, Nat.reduceAdd, Nat.reduceEqDiff, Nat.reduceBEq, Nat.reduceLT, Nat.reduceLeDiff, Nat.reduceMul, Nat.reduceSub, Int.reduceLE, Int.reduceLT, Int.reduceEq, Int.reduceBEq, Int.reduceBNe, Int.reduceToNat, Int.reduceNeg, Nat.reduceBNe, st1005, strV, hml, Int.lt_irrefl]
    rw [txR, if_neg hn] at h
    exact h
end Go.Proofs.YthlehngbadianaaDoor.Ow
set_option maxRecDepth 100000
set_option maxHeartbeats 4000000
namespace Go.Proofs.YthlehngbadianaaDoor.Ow
open Go Go.RowKit Go.Proofs
/- watershed/watershedlaw11.own -/
def cc84 : CC := (.seq (.region [⟨none, 2, (.val (.mv (.c (.slice none 0 0)))), [2], none, []⟩]) (.seq (.region [⟨none, 3, (.lit 2 []), [], none, []⟩, ⟨none, 4, (.val (.mv (.s 0))), [0], none, []⟩, ⟨none, 5, (.app 2 16 false (.s 3) (.s 4)), [3, 4], none, []⟩, ⟨none, 2, (.val (.mv (.s 5))), [5], none, []⟩]) .ret))
theorem ok84 : FnOk Tryd.prog 8 cc84 [(.t 2)] 1 6 := ⟨⟨_, Tryd.func8, by kernel_rfl, by kernel_rfl, by kernel_rfl⟩, by decide, by decide⟩
/- watershed/watershedlaw11.DataTexts -/
def cc1000 : CC := (.seq (.region [⟨none, 4, (.val (.mv (.c (.bool false)))), [4], none, []⟩]) (.seq (.seq (.region [⟨none, 9, (.val (.mv (.s 0))), [], none, []⟩, ⟨none, 10, (.val (.lnl (.s 9) 2)), [9], none, []⟩, ⟨none, 11, (.val (.bin .gtr (.s 10) (.c (.int .i64 300)))), [10], none, []⟩, ⟨none, 12, (.val (.mv (.s 11))), [11], none, []⟩, ⟨(some (12, false)), 13, (.val (.mv (.s 1))), [], none, []⟩, ⟨(some (12, false)), 14, (.val (.lns (.s 13))), [13], none, []⟩, ⟨(some (12, false)), 15, (.val (.bin .gtr (.s 14) (.c (.int .i64 5000)))), [14], none, []⟩, ⟨none, 16, (.val (.pick (.s 12) (.c (.bool true)) (.s 15))), [12, 15], none, []⟩]) (.cond (.s 16) (.seq (.region [⟨none, 4, (.val (.mv (.c (.bool true)))), [0, 1, 16], none, []⟩]) .ret) .skip)) (.seq (.region [⟨none, 18, (.val (.mv (.s 1))), [16], none, []⟩, ⟨none, 19, (.callP 5 [(.s 18)]), [18], none, []⟩, ⟨none, 17, (.val (.mv (.s 19))), [19], none, []⟩, ⟨none, 20, (.val (.ext (.s 17) 0)), [], none, []⟩, ⟨none, 21, (.val (.ext (.s 17) 1)), [17], none, []⟩, ⟨none, 5, (.val (.mv (.s 20))), [20], none, []⟩, ⟨none, 6, (.val (.mv (.s 21))), [21], none, []⟩]) (.seq (.region [⟨none, 23, (.val (.mv (.s 1))), [1], none, []⟩, ⟨none, 24, (.callP 6 [(.s 23)]), [23], none, []⟩, ⟨none, 22, (.val (.mv (.s 24))), [24], none, []⟩, ⟨none, 25, (.val (.ext (.s 22) 0)), [], none, []⟩, ⟨none, 26, (.val (.ext (.s 22) 1)), [22], none, []⟩, ⟨none, 7, (.val (.mv (.s 25))), [25], none, []⟩, ⟨none, 8, (.val (.mv (.s 26))), [26], none, []⟩]) (.seq (.region [⟨none, 27, (.val (.mv (.s 0))), [], none, []⟩, ⟨none, 28, (.call 8 [(.s 27)]), [27], none, []⟩, ⟨none, 29, (.call 7 [(.s 28)]), [28], none, []⟩, ⟨none, 30, (.val (.mv (.s 0))), [0], none, []⟩, ⟨none, 31, (.call 9 [(.s 30)]), [30], none, []⟩, ⟨none, 32, (.val (.bin .eql (.s 29) (.s 31))), [29, 31], none, []⟩, ⟨none, 33, (.val (.mv (.s 32))), [32], none, []⟩, ⟨(some (33, true)), 34, (.val (.mv (.s 5))), [5], none, []⟩, ⟨(some (33, true)), 35, (.val (.mv (.s 7))), [7], none, []⟩, ⟨(some (33, true)), 36, (.call 10 [(.s 34), (.s 35)]), [34, 35], none, []⟩, ⟨none, 37, (.val (.pick (.s 33) (.s 36) (.c (.bool false)))), [33, 36], none, []⟩, ⟨none, 38, (.val (.mv (.s 37))), [37], none, []⟩, ⟨(some (38, true)), 39, (.val (.mv (.s 6))), [6], none, []⟩, ⟨(some (38, true)), 40, (.val (.mv (.s 8))), [8], none, []⟩, ⟨(some (38, true)), 41, (.val (.bin .eql (.s 39) (.s 40))), [39, 40], none, []⟩, ⟨none, 42, (.val (.pick (.s 38) (.s 41) (.c (.bool false)))), [38, 41], none, []⟩, ⟨none, 4, (.val (.mv (.s 42))), [42], none, []⟩]) .ret)))))
theorem ok1000 : FnOk Tryd.prog 3 cc1000 [(.t 4)] 2 43 := ⟨⟨_, Tryd.func3, by kernel_rfl, by kernel_rfl, by kernel_rfl⟩, by decide, by decide⟩
theorem c84 (l : List (Int × Int)) (c : AV) (hc : roL c l) (hl : l.length ≤ 300) {Q : AV → Al → Prop} (h : Q (.own 2 (l.map recA)) []) : ACalls Tryd.prog 8 [] [c] Q := by
  refine ok84.N hmix rfl ?_
  intro I
  have hml : (l.map recA).length = l.length := by simp
  rcases roL_cases hc with ⟨rfl, rfl⟩ | rfl
  · simp only [cc84, OI, ↓reduceIte, reduceCtorEq, Nat.reduceAdd, Nat.reduceEqDiff, Nat.reduceBEq, Nat.reduceLT, Nat.reduceLeDiff, Nat.reduceMul, Nat.reduceSub, Int.reduceLE, Int.reduceLT, Int.reduceEq, Int.reduceBEq, Int.reduceBNe, Int.reduceToNat, Int.reduceNeg, Nat.reduceBNe]
    exact h
  · simp only [cc84, OI, ↓reduceIte, reduceCtorEq, Nat.reduceAdd, Nat.reduceEqDiff, Nat.reduceBEq, Nat.reduceLT, Nat.reduceLeDiff, Nat.reduceMul, Nat.reduceSub, Int.reduceLE, Int.reduceLT, Int.reduceEq, Int.reduceBEq, Int.reduceBNe, Int.reduceToNat, Int.reduceNeg, Nat.reduceBNe, hml]
    rw [take_recs]
    exact ⟨⟨recs_all l, by omega, by omega⟩, h⟩
/-- DataTexts. -/
theorem c1000 (l : List (Int × Int)) (c : AV) (hc : roL c l) (hr : ∀ r ∈ l, okR r) (S : List UInt8) {Q : AV → Al → Prop} (h : Q (.v (.bool true)) []) : ACalls Tryd.prog 3 [] [c, strV S] Q := by
  refine ok1000.N hmix rfl ?_
  intro I
  have hsz := ba_size S
  have hml : (l.map recA).length = l.length := by simp
  by_cases h3 : (300 : Int) < l.length
  · rcases roL_cases hc with ⟨rfl, rfl⟩ | rfl
    · simp at h3
    · simp only [cc1000, OI, ↓reduceIte, reduceCtorEq, Nat.reduceAdd, Nat.reduceEqDiff, Nat.reduceBEq, Nat.reduceLT, Nat.reduceLeDiff, Nat.reduceMul, Nat.reduceSub, Int.reduceLE, Int.reduceLT, Int.reduceEq, Int.reduceBEq, Int.reduceBNe, Int.reduceToNat, Int.reduceNeg, Nat.reduceBNe, hml, h3]
      exact h
  by_cases h5 : (5000 : Int) < S.length
  · rcases roL_cases hc with ⟨rfl, rfl⟩ | rfl
    · simp only [cc1000, OI, ↓reduceIte, reduceCtorEq, Nat.reduceAdd, Nat.reduceEqDiff, Nat.reduceBEq, Nat.reduceLT, Nat.reduceLeDiff, Nat.reduceMul, Nat.reduceSub, Int.reduceLE, Int.reduceLT, Int.reduceEq, Int.reduceBEq, Int.reduceBNe, Int.reduceToNat, Int.reduceNeg, Nat.reduceBNe, strV, hsz, h5]
      exact h
    · simp only [cc1000, OI, ↓reduceIte, reduceCtorEq, Nat.reduceAdd, Nat.reduceEqDiff, Nat.reduceBEq, Nat.reduceLT, Nat.reduceLeDiff, Nat.reduceMul, Nat.reduceSub, Int.reduceLE, Int.reduceLT, Int.reduceEq, Int.reduceBEq, Int.reduceBNe, Int.reduceToNat, Int.reduceNeg, Nat.reduceBNe, strV, hml, h3, hsz, h5]
      exact h
  have hcf : (c = .v (.slice none 0 0) ∧ l = []) ∨ c = .lst 2 (l.map recA) := roL_cases hc
  have hv : ((l.map recA).take l.length).map frz = l.map recA := by rw [take_recs, List.map_map]; rfl
  have hpl : (cutL 44 S).length ≤ 5001 := by have := cutL_len 44 S; omega
  have hpr : (prsO S).1.length ≤ 1000000 := by
    rw [prsO]
    split
    · simp
    · split
      · simp
      · rename_i q hq
        have := psL_ok hq
        split
        · simp
        · simp only; omega
  rcases hcf with ⟨rfl, _⟩ | rfl
  all_goals
    simp only [cc1000, OI, ↓reduceIte, reduceCtorEq, Nat.reduceAdd, Nat.reduceEqDiff, Nat.reduceBEq, Nat.reduceLT, Nat.reduceLeDiff, Nat.reduceMul, Nat.reduceSub, Int.reduceLE, Int.reduceLT, Int.reduceEq, Int.reduceBEq, Int.reduceBNe, Int.reduceToNat, Int.reduceNeg, Nat.reduceBNe, strV, hml, h3, hsz, h5]
    obtain ⟨p, e, hpe⟩ : ∃ p e, prsO S = (p, e) := ⟨_, _, rfl⟩
    refine c1002 S (by omega) ?_
    rw [hpe] at hpr ⊢
    simp only at hpr
    have hpl : (p.map recA).length = p.length := by simp
    have hv2 : ((p.map recA).take p.length).map frz = p.map recA := by rw [take_recs, List.map_map]; rfl
    cases p with
    | nil =>
      simp only [OI, ↓reduceIte, reduceCtorEq, Nat.reduceAdd, Nat.reduceEqDiff, Nat.reduceBEq, Nat.reduceLT, Nat.reduceLeDiff, Nat.reduceMul, Nat.reduceSub, Int.reduceLE, Int.reduceLT, Int.reduceEq, Int.reduceBEq, Int.reduceBNe, Int.reduceToNat, Int.reduceNeg, Nat.reduceBNe, recsO, i64A]
      refine c1003 S (by omega) ?_
      rw [hpe]
      simp only [OI, ↓reduceIte, reduceCtorEq, Nat.reduceAdd, Nat.reduceEqDiff, Nat.reduceBEq, Nat.reduceLT, Nat.reduceLeDiff, Nat.reduceMul, Nat.reduceSub, Int.reduceLE, Int.reduceLT, Int.reduceEq, Int.reduceBEq, Int.reduceBNe, Int.reduceToNat, Int.reduceNeg, Nat.reduceBNe, recsO, i64A]
      refine c84 l _ hc (by omega) ?_
      simp only [OI, ↓reduceIte, reduceCtorEq, Nat.reduceAdd, Nat.reduceEqDiff, Nat.reduceBEq, Nat.reduceLT, Nat.reduceLeDiff, Nat.reduceMul, Nat.reduceSub, Int.reduceLE, Int.reduceLT, Int.reduceEq, Int.reduceBEq, Int.reduceBNe, Int.reduceToNat, Int.reduceNeg, Nat.reduceBNe, hml, hv]
      refine c1004 l (by omega) hr ?_
      simp only [OI, ↓reduceIte, reduceCtorEq, Nat.reduceAdd, Nat.reduceEqDiff, Nat.reduceBEq, Nat.reduceLT, Nat.reduceLeDiff, Nat.reduceMul, Nat.reduceSub, Int.reduceLE, Int.reduceLT, Int.reduceEq, Int.reduceBEq, Int.reduceBNe, Int.reduceToNat, Int.reduceNeg, Nat.reduceBNe, strV]
      refine c1005 l _ hc (by omega) hr ?_
      simp only [OI, ↓reduceIte, reduceCtorEq, Nat.reduceAdd, Nat.reduceEqDiff, Nat.reduceBEq, Nat.reduceLT, Nat.reduceLeDiff, Nat.reduceMul, Nat.reduceSub, Int.reduceLE, Int.reduceLT, Int.reduceEq, Int.reduceBEq, Int.reduceBNe, Int.reduceToNat, Int.reduceNeg, Nat.reduceBNe, strV, beq_self_eq_true]
      refine c87 [] _ _ (.inl rfl) (.inl rfl) (by simp) ?_
      simp only [OI, ↓reduceIte, reduceCtorEq, Nat.reduceAdd, Nat.reduceEqDiff, Nat.reduceBEq, Nat.reduceLT, Nat.reduceLeDiff, Nat.reduceMul, Nat.reduceSub, Int.reduceLE, Int.reduceLT, Int.reduceEq, Int.reduceBEq, Int.reduceBNe, Int.reduceToNat, Int.reduceNeg, Nat.reduceBNe, beq_self_eq_true]
      exact h
    | cons r rs =>
      have e0 : recsO (r :: rs) = .own 2 ((r :: rs).map recA) := rfl
      generalize r :: rs = p at e0 hpe hpl hpr hv2
      simp only [OI, ↓reduceIte, reduceCtorEq, Nat.reduceAdd, Nat.reduceEqDiff, Nat.reduceBEq, Nat.reduceLT, Nat.reduceLeDiff, Nat.reduceMul, Nat.reduceSub, Int.reduceLE, Int.reduceLT, Int.reduceEq, Int.reduceBEq, Int.reduceBNe, Int.reduceToNat, Int.reduceNeg, Nat.reduceBNe, e0, i64A]
      refine c1003 S (by omega) ?_
      rw [hpe]
      simp only [OI, ↓reduceIte, reduceCtorEq, Nat.reduceAdd, Nat.reduceEqDiff, Nat.reduceBEq, Nat.reduceLT, Nat.reduceLeDiff, Nat.reduceMul, Nat.reduceSub, Int.reduceLE, Int.reduceLT, Int.reduceEq, Int.reduceBEq, Int.reduceBNe, Int.reduceToNat, Int.reduceNeg, Nat.reduceBNe, e0, i64A]
      refine c84 l _ hc (by omega) ?_
      simp only [OI, ↓reduceIte, reduceCtorEq, Nat.reduceAdd, Nat.reduceEqDiff, Nat.reduceBEq, Nat.reduceLT, Nat.reduceLeDiff, Nat.reduceMul, Nat.reduceSub, Int.reduceLE, Int.reduceLT, Int.reduceEq, Int.reduceBEq, Int.reduceBNe, Int.reduceToNat, Int.reduceNeg, Nat.reduceBNe, hml, hv]
      refine c1004 l (by omega) hr ?_
      simp only [OI, ↓reduceIte, reduceCtorEq, Nat.reduceAdd, Nat.reduceEqDiff, Nat.reduceBEq, Nat.reduceLT, Nat.reduceLeDiff, Nat.reduceMul, Nat.reduceSub, Int.reduceLE, Int.reduceLT, Int.reduceEq, Int.reduceBEq, Int.reduceBNe, Int.reduceToNat, Int.reduceNeg, Nat.reduceBNe, strV]
      refine c1005 l _ hc (by omega) hr ?_
      simp only [OI, ↓reduceIte, reduceCtorEq, Nat.reduceAdd, Nat.reduceEqDiff, Nat.reduceBEq, Nat.reduceLT, Nat.reduceLeDiff, Nat.reduceMul, Nat.reduceSub, Int.reduceLE, Int.reduceLT, Int.reduceEq, Int.reduceBEq, Int.reduceBNe, Int.reduceToNat, Int.reduceNeg, Nat.reduceBNe, strV, beq_self_eq_true, hpl, hv2]
      refine c87 p _ _ (.inr rfl) (.inr rfl) hpr ?_
      simp only [OI, ↓reduceIte, reduceCtorEq, Nat.reduceAdd, Nat.reduceEqDiff, Nat.reduceBEq, Nat.reduceLT, Nat.reduceLeDiff, Nat.reduceMul, Nat.reduceSub, Int.reduceLE, Int.reduceLT, Int.reduceEq, Int.reduceBEq, Int.reduceBNe, Int.reduceToNat, Int.reduceNeg, Nat.reduceBNe, beq_self_eq_true]
      exact h
end Go.Proofs.YthlehngbadianaaDoor.Ow
