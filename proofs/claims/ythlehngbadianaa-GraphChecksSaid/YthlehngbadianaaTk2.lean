/- What the functions of the program do, each once: contracts of the logic (part k2). -/
import Derived.Test.YthlehngbadianaaTk1
import Derived.Test.YthlehngbadianaaTkj
set_option linter.unusedVariables false
set_option linter.unusedSimpArgs false
set_option linter.unnecessarySimpa false
set_option maxRecDepth 100000
set_option maxHeartbeats 4000000
namespace Go.Proofs.Ythlehngbadianaa.Ow
open Go Go.RowKit Go.Proofs
/- watershed/graph.row -/
def cc148 : CC := (.seq (.region [⟨none, 2, (.val (.mv (.c (.string ⟨#[]⟩)))), [2], none, []⟩]) (.seq (.region [⟨none, 3, (.val (.mv (.s 0))), [0], none, []⟩, ⟨none, 4, (.call 163 [(.s 3), (.c (.string ⟨#[32]⟩))]), [3], none, []⟩, ⟨none, 5, (.val (.bin .add (.s 4) (.c (.string ⟨#[10]⟩)))), [4], none, []⟩, ⟨none, 2, (.val (.mv (.s 5))), [5], none, []⟩]) .ret))
theorem ok148 : FnOk Try.prog 148 cc148 [(.t 2)] 1 6 := ⟨⟨_, Try.func148, by kernel_rfl, by kernel_rfl, by kernel_rfl⟩, by decide, by decide⟩


theorem ba_list (s : ByteArray) : (⟨(bsS s).toArray⟩ : ByteArray) = s := by
  apply ByteArray.ext; simp [bsS]
theorem bs_mk (l : List UInt8) : bsS ⟨l.toArray⟩ = l := by simp [bsS]
theorem bs_app (a b : ByteArray) : bsS (a ++ b) = bsS a ++ bsS b := by
  unfold bsS; rw [ByteArray.data_append, Array.toList_append]
theorem bs_len (a : ByteArray) : (bsS a).length = a.size := Array.length_toList
theorem bs_dec (v : Int) : bsS (decB v) = decL v := by simp [bsS, decB]
theorem ba_ext {a : ByteArray} {l : List UInt8} (h : bsS a = l) : a = ⟨l.toArray⟩ := by rw [← h, ba_list]
/-- A line of words. -/
def rowL (ws : List ByteArray) : List UInt8 := Lib.join (ws.map bsS) [32] ++ [10]
theorem c148 (ws : List ByteArray) (hN : ws.length ≤ 1000) (hlen : (rowL ws).length ≤ 1000000) {Q : AV → Al → Prop} (h : Q (.v (.string ⟨(rowL ws).toArray⟩)) []) : ACalls Try.prog 148 [] [.lst 1 (ws.map strA)] Q := by
  refine ok148.N hmix rfl ?_
  intro I
  have hlen' : (Lib.join (ws.map bsS) [32]).length ≤ 999999 := by
    simp only [rowL, List.length_append, List.length_cons, List.length_nil] at hlen; omega
  simp only [cc148, OI0, OI1, OI2, OI3, OI4, OI5, OI6, OI7, OI8, OI9, OI10, OI11, OI12, ↓reduceIte, reduceCtorEq, Nat.reduceAdd, Nat.reduceEqDiff, Nat.reduceBEq, Nat.reduceLT, Nat.reduceLeDiff, Nat.reduceMul, Nat.reduceSub, Int.reduceLE, Int.reduceLT, Int.reduceEq, Int.reduceBEq, Int.reduceBNe, Int.reduceToNat, Int.reduceNeg, Nat.reduceBNe, forall_eq_or_imp]
  refine c163 ws ⟨#[32]⟩ (by omega) (Nat.le_trans hlen' (by omega)) ?_
  simp only [OI0, OI1, OI2, OI3, OI4, OI5, OI6, OI7, OI8, OI9, OI10, OI11, OI12, ↓reduceIte, reduceCtorEq, Nat.reduceAdd, Nat.reduceEqDiff, Nat.reduceBEq, Nat.reduceLT, Nat.reduceLeDiff, Nat.reduceMul, Nat.reduceSub, Int.reduceLE, Int.reduceLT, Int.reduceEq, Int.reduceBEq, Int.reduceBNe, Int.reduceToNat, Int.reduceNeg, Nat.reduceBNe, forall_eq_or_imp]
  have e1 : (Lib.join (List.map (fun x : ByteArray => x.data.toList) ws) (⟨#[32]⟩ : ByteArray).data.toList) = Lib.join (ws.map bsS) [32] := rfl
  rw [e1]
  rw [cat_if (by simp only [ByteArray.size, List.size_toArray, List.length_cons, List.length_nil]; omega)]
  refine ⟨_, rfl, ?_⟩
  have e2 : (⟨(Lib.join (ws.map bsS) [32]).toArray⟩ : ByteArray) ++ ⟨#[10]⟩ = ⟨(rowL ws).toArray⟩ := ba_ext (by rw [bs_app, bs_mk]; rfl)
  rw [e2]
  exact h
/-! The lines of a graph. -/
def clL (c : Cl) : List UInt8 := [99, 108, 117, 115, 116, 101, 114, 32] ++ (bsS c.1 ++ ([32, 119, 111, 114, 107, 101, 114, 115, 61] ++ (decL c.2 ++ [10])))
def loL (g : Gr) (l : Lo) : List UInt8 := [108, 111, 111, 112, 32] ++ (bsS l.1 ++ ([32, 105, 110, 61] ++ (bsS (lpN g l.2.1) ++ ([32, 114, 111, 117, 110, 100, 115, 61] ++ (decL l.2.2 ++ [10])))))
def clNm (g : Gr) (i : Int) : ByteArray := match g.cl[i.toNat]? with | some c => c.1 | none => ⟨#[]⟩
def opNm (g : Gr) (i : Int) : ByteArray := match g.op[i.toNat]? with | some o => o.nm | none => ⟨#[]⟩
def nuL (o : O6) : List UInt8 := (if 0 < numsOf o.k then [32, 97, 61] ++ decL o.a else []) ++ (if 1 < numsOf o.k then [32, 98, 61] ++ decL o.b else [])
def opL (g : Gr) (o : O6) : List UInt8 := [111, 112, 32] ++ (bsS o.nm ++ ([32] ++ (bsS (wordOf o.k) ++ ([32, 105, 110, 61] ++ (bsS (lpN g o.lo) ++ ([32, 97, 116, 61] ++ (bsS (clNm g o.at_) ++ (nuL o ++ [10]))))))))
def chL (g : Gr) (c : Ch) : List UInt8 := [102, 114, 111, 109, 32] ++ (bsS (opNm g c.1) ++ ([32, 116, 111, 32] ++ (bsS (opNm g c.2) ++ [10])))
def txtL (g : Gr) : List UInt8 := (g.cl.map clL).flatten ++ (g.lo.map (loL g)).flatten ++ (g.op.map (opL g)).flatten ++ (g.ch.map (chL g)).flatten
theorem row_cl (c : Cl) : rowL [⟨#[99, 108, 117, 115, 116, 101, 114]⟩, c.1, (⟨#[119, 111, 114, 107, 101, 114, 115, 61]⟩ : ByteArray) ++ decB c.2] = clL c := by
  simp [rowL, Lib.join, List.intercalate, clL, bs_app, bs_dec, bsS, decB]
theorem row_lo (g : Gr) (l : Lo) : rowL [⟨#[108, 111, 111, 112]⟩, l.1, (⟨#[105, 110, 61]⟩ : ByteArray) ++ lpN g l.2.1, (⟨#[114, 111, 117, 110, 100, 115, 61]⟩ : ByteArray) ++ decB l.2.2] = loL g l := by
  simp [rowL, Lib.join, List.intercalate, loL, bs_app, bs_dec, bsS, decB]
theorem row_ch (g : Gr) (c : Ch) : rowL [⟨#[102, 114, 111, 109]⟩, opNm g c.1, ⟨#[116, 111]⟩, opNm g c.2] = chL g c := by
  simp [rowL, Lib.join, List.intercalate, chL, bsS]
def nuW (o : O6) : List ByteArray := List.take (numsOf o.k).toNat [(⟨#[97, 61]⟩ : ByteArray) ++ decB o.a, (⟨#[98, 61]⟩ : ByteArray) ++ decB o.b]
theorem row_op (g : Gr) (o : O6) : rowL ([⟨#[111, 112]⟩, o.nm, wordOf o.k, (⟨#[105, 110, 61]⟩ : ByteArray) ++ lpN g o.lo, (⟨#[97, 116, 61]⟩ : ByteArray) ++ clNm g o.at_] ++ nuW o) = opL g o := by
  have h : numsOf o.k = 0 ∨ numsOf o.k = 1 ∨ numsOf o.k = 2 := by
    unfold numsOf
    split
    · exact .inr (.inr rfl)
    · split
      · exact .inr (.inl rfl)
      · exact .inl rfl
  rcases h with h | h | h <;> simp [rowL, Lib.join, List.intercalate, opL, nuL, nuW, h, bs_app, bs_dec, bsS, decB]
/-! How long they are. -/
theorem lpN_size {g : Gr} (hs : Small g) (i : Int) : (bsS (lpN g i)).length ≤ 1000 := by
  rw [bs_len]
  unfold lpN
  split
  · show (⟨#[45]⟩ : ByteArray).size ≤ 1000
    decide
  · split
    · exact hs.nlo _ _ ‹_›
    · show (⟨#[]⟩ : ByteArray).size ≤ 1000
      decide
theorem clNm_size {g : Gr} (hs : Small g) (i : Int) : (bsS (clNm g i)).length ≤ 1000 := by
  rw [bs_len]
  unfold clNm
  split
  · exact hs.ncl _ _ ‹_›
  · show (⟨#[]⟩ : ByteArray).size ≤ 1000
    decide
theorem opNm_size {g : Gr} (hs : Small g) (i : Int) : (bsS (opNm g i)).length ≤ 1000 := by
  rw [bs_len]
  unfold opNm
  split
  · exact hs.nop _ _ ‹_›
  · show (⟨#[]⟩ : ByteArray).size ≤ 1000
    decide
theorem decL_len {v : Int} (h0 : -9223372036854775808 ≤ v) (h1 : v < 9223372036854775808) : (decL v).length ≤ 20 := by
  have := digs_64 h0 h1
  unfold decL
  split <;> simp <;> omega
theorem word_len (k : Int) : (bsS (wordOf k)).length ≤ 10 := by
  by_cases h : 1 ≤ k ∧ k ≤ 14
  · rcases kinds k h.1 h.2 with rfl | rfl | rfl | rfl | rfl | rfl | rfl | rfl | rfl | rfl | rfl | rfl | rfl | rfl <;> simp [wordOf, bsS]
  · have e : wordOf k = ⟨#[]⟩ := by
      unfold wordOf
      repeat rw [if_neg (by omega)]
    rw [e]; simp [bsS]
theorem clL_len {c : Cl} (h : c.1.size ≤ 1000) (h0 : -9223372036854775808 ≤ c.2) (h1 : c.2 < 9223372036854775808) : (clL c).length ≤ 4000 := by
  have a := bs_len c.1
  have b := decL_len h0 h1
  simp only [clL, List.length_append, List.length_cons, List.length_nil]; omega
theorem loL_len {g : Gr} (hs : Small g) {l : Lo} (h : l.1.size ≤ 1000) (h0 : -9223372036854775808 ≤ l.2.2) (h1 : l.2.2 < 9223372036854775808) : (loL g l).length ≤ 4000 := by
  have a := bs_len l.1
  have b := decL_len h0 h1
  have c := lpN_size hs l.2.1
  simp only [loL, List.length_append, List.length_cons, List.length_nil]; omega
theorem nuL_len {o : O6} (ha : -9223372036854775808 ≤ o.a ∧ o.a < 9223372036854775808) (hb : -9223372036854775808 ≤ o.b ∧ o.b < 9223372036854775808) : (nuL o).length ≤ 60 := by
  have a := decL_len ha.1 ha.2
  have b := decL_len hb.1 hb.2
  unfold nuL
  split <;> split <;> simp <;> omega
theorem opL_len {g : Gr} (hs : Small g) {o : O6} (h : o.nm.size ≤ 1000) (ha : -9223372036854775808 ≤ o.a ∧ o.a < 9223372036854775808) (hb : -9223372036854775808 ≤ o.b ∧ o.b < 9223372036854775808) : (opL g o).length ≤ 4000 := by
  have a := bs_len o.nm
  have b := nuL_len ha hb
  have c := lpN_size hs o.lo
  have d := clNm_size hs o.at_
  have e := word_len o.k
  simp only [opL, List.length_append, List.length_cons, List.length_nil]; omega
theorem chL_len {g : Gr} (hs : Small g) (c : Ch) : (chL g c).length ≤ 4000 := by
  have a := opNm_size hs c.1
  have b := opNm_size hs c.2
  simp only [chL, List.length_append, List.length_cons, List.length_nil]; omega
end Go.Proofs.Ythlehngbadianaa.Ow
