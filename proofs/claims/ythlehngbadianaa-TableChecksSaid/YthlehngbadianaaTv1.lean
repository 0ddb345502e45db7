/- What the functions of the program do, each once: contracts of the logic (part v1). -/
import Derived.Test.YthlehngbadianaaTu9u10
import Derived.Test.YthlehngbadianaaTkjkt
import Derived.Test.YthlehngbadianaaTbw
set_option linter.unusedVariables false
set_option linter.unusedSimpArgs false
set_option linter.unnecessarySimpa false
set_option maxRecDepth 100000
set_option maxHeartbeats 4000000
namespace Go.Proofs.Ythlehngbadianaa.Ow
open Go Go.RowKit Go.Proofs Kt
/- watershed/table.Text -/
def cc71 : CC := (.seq (.region [⟨none, 2, (.box 0), [0], none, []⟩, ⟨none, 3, (.box 1), [1], none, []⟩, ⟨none, 4, (.val (.mv (.c (.string ⟨#[]⟩)))), [4], none, []⟩, ⟨none, 5, (.val (.mv (.c (.int .i64 0)))), [5], none, []⟩]) (.seq (.seq (.region [⟨none, 15, (.val (.ld (.s 2) (some 2))), [], none, []⟩, ⟨none, 16, (.val (.ld (.s 3) (some 4))), [], none, []⟩, ⟨none, 17, (.callP 73 [(.s 15), (.s 16)]), [15, 16], none, []⟩, ⟨none, 6, (.val (.mv (.s 17))), [17], none, []⟩]) (.seq (.region [⟨none, 18, (.val (.mv (.s 6))), [], none, []⟩, ⟨none, 19, (.val (.bin .neq (.s 18) (.c (.int .i64 0)))), [18], none, []⟩]) (.cond (.s 19) (.seq (.region [⟨none, 20, (.val (.mv (.s 6))), [2, 3, 6, 19], none, []⟩, ⟨none, 4, (.val (.mv (.c (.string ⟨#[]⟩)))), [], none, []⟩, ⟨none, 5, (.val (.mv (.s 20))), [20], none, []⟩]) .ret) .skip))) (.seq (.region [⟨none, 7, (.allocF (.agg #[(.pointer none), (.slice none 0 0)]) 174), [6, 19], none, []⟩]) (.seq (.seq (.region [⟨none, 21, (.val (.fa (.s 2) 0)), [], none, []⟩, ⟨none, 22, (.val (.ld (.s 21) none)), [21], none, []⟩, ⟨none, 23, (.val (.lnl (.s 22) 1)), [], none, []⟩, ⟨none, 24, (.val (.mv (.c (.int .i64 0)))), [], none, []⟩]) (.block 0 (.loop (.seq (.region [⟨none, 25, (.val (.bin .lss (.s 24) (.s 23))), [], none, []⟩]) (.seq (.cond (.s 25) .skip (.exit 0)) (.seq (.block 1 (.seq (.region [⟨none, 26, (.val (.ia (.s 22) (.s 24) 1)), [25], none, []⟩, ⟨none, 27, (.val (.ld (.s 26) none)), [26], none, []⟩, ⟨none, 9, (.val (.mv (.s 27))), [27], none, []⟩]) (.region [⟨none, 28, (.val (.mv (.s 9))), [9], none, []⟩, ⟨none, 29, (.val (.bin .add (.c (.string ⟨#[114, 101, 108, 97, 121, 32]⟩)) (.s 28))), [28], none, []⟩, ⟨none, 30, (.val (.bin .add (.s 29) (.c (.string ⟨#[10]⟩)))), [29], none, []⟩, ⟨none, 31, (.call 109 [(.s 7), (.s 30)]), [30, 31], (some 0), []⟩]))) (.region [⟨none, 32, (.val (.bin .add (.s 24) (.c (.int .i64 1)))), [24], none, []⟩, ⟨none, 24, (.val (.mv (.s 32))), [32], none, []⟩]))))))) (.seq (.seq (.region [⟨none, 33, (.val (.fa (.s 2) 1)), [22, 23, 24, 25], none, []⟩, ⟨none, 34, (.val (.ld (.s 33) none)), [33], none, []⟩, ⟨none, 35, (.val (.lnl (.s 34) 3)), [], none, []⟩, ⟨none, 36, (.val (.mv (.c (.int .i64 0)))), [], none, []⟩]) (.block 2 (.loop (.seq (.region [⟨none, 37, (.val (.bin .lss (.s 36) (.s 35))), [], none, []⟩]) (.seq (.cond (.s 37) .skip (.exit 2)) (.seq (.block 3 (.seq (.region [⟨none, 38, (.val (.ia (.s 34) (.s 36) 3)), [37], none, []⟩, ⟨none, 39, (.val (.ld (.s 38) (some 3))), [38], none, []⟩, ⟨none, 11, (.alloc (.agg #[(.int .i64 0), (.int .i64 0), (.slice none 0 0)])), [], none, []⟩, ⟨none, 0, (.store 3 (.s 11) (.s 39)), [39], none, []⟩]) (.seq (.region [⟨none, 40, (.val (.fa (.s 3) 0)), [], none, []⟩, ⟨none, 41, (.val (.ld (.s 40) none)), [40], none, []⟩, ⟨none, 42, (.val (.fa (.s 11) 0)), [], none, []⟩, ⟨none, 43, (.val (.ld (.s 42) none)), [42], none, []⟩, ⟨none, 44, (.val (.ia (.s 41) (.s 43) 2)), [41, 43], none, []⟩, ⟨none, 45, (.val (.fa (.s 44) 0)), [44], none, []⟩, ⟨none, 46, (.val (.ld (.s 45) none)), [45], none, []⟩, ⟨none, 47, (.val (.fa (.s 3) 0)), [], none, []⟩, ⟨none, 48, (.val (.ld (.s 47) none)), [47], none, []⟩, ⟨none, 49, (.val (.fa (.s 11) 1)), [], none, []⟩, ⟨none, 50, (.val (.ld (.s 49) none)), [49], none, []⟩, ⟨none, 51, (.val (.ia (.s 48) (.s 50) 2)), [48, 50], none, []⟩, ⟨none, 52, (.val (.fa (.s 51) 0)), [51], none, []⟩, ⟨none, 53, (.val (.ld (.s 52) none)), [52], none, []⟩, ⟨none, 54, (.lit 1 [(.c (.string ⟨#[114, 111, 117, 116, 101]⟩)), (.s 46), (.s 53), (.c (.string ⟨#[118, 105, 97]⟩))]), [46, 53], none, []⟩, ⟨none, 12, (.val (.mv (.s 54))), [54], none, []⟩]) (.seq (.seq (.region [⟨none, 55, (.val (.fa (.s 11) 2)), [11], none, []⟩, ⟨none, 56, (.val (.ld (.s 55) none)), [55], none, []⟩, ⟨none, 57, (.val (.lnl (.s 56) 1)), [], none, []⟩, ⟨none, 58, (.val (.mv (.c (.int .i64 0)))), [], none, []⟩]) (.block 4 (.loop (.seq (.region [⟨none, 59, (.val (.bin .lss (.s 58) (.s 57))), [], none, []⟩]) (.seq (.cond (.s 59) .skip (.exit 4)) (.seq (.block 5 (.seq (.region [⟨none, 60, (.val (.ia (.s 56) (.s 58) 1)), [59], none, []⟩, ⟨none, 61, (.val (.ld (.s 60) none)), [60], none, []⟩, ⟨none, 14, (.val (.mv (.s 61))), [61], none, []⟩]) (.region [⟨none, 62, (.val (.mv (.s 12))), [12], none, []⟩, ⟨none, 63, (.val (.fa (.s 2) 0)), [], none, []⟩, ⟨none, 64, (.val (.ld (.s 63) none)), [63], none, []⟩, ⟨none, 65, (.val (.mv (.s 14))), [14], none, []⟩, ⟨none, 66, (.val (.ia (.s 64) (.s 65) 1)), [64, 65], none, []⟩, ⟨none, 67, (.val (.ld (.s 66) none)), [66], none, []⟩, ⟨none, 68, (.lit 1 [(.s 67)]), [67], none, []⟩, ⟨none, 69, (.app 1 16 false (.s 62) (.s 68)), [62, 68], none, []⟩, ⟨none, 12, (.val (.mv (.s 69))), [69], none, []⟩]))) (.region [⟨none, 70, (.val (.bin .add (.s 58) (.c (.int .i64 1)))), [58], none, []⟩, ⟨none, 58, (.val (.mv (.s 70))), [70], none, []⟩]))))))) (.region [⟨none, 71, (.val (.mv (.s 12))), [12, 56, 57, 58, 59], none, []⟩, ⟨none, 72, (.call 163 [(.s 71), (.c (.string ⟨#[32]⟩))]), [71], none, []⟩, ⟨none, 73, (.val (.bin .add (.s 72) (.c (.string ⟨#[10]⟩)))), [72], none, []⟩, ⟨none, 74, (.call 109 [(.s 7), (.s 73)]), [73, 74], (some 0), []⟩]))))) (.region [⟨none, 75, (.val (.bin .add (.s 36) (.c (.int .i64 1)))), [36], none, []⟩, ⟨none, 36, (.val (.mv (.s 75))), [75], none, []⟩]))))))) (.seq (.region [⟨none, 76, (.call 112 [(.s 7)]), [2, 3, 7, 34, 35, 36, 37], (some 0), []⟩, ⟨none, 4, (.val (.mv (.s 76))), [76], none, []⟩, ⟨none, 5, (.val (.mv (.c (.int .i64 0)))), [], none, []⟩]) .ret))))))
theorem ok71 : FnOk Try.prog 71 cc71 [(.t 4), (.t 5)] 2 77 := ⟨⟨_, Try.func71, by kernel_rfl, by kernel_rfl, by kernel_rfl⟩, by decide, by decide⟩
def reNm (p : Pn) (x : Int) : ByteArray := match p.re[x.toNat]? with | some s => s | none => ⟨#[]⟩
def clNmT (g : Gr) (i : Int) : ByteArray := match g.cl[i.toNat]? with | some c => c.1 | none => ⟨#[]⟩
def rlL (s : ByteArray) : List UInt8 := [114, 101, 108, 97, 121, 32] ++ (bsS s ++ [10])
def rl0 (s : ByteArray) : List UInt8 := [114, 101, 108, 97, 121, 32] ++ bsS s
/-- The words of a route, and its line. -/
def rtW (p : Pn) (g : Gr) (r : Rt) (v : List Int) : List ByteArray := [⟨#[114, 111, 117, 116, 101]⟩, clNmT g r.f, clNmT g r.t, ⟨#[118, 105, 97]⟩] ++ v.map (reNm p)
def rtL (p : Pn) (g : Gr) (r : Rt) : List UInt8 := Lib.join ((rtW p g r r.via).map bsS) [32] ++ [10]
def txtP (p : Pn) (g : Gr) : List UInt8 := (p.re.map rlL).flatten ++ (p.rt.map (rtL p g)).flatten
def txtPR (p : Pn) (g : Gr) : List UInt8 × Int := if chkP p g ≠ 0 then ([], chkP p g) else (txtP p g, 0)
theorem rtE_ft {n m : Int} : ∀ (l ah : List Rt), rtE n m ah l = 0 → ∀ r ∈ l, (0 ≤ r.f ∧ r.f < n) ∧ 0 ≤ r.t ∧ r.t < n
  | [], ah, _, r, hr => by cases hr
  | a :: l, ah, he, r, hr => by
    simp only [rtE] at he
    split at he
    · exact absurd he ‹_›
    rename_i h1
    rcases List.mem_cons.1 hr with rfl | hr
    · have h2 : rtR n m ah r = 0 := by simpa using h1
      unfold rtR at h2
      split at h2
      · cases h2
      rename_i h3
      omega
    · exact rtE_ft l _ he r hr
theorem reNm_size {p : Pn} (hp : SmallP p) (x : Int) : (bsS (reNm p x)).length ≤ 1000 := by
  rw [bs_len]
  unfold reNm
  split
  · exact hp.nm _ _ ‹_›
  · show (⟨#[]⟩ : ByteArray).size ≤ 1000
    decide
theorem clNmT_size {g : Gr} (hs : Small g) (i : Int) : (bsS (clNmT g i)).length ≤ 1000 := by
  rw [bs_len]
  unfold clNmT
  split
  · exact hs.ncl _ _ ‹_›
  · show (⟨#[]⟩ : ByteArray).size ≤ 1000
    decide
theorem rlL_len {s : ByteArray} (h : s.size ≤ 1000) : (rlL s).length ≤ 1007 := by
  simp only [rlL, List.length_append, List.length_cons, List.length_nil, bs_len]; omega
/-- A route's line by its parts. -/
def rtL1 (g : Gr) (r : Rt) : List UInt8 := [114, 111, 117, 116, 101, 32] ++ (bsS (clNmT g r.f) ++ ([32] ++ (bsS (clNmT g r.t) ++ [32, 118, 105, 97])))
def rtL2 (p : Pn) (x : Int) : List UInt8 := 32 :: bsS (reNm p x)
theorem rtL_eq (p : Pn) (g : Gr) (r : Rt) : rtL p g r = rtL1 g r ++ ((r.via.map (rtL2 p)).flatten ++ [10]) := by
  have e : Lib.joinTail [32] ((r.via.map (reNm p)).map bsS) = (r.via.map (rtL2 p)).flatten := by
    simp only [Lib.joinTail, List.map_map]
    congr 1
  have e2 : bsS ⟨#[114, 111, 117, 116, 101]⟩ = [114, 111, 117, 116, 101] := rfl
  have e3 : bsS ⟨#[118, 105, 97]⟩ = [118, 105, 97] := rfl
  rw [rtL, rtW, List.map_append, List.map_cons, List.map_cons, List.map_cons, List.map_cons, List.map_nil, List.cons_append, Lib.join_cons]
  rw [show ∀ a b c (l : List (List UInt8)), Lib.joinTail [32] ([a, b, c] ++ l) = [32] ++ a ++ ([32] ++ b) ++ ([32] ++ c) ++ Lib.joinTail [32] l from fun a b c l => by simp [Lib.joinTail], e, e2, e3]
  simp [rtL1]
theorem rtL_len {p : Pn} {g : Gr} (hp : SmallP p) (hs : Small g) {r : Rt} (h : r.via.length ≤ 20) : (rtL p g r).length ≤ 24000 := by
  have h1 := flat_len 1001 (rtL2 p) r.via fun x _ => by have := reNm_size hp x; simp only [rtL2, List.length_cons]; omega
  have h2 := clNmT_size hs r.f
  have h3 := clNmT_size hs r.t
  have h4 : r.via.length * 1001 ≤ 20 * 1001 := Nat.mul_le_mul_right _ h
  rw [rtL_eq]
  simp only [rtL1, List.length_append, List.length_cons, List.length_nil]
  omega
/-- What stands in a builder: nothing yet, or these bytes. -/
def bA : List UInt8 → AV
  | [] => .agg [.v (.pointer none), .v (.slice none 0 0)]
  | x :: l => .agg [.junk, .ext (RowB 5 (x :: l))]
def bR (r : Nat) : List UInt8 → Rfs
  | [] => [(r, 1, .sa ⟨r, [], 0⟩ 0 174 2)]
  | _ :: _ => [(r, 0, .ref ⟨r, [], 0⟩), (r, 1, .sa ⟨r, [], 0⟩ 0 174 2)]
theorem bA_nil : bA [] = .agg [.v (.pointer none), .v (.slice none 0 0)] := rfl
theorem bR_nil {r : Nat} : bR r [] = [(r, 1, .sa ⟨r, [], 0⟩ 0 174 2)] := rfl
theorem bA_ne {l : List UInt8} (h : l ≠ []) : bA l = .agg [.junk, .ext (RowB 5 l)] := by cases l with | nil => exact absurd rfl h | cons => rfl
theorem bR_ne {r : Nat} {l : List UInt8} (h : l ≠ []) : bR r l = [(r, 0, .ref ⟨r, [], 0⟩), (r, 1, .sa ⟨r, [], 0⟩ 0 174 2)] := by cases l with | nil => exact absurd rfl h | cons => rfl
theorem c112n {rf : Rfs} (hsa : (0, 1, .sa ⟨0, [], 0⟩ 0 174 2) ∈ rf) {Q : AV → Al → Rfs → Prop}
    (h : Q (.v (.string ⟨([] : List UInt8).toArray⟩)) [(0, .agg [.junk, .junk])] []) : ACallsR Try.prog 112 [(0, .agg [.v (.pointer none), .v (.slice none 0 0)])] rf [.ref ⟨0, [], 0⟩] Q := by
  exact bld_string strSpec (.inl rfl) (.inl ⟨rfl, rfl⟩) hsa h
def st71a (I : World → Fp → Value → Fp → Prop) (p : Pn) (g : Gr) (i : Nat) : St :=
  ⟨[(24, .v (.int .i64 i)), (23, .v (.int .i64 p.re.length)), (22, .lst 1 (p.re.map nmA)), (2, .ref ⟨1002, [], 0⟩), (3, .ref ⟨1003, [], 0⟩), (7, .ref ⟨1007, [], 0⟩)], [(1007, bA (tx rlL p.re i)), (1003, gA g), (1002, plA p), (9999, .ext I)], bR 1007 (tx rlL p.re i)⟩
def st71b (I : World → Fp → Value → Fp → Prop) (p : Pn) (g : Gr) (B : List UInt8) (i : Nat) : St :=
  ⟨[(36, .v (.int .i64 i)), (35, .v (.int .i64 p.rt.length)), (34, .lst 3 (p.rt.map rtA)), (2, .ref ⟨1002, [], 0⟩), (3, .ref ⟨1003, [], 0⟩), (7, .ref ⟨1007, [], 0⟩)], [(1007, bA (B ++ tx (rtL p g) p.rt i)), (1003, gA g), (1002, plA p), (9999, .ext I)], bR 1007 (B ++ tx (rtL p g) p.rt i)⟩
def st71c (I : World → Fp → Value → Fp → Prop) (p : Pn) (g : Gr) (z : AV) (R : Rfs) (i : Nat) (r : Rt) (j : Nat) : St :=
  ⟨[(58, .v (.int .i64 j)), (57, .v (.int .i64 r.via.length)), (56, intsA r.via), (12, .sl ⟨2069, [], 0⟩ 1 0 (4 + j)), (36, .v (.int .i64 i)), (35, .v (.int .i64 p.rt.length)), (34, .lst 3 (p.rt.map rtA)), (2, .ref ⟨1002, [], 0⟩), (3, .ref ⟨1003, [], 0⟩), (7, .ref ⟨1007, [], 0⟩)], [(2069, .own 1 ((rtW p g r (r.via.take j)).map nmA)), (1007, z), (1003, gA g), (1002, plA p), (9999, .ext I)], R⟩
theorem c71 (p : Pn) (g : Gr) (hp : SmallP p) (hs : Small g) {Q : AV → Al → Prop} (h : Q (.tup [.v (.string ⟨(txtPR p g).1.toArray⟩), i64A (txtPR p g).2]) []) : ACalls Try.prog 71 [] [plA p, gA g] Q := by
  refine ok71.N hmix rfl ?_
  intro I
  simp only [cc71, OI, ↓reduceIte, reduceCtorEq, Nat.reduceAdd, Nat.reduceEqDiff, Nat.reduceBEq, Nat.reduceLT, Nat.reduceLeDiff, Nat.reduceMul, Nat.reduceSub, Int.reduceLE, Int.reduceLT, Int.reduceEq, Int.reduceBEq, Int.reduceBNe, Int.reduceToNat, Int.reduceNeg, Nat.reduceBNe, plA, gA]
  refine c73 p g hp ?_
  by_cases hc : chkP p g = 0
  · obtain ⟨h0, h1, h2, h3⟩ := chkP0 hc
    have h4 := (chk0 h0).cl4
    have htx : txtPR p g = (txtP p g, 0) := by rw [txtPR, if_neg (by simpa using hc)]
    rw [htx] at h
    have lre : ∀ x ∈ p.re, (rlL x).length ≤ 1007 := fun x hx => by
      obtain ⟨i, hi⟩ := List.getElem?_of_mem hx
      exact rlL_len (hp.nm _ _ hi)
    have lrt : ∀ x ∈ p.rt, (rtL p g x).length ≤ 24000 := fun x hx => by
      obtain ⟨i, hi⟩ := List.getElem?_of_mem hx
      exact rtL_len hp hs (hp.via _ _ hi)
    simp only [OI, ↓reduceIte, reduceCtorEq, Nat.reduceAdd, Nat.reduceEqDiff, Nat.reduceBEq, Nat.reduceLT, Nat.reduceLeDiff, Nat.reduceMul, Nat.reduceSub, Int.reduceLE, Int.reduceLT, Int.reduceEq, Int.reduceBEq, Int.reduceBNe, Int.reduceToNat, Int.reduceNeg, Nat.reduceBNe, i64A, bneF hc]
    refine W_loop (st71a I p g) (fun i => i ≤ p.re.length) (fun i => p.re.length - i) ?_ ⟨0, by omega, ?_⟩ ?_
    · intro i _
      unfold st71a
      cases tx rlL p.re i <;> rfl
    · simp only [OI, ↓reduceIte, reduceCtorEq, Nat.reduceAdd, Nat.reduceEqDiff, Nat.reduceBEq, Nat.reduceLT, Nat.reduceLeDiff, Nat.reduceMul, Nat.reduceSub, Int.reduceLE, Int.reduceLT, Int.reduceEq, Int.reduceBEq, Int.reduceBNe, Int.reduceToNat, Int.reduceNeg, Nat.reduceBNe, st71a, plA, gA, tx_zero, bA_nil, bR_nil]
      try rfl
    intro i hi
    refine W_of_N ok71.small hmix ?_
    have hln := tx_len lre i
    by_cases hil : i < p.re.length
    · have hil' : (i : Int) < p.re.length := by omega
      have i0 : (0 : Int) ≤ i := by omega
      obtain ⟨s, hgi⟩ : ∃ s, p.re[i]? = some s := ⟨_, List.getElem?_eq_getElem hil⟩
      have w1 : IntKind.i64.wrap ((i : Int) + 1) = ((i + 1 : Nat) : Int) := by rw [wrI64 (by omega) (by omega)]; omega
      have hsz := hp.nm i s hgi
      have hbs := bs_len s
      have f1 : (if IntKind.i64.max < (((⟨#[114, 101, 108, 97, 121, 32]⟩ : ByteArray).size + s.size : Nat) : Int) then none else some (Value.string ((⟨#[114, 101, 108, 97, 121, 32]⟩ : ByteArray) ++ s))) = some (Value.string ⟨(rl0 s).toArray⟩) := catL (a := [114, 101, 108, 97, 121, 32]) (by simp only [List.length_cons, List.length_nil]; omega)
      have f2 : (if IntKind.i64.max < (((⟨(rl0 s).toArray⟩ : ByteArray).size + (⟨#[10]⟩ : ByteArray).size : Nat) : Int) then none else some (Value.string ((⟨(rl0 s).toArray⟩ : ByteArray) ++ ⟨#[10]⟩))) = some (Value.string ⟨(rlL s).toArray⟩) := by
        have e : bsS ⟨#[10]⟩ = [10] := rfl
        rw [catL (a := rl0 s) (by simp only [rl0, e, List.length_append, List.length_cons, List.length_nil]; omega)]
        rw [e, rlL, rl0, List.append_assoc]
      have hsn := tx_snoc (f := rlL) hgi
      have hlc := rlL_len hsz
      have hne : tx rlL p.re (i + 1) ≠ [] := by rw [hsn]; simp [rlL]
      rw [hsn] at hne
      by_cases hB : tx rlL p.re i = []
      · rw [hB, List.nil_append] at hsn hne
        simp only [OI, ↓reduceIte, reduceCtorEq, Nat.reduceAdd, Nat.reduceEqDiff, Nat.reduceBEq, Nat.reduceLT, Nat.reduceLeDiff, Nat.reduceMul, Nat.reduceSub, Int.reduceLE, Int.reduceLT, Int.reduceEq, Int.reduceBEq, Int.reduceBNe, Int.reduceToNat, Int.reduceNeg, Nat.reduceBNe, st71a, plA, gA, hil', i0, hgi, nmA, hB, bA_nil, bR_nil, f1, f2]
        refine c109a _ (by simp) (by rw [szl]; omega) ?_
        simp only [OI, ↓reduceIte, reduceCtorEq, Nat.reduceAdd, Nat.reduceEqDiff, Nat.reduceBEq, Nat.reduceLT, Nat.reduceLeDiff, Nat.reduceMul, Nat.reduceSub, Int.reduceLE, Int.reduceLT, Int.reduceEq, Int.reduceBEq, Int.reduceBNe, Int.reduceToNat, Int.reduceNeg, Nat.reduceBNe, bldRf, w1, dtl]
        refine ⟨i + 1, ⟨by omega, by omega⟩, ?_⟩
        simp only [OI, ↓reduceIte, reduceCtorEq, Nat.reduceAdd, Nat.reduceEqDiff, Nat.reduceBEq, Nat.reduceLT, Nat.reduceLeDiff, Nat.reduceMul, Nat.reduceSub, Int.reduceLE, Int.reduceLT, Int.reduceEq, Int.reduceBEq, Int.reduceBNe, Int.reduceToNat, Int.reduceNeg, Nat.reduceBNe, st71a, plA, gA, nmA, bA_ne hne, bR_ne hne, hsn]
        try rfl
      · simp only [OI, ↓reduceIte, reduceCtorEq, Nat.reduceAdd, Nat.reduceEqDiff, Nat.reduceBEq, Nat.reduceLT, Nat.reduceLeDiff, Nat.reduceMul, Nat.reduceSub, Int.reduceLE, Int.reduceLT, Int.reduceEq, Int.reduceBEq, Int.reduceBNe, Int.reduceToNat, Int.reduceNeg, Nat.reduceBNe, st71a, plA, gA, hil', i0, hgi, nmA, bA_ne hB, bR_ne hB, f1, f2]
        refine c109b _ _ (by simp) (by simp) (by rw [szl]; omega) ?_
        simp only [OI, ↓reduceIte, reduceCtorEq, Nat.reduceAdd, Nat.reduceEqDiff, Nat.reduceBEq, Nat.reduceLT, Nat.reduceLeDiff, Nat.reduceMul, Nat.reduceSub, Int.reduceLE, Int.reduceLT, Int.reduceEq, Int.reduceBEq, Int.reduceBNe, Int.reduceToNat, Int.reduceNeg, Nat.reduceBNe, bldRf, w1, dtl]
        refine ⟨i + 1, ⟨by omega, by omega⟩, ?_⟩
        simp only [OI, ↓reduceIte, reduceCtorEq, Nat.reduceAdd, Nat.reduceEqDiff, Nat.reduceBEq, Nat.reduceLT, Nat.reduceLeDiff, Nat.reduceMul, Nat.reduceSub, Int.reduceLE, Int.reduceLT, Int.reduceEq, Int.reduceBEq, Int.reduceBNe, Int.reduceToNat, Int.reduceNeg, Nat.reduceBNe, st71a, plA, gA, nmA, bA_ne hne, bR_ne hne, hsn]
        try rfl
    obtain rfl : i = p.re.length := by omega
    have eB1 : tx rlL p.re p.re.length = (p.re.map rlL).flatten := tx_all
    rw [eB1] at hln
    simp only [OI, ↓reduceIte, reduceCtorEq, Nat.reduceAdd, Nat.reduceEqDiff, Nat.reduceBEq, Nat.reduceLT, Nat.reduceLeDiff, Nat.reduceMul, Nat.reduceSub, Int.reduceLE, Int.reduceLT, Int.reduceEq, Int.reduceBEq, Int.reduceBNe, Int.reduceToNat, Int.reduceNeg, Nat.reduceBNe, st71a, plA, gA, Int.lt_irrefl, eB1]
    have B1n : ((p.re.map rlL).flatten).length ≤ 5000 := by omega
    generalize hD1 : (p.re.map rlL).flatten = B1 at B1n
    clear hln eB1 hil hi
    refine W_loop (st71b I p g B1) (fun i => i ≤ p.rt.length) (fun i => p.rt.length - i) ?_ ⟨0, by omega, ?_⟩ ?_
    · intro i _
      unfold st71b
      cases B1 ++ tx (rtL p g) p.rt i <;> rfl
    · simp only [OI, ↓reduceIte, reduceCtorEq, Nat.reduceAdd, Nat.reduceEqDiff, Nat.reduceBEq, Nat.reduceLT, Nat.reduceLeDiff, Nat.reduceMul, Nat.reduceSub, Int.reduceLE, Int.reduceLT, Int.reduceEq, Int.reduceBEq, Int.reduceBNe, Int.reduceToNat, Int.reduceNeg, Nat.reduceBNe, st71b, plA, gA, tx_zero, List.append_nil]
      exact fun _ h => h
    intro i hi
    refine W_of_N ok71.small hmix ?_
    have hln := tx_len lrt i
    by_cases hil : i < p.rt.length
    · have hil' : (i : Int) < p.rt.length := by omega
      have i0 : (0 : Int) ≤ i := by omega
      obtain ⟨y, hgi⟩ : ∃ y, p.rt[i]? = some y := ⟨_, List.getElem?_eq_getElem hil⟩
      have hmem := List.mem_of_getElem? hgi
      have w1 : IntKind.i64.wrap ((i : Int) + 1) = ((i + 1 : Nat) : Int) := by rw [wrI64 (by omega) (by omega)]; omega
      have hvia := hp.via i y hgi
      have hxs := rtE_via p.rt [] h3 y hmem
      obtain ⟨⟨f0, f1⟩, t0, t1⟩ := rtE_ft p.rt [] h3 y hmem
      obtain ⟨cf, hcf⟩ : ∃ c, g.cl[y.f.toNat]? = some c := ⟨_, List.getElem?_eq_getElem (by omega)⟩
      obtain ⟨ct, hct⟩ : ∃ c, g.cl[y.t.toNat]? = some c := ⟨_, List.getElem?_eq_getElem (by omega)⟩
      have ef : clNmT g y.f = cf.1 := by simp only [clNmT, hcf]
      have et : clNmT g y.t = ct.1 := by simp only [clNmT, hct]
      have hlc := lrt y hmem
      have hsn := tx_snoc (f := rtL p g) hgi
      have hne : B1 ++ tx (rtL p g) p.rt (i + 1) ≠ [] := by rw [hsn]; simp [rtL]
      rw [hsn, ← List.append_assoc] at hne
      have hB2n : (B1 ++ tx (rtL p g) p.rt i).length ≤ 300000 := by rw [List.length_append]; omega
      have hcut : ∀ B : List UInt8, cutRf (notR 2054) ((bR 1007 B).filter fun e => e.1 != 2054) = bR 1007 B := fun B => by cases B <;> rfl
      generalize hB2 : B1 ++ tx (rtL p g) p.rt i = B2 at hne hB2n
      simp only [OI, ↓reduceIte, reduceCtorEq, Nat.reduceAdd, Nat.reduceEqDiff, Nat.reduceBEq, Nat.reduceLT, Nat.reduceLeDiff, Nat.reduceMul, Nat.reduceSub, Int.reduceLE, Int.reduceLT, Int.reduceEq, Int.reduceBEq, Int.reduceBNe, Int.reduceToNat, Int.reduceNeg, Nat.reduceBNe, st71b, plA, gA, hil', i0, hgi, rtA, f0, f1, t0, t1, hcf, hct, clA, hB2]
      refine W_mv 12 2054 2069 rfl rfl rfl (by decide) (by decide) rfl rfl ?_
      refine W_loop (st71c I p g (bA B2) (bR 1007 B2) i y) (fun j => j ≤ y.via.length) (fun j => y.via.length - j) ?_ ⟨0, by omega, ?_⟩ ?_
      · intro j _
        unfold st71c
        cases B2 <;> rfl
      · simp only [OI, ↓reduceIte, reduceCtorEq, Nat.reduceAdd, Nat.reduceEqDiff, Nat.reduceBEq, Nat.reduceLT, Nat.reduceLeDiff, Nat.reduceMul, Nat.reduceSub, Int.reduceLE, Int.reduceLT, Int.reduceEq, Int.reduceBEq, Int.reduceBNe, Int.reduceToNat, Int.reduceNeg, Nat.reduceBNe, st71c, plA, gA, hcut, rtW, List.take_zero, List.map_nil, List.map_cons, List.append_nil, nmA, intsA, ef, et]
        cases B2 <;> exact fun _ h => h
      rintro j hj
      refine W_of_N ok71.small hmix ?_
      by_cases hjl : j < y.via.length
      · have hjl' : (j : Int) < y.via.length := by omega
        have j0 : (0 : Int) ≤ j := by omega
        obtain ⟨x, hxi⟩ : ∃ x, y.via[j]? = some x := ⟨_, List.getElem?_eq_getElem hjl⟩
        obtain ⟨x0, x1⟩ := hxs x (List.mem_of_getElem? hxi)
        obtain ⟨s, hsx⟩ : ∃ s, p.re[x.toNat]? = some s := ⟨_, List.getElem?_eq_getElem (by omega)⟩
        have es : reNm p x = s := by simp only [reNm, hsx]
        have hjtk : y.via.take (j + 1) = y.via.take j ++ [x] := by rw [List.take_add_one, hxi]; rfl
        have hws : rtW p g y (y.via.take (j + 1)) = rtW p g y (y.via.take j) ++ [s] := by rw [hjtk, rtW, rtW, List.map_append, ← List.append_assoc, List.map_cons, es]; rfl
        have hwl : (rtW p g y (y.via.take j)).length = 4 + j := by simp only [rtW, List.length_append, List.length_map, List.length_take, List.length_cons, List.length_nil]; omega
        have wj : IntKind.i64.wrap ((j : Int) + 1) = ((j + 1 : Nat) : Int) := by rw [wrI64 (by omega) (by omega)]; omega
        simp only [OI, ↓reduceIte, reduceCtorEq, Nat.reduceAdd, Nat.reduceEqDiff, Nat.reduceBEq, Nat.reduceLT, Nat.reduceLeDiff, Nat.reduceMul, Nat.reduceSub, Int.reduceLE, Int.reduceLT, Int.reduceEq, Int.reduceBEq, Int.reduceBNe, Int.reduceToNat, Int.reduceNeg, Nat.reduceBNe, st71c, plA, gA, intsA, i64A, hjl', j0, hxi, x0, x1, hsx, nmA, wj, List.length_map, hwl]
        refine ⟨⟨by omega, by omega⟩, ?_⟩
        refine ⟨j + 1, ⟨by omega, by omega⟩, ?_⟩
        simp only [OI, ↓reduceIte, reduceCtorEq, Nat.reduceAdd, Nat.reduceEqDiff, Nat.reduceBEq, Nat.reduceLT, Nat.reduceLeDiff, Nat.reduceMul, Nat.reduceSub, Int.reduceLE, Int.reduceLT, Int.reduceEq, Int.reduceBEq, Int.reduceBNe, Int.reduceToNat, Int.reduceNeg, Nat.reduceBNe, st71c, plA, gA, intsA, hws, List.map_append, List.map_cons, List.map_nil, nmA]
        exact ⟨rfl, by cases B2 <;> exact fun _ h => h⟩
      · obtain rfl : j = y.via.length := by omega
        have hwl : (rtW p g y y.via).length = 4 + y.via.length := by simp only [rtW, List.length_append, List.length_map, List.length_cons, List.length_nil]
        have tw : List.map frz (List.take (4 + y.via.length) (List.map nmA (rtW p g y y.via))) = List.map nmA (rtW p g y y.via) := fz_map nmA (fun _ => rfl) hwl
        have hjl : ((Lib.join ((rtW p g y y.via).map bsS) [32]) ++ [10]).length ≤ 24000 := hlc
        have f3 : (if IntKind.i64.max < (((⟨(Lib.join ((rtW p g y y.via).map bsS) [32]).toArray⟩ : ByteArray).size + (⟨#[10]⟩ : ByteArray).size : Nat) : Int) then none else some (Value.string ((⟨(Lib.join ((rtW p g y y.via).map bsS) [32]).toArray⟩ : ByteArray) ++ ⟨#[10]⟩))) = some (Value.string ⟨(rtL p g y).toArray⟩) := by
          have e : bsS ⟨#[10]⟩ = [10] := rfl
          rw [List.length_append] at hjl
          rw [catL (by rw [e]; omega), e, rtL]
        simp only [OI, ↓reduceIte, reduceCtorEq, Nat.reduceAdd, Nat.reduceEqDiff, Nat.reduceBEq, Nat.reduceLT, Nat.reduceLeDiff, Nat.reduceMul, Nat.reduceSub, Int.reduceLE, Int.reduceLT, Int.reduceEq, Int.reduceBEq, Int.reduceBNe, Int.reduceToNat, Int.reduceNeg, Nat.reduceBNe, st71c, plA, gA, intsA, Int.lt_irrefl, List.take_length, tw, hwl, Nat.le_refl]
        have e1 : (Lib.join (List.map (fun x : ByteArray => x.data.toList) (rtW p g y y.via)) (⟨#[32]⟩ : ByteArray).data.toList) = Lib.join ((rtW p g y y.via).map bsS) [32] := rfl
        refine c163 (rtW p g y y.via) ⟨#[32]⟩ (by omega) (by rw [e1]; rw [List.length_append] at hjl; omega) ?_
        rw [e1]
        by_cases hB : B2 = []
        · subst hB
          rw [List.nil_append] at hne
          simp only [OI, ↓reduceIte, reduceCtorEq, Nat.reduceAdd, Nat.reduceEqDiff, Nat.reduceBEq, Nat.reduceLT, Nat.reduceLeDiff, Nat.reduceMul, Nat.reduceSub, Int.reduceLE, Int.reduceLT, Int.reduceEq, Int.reduceBEq, Int.reduceBNe, Int.reduceToNat, Int.reduceNeg, Nat.reduceBNe, f3, bA_nil, bR_nil]
          refine c109a _ (by simp) (by rw [szl]; omega) ?_
          simp only [OI, ↓reduceIte, reduceCtorEq, Nat.reduceAdd, Nat.reduceEqDiff, Nat.reduceBEq, Nat.reduceLT, Nat.reduceLeDiff, Nat.reduceMul, Nat.reduceSub, Int.reduceLE, Int.reduceLT, Int.reduceEq, Int.reduceBEq, Int.reduceBNe, Int.reduceToNat, Int.reduceNeg, Nat.reduceBNe, bldRf, w1, dtl]
          refine ⟨i + 1, ⟨by omega, by omega⟩, ?_⟩
          have hsn2 : B1 ++ tx (rtL p g) p.rt (i + 1) = rtL p g y := by rw [hsn, ← List.append_assoc, hB2, List.nil_append]
          simp only [OI, ↓reduceIte, reduceCtorEq, Nat.reduceAdd, Nat.reduceEqDiff, Nat.reduceBEq, Nat.reduceLT, Nat.reduceLeDiff, Nat.reduceMul, Nat.reduceSub, Int.reduceLE, Int.reduceLT, Int.reduceEq, Int.reduceBEq, Int.reduceBNe, Int.reduceToNat, Int.reduceNeg, Nat.reduceBNe, st71b, plA, gA, hsn2, bA_ne hne, bR_ne hne]
          try rfl
        · simp only [OI, ↓reduceIte, reduceCtorEq, Nat.reduceAdd, Nat.reduceEqDiff, Nat.reduceBEq, Nat.reduceLT, Nat.reduceLeDiff, Nat.reduceMul, Nat.reduceSub, Int.reduceLE, Int.reduceLT, Int.reduceEq, Int.reduceBEq, Int.reduceBNe, Int.reduceToNat, Int.reduceNeg, Nat.reduceBNe, f3, bA_ne hB, bR_ne hB]
          refine c109b _ _ (by simp) (by simp) (by rw [szl]; omega) ?_
          simp only [OI, ↓reduceIte, reduceCtorEq, Nat.reduceAdd, Nat.reduceEqDiff, Nat.reduceBEq, Nat.reduceLT, Nat.reduceLeDiff, Nat.reduceMul, Nat.reduceSub, Int.reduceLE, Int.reduceLT, Int.reduceEq, Int.reduceBEq, Int.reduceBNe, Int.reduceToNat, Int.reduceNeg, Nat.reduceBNe, bldRf, w1, dtl]
          refine ⟨i + 1, ⟨by omega, by omega⟩, ?_⟩
          have hsn2 : B1 ++ tx (rtL p g) p.rt (i + 1) = B2 ++ rtL p g y := by rw [hsn, ← List.append_assoc, hB2]
          simp only [OI, ↓reduceIte, reduceCtorEq, Nat.reduceAdd, Nat.reduceEqDiff, Nat.reduceBEq, Nat.reduceLT, Nat.reduceLeDiff, Nat.reduceMul, Nat.reduceSub, Int.reduceLE, Int.reduceLT, Int.reduceEq, Int.reduceBEq, Int.reduceBNe, Int.reduceToNat, Int.reduceNeg, Nat.reduceBNe, st71b, plA, gA, hsn2, bA_ne hne, bR_ne hne]
          try rfl
    obtain rfl : i = p.rt.length := by omega
    simp only [OI, ↓reduceIte, reduceCtorEq, Nat.reduceAdd, Nat.reduceEqDiff, Nat.reduceBEq, Nat.reduceLT, Nat.reduceLeDiff, Nat.reduceMul, Nat.reduceSub, Int.reduceLE, Int.reduceLT, Int.reduceEq, Int.reduceBEq, Int.reduceBNe, Int.reduceToNat, Int.reduceNeg, Nat.reduceBNe, st71b, plA, gA, Int.lt_irrefl, tx_all]
    have e : txtP p g = B1 ++ (p.rt.map (rtL p g)).flatten := by rw [txtP, hD1]
    simp only [e, i64A] at h
    by_cases hB : B1 ++ (p.rt.map (rtL p g)).flatten = []
    · rw [hB] at h
      simp only [OI, ↓reduceIte, reduceCtorEq, Nat.reduceAdd, Nat.reduceEqDiff, Nat.reduceBEq, Nat.reduceLT, Nat.reduceLeDiff, Nat.reduceMul, Nat.reduceSub, Int.reduceLE, Int.reduceLT, Int.reduceEq, Int.reduceBEq, Int.reduceBNe, Int.reduceToNat, Int.reduceNeg, Nat.reduceBNe, hB, bA_nil, bR_nil]
      refine c112n (by simp) ?_
      simp only [OI, ↓reduceIte, reduceCtorEq, Nat.reduceAdd, Nat.reduceEqDiff, Nat.reduceBEq, Nat.reduceLT, Nat.reduceLeDiff, Nat.reduceMul, Nat.reduceSub, Int.reduceLE, Int.reduceLT, Int.reduceEq, Int.reduceBEq, Int.reduceBNe, Int.reduceToNat, Int.reduceNeg, Nat.reduceBNe]
      exact h
    · simp only [OI, ↓reduceIte, reduceCtorEq, Nat.reduceAdd, Nat.reduceEqDiff, Nat.reduceBEq, Nat.reduceLT, Nat.reduceLeDiff, Nat.reduceMul, Nat.reduceSub, Int.reduceLE, Int.reduceLT, Int.reduceEq, Int.reduceBEq, Int.reduceBNe, Int.reduceToNat, Int.reduceNeg, Nat.reduceBNe, bA_ne hB, bR_ne hB]
      refine c112 _ (by simp) ?_
      simp only [OI, ↓reduceIte, reduceCtorEq, Nat.reduceAdd, Nat.reduceEqDiff, Nat.reduceBEq, Nat.reduceLT, Nat.reduceLeDiff, Nat.reduceMul, Nat.reduceSub, Int.reduceLE, Int.reduceLT, Int.reduceEq, Int.reduceBEq, Int.reduceBNe, Int.reduceToNat, Int.reduceNeg, Nat.reduceBNe]
      exact h
  · have htx : txtPR p g = ([], chkP p g) := by rw [txtPR, if_pos hc]
    rw [htx] at h
    simp only [OI, ↓reduceIte, reduceCtorEq, Nat.reduceAdd, Nat.reduceEqDiff, Nat.reduceBEq, Nat.reduceLT, Nat.reduceLeDiff, Nat.reduceMul, Nat.reduceSub, Int.reduceLE, Int.reduceLT, Int.reduceEq, Int.reduceBEq, Int.reduceBNe, Int.reduceToNat, Int.reduceNeg, Nat.reduceBNe, i64A, bneT hc]
    exact h
end Go.Proofs.Ythlehngbadianaa.Ow
