/- What the functions of the program do, each once: contracts of the logic (part xr kj). -/
import Derived.Test.YthlehngbadianaaDoorOwWeakNil
import Derived.Test.YthlehngbadianaaDoorProg
import Derived.Test.YthlehngbadianaaDoorTd1g1
import Derived.Shelf.Strings.OnBuilder
import Derived.Shelf.Lays
set_option linter.unusedVariables false
set_option linter.unusedSimpArgs false
set_option linter.unnecessarySimpa false
set_option maxRecDepth 100000
set_option maxHeartbeats 4000000
namespace Go.Proofs.YthlehngbadianaaDoor.Ow
open Go Go.RowKit Go.Proofs
/- watershed/watershedref11.Alike -/
def cc87 : CC := (.seq (.region [⟨none, 4, (.val (.mv (.c (.bool false)))), [4], none, []⟩]) (.seq (.seq (.region [⟨none, 6, (.val (.mv (.s 0))), [], none, []⟩, ⟨none, 7, (.val (.lnl (.s 6) 2)), [6], none, []⟩, ⟨none, 8, (.val (.mv (.s 1))), [], none, []⟩, ⟨none, 9, (.val (.lnl (.s 8) 2)), [8], none, []⟩, ⟨none, 10, (.val (.bin .neq (.s 7) (.s 9))), [7, 9], none, []⟩]) (.cond (.s 10) (.seq (.region [⟨none, 4, (.val (.mv (.c (.bool false)))), [0, 1, 10], none, []⟩]) .ret) .skip)) (.seq (.seq (.region [⟨none, 5, (.val (.mv (.c (.int .i64 0)))), [10], none, []⟩]) (.block 0 (.loop (.seq (.seq (.region [⟨none, 11, (.val (.mv (.s 5))), [], none, []⟩, ⟨none, 12, (.val (.mv (.s 0))), [], none, []⟩, ⟨none, 13, (.val (.lnl (.s 12) 2)), [12], none, []⟩, ⟨none, 14, (.val (.bin .lss (.s 11) (.s 13))), [11, 13], none, []⟩]) (.cond (.s 14) .skip (.exit 0))) (.seq (.block 1 (.seq (.region [⟨none, 17, (.val (.mv (.s 0))), [14], none, []⟩, ⟨none, 18, (.val (.mv (.s 5))), [], none, []⟩, ⟨none, 19, (.val (.ia (.s 17) (.s 18) 2)), [17, 18], none, []⟩, ⟨none, 20, (.val (.ld (.s 19) (some 2))), [19], none, []⟩, ⟨none, 21, (.val (.mv (.s 1))), [], none, []⟩, ⟨none, 22, (.val (.mv (.s 5))), [], none, []⟩, ⟨none, 23, (.val (.ia (.s 21) (.s 22) 2)), [21, 22], none, []⟩, ⟨none, 24, (.val (.ld (.s 23) (some 2))), [23], none, []⟩, ⟨none, 25, (.val (.eqa true [1, 1] (.s 20) (.s 24))), [20, 24], none, []⟩]) (.cond (.s 25) (.seq (.region [⟨none, 4, (.val (.mv (.c (.bool false)))), [0, 1, 5, 25], none, []⟩]) .ret) .skip))) (.region [⟨none, 15, (.val (.mv (.s 5))), [5, 25], none, []⟩, ⟨none, 16, (.val (.bin .add (.s 15) (.c (.int .i64 1)))), [15], none, []⟩, ⟨none, 5, (.val (.mv (.s 16))), [16], none, []⟩])))))) (.seq (.region [⟨none, 4, (.val (.mv (.c (.bool true)))), [0, 1, 5, 14], none, []⟩]) .ret))))
theorem ok87 : FnOk Tryd.prog 10 cc87 [(.t 4)] 2 26 := ⟨⟨_, Tryd.func10, by kernel_rfl, by kernel_rfl, by kernel_rfl⟩, by decide, by decide⟩
def recA (r : Int × Int) : AV := .agg [.v (.int .i64 r.1), .v (.int .i64 r.2)]
/-- Records: none, or a list. -/
def recsA : List (Int × Int) → AV
  | [] => .v (.slice none 0 0)
  | r :: rs => .lst 2 ((r :: rs).map recA)
/-- A list that is only read. -/
def roL (c : AV) (l : List (Int × Int)) : Prop := c = recsA l ∨ c = .lst 2 (l.map recA)
theorem roL_cases {c : AV} {l : List (Int × Int)} (h : roL c l) : (c = .v (.slice none 0 0) ∧ l = []) ∨ c = .lst 2 (l.map recA) := by
  rcases h with rfl | rfl
  · cases l
    · exact .inl ⟨rfl, rfl⟩
    · exact .inr rfl
  · exact .inr rfl
def okR (r : Int × Int) : Prop := (-9223372036854775808 ≤ r.1 ∧ r.1 < 9223372036854775808) ∧ (-9223372036854775808 ≤ r.2 ∧ r.2 < 9223372036854775808)
theorem recs_all (l : List (Int × Int)) : (l.all fun x => ntup (recA x) && (recA x).cells.length == 2 && (recA x).cells.all stor) = true := List.all_eq_true.2 fun _ _ => rfl
theorem take_recs (l : List (Int × Int)) : (l.map recA).take l.length = l.map recA := List.take_of_length_le (by simp)
def st87 (I : World → Fp → Value → Fp → Prop) (l : List (Int × Int)) (i : Nat) : St := ⟨[(0, .lst 2 (l.map recA)), (1, .lst 2 (l.map recA)), (5, .v (.int .i64 i))], [(9999, .ext I)], []⟩
def st87n (I : World → Fp → Value → Fp → Prop) (c c' : AV) (i : Unit) : St := ⟨[(0, c), (1, c'), (5, .v (.int .i64 0))], [(9999, .ext I)], []⟩
theorem c87 (l : List (Int × Int)) (c c' : AV) (hc : roL c l) (hc' : roL c' l) (hlen : l.length ≤ 1000000) {Q : AV → Al → Prop} (h : Q (.v (.bool true)) []) : ACalls Tryd.prog 10 [] [c, c'] Q := by
  refine ok87.N hmix rfl ?_
  intro I
  have hempty : l = [] → (c = .v (.slice none 0 0) ∨ c = .lst 2 []) ∧ (c' = .v (.slice none 0 0) ∨ c' = .lst 2 []) := by
    rintro rfl
    exact ⟨(roL_cases hc).imp (fun h => h.1) id, (roL_cases hc').imp (fun h => h.1) id⟩
  by_cases hl : l = []
  · obtain ⟨h1, h2⟩ := hempty hl
    rcases h1 with rfl | rfl <;> rcases h2 with rfl | rfl
    · simp only [cc87, OI, ↓reduceIte, reduceCtorEq, Nat.reduceAdd, Nat.reduceEqDiff, Nat.reduceBEq, Nat.reduceLT, Nat.reduceLeDiff, Nat.reduceMul, Nat.reduceSub, Int.reduceLE, Int.reduceLT, Int.reduceEq, Int.reduceBEq, Int.reduceBNe, Int.reduceToNat, Int.reduceNeg, Nat.reduceBNe]
      refine W_loop (st87n I (.v (.slice none 0 0)) (.v (.slice none 0 0))) (fun _ => True) (fun _ => 0) (fun _ _ => rfl) ⟨(), trivial, ?_⟩ ?_
      · simp only [OI, ↓reduceIte, reduceCtorEq, Nat.reduceAdd, Nat.reduceEqDiff, Nat.reduceBEq, Nat.reduceLT, Nat.reduceLeDiff, Nat.reduceMul, Nat.reduceSub, Int.reduceLE, Int.reduceLT, Int.reduceEq, Int.reduceBEq, Int.reduceBNe, Int.reduceToNat, Int.reduceNeg, Nat.reduceBNe, st87n]
        try rfl
      intro _ _
      refine W_of_N ok87.small hmix ?_
      simp only [OI, ↓reduceIte, reduceCtorEq, Nat.reduceAdd, Nat.reduceEqDiff, Nat.reduceBEq, Nat.reduceLT, Nat.reduceLeDiff, Nat.reduceMul, Nat.reduceSub, Int.reduceLE, Int.reduceLT, Int.reduceEq, Int.reduceBEq, Int.reduceBNe, Int.reduceToNat, Int.reduceNeg, Nat.reduceBNe, st87n, Int.lt_irrefl, Int.natCast_zero]
      exact h
    · simp only [cc87, OI, ↓reduceIte, reduceCtorEq, Nat.reduceAdd, Nat.reduceEqDiff, Nat.reduceBEq, Nat.reduceLT, Nat.reduceLeDiff, Nat.reduceMul, Nat.reduceSub, Int.reduceLE, Int.reduceLT, Int.reduceEq, Int.reduceBEq, Int.reduceBNe, Int.reduceToNat, Int.reduceNeg, Nat.reduceBNe]
      refine W_loop (st87n I (.v (.slice none 0 0)) (.lst 2 [])) (fun _ => True) (fun _ => 0) (fun _ _ => rfl) ⟨(), trivial, ?_⟩ ?_
      · simp only [OI, ↓reduceIte, reduceCtorEq, Nat.reduceAdd, Nat.reduceEqDiff, Nat.reduceBEq, Nat.reduceLT, Nat.reduceLeDiff, Nat.reduceMul, Nat.reduceSub, Int.reduceLE, Int.reduceLT, Int.reduceEq, Int.reduceBEq, Int.reduceBNe, Int.reduceToNat, Int.reduceNeg, Nat.reduceBNe, st87n]
        try rfl
      intro _ _
      refine W_of_N ok87.small hmix ?_
      simp only [OI, ↓reduceIte, reduceCtorEq, Nat.reduceAdd, Nat.reduceEqDiff, Nat.reduceBEq, Nat.reduceLT, Nat.reduceLeDiff, Nat.reduceMul, Nat.reduceSub, Int.reduceLE, Int.reduceLT, Int.reduceEq, Int.reduceBEq, Int.reduceBNe, Int.reduceToNat, Int.reduceNeg, Nat.reduceBNe, st87n, Int.lt_irrefl, Int.natCast_zero]
      exact h
    · simp only [cc87, OI, ↓reduceIte, reduceCtorEq, Nat.reduceAdd, Nat.reduceEqDiff, Nat.reduceBEq, Nat.reduceLT, Nat.reduceLeDiff, Nat.reduceMul, Nat.reduceSub, Int.reduceLE, Int.reduceLT, Int.reduceEq, Int.reduceBEq, Int.reduceBNe, Int.reduceToNat, Int.reduceNeg, Nat.reduceBNe]
      refine W_loop (st87n I (.lst 2 []) (.v (.slice none 0 0))) (fun _ => True) (fun _ => 0) (fun _ _ => rfl) ⟨(), trivial, ?_⟩ ?_
      · simp only [OI, ↓reduceIte, reduceCtorEq, Nat.reduceAdd, Nat.reduceEqDiff, Nat.reduceBEq, Nat.reduceLT, Nat.reduceLeDiff, Nat.reduceMul, Nat.reduceSub, Int.reduceLE, Int.reduceLT, Int.reduceEq, Int.reduceBEq, Int.reduceBNe, Int.reduceToNat, Int.reduceNeg, Nat.reduceBNe, st87n]
        try rfl
      intro _ _
      refine W_of_N ok87.small hmix ?_
      simp only [OI, ↓reduceIte, reduceCtorEq, Nat.reduceAdd, Nat.reduceEqDiff, Nat.reduceBEq, Nat.reduceLT, Nat.reduceLeDiff, Nat.reduceMul, Nat.reduceSub, Int.reduceLE, Int.reduceLT, Int.reduceEq, Int.reduceBEq, Int.reduceBNe, Int.reduceToNat, Int.reduceNeg, Nat.reduceBNe, st87n, Int.lt_irrefl, Int.natCast_zero]
      exact h
    · simp only [cc87, OI, ↓reduceIte, reduceCtorEq, Nat.reduceAdd, Nat.reduceEqDiff, Nat.reduceBEq, Nat.reduceLT, Nat.reduceLeDiff, Nat.reduceMul, Nat.reduceSub, Int.reduceLE, Int.reduceLT, Int.reduceEq, Int.reduceBEq, Int.reduceBNe, Int.reduceToNat, Int.reduceNeg, Nat.reduceBNe]
      refine W_loop (st87n I (.lst 2 []) (.lst 2 [])) (fun _ => True) (fun _ => 0) (fun _ _ => rfl) ⟨(), trivial, ?_⟩ ?_
      · simp only [OI, ↓reduceIte, reduceCtorEq, Nat.reduceAdd, Nat.reduceEqDiff, Nat.reduceBEq, Nat.reduceLT, Nat.reduceLeDiff, Nat.reduceMul, Nat.reduceSub, Int.reduceLE, Int.reduceLT, Int.reduceEq, Int.reduceBEq, Int.reduceBNe, Int.reduceToNat, Int.reduceNeg, Nat.reduceBNe, st87n]
        try rfl
      intro _ _
      refine W_of_N ok87.small hmix ?_
      simp only [OI, ↓reduceIte, reduceCtorEq, Nat.reduceAdd, Nat.reduceEqDiff, Nat.reduceBEq, Nat.reduceLT, Nat.reduceLeDiff, Nat.reduceMul, Nat.reduceSub, Int.reduceLE, Int.reduceLT, Int.reduceEq, Int.reduceBEq, Int.reduceBNe, Int.reduceToNat, Int.reduceNeg, Nat.reduceBNe, st87n, Int.lt_irrefl, Int.natCast_zero]
      exact h
  · have hcl : c = .lst 2 (l.map recA) := (roL_cases hc).resolve_left fun hh => hl hh.2
    have hcl' : c' = .lst 2 (l.map recA) := (roL_cases hc').resolve_left fun hh => hl hh.2
    subst hcl hcl'
    simp only [cc87, OI, ↓reduceIte, reduceCtorEq, Nat.reduceAdd, Nat.reduceEqDiff, Nat.reduceBEq, Nat.reduceLT, Nat.reduceLeDiff, Nat.reduceMul, Nat.reduceSub, Int.reduceLE, Int.reduceLT, Int.reduceEq, Int.reduceBEq, Int.reduceBNe, Int.reduceToNat, Int.reduceNeg, Nat.reduceBNe, bne_self_eq_false]
    refine W_loop (st87 I l) (fun i => i ≤ l.length) (fun i => l.length - i) (fun _ _ => rfl) ⟨0, by omega, ?_⟩ ?_
    · simp only [OI, ↓reduceIte, reduceCtorEq, Nat.reduceAdd, Nat.reduceEqDiff, Nat.reduceBEq, Nat.reduceLT, Nat.reduceLeDiff, Nat.reduceMul, Nat.reduceSub, Int.reduceLE, Int.reduceLT, Int.reduceEq, Int.reduceBEq, Int.reduceBNe, Int.reduceToNat, Int.reduceNeg, Nat.reduceBNe, st87]
      try rfl
    intro i hi
    refine W_of_N ok87.small hmix ?_
    by_cases hil : i < l.length
    · have hil' : (i : Int) < l.length := by omega
      have i0 : (0 : Int) ≤ i := by omega
      have hgi : l[i]? = some l[i] := List.getElem?_eq_getElem hil
      have w1 : IntKind.i64.wrap ((i : Int) + 1) = ((i + 1 : Nat) : Int) := by rw [wrI64 (by omega) (by omega)]; omega
      simp only [OI, ↓reduceIte, reduceCtorEq, Nat.reduceAdd, Nat.reduceEqDiff, Nat.reduceBEq, Nat.reduceLT, Nat.reduceLeDiff, Nat.reduceMul, Nat.reduceSub, Int.reduceLE, Int.reduceLT, Int.reduceEq, Int.reduceBEq, Int.reduceBNe, Int.reduceToNat, Int.reduceNeg, Nat.reduceBNe, st87, hil', i0, hgi, recA, w1, fit1, fitL, eqL, eq1]
      refine ⟨i + 1, ⟨by omega, by omega⟩, ?_⟩
      simp only [OI, ↓reduceIte, reduceCtorEq, Nat.reduceAdd, Nat.reduceEqDiff, Nat.reduceBEq, Nat.reduceLT, Nat.reduceLeDiff, Nat.reduceMul, Nat.reduceSub, Int.reduceLE, Int.reduceLT, Int.reduceEq, Int.reduceBEq, Int.reduceBNe, Int.reduceToNat, Int.reduceNeg, Nat.reduceBNe, st87]
    · obtain rfl : i = l.length := by omega
      simp only [OI, ↓reduceIte, reduceCtorEq, Nat.reduceAdd, Nat.reduceEqDiff, Nat.reduceBEq, Nat.reduceLT, Nat.reduceLeDiff, Nat.reduceMul, Nat.reduceSub, Int.reduceLE, Int.reduceLT, Int.reduceEq, Int.reduceBEq, Int.reduceBNe, Int.reduceToNat, Int.reduceNeg, Nat.reduceBNe, st87, Int.lt_irrefl]
      exact h
end Go.Proofs.YthlehngbadianaaDoor.Ow
set_option maxRecDepth 100000
namespace Go.Proofs.YthlehngbadianaaDoor.Ow
open Go Go.RowKit Go.Proofs Go.Shelf
def jnRen : Go.Shelf.Ren := ⟨fun | 156 => 21 | 165 => 39 | 166 => 40 | 169 => 41 | 240 => 64 | 241 => 65 | 276 => 94 | 277 => 95 | n => n, fun | 0 => 0 | 3 => 3 | 4 => 4 | 5 => 5 | 9 => 9 | 20 => 20 | 31 => 37 | 37 => 99 | 70 => 100 | 72 => 102 | 75 => 105 | 76 => 106 | 80 => 108 | 127 => 124 | 164 => 149 | n => n, fun n => n⟩
theorem jnLays : Lays.n156 Tryd.prog jnRen := {
  mixed := by kernel_rfl
  f156 := by kernel_rfl
  f165 := by kernel_rfl
  f166 := by kernel_rfl
  f169 := by kernel_rfl
  f240 := by kernel_rfl
  f241 := by kernel_rfl
  f276 := by kernel_rfl
  f277 := by kernel_rfl
  t0 := Tryd.underlying0
  a0 := Tryd.isAgg0
  z0 := Tryd.sizeOf0
  v0 := Tryd.zeroValue0
  t3 := Tryd.underlying3
  a3 := Tryd.isAgg3
  z3 := Tryd.sizeOf3
  v3 := Tryd.zeroValue3
  t4 := Tryd.underlying4
  a4 := Tryd.isAgg4
  z4 := Tryd.sizeOf4
  v4 := Tryd.zeroValue4
  t9 := Tryd.underlying9
  a9 := Tryd.isAgg9
  z9 := Tryd.sizeOf9
  v9 := Tryd.zeroValue9
  t20 := Tryd.underlying20
  a20 := Tryd.isAgg20
  z20 := Tryd.sizeOf20
  v20 := Tryd.zeroValue20
  t31 := Tryd.underlying37
  a31 := Tryd.isAgg37
  z31 := Tryd.sizeOf37
  v31 := Tryd.zeroValue37
  t37 := Tryd.underlying99
  a37 := Tryd.isAgg99
  z37 := Tryd.sizeOf99
  v37 := Tryd.zeroValue99
  t70 := Tryd.underlying100
  a70 := Tryd.isAgg100
  z70 := Tryd.sizeOf100
  v70 := Tryd.zeroValue100
  t72 := Tryd.underlying102
  a72 := Tryd.isAgg102
  z72 := Tryd.sizeOf102
  v72 := Tryd.zeroValue102
  t75 := Tryd.underlying105
  a75 := Tryd.isAgg105
  z75 := Tryd.sizeOf105
  v75 := Tryd.zeroValue105
  t76 := Tryd.underlying106
  a76 := Tryd.isAgg106
  z76 := Tryd.sizeOf106
  v76 := Tryd.zeroValue106
  t127 := Tryd.underlying124
  a127 := Tryd.isAgg124
  z127 := Tryd.sizeOf124
  v127 := Tryd.zeroValue124
  t164 := Tryd.underlying149
  a164 := Tryd.isAgg149
  z164 := Tryd.sizeOf149
  v164 := Tryd.zeroValue149 }
theorem jnExtra : Builder.Extra Tryd.prog jnRen := {
  sizeBuilder := by kernel_rfl
  liesBuilder := by kernel_rfl
  t5 := Tryd.underlying5
  a5 := Tryd.isAgg5
  z5 := Tryd.sizeOf5
  v5 := Tryd.zeroValue5
  infoByte := by kernel_rfl
  cellsByte := by kernel_rfl
  sizeByte := by kernel_rfl
  neB5 := by decide }
theorem c163 (ws : List ByteArray) (sep : ByteArray) (hN : ws.length ≤ 140737488355328) (hlen : (Lib.join (ws.map (·.data.toList)) sep.data.toList).length ≤ 140737488355328) {Q : AV → Al → Prop} (h : Q (.v (.string ⟨(Lib.join (ws.map (·.data.toList)) sep.data.toList).toArray⟩)) []) :
    ACalls Tryd.prog 21 [] [.lst 1 (ws.map fun s => .v (.string s)), .v (.string sep)] Q := by
  refine ACalls.kit rfl ?_ h
  intro I w F env vals hl hv
  obtain ⟨u0, e0, s0⟩ := hv 0 _ rfl
  obtain ⟨u1, e1, s1⟩ := hv 1 _ rfl
  have hvals : vals = #[u0, u1] := by
    apply Array.ext_getElem?
    intro i
    match i with
    | 0 => rw [e0]; rfl
    | 1 => rw [e1]; rfl
    | i + 2 => rw [Array.getElem?_eq_none (by rw [hl]; simp), Array.getElem?_eq_none (by simp)]
  subst hvals
  have h1 : u1 = .string sep := by
    have s1' : Rep w F (.v (.string sep)) u1 E0 := s1
    cases s1'; rfl
  subst h1
  rcases lst_cells s0 with ⟨rfl, a, c, rfl⟩ | ⟨B, o, c, rfl, hc, hB, hcell⟩
  · refine (Any.strings_Join_none jnLays jnExtra a c sep w).mono ?_
    rintro e w' ⟨rfl, rfl⟩
    exact ⟨by simp [Lib.join], Below.refl _ _⟩
  · exact Any.strings_Join jnLays jnExtra B o c ws sep w hcell hB hN hc hlen
end Go.Proofs.YthlehngbadianaaDoor.Ow
