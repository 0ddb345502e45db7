/- What the functions of the program do, each once: contracts of the logic (part g8). -/
import Derived.Test.YthlehngbadianaaTg7
set_option linter.unusedVariables false
set_option linter.unusedSimpArgs false
set_option linter.unnecessarySimpa false
set_option maxRecDepth 100000
set_option maxHeartbeats 4000000
namespace Go.Proofs.Ythlehngbadianaa.Ow
open Go Go.RowKit Go.Proofs
/-- What is wrong with a graph. -/
def chk (g : Gr) : Int :=
  if 4 < g.cl.length ∨ 6 < g.lo.length ∨ 24 < g.op.length ∨ 48 < g.ch.length then 7
  else if g.cl.length = 0 ∨ g.op.length = 0 then 3
  else if clE [] g.cl ≠ 0 then clE [] g.cl
  else if loE g.lo [] 0 g.lo ≠ 0 then loE g.lo [] 0 g.lo
  else if opE g [] g.op ≠ 0 then opE g [] g.op
  else chE g 0 g.ch
theorem loE_wf {all : List Lo} : ∀ (l : List Lo) (sn : List ByteArray) (i : Nat), all.drop i = l → WfL all i → loE all sn i l = 0 → WfL all all.length
  | [], sn, i, hd, hW, _ => by
    intro k hk
    have : all.length ≤ i := by
      have h := congrArg List.length hd
      simp only [List.length_drop, List.length_nil] at h; omega
    exact hW k (by omega)
  | x :: r, sn, i, hd, hW, he => by
    have hx : all[i]? = some x := by
      have := congrArg (fun l => l[0]?) hd
      simpa [List.getElem?_drop] using this
    have hr : all.drop (i + 1) = r := by
      have := congrArg List.tail hd
      simpa [List.tail_drop] using this
    simp only [loE] at he
    split at he
    · exact absurd he ‹_›
    · split at he
      · cases he
      · split at he
        · cases he
        · exact loE_wf r _ (i + 1) hr (hW.snoc hx (by omega) (by omega)) he
theorem loE0 {g : Gr} (h : loE g.lo [] 0 g.lo = 0) : WfL g.lo g.lo.length := loE_wf g.lo [] 0 (by simp) (fun k hk => by omega) h
theorem opE_all {g : Gr} : ∀ (l : List O6) (sn : List ByteArray), opE g sn l = 0 → ∀ o ∈ l, opR g o = 0
  | [], sn, _, o, ho => by cases ho
  | x :: r, sn, he, o, ho => by
    simp only [opE] at he
    split at he
    · exact absurd he ‹_›
    · split at he
      · exact absurd he ‹_›
      · rcases List.mem_cons.1 ho with rfl | ho
        · omega
        · exact opE_all r _ he o ho
structure OpFine (g : Gr) (o : O6) : Prop where
  k1 : 1 ≤ o.k
  k2 : o.k ≤ 14
  l1 : -1 ≤ o.lo
  l2 : o.lo < g.lo.length
  a1 : 0 ≤ o.at_
  a2 : o.at_ < g.cl.length
  out : o.k ≤ 2 → o.lo = -1
  inn : 7 ≤ o.k → o.k ≤ 9 → o.lo ≠ -1
  num : numOk o = true
theorem opR0 {g : Gr} {o : O6} (h : opR g o = 0) : OpFine g o := by
  unfold opR at h
  split at h
  · cases h
  split at h
  · cases h
  split at h
  · cases h
  split at h
  · cases h
  rename_i h1 h2 h3 h4
  refine ⟨by omega, by omega, by omega, by omega, by omega, by omega, fun _ => by omega, fun _ _ => by omega, by simpa using h4⟩
theorem opE0 {g : Gr} (h : opE g [] g.op = 0) {m : Nat} {o : O6} (ho : g.op[m]? = some o) : OpFine g o := opR0 (opE_all _ _ h o (List.mem_of_getElem? ho))
theorem OpFine.loOk {g : Gr} {o : O6} (h : OpFine g o) : LoOk g o := by
  intro hk
  have := h.inn (by omega) (by omega)
  have a := h.l1
  have b := h.l2
  exact ⟨_, List.getElem?_eq_getElem (by omega), by omega, h.l2⟩
theorem opE0_oks {g : Gr} (h : opE g [] g.op = 0) : LoOks g := fun _ _ ho => (opE0 h ho).loOk
theorem chE_all {g : Gr} : ∀ (l : List Ch) (i : Nat), chE g i l = 0 → ∀ (j : Nat) (c : Ch), l[j]? = some c → chR g (i + j) c = 0
  | [], i, _, j, c, hj => by simp at hj
  | x :: r, i, he, j, c, hj => by
    simp only [chE] at he
    split at he
    · exact absurd he ‹_›
    · cases j with
      | zero =>
        simp only [List.getElem?_cons_zero, Option.some.injEq] at hj
        subst hj; simpa using ‹¬ chR g i x ≠ 0›
      | succ j =>
        have := chE_all r (i + 1) he j c (by simpa using hj)
        rw [show i + (j + 1) = i + 1 + j from by omega]; exact this
structure Fine (g : Gr) : Prop where
  cl4 : g.cl.length ≤ 4
  lo6 : g.lo.length ≤ 6
  op24 : g.op.length ≤ 24
  ch48 : g.ch.length ≤ 48
  wf : WfL g.lo g.lo.length
  op : ∀ (m : Nat) o, g.op[m]? = some o → OpFine g o
  ch : ∀ (i : Nat) c, g.ch[i]? = some c → ∃ x y, 0 ≤ c.1 ∧ c.1 < g.op.length ∧ 0 ≤ c.2 ∧ c.2 < g.op.length ∧ g.op[c.1.toNat]? = some x ∧ g.op[c.2.toNat]? = some y
theorem chk0 {g : Gr} (h : chk g = 0) : Fine g := by
  unfold chk at h
  split at h
  · cases h
  split at h
  · cases h
  split at h
  · exact absurd h ‹_›
  split at h
  · exact absurd h ‹_›
  split at h
  · exact absurd h ‹_›
  rename_i h1 h2 h3 h4 h5
  have h4' : loE g.lo [] 0 g.lo = 0 := by simpa using h4
  have h5' : opE g [] g.op = 0 := by simpa using h5
  refine ⟨by omega, by omega, by omega, by omega, loE0 h4', fun m o ho => opE0 h5' ho, fun i c hc => ?_⟩
  have hR := chE_all g.ch 0 h i c hc
  unfold chR at hR
  split at hR
  · rename_i hb
    exact ⟨_, _, hb.1, hb.2.1, hb.2.2.1, hb.2.2.2, List.getElem?_eq_getElem (by omega), List.getElem?_eq_getElem (by omega)⟩
  · cases hR
theorem Fine.oks {g : Gr} (h : Fine g) : LoOks g := fun _ _ ho => (h.op _ _ ho).loOk
end Go.Proofs.Ythlehngbadianaa.Ow
