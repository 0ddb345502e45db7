/- Regions that draw their order. -/
import Derived.Test.YthlehngbadianaaDoorOwComp
import Derived.Orders
set_option linter.unusedVariables false
set_option linter.unusedSimpArgs false
set_option linter.unnecessarySimpa false
namespace Go.Proofs.YthlehngbadianaaDoor.Ow
open Go Go.RowKit
section
variable {P : Program} {n : Nat}
/-- Whatever order is picked; behind a calm operation what was there is there. -/
def wpAnyC (P : Program) (ops : Array Oper) (Q : Exit → Act → World → Prop) (calm : Nat → Bool) : Nat → Array Bool → Act → World → Prop
  | 0, listed, a, w => Region.ready .any ops listed = [] ∧ Q .normal a w
  | fuel + 1, listed, a, w =>
    (Region.ready .any ops listed = [] → Q .normal a w) ∧
    ∀ i ∈ Region.ready .any ops listed, wpOp P ops Q i (fun a' w' => (calm i = true → Below w.heap.size w w') ∧ wpAnyC P ops Q calm fuel (listed.setIfInBounds i true) a' w') a w
theorem wpAny_of_calm {ops : Array Oper} {Q : Exit → Act → World → Prop} {calm : Nat → Bool} : ∀ (fuel : Nat) (listed : Array Bool) (a : Act) (w : World), wpAnyC P ops Q calm fuel listed a w → wpAny P .any ops Q fuel listed a w
  | 0, _, _, _, h => h
  | fuel + 1, _, _, _, h => ⟨h.1, fun i hi => Go.wpOp_mono (fun a' w' h' => wpAny_of_calm fuel _ a' w' h'.2) (h.2 i hi)⟩
/-- In each world of S the operation gives v. -/
def YieldsS (P : Program) (ops : Array Oper) (S : World → Prop) (o : Oper) (v : Value) (a : Act) : Prop :=
  (Region.wanted o (yielded ops a.tmps) = true ∧ ∀ w, S w → (execOp a.eval o).run P w = .ok (.value v) w) ∨
  (Region.wanted o (yielded ops a.tmps) = false ∧ v = undef)
section
variable {ops : Array Oper} {S : World → Prop} {Q : Exit → Act → World → Prop} {calm : Nat → Bool}
theorem YieldsS.wpOp {i : Nat} {o : Oper} {v : Value} {a : Act} (hi : ops[i]? = some o) (hy : YieldsS P ops S o v a)
    {K : Act → World → Prop} {w : World} (hS : S w) (h : K (a.put o.dst v) w) : wpOp P ops Q i K a w := by
  unfold Go.wpOp
  simp only [hi]
  rcases hy with ⟨hw, hv⟩ | ⟨hw, rfl⟩
  · simp only [hw, if_true, Oper.wp, hv w hS, Oper.upon]; exact .inl h
  · simp only [hw, Bool.false_eq_true, if_false]; exact h
theorem YieldsS.of_same {o : Oper} {v : Value} {a a' : Act} (hy : YieldsS P ops S o v a) (he : execOp a'.eval o = execOp a.eval o)
    (hw : Region.wanted o (yielded ops a'.tmps) = Region.wanted o (yielded ops a.tmps)) : YieldsS P ops S o v a' := by
  unfold YieldsS at *
  rw [he, hw]
  exact hy
theorem wpOp_putS {j : Nat} {oi oj : Oper} {v : Value} (hj : ops[j]? = some oj) (hap : oi.apart ops oj = true)
    (hsi : ∀ cs b, oi.op ≠ .select cs b) (hsj : ∀ cs b, oj.op ≠ .select cs b)
    (hQ : ∀ c a w, Q (.panic c) (a.put oi.dst v) w → Q (.panic c) a w) {K : Act → World → Prop} {a : Act} {w : World}
    (hy : YieldsS P ops S oi v a) (h : wpOp P ops Q j K (a.put oi.dst v) w) :
    wpOp P ops Q j (fun a' w' => YieldsS P ops S oi v a' ∧ K (a'.put oi.dst v) w') a w := by
  obtain ⟨h1, h2, h3⟩ := Oper.apart_spec hap
  have keep : ∀ (a : Act), YieldsS P ops S oi v a → ∀ u, YieldsS P ops S oi v (a.put oj.dst u) := fun a hy u =>
    hy.of_same (execOp_put oi hsi a oj.dst u h3) (wanted_put oi a oj.dst u h3)
  have keepD : ∀ d, YieldsS P ops S oi v { a with defers := d :: a.defers } := fun d => hy.of_same rfl rfl
  unfold wpOp at *
  simp only [hj] at *
  rw [wanted_put oj a oi.dst v h1] at h
  split
  · rename_i hw
    simp only [hw, if_true] at h
    rcases h with h | ⟨hasks, hlets⟩
    case inr => exact .inr ⟨by unfold Oper.asks at *; rw [execOp_put oj hsj a oi.dst v h1] at hasks; exact hasks, hlets⟩
    refine .inl ?_
    unfold Oper.wp at *
    rw [execOp_put oj hsj a oi.dst v h1] at h
    generalize (execOp a.eval oj).run P w = r at *
    cases r with
    | ok n w' =>
      cases n <;> simp only [Oper.upon] at h ⊢
      case value u => exact ⟨keep a hy u, by rw [← Act.put_comm a v u h2]; exact h⟩
      case skip => exact ⟨keep a hy _, by rw [← Act.put_comm a v undef h2]; exact h⟩
      case defer d =>
        refine ⟨keep _ (keepD d) _, ?_⟩
        rw [← Act.put_comm _ v undef h2, ← Act.put_defers]
        exact h
      case enter f args =>
        refine Calls.mono h fun e w'' he => ?_
        cases e with
        | returned u => exact ⟨keep a hy u, by rw [← Act.put_comm a v u h2]; exact he⟩
        | panicked c => exact hQ _ _ _ he
        | outgrown => exact he
      case row row args => exact Rows.mono h fun u w'' he => ⟨keep a hy u, by rw [← Act.put_comm a v u h2]; exact he⟩
    | halt x w' =>
      cases x <;> simp only [Oper.upon] at h ⊢
      case panic u => exact hQ _ _ _ h
  · rename_i hw
    simp only [hw] at h
    exact ⟨keep a hy _, by rw [← Act.put_comm a v undef h2]; exact h⟩
/-- An operation that may come up now may be taken first. -/
theorem wpAnyC_first {i : Nat} {oi : Oper} {v : Value} (hi : ops[i]? = some oi) (hsel : ∀ (j : Nat) (o : Oper) cs b, ops[j]? = some o → o.op ≠ .select cs b)
    (hQ : ∀ c a w, Q (.panic c) (a.put oi.dst v) w → Q (.panic c) a w) (hSB : ∀ w w', S w → Below w.heap.size w w' → S w') :
    ∀ (D : Nat → Bool), (∀ j, D j = true → ∃ oj, ops[j]? = some oj ∧ ∃ e ∈ oj.after, Region.binds .any e = true ∧ (e.on = i ∨ D e.on = true)) →
    ∀ (fuel : Nat) (listed : Array Bool) (a : Act) (w : World), (∀ j, D j = true → listed.getD j true = false) →
      (∀ j oj, ops[j]? = some oj → j ≠ i → listed.getD j true = false → D j = false → oi.apart ops oj = true ∧ ((∀ w, S w) ∨ calm j = true)) →
      i ∈ Region.ready .any ops listed → YieldsS P ops S oi v a → S w →
      wpAnyC P ops Q calm fuel (listed.setIfInBounds i true) (a.put oi.dst v) w → wpAnyC P ops Q calm (fuel + 1) listed a w := by
  intro D hDc fuel
  induction fuel with
  | zero =>
    intro listed a w _ _ hr hy hS H
    refine ⟨fun h => (by rw [h] at hr; cases hr), fun j hj => ?_⟩
    by_cases hji : j = i
    · subst hji; exact hy.wpOp hi hS ⟨fun _ => Below.refl _ _, H⟩
    · have := ready_mono hj hji
      rw [H.1] at this
      cases this
  | succ fuel ih =>
    intro listed a w hDl hfree hr hy hS H
    refine ⟨fun h => (by rw [h] at hr; cases hr), fun j hj => ?_⟩
    by_cases hji : j = i
    · subst hji; exact hy.wpOp hi hS ⟨fun _ => Below.refl _ _, H⟩
    · have h1 := H.2 j (ready_mono hj hji)
      obtain ⟨hjun, oj, hoj, hall⟩ := mem_ready.1 hj
      have hno : ∀ k, (k = i ∨ D k = true) → listed.getD k false = false := fun k hk => by
        have h0 : listed.getD k true = false := by
          rcases hk with rfl | hk
          · exact (mem_ready.1 hr).1
          · exact hDl k hk
        rcases Nat.lt_or_ge k listed.size with h' | h'
        · simp [h'] at h0 ⊢; exact h0
        · simp [Array.getElem?_eq_none h']
      have hnot : D j = false := by
        cases hDj : D j with
        | false => rfl
        | true =>
          obtain ⟨oj', hoj', e, he, hb, hk⟩ := hDc j hDj
          rw [hoj] at hoj'
          simp only [Option.some.injEq] at hoj'
          subst hoj'
          have h1 := hall e he hb
          rw [hno e.on hk] at h1
          cases h1
      obtain ⟨hap, hcal⟩ := hfree j oj hoj hji hjun hnot
      have h2 := wpOp_putS hoj hap (fun cs b => hsel i oi cs b hi) (fun cs b => hsel j oj cs b hoj) hQ hy h1
      have hfree' : ∀ k ok, ops[k]? = some ok → k ≠ i → (listed.setIfInBounds j true).getD k true = false →
          D k = false → oi.apart ops ok = true ∧ ((∀ w, S w) ∨ calm k = true) := fun k ok hk hki hun hno => by
        refine hfree k ok hk hki ?_ hno
        by_cases hjk : j = k
        · subst hjk; exact hjun
        · rw [getD_set_ne true hjk] at hun; exact hun
      refine Go.wpOp_mono (fun a' w' h3 => ?_) h2
      have hDl' : ∀ k, D k = true → (listed.setIfInBounds j true).getD k true = false := fun k hk => by
        by_cases hjk : j = k
        · subst hjk; rw [hnot] at hk; cases hk
        · rw [getD_set_ne true hjk]; exact hDl k hk
      have hS' : S w' := by
        rcases hcal with hc | hc
        · exact hc _
        · exact hSB _ _ hS (h3.2.1 hc)
      refine ⟨h3.2.1, ih (listed.setIfInBounds j true) a' w' hDl' hfree' (ready_mono hr (Ne.symm hji)) h3.1 hS' ?_⟩
      rw [Array.setIfInBounds_comm _ _ hji]
      exact h3.2.2
end
/-- What comes behind number i, in one step or in many. -/
def depStep (ops : Array Oper) (i m j : Nat) : Nat :=
  match ops[j]? with
  | some oj => if oj.after.any (fun e => Region.binds .any e && (e.on == i || m.testBit e.on)) = true then m ||| 2 ^ j else m
  | none => m
def depL (ops : Array Oper) (i : Nat) : List Nat → Nat → Nat
  | [], m => m
  | j :: l, m => depL ops i l (depStep ops i m j)
def depD (ops : Array Oper) (i : Nat) : Nat := depL ops i (List.range ops.size) 0
theorem depStep_mono {ops : Array Oper} {i m j k : Nat} (h : m.testBit k = true) : (depStep ops i m j).testBit k = true := by
  unfold depStep
  split
  · split
    · rw [Nat.testBit_or, h]; rfl
    · exact h
  · exact h
def DepOk (ops : Array Oper) (i m : Nat) : Prop := ∀ j, m.testBit j = true → ∃ oj, ops[j]? = some oj ∧ ∃ e ∈ oj.after, Region.binds .any e = true ∧ (e.on = i ∨ m.testBit e.on = true)
theorem depStep_ok {ops : Array Oper} {i m j : Nat} (h : DepOk ops i m) : DepOk ops i (depStep ops i m j) := by
  intro k hk
  by_cases hm : m.testBit k = true
  · obtain ⟨ok, h1, e, he, hb, ho⟩ := h k hm
    exact ⟨ok, h1, e, he, hb, ho.imp id depStep_mono⟩
  · have hmono : ∀ x, m.testBit x = true → (depStep ops i m j).testBit x = true := fun x => depStep_mono
    unfold depStep at hk hmono ⊢
    split at hk
    · rename_i oj hoj
      split at hk
      · rename_i ha
        rw [Nat.testBit_or, Nat.testBit_two_pow] at hk
        have hjk : j = k := by
          cases h1 : m.testBit k with
          | true => exact absurd h1 hm
          | false => rw [h1] at hk; simpa using hk
        subst hjk
        obtain ⟨e, he, hb⟩ := Array.any_eq_true'.1 ha
        simp only [Bool.and_eq_true, Bool.or_eq_true, beq_iff_eq] at hb
        refine ⟨oj, hoj, e, he, hb.1, ?_⟩
        simp only [hoj, ha, if_true] at hmono ⊢
        exact hb.2.imp id (hmono _)
      · exact absurd hk hm
    · exact absurd hk hm
theorem depL_ok {ops : Array Oper} {i : Nat} : ∀ (l : List Nat) (m : Nat), DepOk ops i m → DepOk ops i (depL ops i l m)
  | [], _, h => h
  | j :: l, m, h => depL_ok l _ (depStep_ok h)
theorem depD_ok (ops : Array Oper) (i : Nat) : DepOk ops i (depD ops i) := depL_ok _ _ (by intro j h; simp at h)
/-- May number i be taken first? -/
def takeOk (ops : Array Oper) (calm : Nat → Bool) (listed : Array Bool) (i : Nat) (ld : Bool) : Bool :=
  (Region.ready .any ops listed).contains i && ((List.range ops.size).all fun j => !((depD ops i).testBit j && listed.getD j true)) && match ops[i]? with
  | none => false
  | some oi => (List.range ops.size).all fun j => j == i || listed.getD j true || match ops[j]? with
      | some oj => (depD ops i).testBit j || (oi.apart ops oj && (!ld || calm j))
      | none => true
theorem takeOk_spec {ops : Array Oper} {calm : Nat → Bool} {listed : Array Bool} {i : Nat} {ld : Bool} {oi : Oper} (hi : ops[i]? = some oi) (h : takeOk ops calm listed i ld = true) :
    i ∈ Region.ready .any ops listed ∧ (∀ j, (depD ops i).testBit j = true → listed.getD j true = false) ∧ ∀ j oj, ops[j]? = some oj → j ≠ i → listed.getD j true = false → (depD ops i).testBit j = false → oi.apart ops oj = true ∧ (ld = true → calm j = true) := by
  simp only [takeOk, hi, Bool.and_eq_true, List.all_eq_true, List.mem_range] at h
  refine ⟨by simpa using h.1.1, ?_, ?_⟩
  · intro j hj
    obtain ⟨oj, hoj, _⟩ := depD_ok ops i j hj
    have h1 := h.1.2 j (Array.getElem?_eq_some_iff.1 hoj).1
    rw [hj, Bool.true_and] at h1
    simpa using h1
  · intro j oj hj hne hun hno
    have h1 := h.2 j (Array.getElem?_eq_some_iff.1 hj).1
    simp only [hj, Bool.or_eq_true, beq_iff_eq, hne, false_or, hun, Bool.false_eq_true, hno] at h1
    simp only [Bool.and_eq_true, Bool.or_eq_true, Bool.not_eq_true'] at h1
    refine ⟨h1.1, fun hl => ?_⟩
    rcases h1.2 with h2 | h2
    · rw [hl] at h2; simp at h2
    · exact h2
/-- What is left of a region, from a state on. -/
def AAny (P : Program) (n : Nat) (ops : Array Oper) (calm : Nat → Bool) (fuel : Nat) (listed : Array Bool) (st : St) (K : Post) : Prop :=
  ∀ w F env a, Rel w F E0 env n a st → wpAnyC P ops (fun e a' w' => e = .normal ∧ Good n w F env K a' w') calm fuel listed a w
theorem wpAnyC_mono {ops : Array Oper} {Q Q' : Exit → Act → World → Prop} {calm : Nat → Bool} (h : ∀ e a w, Q e a w → Q' e a w) : ∀ (fuel : Nat) (listed : Array Bool) (a : Act) (w : World), wpAnyC P ops Q calm fuel listed a w → wpAnyC P ops Q' calm fuel listed a w
  | 0, _, _, _, hh => ⟨hh.1, h _ _ _ hh.2⟩
  | fuel + 1, listed, a, w, hh => by
    refine ⟨fun hr => h _ _ _ (hh.1 hr), fun i hi => ?_⟩
    have h1 := hh.2 i hi
    unfold wpOp at h1 ⊢
    split
    · rename_i ho; simp only [ho] at h1; exact ⟨h1.1, wpAnyC_mono h fuel _ _ _ h1.2⟩
    · rename_i o ho
      simp only [ho] at h1
      split
      · rename_i hw
        rw [if_pos hw] at h1
        rcases h1 with h1 | ⟨h1, a0, w0, h2⟩
        · left
          have h2 := Oper.wp_mono (K' := fun a' w' => (calm i = true → Below w.heap.size w w') ∧ wpAnyC P ops Q' calm fuel (listed.setIfInBounds i true) a' w') (fun a' w' h' => ⟨h'.1, wpAnyC_mono h fuel _ _ _ h'.2⟩) h1
          simp only [Oper.wp, Oper.upon] at h2 ⊢
          split at h2 <;> rename_i hr
          · exact h2
          · exact h2
          · exact h2
          · refine h2.mono ?_
            rintro e w'' he
            cases e with
            | returned v => exact he
            | panicked c => exact h _ _ _ he
            | outgrown => obtain ⟨a0, w0, hq⟩ := he; exact ⟨a0, w0, h _ _ _ hq⟩
          · exact h2
          · exact h _ _ _ h2
          · exact h2.elim
        · right; exact ⟨h1, a0, w0, h _ _ _ h2⟩
      · rename_i hw
        rw [if_neg hw] at h1
        exact ⟨h1.1, wpAnyC_mono h fuel _ _ _ h1.2⟩
section
variable {ops : Array Oper} {calm : Nat → Bool} {st : St} {K : Post}
theorem AAny_done {fuel : Nat} {listed : Array Bool} (hr : Region.ready .any ops listed = []) (hk : K st) : AAny P n ops calm fuel listed st K := by
  intro w F env a h
  cases fuel with
  | zero => exact ⟨hr, rfl, Good.here h hk⟩
  | succ fuel => exact ⟨fun _ => ⟨rfl, Good.here h hk⟩, by rw [hr]; simp⟩
/-- Is the operation wanted? -/
def wantedA (ops : Array Oper) (n : Nat) (st : St) (o : Oper) : Option Bool :=
  match o.guard with
  | none => some true
  | some (j, want) => match (ops[j]?).bind (·.dst) with
    | some s => if s < n then match st.sl.get s with
      | some (.v (.bool b)) => some (b == want)
      | some (.tup []) => some false
      | _ => none
      else none
    | none => none
theorem wanted_sound {w : World} {F : Fp} {env : Nat → RLoc} {a : Act} (h : Rel w F E0 env n a st) {o : Oper} {b : Bool} (hw : wantedA ops n st o = some b) : Region.wanted o (yielded ops a.tmps) = b := by
  simp only [wantedA] at hw
  cases hg : o.guard with
  | none => simp [hg] at hw; subst hw; simp [Region.wanted, hg]
  | some g =>
    obtain ⟨j, want⟩ := g
    simp only [hg] at hw
    cases hs : (ops[j]?).bind (·.dst) with
    | none => simp [hs] at hw
    | some s =>
      simp only [hs] at hw
      split at hw
      · rename_i hsn
        split at hw
        · rename_i b' hb
          simp only [Option.some.injEq] at hw
          subst hw
          have hval : a.tmps[s]? = some (.bool b') := by
            have hev := h.ev (o := .s s) (x := .v (.bool b')) hb
            have := (SV_val hev).1
            simp only [Opd.to, Act.eval] at this
            rw [← this, Array.getD_eq_getD_getElem?, Array.getElem?_eq_getElem (by rw [h.size]; exact hsn)]
            rfl
          have hy : yielded ops a.tmps j = some b' := by simp [yielded, hs, hval]
          simp only [Region.wanted, hg, hy]
          cases b' <;> cases want <;> rfl
        · rename_i hb
          simp only [Option.some.injEq] at hw
          subst hw
          obtain ⟨us, h1, h2, _⟩ := h.ev (o := .s s) (x := .tup []) hb
          simp only [Opd.to, Act.eval] at h1
          have hval : a.tmps[s]? = some (.tuple us) := by
            rw [← h1, Array.getD_eq_getD_getElem?, Array.getElem?_eq_getElem (by rw [h.size]; exact hsn)]
            rfl
          have hy : yielded ops a.tmps j = none := by simp [yielded, hs, hval]
          simp only [Region.wanted, hg, hy]
          cases want <;> rfl
        · simp at hw
      · simp at hw
theorem AAny_drop {fuel : Nat} {listed : Array Bool} {i : Nat} {o : Oper} (ho : ops[i]? = some o) (hg : wantedA ops n st o = some false) (hdn : ∀ d, o.dst = some d → d < n) (hns : Region.noSelect ops = true)
    (hchk : takeOk ops calm listed i false = true) (h : AAny P n ops calm fuel (listed.setIfInBounds i true) (st.unset o.dst) K) : AAny P n ops calm (fuel + 1) listed st K := by
  intro w F env a hr
  obtain ⟨hready, hDl, hfree⟩ := takeOk_spec ho hchk
  have hsel := Region.noSelect_spec hns
  have hrel := hr.unset o.dst hdn
  have hnext := h w F env _ hrel
  refine wpAnyC_first (S := fun _ => True) ho hsel (fun c a w hq => by simp at hq) (fun _ _ _ _ => trivial) (fun j => (depD ops i).testBit j) (depD_ok ops i) fuel listed a w hDl ?_ hready ?_ trivial hnext
  · intro j oj hj hne hun hno
    exact ⟨(hfree j oj hj hne hun hno).1, Or.inl fun _ => trivial⟩
  · right
    exact ⟨wanted_sound hr hg, rfl⟩
theorem AAny_takeZ {st' : St} (hg0 : Ghost st st') {fuel : Nat} {listed : Array Bool} {i d : Nat} {o : Oper} {e : VE} {z : AV} (ho : ops[i]? = some o) (hg : wantedA ops n st o = some true) (hc : compV P o.op = some e) (hd : o.dst = some d) (hdn : d < n) (hns : Region.noSelect ops = true)
    (hchk : takeOk ops calm listed i e.isLd = true) (hx : veval e st' = some z) (h : AAny P n ops calm fuel (listed.setIfInBounds i true) (st'.set d z) K) : AAny P n ops calm (fuel + 1) listed st K := by
  intro w F env a hr
  obtain ⟨F1, env1, hr1, tr1⟩ := hg0 w F env n a hr
  obtain ⟨v, hv, hvr⟩ := veval_sound hr1 hc hx
  obtain ⟨hready, hDl, hfree⟩ := takeOk_spec ho hchk
  have hsel := Region.noSelect_spec hns
  have hnext := wpAnyC_mono (Q' := fun e a' w' => e = .normal ∧ Good n w F env K a' w') (fun e a' w' he => ⟨he.1, Good.trans tr1 he.2⟩) _ _ _ _ (h w F1 env1 _ (hr1.set hdn hvr))
  rw [← hd] at hnext
  refine wpAnyC_first (S := fun w' => e.isLd = true → CellsLe w w') ho hsel (fun c a w hq => by simp at hq) ?_ (fun j => (depD ops i).testBit j) (depD_ok ops i) fuel listed a w hDl ?_ hready ?_ ?_ hnext
  · intro w1 w2 h1 hb hl ad u hu
    exact (hb.cell (World.block_lt_of_cell? w1 ad (h1 hl ad u hu))).trans (h1 hl ad u hu)
  · intro j oj hj hne hun hno
    obtain ⟨h1, h2⟩ := hfree j oj hj hne hun hno
    refine ⟨h1, ?_⟩
    cases hld : e.isLd with
    | true => right; exact h2 hld
    | false => left; intro w' h'; simp at h'
  · left
    exact ⟨wanted_sound hr hg, fun w' hw' => hv w' hw'⟩
  · intro _; exact CellsLe.refl w
theorem wp_false {o : Oper} {a : Act} {w : World} {K : Act → World → Prop} {Q : Exit → Act → World → Prop} (h : o.wp P a w K (fun _ _ _ => False)) : o.wp P a w K Q := by
  simp only [Oper.wp, Oper.upon] at h ⊢
  split at h <;> rename_i hr
  · exact h
  · exact h
  · exact h
  · refine h.mono ?_
    rintro e w'' he
    cases e with
    | returned v => exact he
    | panicked c => exact he.elim
    | outgrown => obtain ⟨_, _, hq⟩ := he; exact hq.elim
  · exact h
  · exact h.elim
  · exact h.elim
/-- What is to be shown for one operation that may come up. -/
def AStep (P : Program) (n : Nat) (ops : Array Oper) (calm : Nat → Bool) (st : St) (i : Nat) (K : Post) : Prop :=
  ∃ o, ops[i]? = some o ∧ ((wantedA ops n st o = some true ∧ AOpC (calm i) P n o st K) ∨ (wantedA ops n st o = some false ∧ (∀ d, o.dst = some d → d < n) ∧ K (st.unset o.dst)))
theorem AAny_all {fuel : Nat} {listed : Array Bool} {rs : List Nat} (hr : Region.ready .any ops listed = rs) (hne : rs ≠ [])
    (h : ∀ i ∈ rs, AStep P n ops calm st i (fun st' => AAny P n ops calm fuel (listed.setIfInBounds i true) st' K)) : AAny P n ops calm (fuel + 1) listed st K := by
  intro w F env a hrel
  refine ⟨fun h0 => absurd (hr ▸ h0) hne, ?_⟩
  rw [hr]
  intro i hi
  obtain ⟨o, ho, hh⟩ := h i hi
  unfold wpOp
  simp only [ho]
  have key : ∀ a' w', Good n w F env (fun st' => AAny P n ops calm fuel (listed.setIfInBounds i true) st' K) a' w' → wpAnyC P ops (fun e a' w' => e = .normal ∧ Good n w F env K a' w') calm fuel (listed.setIfInBounds i true) a' w' := by
    rintro a' w' ⟨F', env', st', hk, hrel', htr⟩
    exact wpAnyC_mono (fun e a' w' he => ⟨he.1, Good.trans htr he.2⟩) _ _ _ _ (hk w' F' env' a' hrel')
  rcases hh with ⟨hg, hop⟩ | ⟨hg, hdn, hk⟩
  · rw [if_pos (wanted_sound hrel hg)]
    left
    exact wp_false (Oper.wp_mono' (fun a' w' hgood => ⟨hgood.1, key a' w' hgood.2⟩) (hop w F env a hrel))
  · rw [if_neg (by rw [wanted_sound hrel hg]; simp)]
    exact ⟨fun _ => Below.refl _ _, hk w F env _ (hrel.unset o.dst hdn)⟩
theorem AW_draw {id : Nat} {Q : Exit → Post} (hm : P.follows .mixedOrders = true) (calm : Nat → Bool) (h : AAny P n ops calm ops.size (Array.replicate ops.size false) st (Q .normal)) : AW P n (.region id ops true) st Q := by
  intro w F env a hr
  have hb : Below w.heap.size w { w with drawn := w.drawn + 1 } := ⟨rfl, rfl, rfl, Nat.le_refl _, fun _ _ => rfl⟩
  obtain ⟨T, ok, _⟩ := hr.ok
  have hag := Agree.below hb E0
  have hr' : Rel { w with drawn := w.drawn + 1 } F E0 env n a st := hr.world hag (fun _ _ _ h => h) (fun _ _ h => .inl h) (fun _ _ h _ => h) (fun _ _ h => h.elim) (fun _ _ h => h.elim) (fun b a hf => ok.fb b a hf)
  refine wp_region_any hm (wpAny_of_calm _ _ _ _ (wpAnyC_mono ?_ _ _ _ _ (h { w with drawn := w.drawn + 1 } F env a hr')))
  rintro e a' w' ⟨rfl, hg⟩
  exact Good.trans ⟨⟨⟨E0, hag, fun _ _ h => h.elim, fun _ _ h => h.elim⟩, fun _ _ h => .inl h⟩, fun _ _ => rfl⟩ hg
end
end
end Go.Proofs.YthlehngbadianaaDoor.Ow
