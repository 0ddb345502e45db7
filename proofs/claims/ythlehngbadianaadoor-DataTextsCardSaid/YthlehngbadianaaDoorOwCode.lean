/- Steps, regions, code: the rules. -/
import Derived.Test.YthlehngbadianaaDoorOwOps1Ops2Ops3
set_option linter.unusedVariables false
set_option linter.unusedSimpArgs false
set_option linter.unnecessarySimpa false
namespace Go.Proofs.YthlehngbadianaaDoor.Ow
open Go Go.RowKit
section
variable {P : Program} {n : Nat} {st : St}
/-- The same state, told otherwise. -/
def Ghost (st st' : St) : Prop := ∀ (w : World) (F : Fp) (env : Nat → RLoc) (n : Nat) (a : Act), Rel w F E0 env n a st → ∃ F' env', Rel w F' E0 env' n a st' ∧ Tr w F env w F' env'
theorem Ghost.refl (st : St) : Ghost st st := fun w F env n a h => ⟨F, env, h, Tr.refl _ _ _⟩
theorem Ghost.trans {st1 st2 st3 : St} (h : Ghost st1 st2) (k : Ghost st2 st3) : Ghost st1 st3 := fun w F env n a hr => by
  obtain ⟨F1, e1, h1, h2⟩ := h w F env n a hr
  obtain ⟨F2, e2, k1, k2⟩ := k w F1 e1 n a h1
  exact ⟨F2, e2, k1, h2.trans k2⟩
/-- One operation. -/
def AOp (P : Program) (n : Nat) (o : Oper) (st : St) (K : Post) : Prop :=
  ∀ w F env a, Rel w F E0 env n a st → o.wp P a w (Good n w F env K) (fun _ _ _ => False)
theorem Oper.wp_mono' {o : Oper} {a : Act} {w : World} {K K' : Act → World → Prop} {Q : Exit → Act → World → Prop} (h : ∀ a w, K a w → K' a w) (hh : o.wp P a w K Q) : o.wp P a w K' Q := by
  simp only [Oper.wp, Oper.upon] at hh ⊢
  split at hh <;> rename_i hr
  · exact h _ _ hh
  · exact h _ _ hh
  · exact h _ _ hh
  · refine hh.mono ?_
    rintro e w'' he
    cases e with
    | returned v => exact h _ _ he
    | panicked c => exact he
    | outgrown => exact he
  · exact hh.mono fun v w'' hv => h _ _ hv
  · exact hh
  · exact hh.elim
/-- One operation; a calm one changes nothing that was there. -/
def AOpC (b : Bool) (P : Program) (n : Nat) (o : Oper) (st : St) (K : Post) : Prop :=
  ∀ w F env a, Rel w F E0 env n a st → o.wp P a w (fun a' w' => (b = true → Below w.heap.size w w') ∧ Good n w F env K a' w') (fun _ _ _ => False)
theorem AOp.c {o : Oper} {K : Post} (h : AOp P n o st K) : AOpC false P n o st K := fun w F env a hr => Oper.wp_mono' (fun a' w' hg => ⟨by simp, hg⟩) (h w F env a hr)
theorem AOpC.op {b : Bool} {o : Oper} {K : Post} (h : AOpC b P n o st K) : AOp P n o st K := fun w F env a hr => Oper.wp_mono' (fun a' w' hg => hg.2) (h w F env a hr)
theorem AOpC.mono {b : Bool} {o : Oper} {K K' : Post} (h : AOpC b P n o st K) (hk : ∀ st, K st → K' st) : AOpC b P n o st K' := fun w F env a hr => Oper.wp_mono' (fun a' w' hg => ⟨hg.1, hg.2.mono hk⟩) (h w F env a hr)
theorem AOpC.ghost {b : Bool} {o : Oper} {st' : St} {K : Post} (hg : Ghost st st') (h : AOpC b P n o st' K) : AOpC b P n o st K := fun w F env a hr => by
  obtain ⟨F1, e1, h1, h2⟩ := hg w F env n a hr
  exact Oper.wp_mono' (fun a' w' hh => ⟨hh.1, Good.trans h2 hh.2⟩) (h w F1 e1 a h1)
theorem AOpC.behind {b : Bool} {o : Oper} {K K' : Post} (h : AOpC b P n o st K) (hk : ∀ st, K st → ∃ st', Ghost st st' ∧ K' st') : AOpC b P n o st K' := fun w F env a hr => Oper.wp_mono' (fun a' w' hg => ⟨hg.1, by
  obtain ⟨F1, e1, st1, k1, k2, k3⟩ := hg.2
  obtain ⟨st2, g1, g2⟩ := hk st1 k1
  obtain ⟨F2, e2, m1, m2⟩ := g1 _ _ _ _ _ k2
  exact ⟨F2, e2, st2, g2, m1, k3.trans m2⟩⟩) (h w F env a hr)
theorem Rel.step {w : World} {F : Fp} {env : Nat → RLoc} {a : Act} (h : Rel w F E0 env n a st) {d : Nat} (hd : d < n) {x : AV} {v : Value} (hv : SV w F env st.rt x v) {K : Post} (hk : K (st.set d x)) : Good n w F env K (a.put (some d) v) w :=
  ⟨F, env, _, hk, h.set hd hv, Tr.refl _ _ _⟩
theorem AOpC_val {b : Bool} {o : Oper} {e : VE} {d : Nat} {K : Post} (hc : compV P o.op = some e) (hd : o.dst = some d) (hdn : d < n) {z : AV} (hx : veval e st = some z) (hk : K (st.set d z)) : AOpC b P n o st K := by
  intro w F env a h
  obtain ⟨v, h1, h2⟩ := veval_sound h hc hx
  simp only [Oper.wp, h1 w (fun _ => CellsLe.refl w), Oper.upon, hd]
  exact ⟨fun _ => Below.refl _ _, h.step hdn h2 hk⟩
/-! A region that keeps to its order. -/
def AOps (P : Program) (n : Nat) (ops : Array Oper) (l : List Nat) (st : St) (K : Post) : Prop :=
  ∀ w F env a, Rel w F E0 env n a st → wpOps P ops (fun e a' w' => e = .normal ∧ Good n w F env K a' w') l a w
theorem wpOps_mono {ops : Array Oper} {Q Q' : Exit → Act → World → Prop} (h : ∀ e a w, Q e a w → Q' e a w) : ∀ (l : List Nat) (a : Act) (w : World), wpOps P ops Q l a w → wpOps P ops Q' l a w
  | [], a, w, hh => h _ _ _ hh
  | i :: rest, a, w, hh => by
    simp only [wpOps] at hh ⊢
    cases ho : ops[i]? with
    | none => simp only [ho] at hh ⊢; exact wpOps_mono h rest _ _ hh
    | some o =>
      simp only [ho] at hh ⊢
      split
      · rename_i hw
        rw [if_pos hw] at hh
        rcases hh with hh | ⟨h1, a0, w0, h2⟩
        · left
          simp only [Oper.wp, Oper.upon] at hh ⊢
          split at hh <;> rename_i hr
          · exact wpOps_mono h rest _ _ hh
          · exact wpOps_mono h rest _ _ hh
          · exact wpOps_mono h rest _ _ hh
          · refine hh.mono ?_
            rintro e w'' he
            cases e with
            | returned v => exact wpOps_mono h rest _ _ he
            | panicked c => exact h _ _ _ he
            | outgrown => obtain ⟨a0, w0, hq⟩ := he; exact ⟨a0, w0, h _ _ _ hq⟩
          · exact hh.mono fun v w'' hv => wpOps_mono h rest _ _ hv
          · exact h _ _ _ hh
          · exact hh.elim
        · right; exact ⟨h1, a0, w0, h _ _ _ h2⟩
      · rename_i hw
        rw [if_neg hw] at hh
        exact wpOps_mono h rest _ _ hh
theorem AOps_nil {ops : Array Oper} {K : Post} (hk : K st) : AOps P n ops [] st K :=
  fun w F env a h => ⟨rfl, Good.here h hk⟩
theorem AOps_cons {ops : Array Oper} {i : Nat} {rest : List Nat} {o : Oper} {K : Post} (ho : ops[i]? = some o) (hg : o.guard = none)
    (h : AOp P n o st (fun st' => AOps P n ops rest st' K)) : AOps P n ops (i :: rest) st K := by
  intro w F env a hr
  have h1 := h w F env a hr
  simp only [wpOps, ho]
  rw [if_pos (by simp [Region.wanted, hg])]
  left
  have key : ∀ a' w', Good n w F env (fun st' => AOps P n ops rest st' K) a' w' → wpOps P ops (fun e a' w' => e = .normal ∧ Good n w F env K a' w') rest a' w' := by
    rintro a' w' ⟨F', env', st', hk, hrel, htr⟩
    refine wpOps_mono ?_ rest a' w' (hk w' F' env' a' hrel)
    rintro e a2 w2 ⟨he, hg⟩
    exact ⟨he, Good.trans htr hg⟩
  simp only [Oper.wp, Oper.upon] at h1 ⊢
  split at h1 <;> rename_i hrun
  · exact key _ _ h1
  · exact key _ _ h1
  · exact key _ _ h1
  · refine h1.mono ?_
    rintro e w'' he
    cases e with
    | returned v => exact key _ _ he
    | panicked c => exact he.elim
    | outgrown => obtain ⟨_, _, hq⟩ := he; exact hq.elim
  · exact h1.mono fun v w'' hv => key _ _ hv
  · exact h1.elim
  · exact h1.elim
/-- A guarded operation: the slot of the test is known. -/
theorem AOps_guard {ops : Array Oper} {i j s : Nat} {want b : Bool} {rest : List Nat} {o oj : Oper} {K : Post} (ho : ops[i]? = some o) (hg : o.guard = some (j, want)) (hoj : ops[j]? = some oj) (hdj : oj.dst = some s)
    (hs : s < n) (hb : gb want (st.sl.get s) = some b) (hdst : ∀ d, o.dst = some d → d < n)
    (hyes : b = want → AOp P n o st (fun st' => AOps P n ops rest st' K))
    (hno : b ≠ want → AOps P n ops rest (st.unset o.dst) K) : AOps P n ops (i :: rest) st K := by
  intro w F env a hr
  have hsz : a.tmps[s]? = some (a.tmps.getD s undef) := by
    rw [Array.getD_eq_getD_getElem?, Array.getElem?_eq_getElem (by rw [hr.size]; exact hs)]
    rfl
  have hy : (yielded ops a.tmps j == some want) = (b == want) := by
    unfold gb at hb
    split at hb
    · rename_i b' hg'
      obtain rfl := Option.some.inj hb
      have := (SV_val (hr.ev (o := .s s) (x := .v (.bool b')) hg')).1
      simp only [Opd.to, Act.eval] at this
      rw [this] at hsz
      simp [yielded, hoj, hdj, hsz]
    · rename_i hg'
      obtain rfl := Option.some.inj hb
      obtain ⟨us, h1, h2, _⟩ := hr.ev (o := .s s) (x := .tup []) hg'
      simp only [Opd.to, Act.eval] at h1
      rw [h1] at hsz
      simp [yielded, hoj, hdj, hsz]
    · simp at hb
  by_cases hbw : b = want
  · have h1 := hyes hbw w F env a hr
    simp only [wpOps, ho]
    rw [if_pos (by simp only [Region.wanted, hg, hy, hbw, beq_self_eq_true])]
    left
    have key : ∀ a' w', Good n w F env (fun st' => AOps P n ops rest st' K) a' w' → wpOps P ops (fun e a' w' => e = .normal ∧ Good n w F env K a' w') rest a' w' := by
      rintro a' w' ⟨F', env', st', hk, hrel, htr⟩
      refine wpOps_mono ?_ rest a' w' (hk w' F' env' a' hrel)
      rintro e a2 w2 ⟨he, hg⟩
      exact ⟨he, Good.trans htr hg⟩
    simp only [Oper.wp, Oper.upon] at h1 ⊢
    split at h1 <;> rename_i hrun
    · exact key _ _ h1
    · exact key _ _ h1
    · exact key _ _ h1
    · refine h1.mono ?_
      rintro e w'' he
      cases e with
      | returned v => exact key _ _ he
      | panicked c => exact he.elim
      | outgrown => obtain ⟨_, _, hq⟩ := he; exact hq.elim
    · exact h1.mono fun v w'' hv => key _ _ hv
    · exact h1.elim
    · exact h1.elim
  · simp only [wpOps, ho]
    rw [if_neg (by simp only [Region.wanted, hg, hy]; simpa using hbw)]
    have hrel := hr.unset o.dst hdst
    refine wpOps_mono ?_ rest _ _ (hno hbw w F env _ hrel)
    rintro e a2 w2 ⟨he, hg⟩
    exact ⟨he, hg⟩
/-! Code. -/
def AW (P : Program) (n : Nat) (c : Code) (st : St) (Q : Exit → Post) : Prop :=
  ∀ w F env a, Rel w F E0 env n a st → c.wp P (fun e a' w' => Good n w F env (Q e) a' w') a w
theorem AW.mono {c : Code} {Q Q' : Exit → Post} (h : AW P n c st Q) (hq : ∀ e st', Q e st' → Q' e st') : AW P n c st Q' :=
  fun w F env a hr => wp_mono (h w F env a hr) fun e _ _ hg => hg.mono (hq e)
theorem AW.ghost {c : Code} {Q : Exit → Post} {st' : St} (hg : Ghost st st') (h : AW P n c st' Q) : AW P n c st Q := fun w F env a hr => by
  obtain ⟨F1, e1, h1, h2⟩ := hg w F env n a hr
  exact wp_mono (h w F1 e1 a h1) fun e a' w' hh => Good.trans h2 hh
theorem AW_skip {Q : Exit → Post} (h : Q .normal st) : AW P n .skip st Q := fun w F env a hr => wp_skip (Good.here hr h)
theorem AW_exit {id : Nat} {Q : Exit → Post} (h : Q (.exit id) st) : AW P n (.exit id) st Q := fun w F env a hr => wp_exit (Good.here hr h)
theorem AW_ret {Q : Exit → Post} (h : Q .ret st) : AW P n .ret st Q := fun w F env a hr => wp_ret (Good.here hr h)
/-- What a code behind another one begins with. -/
def seqQ (next : Post) (Q : Exit → Post) : Exit → Post
  | .normal => next
  | e => Q e
theorem AW_seq {x y : Code} {Q : Exit → Post} (h : AW P n x st (seqQ (fun st' => AW P n y st' Q) Q)) : AW P n (.seq x y) st Q := by
  intro w F env a hr
  refine wp_seq (wp_mono (h w F env a hr) ?_)
  intro e a' w' hg
  cases e with
  | normal =>
    obtain ⟨F', env', st', h1, h3, h4⟩ := hg
    exact wp_mono (h1 w' F' env' a' h3) fun e2 a2 w2 hg2 => Good.trans h4 hg2
  | exit id => exact hg
  | goto l => exact hg
  | ret => exact hg
  | panic c => exact hg
  | outgrown => exact hg
theorem AW_cond {c : Operand} {x y : Code} {oc : Opd} {b : Bool} {Q : Exit → Post} (hoc : opd c = some oc) (hb : st.ev oc = some (.v (.bool b))) (h : AW P n (if b then x else y) st Q) : AW P n (.cond c x y) st Q := by
  intro w F env a hr
  have := (SV_val (hr.ev hb)).1
  rw [opd_to hoc] at this
  exact wp_cond this (h w F env a hr)
def blockQ (id : Nat) (Q : Exit → Post) : Exit → Post
  | .exit id' => if id' = id then Q .normal else Q (.exit id')
  | e => Q e
theorem AW_block {id : Nat} {c : Code} {Q : Exit → Post} (h : AW P n c st (blockQ id Q)) : AW P n (.block id c) st Q := by
  intro w F env a hr
  refine wp_block (wp_mono (h w F env a hr) ?_)
  intro e a' w' hg
  cases e with
  | exit id' =>
    simp only [Exit.inBlock, blockQ] at hg ⊢
    split <;> rename_i hid
    · rw [if_pos hid] at hg; exact hg
    · rw [if_neg hid] at hg; exact hg
  | normal => exact hg
  | goto l => exact hg
  | ret => exact hg
  | panic c => exact hg
  | outgrown => exact hg
theorem AW_region {id : Nat} {ops : Array Oper} {Q : Exit → Post} (h : AOps P n ops (List.range ops.size) st (Q .normal)) : AW P n (.region id ops false) st Q := by
  intro w F env a hr
  refine wp_region (wpOps_mono ?_ _ _ _ (h w F env a hr))
  rintro e a' w' ⟨rfl, hg⟩
  exact hg
/-- A loop: what holds at each round's head, with a number that goes down. -/
theorem AW_loop {c : Code} {Q : Exit → Post} (I : Nat → St → Prop) (m : Nat) (h0 : I m st)
    (round : ∀ m st', I m st' → AW P n c st' (seqQ (fun st2 => ∃ m', m' < m ∧ I m' st2) Q)) : AW P n (.loop c) st Q := by
  intro w F env a hr b k cs
  have key : ∀ m st1 w1 F1 env1 a1, I m st1 → Rel w1 F1 E0 env1 n a1 st1 →
      ∃ e a' w', Good n w1 F1 env1 (Q e) a' w' ∧ Arrives P (lone (b.at a1 (.code c :: .inLoop c :: k)) cs w1) b k cs e a' w' := by
    intro m
    induction m using Nat.strongRecOn with
    | _ m ih =>
      intro st1 w1 F1 env1 a1 hI hrel
      obtain ⟨e, a2, w2, hg, harr⟩ := round m st1 hI w1 F1 env1 a1 hrel b (.inLoop c :: k) cs
      cases e with
      | normal =>
        obtain ⟨F2, env2, st2, ⟨m', hlt, hI'⟩, hrel2, htr⟩ := hg
        obtain ⟨e3, a3, w3, hg3, harr3⟩ := ih m' hlt st2 w2 F2 env2 a2 hI' hrel2
        exact ⟨e3, a3, w3, Good.trans htr hg3, .of_steps (Steps.trans harr (.one step_inLoop)) harr3⟩
      | exit id => exact ⟨_, a2, w2, hg, .pass (x := .inLoop c) rfl (fun _ _ => .inl (by simp)) harr⟩
      | goto l => exact ⟨_, a2, w2, hg, .pass (x := .inLoop c) rfl (fun _ _ => .inl (by simp)) harr⟩
      | ret => exact ⟨_, a2, w2, hg, .pass (x := .inLoop c) rfl (fun _ _ => .inl (by simp)) harr⟩
      | panic ch => exact ⟨_, a2, w2, hg, .pass (x := .inLoop c) rfl (fun _ _ => .inl (by simp)) harr⟩
      | outgrown => exact ⟨_, a2, w2, hg, .pass (x := .inLoop c) rfl (fun _ _ => .inl (by simp)) harr⟩
  obtain ⟨e, a', w', hg, harr⟩ := key m st w F env a h0 hr
  exact ⟨e, a', w', hg, .of_steps (.one step_loop) harr⟩
/-- Slots may be forgotten. -/
theorem Ghost.forget {st' : St} (hr : st'.rt = st.rt) (hs : ∀ k x, st'.sl.get k = some x → st.sl.get k = some x) (hf : ∀ e ∈ st'.rf, e ∈ st.rf) : Ghost st st' := by
  intro w F env n a h
  refine ⟨F, env, ⟨by rw [hr]; exact h.ok, h.xsub, by rw [hr]; exact h.kind, fun k x hx => by rw [hr]; exact h.sv k x (hs k x hx), fun e he => by rw [hr]; exact h.rf e (hf e he), h.size, h.defers⟩, Tr.refl _ _ _⟩
theorem Ghost.del (d : Nat) : Ghost st (st.del d) := by
  refine Ghost.forget rfl ?_ (fun _ h => h)
  intro k x hx
  simp only [St.del, Al.get_del] at hx
  split at hx
  · simp at hx
  · exact hx
end
end Go.Proofs.YthlehngbadianaaDoor.Ow
