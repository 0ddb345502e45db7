/- The walk, as a function that simp evaluates; loops, cuts, functions. -/
import Derived.Test.YthlehngbadianaaDoorOwVc2Vc3
set_option linter.unusedVariables false
set_option linter.unusedSimpArgs false
set_option linter.unnecessarySimpa false
namespace Go.Proofs.YthlehngbadianaaDoor.Ow
open Go Go.RowKit
def CC.sz : CC → Nat
  | .skip => 1
  | .exit _ => 1
  | .ret => 1
  | .seq a b => a.sz + b.sz + 3
  | .cond _ a b => a.sz + b.sz + 2
  | .block _ a => a.sz + 4
  | .region l => l.length + 3
  | .loop a => a.sz + 1
  | .drawn _ => 1
  | .bad => 1
def Kn.sz : Kn → Nat
  | .c x => x.sz + 1
  | .b _ => 1
  | .o l => l.length + 1
  | .i _ => 1
  | .t _ => 1
def szK : List Kn → Nat
  | [] => 0
  | k :: ks => k.sz + szK ks
theorem exitTo_sz {id : Nat} : ∀ (ks : List Kn) {ks' : List Kn}, exitTo id ks = some ks' → szK ks' ≤ szK ks
  | [], ks', h => by simp [exitTo] at h
  | .c _ :: ks, ks', h => by have := exitTo_sz ks (ks' := ks') h; simp [szK]; omega
  | .o _ :: ks, ks', h => by have := exitTo_sz ks (ks' := ks') h; simp [szK]; omega
  | .i _ :: ks, ks', h => by have := exitTo_sz ks (ks' := ks') h; simp [szK]; omega
  | .t _ :: ks, ks', h => by have := exitTo_sz ks (ks' := ks') h; simp [szK]; omega
  | .b id' :: ks, ks', h => by
    simp only [exitTo] at h
    split at h
    · simp only [Option.some.injEq] at h; subst h; simp [szK]
    · have := exitTo_sz ks (ks' := ks') h; simp [szK]; omega
def opN (P : Program) (o : CO) (st : St) (rest : Option St → Prop) : Prop :=
  match o.k with
  | .call f args => callS P f (some o.d) o.l (fzS o.z st) (fun st' => rest (some (dropX o.x st'))) (evs (fzS o.z st) args)
  | .callP f args => callS P f (some o.d) none (fzS o.z st) (fun st' => rest (some (dropX o.x st'))) (evs (fzS o.z st) args)
  | .callC g args => callCS P (some o.d) (fzS o.z st) (fun st' => rest (some (dropX o.x st'))) ((fzS o.z st).ev g) (evs (fzS o.z st) args)
  | .mkMap => ∀ b, rest (some (dropX o.x (mpNew o.d b (fzS o.z st))))
  | k => rest ((stK o.d k (fzS o.z st)).map (dropX o.x))
def N (P : Program) (n : Nat) (ks : List Kn) (Q : Exit → Post) (s : Option St) : Prop :=
  match ks, s with
  | _, none => False
  | [], some st => Q .normal st
  | .i I :: _, some st => I st
  | .b _ :: ks, some s => N P n ks Q (some s)
  | .o [] :: ks, some s => N P n ks Q (some s)
  | .o (o :: l) :: ks, some st =>
    match o.g with
    | none => opN P o st (fun s => N P n (.o l :: ks) Q s)
    | some (g, want) => match st.sl.get g with
      | some (.v (.bool true)) => if want = true then opN P o st (fun s => N P n (.o l :: ks) Q s) else N P n (.o l :: ks) Q (some (skipO o st))
      | some (.v (.bool false)) => if want = false then opN P o st (fun s => N P n (.o l :: ks) Q s) else N P n (.o l :: ks) Q (some (skipO o st))
      | some (.tup []) => N P n (.o l :: ks) Q (some (skipO o st))
      | _ => False
  | .c .skip :: ks, some s => N P n ks Q (some s)
  | .c (.exit id) :: ks, some st =>
    match h : exitTo id ks with
    | some ks' => N P n ks' Q (some st)
    | none => Q (.exit id) st
  | .c .ret :: ks, some st => Q .ret st
  | .c (.seq a b) :: ks, some s => N P n (.c a :: .c b :: ks) Q (some s)
  | .c (.cond c a b) :: ks, some st => match st.ev c with
    | some (.v (.bool true)) => N P n (.c a :: ks) Q (some st)
    | some (.v (.bool false)) => N P n (.c b :: ks) Q (some st)
    | _ => False
  | .c (.block id a) :: ks, some s => N P n (.c a :: .b id :: ks) Q (some s)
  | .c (.region l) :: ks, some s => N P n (.o l :: ks) Q (some s)
  | .c (.loop a) :: ks, some st => W P n (.c (.loop a) :: ks) Q st
  | .c (.drawn t) :: ks, some st => W P n (.c (.drawn t) :: ks) Q st
  | .c .bad :: _, some _ => False
  | .t pt :: ks, some st => W P n (.t pt :: ks) Q st
termination_by szK ks
decreasing_by
  all_goals simp only [szK, Kn.sz, CC.sz, List.length_cons, List.length_nil]
  all_goals first
    | omega
    | (have := exitTo_sz _ h; omega)
section
variable {P : Program} {n : Nat} {ts : List RV} {st : St} {Q : Exit → Post} {ks : List Kn}
theorem SO1_of_opN {o : CO} {rest : Option St → Prop} {kn : List Kn} (hrest : ∀ st', rest (some st') → W P n kn Q st') (hnone : ¬ rest none) (h : opN P o st rest) :
    SO1 P o st (fun st' => W P n kn Q st') := by
  obtain ⟨g, d, k, x, l, z⟩ := o
  cases k
  case call f args => exact callS_mono (fun st' hh => hrest _ hh) h
  case callP f args =>
    simp only [opN] at h
    exact callS_mono (fun st' hh => hrest _ hh) h
  case callC g args => exact callCS_mono (fun st' hh => hrest _ hh) h
  case mkMap => exact fun b => hrest _ (h b)
  all_goals
    simp only [opN] at h
    simp only [SO1]
    generalize hst : stK d _ (fzS z st) = st1 at h ⊢
    cases st1 with
    | none => exact absurd h hnone
    | some s => exact ⟨s, rfl, hrest _ h⟩
/-- One operation, guarded or not. -/
theorem SO_of {o : CO} {kn : List Kn} {rest : Option St → Prop} (hnone : ¬ rest none) (hrest : ∀ st', rest (some st') → W P n kn Q st')
    (h : match o.g with
    | none => opN P o st rest
    | some (g, want) => match st.sl.get g with
      | some (.v (.bool true)) => if want = true then opN P o st rest else rest (some (skipO o st))
      | some (.v (.bool false)) => if want = false then opN P o st rest else rest (some (skipO o st))
      | some (.tup []) => rest (some (skipO o st))
      | _ => False) : SO P o st (fun st' => W P n kn Q st') := by
  obtain ⟨og, d, k, x, l, z⟩ := o
  cases og with
  | none => exact SO1_of_opN hrest hnone h
  | some gw =>
    obtain ⟨g, want⟩ := gw
    simp only at h
    simp only [SO]
    split at h
    · rename_i hb
      refine ⟨true, by rw [hb]; rfl, fun e => ?_, fun e => ?_⟩
      · rw [if_pos e.symm] at h
        exact SO1_of_opN hrest hnone h
      · rw [if_neg (fun e' => e e'.symm)] at h
        exact hrest _ h
    · rename_i hb
      refine ⟨false, by rw [hb]; rfl, fun e => ?_, fun e => ?_⟩
      · rw [if_pos e.symm] at h
        exact SO1_of_opN hrest hnone h
      · rw [if_neg (fun e' => e e'.symm)] at h
        exact hrest _ h
    · rename_i hb
      refine ⟨!want, by rw [hb]; rfl, fun e => ?_, fun e => ?_⟩
      · simp at e
      · exact hrest _ h
    · exact h.elim
theorem N_sound (hn : n ≤ 1000) (hm : P.follows .mixedOrders = true) : ∀ (m : Nat) (ks : List Kn), szK ks ≤ m → ∀ st, N P n ks Q (some st) → W P n ks Q st := by
  intro m
  induction m using Nat.strongRecOn with
  | _ m ih =>
  intro ks hm0 st h
  have next : ∀ ks', szK ks' < m → ∀ st, N P n ks' Q (some st) → W P n ks' Q st := fun ks' hlt st h => ih (szK ks') hlt ks' (Nat.le_refl _) st h
  unfold N at h
  split at h
  · simp_all
  · rename_i hs
    obtain rfl := Option.some.inj hs
    exact h
  · rename_i hs
    obtain rfl := Option.some.inj hs
    exact h
  · rename_i id ks s hs
    obtain rfl := Option.some.inj hs
    have := next ks (by simp [szK, Kn.sz] at hm0; omega) st h
    exact this
  · rename_i ks s hs
    obtain rfl := Option.some.inj hs
    have := next ks (by simp [szK, Kn.sz] at hm0; omega) st h
    exact this
  · rename_i o l ks st' hs
    obtain rfl := Option.some.inj hs
    exact SO_of (kn := .o l :: ks) (rest := fun s => N P n (.o l :: ks) Q s) (by intro hh; unfold N at hh; exact hh) (fun st' hh => next (.o l :: ks) (by simp [szK, Kn.sz] at hm0 ⊢; omega) st' hh) h
  · rename_i ks s hs
    obtain rfl := Option.some.inj hs
    exact CW_skip (next ks (by simp [szK, Kn.sz, CC.sz] at hm0; omega) st h)
  · rename_i id ks st' hs
    obtain rfl := Option.some.inj hs
    refine CW_exit ?_
    obtain ⟨h1, h2⟩ := semQ_exit (P := P) (n := n) (id := id) ks Q
    split at h
    · rename_i ks' he
      rw [h1 _ he]
      exact next ks' (by have := exitTo_sz _ he; simp [szK, Kn.sz, CC.sz] at hm0; omega) st h
    · rename_i he
      rw [h2 he]
      exact h
  · rename_i ks st' hs
    obtain rfl := Option.some.inj hs
    refine CW_ret ?_
    rw [semQ_ret]
    exact h
  · rename_i a b ks s hs
    obtain rfl := Option.some.inj hs
    have := next (.c a :: .c b :: ks) (by simp [szK, Kn.sz, CC.sz] at hm0 ⊢; omega) st h
    exact CW_seq this
  · rename_i c a b ks st' hs
    obtain rfl := Option.some.inj hs
    split at h
    · rename_i ht
      exact CW_cond ht (fun _ => next (.c a :: ks) (by simp [szK, Kn.sz, CC.sz] at hm0 ⊢; omega) st h) (fun e => by simp at e)
    · rename_i ht
      exact CW_cond ht (fun e => by simp at e) (fun _ => next (.c b :: ks) (by simp [szK, Kn.sz, CC.sz] at hm0 ⊢; omega) st h)
    · exact h.elim
  · rename_i id a ks s hs
    obtain rfl := Option.some.inj hs
    have := next (.c a :: .b id :: ks) (by simp [szK, Kn.sz, CC.sz] at hm0 ⊢; omega) st h
    exact CW_block this
  · rename_i l ks s hs
    obtain rfl := Option.some.inj hs
    have := next (.o l :: ks) (by simp [szK, Kn.sz, CC.sz] at hm0 ⊢; omega) st h
    exact CW_region hn hm this
  · rename_i a ks st' hs
    obtain rfl := Option.some.inj hs
    exact h
  · rename_i a ks st' hs
    obtain rfl := Option.some.inj hs
    exact h
  · exact h.elim
  · rename_i pt ks st' hs
    obtain rfl := Option.some.inj hs
    exact h
theorem W_of_N (hn : n ≤ 1000) (hm : P.follows .mixedOrders = true) (h : N P n ks Q (some st)) : W P n ks Q st := N_sound hn hm _ ks (Nat.le_refl _) st h
/-! Part of a state. -/
def hasR (rt : Al) : AV → Bool
  | .ref p => (rt.get p.r).isSome
  | .sl p _ _ _ => (rt.get p.r).isSome
  | .sa p _ _ _ => (rt.get p.r).isSome
  | _ => true
def hasRc (rt : Al) : AV → Bool
  | .fn _ caps => caps.all (hasR rt)
  | c => hasR rt c
def hasR2 (rt : Al) : AV → Bool
  | .agg cs => cs.all (hasRc rt)
  | c => hasRc rt c
def hasRV (rt : Al) : AV → Bool
  | .tup xs => xs.all (hasR2 rt)
  | c => hasR2 rt c
def okRefs (s : St) : Bool := s.sl.all (fun e => hasRV s.rt e.2) && s.rf.all (fun e => (s.rt.get e.1).isSome && hasRc s.rt e.2.2)
theorem cut1_has {rt : Al} {c : AV} (h : hasRc rt c = true) : cut1 (hasR rt) c = c := by
  unfold cut1
  rw [if_pos]
  cases c <;> exact h
theorem cut2_has {rt : Al} {c : AV} (h : hasR2 rt c = true) : cut2 (hasR rt) c = c := by
  by_cases hc : ∃ cs, c = .agg cs
  · obtain ⟨cs, rfl⟩ := hc
    simp only [cut2]
    congr 1
    exact (List.map_congr_left fun c hm => cut1_has (List.all_eq_true.1 h c hm)).trans (List.map_id _)
  · have e : cut2 (hasR rt) c = cut1 (hasR rt) c := by cases c <;> first | rfl | exact absurd ⟨_, rfl⟩ hc
    have h' : hasRc rt c = true := by cases c <;> first | exact h | exact absurd ⟨_, rfl⟩ hc
    rw [e, cut1_has h']
theorem cutV_has {rt : Al} {c : AV} (h : hasRV rt c = true) : cutV (hasR rt) c = c := by
  by_cases hc : ∃ cs, c = .tup cs
  · obtain ⟨cs, rfl⟩ := hc
    simp only [cutV]
    congr 1
    exact (List.map_congr_left fun c hm => cut2_has (List.all_eq_true.1 h c hm)).trans (List.map_id _)
  · have e : cutV (hasR rt) c = cut2 (hasR rt) c := by cases c <;> first | rfl | exact absurd ⟨_, rfl⟩ hc
    have h' : hasR2 rt c = true := by cases c <;> first | exact h | exact absurd ⟨_, rfl⟩ hc
    rw [e, cut2_has h']
theorem Al.get_mem {l : Al} {k : Nat} {x : AV} (h : l.get k = some x) : (k, x) ∈ l := by
  induction l with
  | nil => simp [Al.get] at h
  | cons a l ih =>
    obtain ⟨b, y⟩ := a
    simp only [Al.get] at h
    split at h
    · rename_i e; simp only [Option.some.injEq] at h; subst e h; simp
    · exact List.mem_cons_of_mem _ (ih h)
def Keep (s st : St) : Prop := (∀ e ∈ s.sl, st.sl.get e.1 = some e.2) ∧ (∀ e ∈ s.rt, st.rt.get e.1 = some e.2) ∧ (∀ e ∈ s.rf, e ∈ st.rf)
theorem Ghost.keep {s : St} (hk : Keep s st) (hr : okRefs s = true) : Ghost st s := by
  obtain ⟨h1, h2, h3⟩ := hk
  have hrt : ∀ r x, s.rt.get r = some x → st.rt.get r = some x := fun r x h => h2 _ (Al.get_mem h)
  simp only [okRefs, Bool.and_eq_true, List.all_eq_true] at hr
  intro w F env n a h
  refine ⟨F, env, ?_, Tr.refl _ _ _⟩
  obtain ⟨T, ok, hT⟩ := h.ok
  have hloc : ∀ r q, (s.rt.get r).isSome = true → rloc w env s.rt r q = rloc w env st.rt r q := by
    intro r q hs
    obtain ⟨x, hx⟩ := Option.isSome_iff_exists.1 hs
    simp only [rloc, hx, hrt r x hx]
  have hcell : ∀ r q j, (s.rt.get r).isSome = true → cellAt s.rt r q j = cellAt st.rt r q j := by
    intro r q j hs
    obtain ⟨x, hx⟩ := Option.isSome_iff_exists.1 hs
    simp only [cellAt, hx, hrt r x hx]
  have hl : Lives w F env st.rt w F env s.rt (hasR s.rt) := by
    refine ⟨fun _ _ h => h, ?_, ?_, ?_⟩
    · intro p u hp h
      simp only [LR1] at h ⊢
      rw [hloc _ _ hp]; exact h
    · intro p es off len u hp h
      simp only [LR1] at h ⊢
      rw [hloc _ _ hp, hcell _ _ _ hp]; exact h
    · intro p es len cap u hp h
      simp only [LR1] at h ⊢
      rw [hloc _ _ hp]; exact h
  refine ⟨⟨T, ⟨fun r x hx => ok.root r x (hrt r x hx), fun r1 r2 x1 x2 b a e1 e2 => ok.dis r1 r2 x1 x2 b a (hrt _ _ e1) (hrt _ _ e2), fun r x b a hx => ok.sub r x b a (hrt _ _ hx), ok.fb⟩, fun r x b a hx => hT r x b a (hrt _ _ hx)⟩, h.xsub, fun r x hx => h.kind r x (hrt _ _ hx), ?_, ?_, h.size, h.defers⟩
  · intro k x hx
    have := hl.cutV (h.sv k x (h1 _ (Al.get_mem hx)))
    rw [cutV_has (hr.1 _ (Al.get_mem hx))] at this
    exact this
  · intro e he
    obtain ⟨B, o, u, e1, ⟨x, e2, e3⟩, e4, e5⟩ := h.rf e (h3 e he)
    have hr2 := hr.2 e he
    obtain ⟨x', hx'⟩ := Option.isSome_iff_exists.1 hr2.1
    have := hrt _ _ hx'
    rw [e2] at this
    obtain rfl := Option.some.inj this
    have h5 := hl.cut1 e5
    rw [cut1_has hr2.2] at h5
    exact ⟨B, o, u, e1, ⟨x, hx', e3⟩, e4, h5⟩
theorem W_ghost {s : St} (hg : Ghost st s) {x : CC} (h : W P n (.c x :: ks) Q s) : W P n (.c x :: ks) Q st := CW_ghost hg h
theorem W_keep {s : St} (hk : Keep s st) (hr : okRefs s = true) {x : CC} (h : W P n (.c x :: ks) Q s) : W P n (.c x :: ks) Q st := CW_ghost (Ghost.keep hk hr) h
/-- What holds at a loop's head, or at a cut: one of the states. -/
def Mid {α : Type} (st : α → St) (ok : α → Prop) : Post := fun s => ∃ a, ok a ∧ Keep (st a) s
theorem W_loop {α : Type} (st0 : α → St) (ok : α → Prop) (m : α → Nat) {x : CC} (hr : ∀ a, ok a → okRefs (st0 a) = true) (h0 : Mid st0 ok st) (round : ∀ a, ok a → W P n (.c x :: .i (Mid st0 (fun b => ok b ∧ m b < m a)) :: ks) Q (st0 a)) :
    W P n (.c (.loop x) :: ks) Q st := by
  intro code hc
  cases code <;> (try simp only [compC, CC.strip] at hc)
  case loop y =>
    split at hc
    · rename_i a' h1
      simp only [Option.some.injEq, CC.loop.injEq] at hc
      subst hc
      obtain ⟨a0, hok0, hk0⟩ := h0
      refine AW_loop (fun k st' => ∃ a, ok a ∧ m a = k ∧ Keep (st0 a) st') (m a0) ⟨a0, hok0, rfl, hk0⟩ ?_
      rintro k st' ⟨a, hok, rfl, hk⟩
      have := W_keep hk (hr a hok) (round a hok)
      refine (this y h1).mono ?_
      intro e st2 hq
      cases e with
      | normal =>
        obtain ⟨b, ⟨hb1, hb2⟩, hb3⟩ := hq
        exact ⟨m b, hb2, b, hb1, rfl, hb3⟩
      | exit id => exact hq
      | goto l => exact hq
      | ret => exact hq
      | panic c => exact hq
      | outgrown => exact hq
    · simp at hc
  all_goals (first | simp at hc; done | (repeat' split at hc) <;> simp at hc; done | (rename_i dr; cases dr <;> simp only [compC] at hc <;> (repeat' split at hc) <;> simp at hc))
/-- What is to be shown of a plan. -/
def NT (P : Program) (n : Nat) : PT → List Kn → (Exit → Post) → Option St → Prop
  | _, _, _, none => False
  | .done, ks, Q, some st => W P n ks Q st
  | .alt a b, ks, Q, some s => NT P n a ks Q (some s) ∧ NT P n b ks Q (some s)
  | .op o t, ks, Q, some st =>
    match o.g with
    | none => opN P o st (fun s => NT P n t ks Q s)
    | some (g, want) => match st.sl.get g with
      | some (.v (.bool true)) => if want = true then opN P o st (fun s => NT P n t ks Q s) else NT P n t ks Q (some (skipO o st))
      | some (.v (.bool false)) => if want = false then opN P o st (fun s => NT P n t ks Q s) else NT P n t ks Q (some (skipO o st))
      | some (.tup []) => NT P n t ks Q (some (skipO o st))
      | _ => False
end
/-- A function of the program, compiled. -/
structure FnOk (P : Program) (f : FuncId) (cc : CC) (ts : List RV) (na n : Nat) : Prop where
  ex : ∃ fn, P.funcs[f]? = some fn ∧ fn.body.bind (compC P n) = some cc.strip ∧ fn.ntmps = n ∧ fn.results.toList.mapM (compRV P) = some ts
  le : na ≤ n
  small : n ≤ 1000
theorem FnOk.W {P : Program} {f : FuncId} {cc : CC} {ts : List RV} {na n : Nat} (h : FnOk P f cc ts na n) {M : Al} {args : List AV} (hl : args.length = na) {Q : AV → Al → Prop} (hw : ∀ I, Ow.W P n [.c cc] (retQ I ts Q) ⟨enterSl 0 args, lentTo M I, []⟩) : ACalls P f M args Q := by
  obtain ⟨⟨fn, h1, h2, h3, h4⟩, h5, h6⟩ := h
  rw [Option.bind_eq_some_iff] at h2
  obtain ⟨code, hb, hcc⟩ := h2
  exact ACalls_of h1 hb (by omega) h4 (fun I => by rw [h3]; exact hw I code hcc)
theorem FnOk.N {P : Program} {f : FuncId} {cc : CC} {ts : List RV} {na n : Nat} (h : FnOk P f cc ts na n) (hm : P.follows .mixedOrders = true) {M : Al} {args : List AV} (hl : args.length = na) {Q : AV → Al → Prop} (hw : ∀ I, Ow.N P n [.c cc] (retQ I ts Q) (some ⟨enterSl 0 args, lentTo M I, []⟩)) : ACalls P f M args Q :=
  h.W hl fun I => W_of_N h.small hm (hw I)
end Go.Proofs.YthlehngbadianaaDoor.Ow
