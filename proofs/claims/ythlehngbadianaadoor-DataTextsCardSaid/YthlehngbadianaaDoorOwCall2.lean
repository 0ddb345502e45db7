/- Calls: the rule, where nothing is lent. -/
import Derived.Test.YthlehngbadianaaDoorOwViewAdoptLand
set_option linter.unusedVariables false
set_option linter.unusedSimpArgs false
set_option linter.unnecessarySimpa false
namespace Go.Proofs.YthlehngbadianaaDoor.Ow
open Go Go.RowKit
mutual
/-- Trees that show nothing frozen. -/
def plainT : AV → Bool
  | .lst _ [] => true
  | .lst _ (_ :: _) => false
  | .fptr _ _ => false
  | .ext _ => false
  | .own _ xs => plainL xs
  | .obj x => plainT x
  | .agg cs => plainL cs
  | .tup cs => plainL cs
  | .fn _ cs => plainL cs
  | .v _ => true
  | .junk => true
  | .ref _ => true
  | .sl _ _ _ _ => true
  | .sa _ _ _ _ => true
def plainL : List AV → Bool
  | [] => true
  | x :: xs => plainT x && plainL xs
end
theorem plainL_all : ∀ xs : List AV, plainL xs = xs.all plainT
  | [] => rfl
  | x :: xs => by simp only [plainL, List.all_cons, plainL_all xs]
theorem plain_cell {x c : AV} {j : Nat} (h : plainT x = true) (hc : x.cells[j]? = some c) : plainT c = true := by
  cases hx : x.one with
  | true =>
    rw [AV.cells_one hx] at hc
    cases j with
    | zero => simp at hc; subst hc; exact h
    | succ j => simp at hc
  | false =>
    cases x <;> simp [AV.one] at hx <;> (simp only [plainT, plainL_all, List.all_eq_true] at h; exact h c (List.mem_of_getElem? hc))
theorem Rep.plainF {w : World} {F F2 : Fp} {c : AV} {u : Value} {S : Fp} (h : Rep w F c u S) (hp : plainT c = true) : Rep w F2 c u S := by
  induction h with
  | v h1 hT => exact .v h1 hT
  | junk h1 hT => exact .junk h1 hT
  | lstN hT => exact .lstN hT
  | @lst es xs B o cap T u hes hcap hlen hc hf hr hT ih =>
    cases xs with
    | nil => exact .lst u hes hcap (by simp) (by simp) (by simp) (by simp) hT
    | cons x xs => simp [plainT] at hp
  | fptr u hc hf hr hT ih => simp [plainT] at hp
  | ownN hes hT => exact .ownN hes hT
  | own u S hes hcap hb hlen hc hr hd ho hS hT ih =>
    simp only [plainT, plainL_all, List.all_eq_true] at hp
    exact .own u S hes hcap hb hlen hc (fun i x j c hx hj => ih i x j c hx hj (plain_cell (hp x (List.mem_of_getElem? hx)) hj)) hd ho hS hT
  | obj u S hb hc hr hd ho hS hT ih =>
    simp only [plainT] at hp
    exact .obj u S hb hc (fun i c hj => ih i c hj (plain_cell hp hj)) hd ho hS hT
  | fn hl hr hT ih =>
    simp only [plainT, plainL_all, List.all_eq_true] at hp
    exact .fn hl (fun i c u h1 h2 => ih i c u h1 h2 (hp c (List.mem_of_getElem? h1))) hT
  | ext h1 hI => simp [plainT] at hp
section
variable {w w' : World} {F F' F2 X : Fp} {env env' : Nat → RLoc} {rt rt' : Al} {n : Nat} {a : Act} {st : St}
theorem LR1.plainF {c : AV} {u : Value} (h : LR1 w F env rt c u) (hp : plainT c = true) : LR1 w F2 env rt c u := by
  cases c <;> first | exact h | exact Rep.plainF h hp
theorem LR.plainF {c : AV} {u : Value} (h : LR w F env rt c u) (hp : plainT c = true) : LR w F2 env rt c u := by
  by_cases hx : ∃ f caps, c = .fn f caps
  · obtain ⟨f, caps, rfl⟩ := hx
    obtain ⟨us, h1, h2, h3⟩ := h
    simp only [plainT, plainL_all, List.all_eq_true] at hp
    exact ⟨us, h1, h2, fun i c v hc hv => (h3 i c v hc hv).plainF (hp c (List.mem_of_getElem? hc))⟩
  · have h1 : LR1 w F env rt c u := by cases c <;> first | exact h | exact absurd ⟨_, _, rfl⟩ hx
    have := h1.plainF (F2 := F2) hp
    cases c <;> first | exact this | exact absurd ⟨_, _, rfl⟩ hx
theorem SV1.plainF {c : AV} {u : Value} (h : SV1 w F env rt c u) (hp : plainT c = true) : SV1 w F2 env rt c u := by
  by_cases hx : ∃ cs, c = .agg cs
  · obtain ⟨cs, rfl⟩ := hx
    obtain ⟨us, h1, h2, h3⟩ := h
    simp only [plainT, plainL_all, List.all_eq_true] at hp
    exact ⟨us, h1, h2, fun i c v hc hv => (h3 i c v hc hv).plainF (hp c (List.mem_of_getElem? hc))⟩
  · have hone : c.one = true := by cases c <;> simp_all [SV1, AV.one]
    exact (((SV1_one hone).1 h).plainF hp).sv
theorem Comp.plainF {c : AV} {u : Value} {S : Fp} (h : Comp w F env rt c u S) (hp : plainT c = true) : Comp w F2 env rt c u S := by
  unfold Comp at h ⊢
  split
  · rename_i ho; rw [if_pos ho] at h; exact h.plainF hp
  · rename_i ho; rw [if_neg ho] at h; exact h.plainF hp
/-- What stays of the caller's. -/
def Behind (F L F' : Fp) : Fp := fun b a => F' b a ∨ (F b a ∧ ¬ L b a)
/-- What the caller knows when the call is over. -/
structure After (w : World) (F L : Fp) (w' : World) (F' X : Fp) : Prop where
  ex : ∃ M, Agree M w w' ∧ ∀ b a, M b a → L b a
  fr : ∀ b a, Behind F L F' b a → F b a ∨ w.heap.size ≤ b
  x : ∀ b a, X b a → L b a ∨ w.heap.size ≤ b
  fb : ∀ b a, Behind F L F' b a → b < w'.heap.size
theorem After.kp {L : Fp} (h : After w F L w' F' X) (hL : ∀ b a, L b a → F b a) : Kp w F w' (Behind F L F') E0 := by
  obtain ⟨M, h1, h2⟩ := h.ex
  exact ⟨⟨M, h1, fun b a hm => hL b a (h2 b a hm), fun _ _ h => h.elim⟩, h.fr⟩
/-- What the hidden root says. -/
def keptI (w : World) (F K : Fp) : World → Fp → Value → Fp → Prop := fun w' F' _ T => Kp w F w' F' K ∧ T = K
theorem keptI_rep (w : World) (F K : Fp) : Rep w F (.ext (keptI w F K)) (.bool false) K := .ext rfl fun w' F' k => ⟨k, rfl⟩
theorem after_call {Fc L : Fp} (hfb : ∀ b a, F b a → b < w.heap.size) (hL : ∀ b a, L b a → Fc b a) (hFc : ∀ b a, Fc b a → F b a) {M' : Al} {Xc : Fp} (hok : OkX w' F' Xc env' M') (hh : M'.get HID = some (.ext (keptI w Fc (fun b a => Fc b a ∧ ¬ L b a)))) :
    After w F L w' F' Xc ∧ (∀ T', Ok w' F' env' T' M' → ∀ r x, r ≠ HID → M'.get r = some x → ∀ b a, T' r b a → L b a ∨ w.heap.size ≤ b) ∧ ((∀ b a, F b a → Fc b a) → Behind F L F' = F') := by
  obtain ⟨⟨T', ok, hX⟩, hXF, hkind⟩ := hok
  have hroot := ok.root _ _ hh
  obtain ⟨u, he⟩ := (hkind _ _ hh).2 (by decide)
  rw [he] at hroot
  obtain ⟨h1, h2⟩ : Kp w Fc w' F' (fun b a => Fc b a ∧ ¬ L b a) ∧ T' HID = fun b a => Fc b a ∧ ¬ L b a := by
    have := hroot.2
    generalize T' HID = T0 at this
    cases this with
    | ext h1 hI => exact hI w' F' (Kp.refl _ _ _)
  have hkept : ∀ b a, Fc b a → ¬ L b a → F' b a := fun b a h3 h4 => ok.sub _ _ b a hh (by rw [h2]; exact ⟨h3, h4⟩)
  have hsplit : ∀ b a, F' b a → ¬ (Fc b a ∧ ¬ L b a) → L b a ∨ w.heap.size ≤ b := by
    intro b a h3 h4
    rcases h1.fr b a h3 with h5 | h5
    · exact .inl (by by_cases hl : L b a; exact hl; exact absurd ⟨h5, hl⟩ h4)
    · exact .inr h5
  refine ⟨⟨?_, ?_, ?_, ?_⟩, ?_, ?_⟩
  · obtain ⟨⟨M, k1, k2, k3⟩, _⟩ := h1
    refine ⟨M, k1, fun b a hm => ?_⟩
    by_cases hl : L b a
    · exact hl
    · exact absurd hm (k3 b a ⟨k2 b a hm, hl⟩)
  · intro b a h3
    rcases h3 with h3 | h3
    · exact (h1.fr b a h3).imp (hFc b a) id
    · exact .inl h3.1
  · intro b a hx
    exact hsplit b a (hXF b a hx) fun hk => hX _ _ b a hh (by rw [h2]; exact hk) hx
  · intro b a h3
    obtain ⟨⟨M, k1, _⟩, _⟩ := h1
    rcases h3 with h3 | h3
    · exact ok.fb b a h3
    · exact Nat.lt_of_lt_of_le (hfb b a h3.1) k1.size
  · intro T2 ok2 r x hr hx b a ht
    have hroot2 := ok2.root _ _ hh
    rw [he] at hroot2
    have h22 : T2 HID = fun b a => Fc b a ∧ ¬ L b a := by
      have := hroot2.2
      generalize T2 HID = T0 at this
      cases this with
      | ext h1 hI => exact (hI w' F' (Kp.refl _ _ _)).2
    refine hsplit b a (ok2.sub _ _ b a hx ht) fun hk => hr (ok2.dis _ _ _ _ b a hx hh ht (by rw [h22]; exact hk))
  · intro hall
    funext b a
    apply propext
    constructor
    · rintro (h3 | ⟨h3, h4⟩)
      · exact h3
      · exact hkept b a (hall b a h3) h4
    · exact .inl
end
theorem run_call {P : Program} {a : Act} {w : World} {o : Oper} {f : FuncId} {fn : Func} {args : Array Operand} {ats : Array TypeId} (hop : o.op = .call { callee := .value (.func f), args, argTypes := ats })
    (hf : P.funcs[f]? = some fn) (hname : (fn.name == "runtime.NumGoroutine") = false) (hb : fn.body.isNone = false) : (execOp a.eval o).run P w = .ok (.enter f (args.map a.eval)) w := by
  have h1 : ¬ fn.name = "runtime.NumGoroutine" := by simpa using hname
  have h2 : ¬ fn.body = none := by cases hx : fn.body <;> simp_all
  unfold execOp
  simp [hop, resolve, Deferred.ofValue, invoke, callFunc, hf, h1, h2, Act.eval]
def evs (st : St) : List Opd → Option (List AV)
  | [] => some []
  | x :: l => match st.ev x, evs st l with
    | some z, some zs => some (z :: zs)
    | _, _ => none
section
variable {P : Program} {n : Nat} {st : St}
theorem evs_spec {w : World} {F X : Fp} {env : Nat → RLoc} {a : Act} (h : Rel w F X env n a st) : ∀ (l : List Opd) (xs : List AV), evs st l = some xs → l.length = xs.length ∧ ∀ (i : Nat) (x : AV), xs[i]? = some x → ∃ ox, l[i]? = some ox ∧ SV w F env st.rt x (a.eval ox.to)
  | [], xs, he => by simp [evs] at he; subst he; simp
  | ox :: l, xs, he => by
    simp only [evs] at he
    split at he
    · rename_i z zs hz hzs
      simp only [Option.some.injEq] at he
      subst he
      obtain ⟨h1, h2⟩ := evs_spec h l zs hzs
      refine ⟨by simp [h1], ?_⟩
      intro i y hy
      cases i with
      | zero => simp at hy; subst hy; exact ⟨ox, rfl, h.ev hz⟩
      | succ i => simp at hy; simpa using h2 i y hy
    · simp at he
/-- May what is handed out be used? -/
def callOk (xs : List AV) (r : AV) : Bool := (xs.all noR || (parts r).all plainT)
def callQ (dst : Option Nat) (st : St) (xs : List AV) (K : Post) (r : AV) (M' : Al) : Prop :=
  callOk xs r = true ∧ (parts r).all (fun y => owned y || noR y) = true ∧ ∃ st', land dst r st = some st' ∧ K st'
theorem opds_map {a : Act} {args : Array Operand} {l : List Opd} (h : l.map Opd.to = args.toList) (i : Nat) : (args.map a.eval)[i]? = (l[i]?).map fun o => a.eval o.to := by
  rw [Array.getElem?_map, ← Array.getElem?_toList, ← h, List.getElem?_map]
  cases l[i]? <;> rfl
theorem Res.part {w : World} {F : Fp} {env : Nat → RLoc} {rt : Al} {r : AV} {v : Value} {X : Fp} (h : Res w F env rt r v X) {w2 : World} {F2 : Fp} {env2 : Nat → RLoc} {rt2 : Al} (g : AV → AV) (gt : ∀ ys, r = .tup ys → g r = .tup (ys.map g)) (gn : ∀ y, y ∈ parts r → (∀ ys, y ≠ .tup ys) → ∀ ys, g y ≠ .tup ys)
    (hk : ∀ y u S, y ∈ parts r → Comp w F env rt y u S → Comp w2 F2 env2 rt2 (g y) u S) : Res w2 F2 env2 rt2 (g r) v X := by
  by_cases ht : ∃ ys, r = .tup ys
  · obtain ⟨ys, rfl⟩ := ht
    rw [gt ys rfl]
    obtain ⟨us, h1, h2, S, h3, h4, h5⟩ := h
    refine ⟨us, h1, by simp [h2], S, ?_, h4, h5⟩
    intro i x u hx hu
    rw [List.getElem?_map, Option.map_eq_some_iff] at hx
    obtain ⟨y, hy, rfl⟩ := hx
    exact hk y u _ (List.mem_of_getElem? hy) (h3 i y u hy hu)
  · have hr' : ∃ S, Comp w F env rt r v S ∧ ∀ b a, S b a → X b a := by cases r <;> first | exact h | exact absurd ⟨_, rfl⟩ ht
    have hp : parts r = [r] := by cases r <;> first | rfl | exact absurd ⟨_, rfl⟩ ht
    obtain ⟨S, h1, h2⟩ := hr'
    have h3 := hk r v S (by rw [hp]; simp) h1
    have h4 := gn r (by rw [hp]; simp) (fun ys e => ht ⟨ys, e⟩)
    generalize g r = y at h3 h4
    cases y <;> first | exact ⟨S, h3, h2⟩ | exact absurd rfl (h4 _)
theorem AOp_callV {b : Bool} {o : Oper} {f : FuncId} {K : Post} {xs : List AV}
    (hv : ∀ w F env a, Rel w F E0 env n a st → ∃ us : Array Value, (execOp a.eval o).run P w = .ok (.enter f us) w ∧ us.size = xs.length ∧ ∀ (i : Nat) x, xs[i]? = some x → ∃ u, us[i]? = some u ∧ SV1 w F env st.rt x u)
    (hdn : ∀ d, o.dst = some d → d < n) (hn : n ≤ 1000)
    (hc : ACalls P f [] (xs.map (vw none st)) (callQ o.dst st xs K)) : AOpC b P n o st K := by
  intro w F env a h
  obtain ⟨us, hrun, hlen, hsv1⟩ := hv w F env a h
  simp only [Oper.wp, hrun, Oper.upon]
  obtain ⟨T, ok, _⟩ := h.ok
  have hsize : us.size = (xs.map (vw none st)).length := by rw [List.length_map, hlen]
  -- what the call may touch
  have main : ∀ Fc : Fp, (∀ b a, Fc b a → F b a) → (∀ (i : Nat) x env' M, xs[i]? = some x → ∃ u, us[i]? = some u ∧ SV w Fc env' M (vw none st x) u) → (∀ r M', callQ o.dst st xs K r M' → (∀ b a, F b a → Fc b a) ∨ (parts r).all plainT = true) →
      Calls P f us w (fun e w'' => ∃ v, e = .returned v ∧ Below w.heap.size w w'' ∧ Good n w F env K (a.put o.dst v) w'') := by
    intro Fc hFc hargs' hmode
    let I := keptI w Fc (fun b a => Fc b a ∧ ¬ E0 b a)
    have hokc : OkX w Fc E0 (fun _ => .val (.bool false)) (lentTo [] I) := by
      refine ⟨⟨fun _ => (fun b a => Fc b a ∧ ¬ E0 b a), ⟨?_, ?_, ?_, fun b a hh => ok.fb b a (hFc b a hh)⟩, fun _ _ _ _ _ _ h => h⟩, fun _ _ h => h.elim, ?_⟩
      · intro r x hx
        simp only [lentTo, List.nil_append, Al.get] at hx
        split at hx
        · simp only [Option.some.injEq] at hx; subst hx
          exact ⟨rfl, keptI_rep _ _ _⟩
        · simp at hx
      · intro r r' x x' b a hx hx' _ _
        simp only [lentTo, List.nil_append, Al.get] at hx hx'
        split at hx <;> split at hx' <;> first | omega | simp at hx hx'
      · intro r x b a _ hh; exact hh.1
      · intro r x hx
        simp only [lentTo, List.nil_append, Al.get] at hx
        split at hx
        · rename_i e; subst e
          exact ⟨fun hh => by simp [HID, VB] at hh, fun _ => ⟨_, rfl⟩⟩
        · simp at hx
    have hcalls := hc I w Fc _ us hokc hsize (by
      intro i x hx
      rw [List.getElem?_map, Option.map_eq_some_iff] at hx
      obtain ⟨y, hy, rfl⟩ := hx
      exact hargs' i y _ _ hy)
    refine (hcalls (fun e he => by simp at he)).mono ?_
    rintro e w' ⟨v, rfl, r, M', F', env', Xc, rf', hh, hq, hok', hres, htr, hrf'⟩
    obtain ⟨haft, _, hmode1⟩ := after_call (L := E0) ok.fb (fun _ _ h => h.elim) hFc hok' hh
    obtain ⟨hq1, hq2, st', hq3, hq4⟩ := hq
    obtain ⟨M, hm1, hm2⟩ := haft.ex
    have hrel : Rel w' (Behind F E0 F') Xc env n a st := by
      refine h.world hm1 (fun b a _ hm => hm2 b a hm) haft.fr (fun b a hf _ => .inr ⟨hf, fun h => h⟩) (fun b a hx => .inl (hok'.2.1 b a hx)) (fun b a hx => (haft.x b a hx)) haft.fb
    have hres' : Res w' (Behind F E0 F') env st.rt (id r) v Xc := by
      refine hres.part id (fun ys e => by rw [e]; simp) (fun y _ hy => hy) ?_
      intro y u S hy hcomp
      have hcomp' : Comp w' (Behind F E0 F') env' M' y u S := by
        rcases hmode r [] ⟨hq1, hq2, st', hq3, hq4⟩ with hm | hm
        · rw [hmode1 hm]; exact hcomp
        · exact hcomp.plainF (List.all_eq_true.1 hm y hy)
      have hy2 := List.all_eq_true.1 hq2 y hy
      show Comp w' (Behind F E0 F') env st.rt y u S
      unfold Comp at hcomp' ⊢
      split
      · rename_i ho; rw [if_pos ho] at hcomp'; exact hcomp'
      · rename_i ho; rw [if_neg ho] at hcomp'
        simp only [ho, Bool.false_or] at hy2
        exact noR_sv hy2 hcomp' (fun _ _ h => h)
    obtain ⟨F2, env2, g1, g2⟩ := land_sound hrel hdn hn hres' hq3
    exact ⟨v, rfl, hm1.to_below (fun b a _ hm => hm2 b a hm), F2, env2, st', hq4, g1, (Tr.mk (haft.kp (fun _ _ h => h.elim)) fun _ _ => rfl).trans g2⟩
  suffices hh : Calls P f us w (fun e w'' => ∃ v, e = .returned v ∧ Below w.heap.size w w'' ∧ Good n w F env K (a.put o.dst v) w'') by
    refine hh.mono ?_
    rintro e w'' ⟨v, rfl, hb, hg⟩
    exact ⟨fun _ => hb, hg⟩
  by_cases hp : xs.all noR = true
  · refine main F (fun _ _ h => h) ?_ (fun _ _ _ => .inl fun _ _ h => h)
    intro i x env' M hx
    obtain ⟨u, h1, h2⟩ := hsv1 i x hx
    refine ⟨u, h1, ?_⟩
    have h3 := List.all_eq_true.1 hp x (List.mem_of_getElem? hx)
    have h4 := noR_sv (rt' := M) (env' := env') h3 h2 (fun _ _ h => h)
    have e : vw none st x = x := by
      have one : ∀ c, noR1 c = true → vw1 none st c = c := by intro c hc; cases c <;> first | rfl | simp [noR1] at hc
      have onec : ∀ c, noRc c = true → vwc none st c = c := by
        intro c hc
        by_cases hx : ∃ f caps, c = .fn f caps
        · obtain ⟨f, caps, rfl⟩ := hx
          simp only [vwc]
          congr 1
          exact (List.map_congr_left fun c h => one c (List.all_eq_true.1 hc c h)).trans (List.map_id _)
        · have e : vwc none st c = vw1 none st c := by cases c <;> first | rfl | exact absurd ⟨_, _, rfl⟩ hx
          have h0 : noR1 c = true := by cases c <;> first | exact hc | exact absurd ⟨_, _, rfl⟩ hx
          rw [e, one c h0]
      by_cases hx : ∃ cs, x = .agg cs
      · obtain ⟨cs, rfl⟩ := hx
        simp only [vw]
        congr 1
        exact (List.map_congr_left fun c h => onec c (List.all_eq_true.1 h3 c h)).trans (List.map_id _)
      · have e : vw none st x = vwc none st x := by cases x <;> first | rfl | exact absurd ⟨_, rfl⟩ hx
        have h0 : noRc x = true := by cases x <;> first | exact h3 | exact absurd ⟨_, rfl⟩ hx | simp [noR] at h3
        rw [e, onec x h0]
    rw [e]
    cases x <;> first | exact h4 | exact h4.elim
  · refine main E0 (fun _ _ h => h.elim) ?_ (fun r M' hq => .inr (by have := hq.1; simp only [callOk, Bool.or_eq_true] at this; exact this.resolve_left hp))
    intro i x env' M hx
    obtain ⟨u, h1, h2⟩ := hsv1 i x hx
    refine ⟨u, h1, ?_⟩
    have h3 := vw_sound ok (g := none) (F' := E0) ⟨fun _ _ h => h.elim, fun _ _ _ _ _ _ _ h => h⟩ h2 (env' := env') (M := M)
    generalize vw none st x = y at h3
    cases y <;> first | exact h3 | exact h3.elim
theorem AOp_call {b : Bool} {o : Oper} {f : FuncId} {fn : Func} {args : Array Operand} {ats : Array TypeId} {K : Post} {l : List Opd} {xs : List AV} (hop : o.op = .call { callee := .value (.func f), args, argTypes := ats })
    (hf : P.funcs[f]? = some fn) (hname : (fn.name == "runtime.NumGoroutine") = false) (hbd : fn.body.isNone = false) (hdn : ∀ d, o.dst = some d → d < n) (hn : n ≤ 1000) (hl : l.map Opd.to = args.toList) (hargs : evs st l = some xs) (hnt : xs.all ntup = true)
    (hc : ACalls P f [] (xs.map (vw none st)) (callQ o.dst st xs K)) : AOpC b P n o st K := by
  refine AOp_callV (fun w F env a h => ⟨args.map a.eval, run_call (P := P) (a := a) (w := w) hop hf hname hbd, ?_, ?_⟩) hdn hn hc
  · rw [Array.size_map, ← (evs_spec h _ _ hargs).1, ← Array.length_toList, ← hl, List.length_map]
  · intro i x hx
    obtain ⟨ox, h1, h2⟩ := (evs_spec h _ _ hargs).2 i x hx
    refine ⟨_, by rw [opds_map hl, h1]; rfl, ?_⟩
    have := List.all_eq_true.1 hnt x (List.mem_of_getElem? hx)
    cases x <;> first | exact h2 | simp [ntup] at this
/-- A call of a function value. -/
theorem run_callC {P : Program} {a : Act} {w : World} {o : Oper} {f : FuncId} {fn : Func} {g : Operand} {args : Array Operand} {ats : Array TypeId} {us : Array Value} (hop : o.op = .call { callee := .value g, args, argTypes := ats }) (hg : a.eval g = .func (.func f) #[] us)
    (hf : P.funcs[f]? = some fn) (hname : (fn.name == "runtime.NumGoroutine") = false) (hb : fn.body.isNone = false) : (execOp a.eval o).run P w = .ok (.enter f (args.map a.eval ++ us)) w := by
  have h1 : ¬ fn.name = "runtime.NumGoroutine" := by simpa using hname
  have h2 : ¬ fn.body = none := by cases hx : fn.body <;> simp_all
  unfold execOp
  simp [hop, resolve, Deferred.ofValue, invoke, callFunc, hf, h1, h2, hg]
def capOk : AV → Bool
  | .agg _ => false
  | .tup _ => false
  | .fn _ _ => false
  | _ => true
theorem AOp_callC {b : Bool} {o : Oper} {f : FuncId} {caps : List AV} {fn : Func} {g : Opd} {args : Array Operand} {ats : Array TypeId} {K : Post} {l : List Opd} {xs : List AV} (hop : o.op = .call { callee := .value g.to, args, argTypes := ats }) (hg : st.ev g = some (.fn f caps))
    (hf : P.funcs[f]? = some fn) (hname : (fn.name == "runtime.NumGoroutine") = false) (hbd : fn.body.isNone = false) (hdn : ∀ d, o.dst = some d → d < n) (hn : n ≤ 1000) (hl : l.map Opd.to = args.toList) (hargs : evs st l = some xs) (hnt : xs.all ntup = true) (hnc : caps.all capOk = true)
    (hc : ACalls P f [] ((xs ++ caps).map (vw none st)) (callQ o.dst st (xs ++ caps) K)) : AOpC b P n o st K := by
  refine AOp_callV (fun w F env a h => ?_) hdn hn hc
  obtain ⟨us, h1, h2, h3⟩ : SV w F env st.rt (.fn f caps) (a.eval g.to) := h.ev hg
  have hsz : (args.map a.eval).size = xs.length := by rw [Array.size_map, ← (evs_spec h _ _ hargs).1, ← Array.length_toList, ← hl, List.length_map]
  refine ⟨args.map a.eval ++ us, run_callC (P := P) (a := a) (w := w) hop h1 hf hname hbd, ?_, ?_⟩
  · rw [Array.size_append, hsz, h2, List.length_append]
  · intro i x hx
    by_cases hi : i < xs.length
    · rw [List.getElem?_append_left hi] at hx
      obtain ⟨ox, h4, h5⟩ := (evs_spec h _ _ hargs).2 i x hx
      refine ⟨a.eval ox.to, by rw [Array.getElem?_append_left (by omega), opds_map hl, h4]; rfl, ?_⟩
      have := List.all_eq_true.1 hnt x (List.mem_of_getElem? hx)
      cases x <;> first | exact h5 | simp [ntup] at this
    · have hi' : xs.length ≤ i := by omega
      rw [List.getElem?_append_right hi'] at hx
      have hlt := (List.getElem?_eq_some_iff.1 hx).1
      have hget : (args.map a.eval ++ us)[i]? = us[i - xs.length]? := by rw [Array.getElem?_append_right (by omega), hsz]
      obtain ⟨u, hu⟩ : ∃ u, us[i - xs.length]? = some u := ⟨_, Array.getElem?_eq_getElem (by omega)⟩
      refine ⟨u, by rw [hget, hu], ?_⟩
      have h4 := h3 _ _ _ hx hu
      have h5 := List.all_eq_true.1 hnc x (List.mem_of_getElem? hx)
      cases x <;> first | exact h4 | simp [capOk] at h5
end
end Go.Proofs.YthlehngbadianaaDoor.Ow
