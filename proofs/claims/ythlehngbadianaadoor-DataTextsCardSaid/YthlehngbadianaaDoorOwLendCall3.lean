/- What is lent to a call: a node. -/
import Derived.Test.YthlehngbadianaaDoorOwCall2
set_option linter.unusedVariables false
set_option linter.unusedSimpArgs false
set_option linter.unnecessarySimpa false
namespace Go.Proofs.YthlehngbadianaaDoor.Ow
open Go Go.RowKit
theorem ploc_append {w : World} : ∀ (p q : List Hop) (c : AV) (u : Value) (i : Nat) (z : AV) (B o : Nat), ploc w c u i p = some (B, o) → c.csub i p = some z → ploc w c u i (p ++ q) = ploc w (.obj z) (ptrTo B o) 0 q
  | [], q, c, u, i, z, B, o, h1, h2 => by
    simp only [ploc] at h1
    have h3 : c.elem i = some z := by
      cases he : c.elem i with
      | none => simp [AV.csub, he] at h2
      | some y => simp only [AV.csub, he, Option.bind_some, AV.sub, Option.some.injEq] at h2; rw [h2]
    cases q with
    | nil => simp only [List.nil_append, ploc, h1]; rfl
    | cons a q =>
      have e : hopLoc (.obj z) (ptrTo B o) 0 = some (B, o) := rfl
      have e2 : (AV.obj z).elem 0 = some z := rfl
      simp only [List.nil_append, ploc, h1, h3, e, e2, Option.bind_some]
  | (j, i') :: p, q, c, u, i, z, B, o, h1, h2 => by
    simp only [List.cons_append, ploc] at h1 ⊢
    rw [AV.csub_cons] at h2
    cases hl : hopLoc c u i with
    | none => simp [hl] at h1
    | some l =>
      simp only [hl, Option.bind_some] at h1 ⊢
      cases he : c.elem i with
      | none => simp [he] at h1
      | some y =>
        simp only [he, Option.bind_some] at h1 h2 ⊢
        cases hc : y.cells[j]? with
        | none => simp [hc] at h1
        | some c' =>
          simp only [hc, Option.bind_some] at h1 h2 ⊢
          cases hu : w.cell? ⟨l.1, l.2 + j, none⟩ with
          | none => simp [hu] at h1
          | some u' =>
            simp only [hu, Option.bind_some] at h1 ⊢
            exact ploc_append p q c' u' i' z B o h1 h2
theorem rloc_app {w : World} {env : Nat → RLoc} {rt : Al} {g : Nat} {x z : AV} {path : List Hop} {B o : Nat} (hx : rt.get g = some x) (hone : ∀ u, env g = .val u → x.one = true) (hz : x.sub path = some z) (hl : rloc w env rt g path = some (.mem B o)) (q : List Hop) :
    rloc w env rt g (path ++ q) = (ploc w (.obj z) (ptrTo B o) 0 q).map fun l => .mem l.1 l.2 := by
  simp only [rloc, hx, Option.bind_some] at hl ⊢
  cases he : env g with
  | mem B0 o0 =>
    simp only [he, Option.map_eq_some_iff] at hl ⊢
    obtain ⟨l, h1, h2⟩ := hl
    simp only [RLoc.mem.injEq] at h2
    rw [ploc_append path q (.obj x) _ 0 z B o (by rw [h1, ← h2.1, ← h2.2]) (by simpa [AV.csub, AV.elem] using hz)]
  | val u =>
    have h1 := hone u he
    simp only [he] at hl ⊢
    cases path with
    | nil => simp at hl
    | cons a p =>
      obtain ⟨j, i⟩ := a
      obtain ⟨rfl, hz'⟩ := sub_one h1 hz
      simp only [List.cons_append, if_true, Option.map_eq_some_iff] at hl ⊢
      obtain ⟨l, h2, h3⟩ := hl
      simp only [RLoc.mem.injEq] at h3
      rw [ploc_append p q x u i z B o (by rw [h2, ← h3.1, ← h3.2]) hz']
/-- References into what was lent, for the caller. -/
def trG (m : Pl → Option Pl) : AV → AV
  | .ref q => match m q with
    | some q' => .ref q'
    | none => .junk
  | .sl q es off len => match m q with
    | some q' => .sl q' es off len
    | none => .junk
  | .sa q es len cap => match m q with
    | some q' => .sa q' es len cap
    | none => .junk
  | c => c
def mapN (g : Nat) (path : List Hop) (q : Pl) : Option Pl := if q.r = 0 then some ⟨g, path ++ q.path, q.j⟩ else none
/-- What is lent, as an argument. -/
def isLN (g : Nat) (path : List Hop) : AV → Bool
  | .ref q => decide (q.r = g) && decide (q.path = path)
  | _ => false
def lvN : AV → AV
  | .ref q => .ref ⟨0, [], q.j⟩
  | c => c
structure Lend (w : World) (F : Fp) (env : Nat → RLoc) (n : Nat) (a : Act) (st : St) (g r0 : Nat) (t : AV) (l0 : RLoc) (L : Fp) (okT : AV → Bool) (plug : AV → St) (m : Pl → Option Pl) (isL : AV → Bool) (lv : AV → AV) : Prop where
  sub : ∀ b a, L b a → F b a
  root : RootOk w F t l0 L
  kind : (r0 < VB → ∃ B o, l0 = .mem B o) ∧ (VB ≤ r0 → ∃ u, l0 = .val u)
  pin : pin r0 = true ∧ r0 ≠ HID
  off : ∃ T, Ok w F env T st.rt ∧ ∀ r x, r ≠ g → st.rt.get r = some x → ∀ b a, T r b a → ¬ L b a
  arg : ∀ x u Fc envc Mc, isL x = true → SV1 w F env st.rt x u → Mc.get r0 = some t → envc r0 = l0 → SV1 w Fc envc Mc (lv x) u
  plug : ∀ (w' : World) (F' X M T'' : Fp) (t' : AV), okT t' = true → RootOk w' F' t' l0 T'' → Agree M w w' → (∀ b a, b < w.heap.size → M b a → L b a) → (∀ b a, F' b a → F b a ∨ w.heap.size ≤ b) → (∀ b a, F b a → ¬ L b a → F' b a) → (∀ b a, T'' b a → F' b a) → (∀ b a, X b a → F' b a) → (∀ b a, F' b a → b < w'.heap.size) →
    (∀ b a, T'' b a → L b a ∨ w.heap.size ≤ b) → (∀ b a, X b a → (L b a ∨ w.heap.size ≤ b) ∧ ¬ T'' b a) →
    Rel w' F' X env n a (plug t') ∧ ∀ x u Mc envc, Mc.get r0 = some t' → envc r0 = l0 → LR1 w' F' envc Mc x u → LR1 w' F' env (plug t').rt (trG m x) u
section
variable {w : World} {F X : Fp} {env : Nat → RLoc} {n : Nat} {a : Act} {st : St}
def plugN (st : St) (g : Nat) (x : AV) (path : List Hop) (len : Nat) (t' : AV) : St := st.setC g path 0 len (x.setSub path t')
theorem rt_one (ok : ∃ T, Ok w F env T st.rt) {g : Nat} {x : AV} (hx : st.rt.get g = some x) (u : Value) (he : env g = .val u) : x.one = true := by
  obtain ⟨T, ok⟩ := ok
  have := ok.root _ _ hx
  rw [he] at this
  exact this.1
theorem lend_node (h : Rel w F E0 env n a st) {g : Nat} {x z : AV} {path : List Hop} (hx : st.rt.get g = some x) (hz : x.sub path = some z) (hm : path = [] → g < VB) :
    ∃ B o L, Lend w F env n a st g 0 z (.mem B o) L (fun t' => t'.cells.length == z.cells.length) (plugN st g x path z.cells.length) (mapN g path) (isLN g path) lvN := by
  obtain ⟨B, o, Tz, h1, h2, h3, ⟨T, ok, hTg⟩, h4⟩ := h.nodeT hx hz hm
  refine ⟨B, o, Tz, fun b a hh => (h3 b a hh).1, h2, ⟨fun _ => ⟨_, _, rfl⟩, fun hh => by simp [VB] at hh⟩, ⟨rfl, by decide⟩, ⟨T, ok, ?_⟩, ?_, ?_⟩
  · intro r x' hr hx' b a ht hz
    exact hr (ok.dis _ _ _ _ _ _ hx' hx ht (hTg _ _ hz))
  · intro x' u Fc envc Mc hi hv h0 he0
    cases x' <;> simp only [isLN, Bool.false_eq_true] at hi
    rename_i q
    simp only [Bool.and_eq_true, decide_eq_true_eq] at hi
    obtain ⟨hr, hp⟩ := hi
    obtain ⟨B', o', h5, rfl⟩ := hv
    rw [hr, hp, h1] at h5
    simp only [Option.some.injEq, RLoc.mem.injEq] at h5
    obtain ⟨rfl, rfl⟩ := h5
    refine ⟨B, o, ?_, rfl⟩
    have e : hopLoc (.obj z) (ptrTo B o) 0 = some (B, o) := rfl
    simp only [rloc, h0, he0, Option.bind_some, ploc, e, Option.map_some]
  · intro w' F' X M T'' t' hok hroot k3 k4 k5 k6 k7 k8 k9 k10 k11
    have hlen : t'.cells.length = z.cells.length := by simpa using hok
    obtain ⟨g1, g2, g3⟩ := h4 w' F' X M T'' t' 0 z.cells.length hlen hroot k3 (fun b a hb hm => .inl (k4 b a hb hm)) k5 (fun b a hf _ hz => k6 b a hf hz) k7 k8 k9 (fun b a ht => (k10 b a ht).imp id .inr) (fun b a hx => ⟨(k11 b a hx).1.imp id .inr, (k11 b a hx).2⟩)
      (fun j hj => by
        have hj' : z.cells.length ≤ j := by omega
        exact ⟨by rw [List.getElem?_eq_none (by omega), List.getElem?_eq_none hj'], fun hh => by omega⟩)
    have hrel := h.move g1 g2 (keepR g path 0 z.cells.length) g3
    refine ⟨hrel, ?_⟩
    have hx' : (plugN st g x path z.cells.length t').rt.get g = some (x.setSub path t') := by simp [plugN, St.setC, Al.get_set]
    have hz' : (x.setSub path t').sub path = some t' := sub_setSub path z t' hz
    have hloc : rloc w' env (plugN st g x path z.cells.length t').rt g path = some (.mem B o) := by
      have : LR1 w' F' env (plugN st g x path z.cells.length t').rt (.ref ⟨g, path, 0⟩) (.pointer (some ⟨B, o + 0, none⟩)) := g2.ref ⟨g, path, 0⟩ _ (by simp [surv1]) ⟨B, o, h1, rfl⟩
      obtain ⟨B', o', h5, h6⟩ := this
      simp only [Value.pointer.injEq, Option.some.injEq, Addr.mk.injEq, Nat.add_zero, and_true] at h6
      rw [h5, h6.1, h6.2]
    obtain ⟨T2, ok2, _⟩ := hrel.ok
    have happ := rloc_app hx' (rt_one ⟨T2, ok2⟩ hx') hz' hloc
    intro x1 u Mc envc hM he hv
    have hl : ∀ q l, rloc w' envc Mc 0 q = some l → rloc w' env (plugN st g x path z.cells.length t').rt g (path ++ q) = some l := by
      intro q l hq
      rw [happ q]
      simpa only [rloc, hM, he, Option.bind_some] using hq
    have hc : ∀ q j c, cellAt Mc 0 q j = some c → cellAt (plugN st g x path z.cells.length t').rt g (path ++ q) j = some c := by
      intro q j c hq
      simp only [cellAt, hM, Option.bind_some, AV.cellIn] at hq
      simp only [cellAt, hx', Option.bind_some, AV.cellIn, AV.sub_append, hz']
      exact hq
    cases x1
    case ref q =>
      simp only [trG, mapN]
      by_cases hq : q.r = 0
      · obtain ⟨B', o', h5, h6⟩ := hv
        rw [hq] at h5
        rw [if_pos hq]
        exact ⟨B', o', hl _ _ h5, h6⟩
      · rw [if_neg hq]; exact Rep.junk hv.one fun _ _ h => h
    case sl q es off len =>
      simp only [trG, mapN]
      by_cases hq : q.r = 0
      · obtain ⟨l, uc, xs, h5, h6, h7⟩ := hv
        rw [hq] at h5 h6
        rw [if_pos hq]
        exact ⟨l, uc, xs, hl _ _ h5, hc _ _ _ h6, h7⟩
      · rw [if_neg hq]; exact Rep.junk hv.one fun _ _ h => h
    case sa q es len cap =>
      simp only [trG, mapN]
      by_cases hq : q.r = 0
      · obtain ⟨B', o', ao, h5, h6⟩ := hv
        rw [hq] at h5
        rw [if_pos hq]
        exact ⟨B', o', ao, hl _ _ h5, h6⟩
      · rw [if_neg hq]; exact Rep.junk hv.one fun _ _ h => h
    all_goals exact hv
end
end Go.Proofs.YthlehngbadianaaDoor.Ow
namespace Go.Proofs.YthlehngbadianaaDoor.Ow
open Go Go.RowKit
def lvA (g : Nat) (st : St) (isL : AV → Bool) (lv : AV → AV) (x : AV) : AV := if isL x then lv x else vw (some g) st x
def trc (m : Pl → Option Pl) : AV → AV
  | .fn f caps => .fn f (caps.map (trG m))
  | c => trG m c
def trP (m : Pl → Option Pl) : AV → AV
  | .agg cs => .agg (cs.map (trc m))
  | c => trc m c
def trR (m : Pl → Option Pl) : AV → AV
  | .tup ys => .tup (ys.map (trP m))
  | y => trP m y
theorem trG_tup (m : Pl → Option Pl) {y : AV} (h : ∀ ys, y ≠ .tup ys) (ys : List AV) : trG m y ≠ .tup ys := by
  intro e
  cases y <;> simp only [trG] at e
  case tup xs => exact h _ rfl
  case ref q => generalize m q = o at e; cases o <;> cases e
  case sl q a b c => generalize m q = o at e; cases o <;> cases e
  case sa q a b c => generalize m q = o at e; cases o <;> cases e
  all_goals cases e
theorem trP_tup (m : Pl → Option Pl) {y : AV} (h : ∀ ys, y ≠ .tup ys) (ys : List AV) : trP m y ≠ .tup ys := by
  intro e
  by_cases h1 : ∃ cs, y = .agg cs
  · obtain ⟨cs, rfl⟩ := h1; cases e
  · by_cases h2 : ∃ f caps, y = .fn f caps
    · obtain ⟨f, caps, rfl⟩ := h2; cases e
    · have : trP m y = trG m y := by cases y <;> first | rfl | exact absurd ⟨_, rfl⟩ h1 | exact absurd ⟨_, _, rfl⟩ h2
      rw [this] at e
      exact trG_tup m h ys e
theorem trP_owned (m : Pl → Option Pl) {y : AV} (h : owned y = true) : trP m y = y := by cases y <;> first | rfl | simp [owned] at h
theorem trP_owned' (m : Pl → Option Pl) {y : AV} (h : owned y = false) : owned (trP m y) = false := by
  by_cases h1 : ∃ cs, y = .agg cs
  · obtain ⟨cs, rfl⟩ := h1; rfl
  · by_cases h2 : ∃ f caps, y = .fn f caps
    · obtain ⟨f, caps, rfl⟩ := h2; rfl
    · have : trP m y = trG m y := by cases y <;> first | rfl | exact absurd ⟨_, rfl⟩ h1 | exact absurd ⟨_, _, rfl⟩ h2
      rw [this]
      cases y <;> simp only [trG] <;> first | rfl | (simp [owned] at h; done) | skip
      case ref q => cases m q <;> rfl
      case sl q a b c => cases m q <;> rfl
      case sa q a b c => cases m q <;> rfl
section
variable {w w2 : World} {F F2 : Fp} {env env2 : Nat → RLoc} {rt rt2 : Al} {m : Pl → Option Pl}
theorem trG_one {x : AV} (h : ∀ f caps, x ≠ .fn f caps) (f : FuncId) (caps : List AV) : trG m x ≠ .fn f caps := by
  intro e
  cases x <;> simp only [trG] at e
  case fn f caps => exact h _ _ rfl
  case ref q => generalize m q = o at e; cases o <;> cases e
  case sl q a b c => generalize m q = o at e; cases o <;> cases e
  case sa q a b c => generalize m q = o at e; cases o <;> cases e
  all_goals cases e
theorem trc_lr (hk : ∀ x u, LR1 w F env rt x u → LR1 w2 F2 env2 rt2 (trG m x) u) {x : AV} {u : Value} (h : LR w F env rt x u) : LR w2 F2 env2 rt2 (trc m x) u := by
  by_cases hx : ∃ f caps, x = .fn f caps
  · obtain ⟨f, caps, rfl⟩ := hx
    obtain ⟨us, h1, h2, h3⟩ := h
    refine ⟨us, h1, by simp [h2], fun i c v hc hv => ?_⟩
    rw [List.getElem?_map, Option.map_eq_some_iff] at hc
    obtain ⟨c0, hc0, rfl⟩ := hc
    exact hk _ _ (h3 i c0 v hc0 hv)
  · have h1 : LR1 w F env rt x u := by cases x <;> first | exact h | exact absurd ⟨_, _, rfl⟩ hx
    have e : trc m x = trG m x := by cases x <;> first | rfl | exact absurd ⟨_, _, rfl⟩ hx
    have h2 := hk x u h1
    have h3 := trG_one (m := m) (x := x) (fun f caps e => hx ⟨f, caps, e⟩)
    rw [e]
    generalize trG m x = y at h2 h3
    cases y <;> first | exact h2 | exact absurd rfl (h3 _ _)
theorem trP_sv (hk : ∀ x u, LR1 w F env rt x u → LR1 w2 F2 env2 rt2 (trG m x) u) {x : AV} {u : Value} (h : SV1 w F env rt x u) : SV1 w2 F2 env2 rt2 (trP m x) u := by
  by_cases hx : ∃ cs, x = .agg cs
  · obtain ⟨cs, rfl⟩ := hx
    obtain ⟨us, h1, h2, h3⟩ := h
    refine ⟨us, h1, by simp [h2], fun i c v hc hv => ?_⟩
    rw [List.getElem?_map, Option.map_eq_some_iff] at hc
    obtain ⟨c0, hc0, rfl⟩ := hc
    exact trc_lr hk (h3 i c0 v hc0 hv)
  · have hone : x.one = true := by cases x <;> simp_all [SV1, AV.one]
    have e : trP m x = trc m x := by cases x <;> first | rfl | exact absurd ⟨_, rfl⟩ hx
    rw [e]
    exact (trc_lr hk ((SV1_one hone).1 h)).sv
end
def callLQ (dst : Option Nat) (xs : List AV) (r0 : Nat) (okT : AV → Bool) (plug : AV → St) (m : Pl → Option Pl) (isL : AV → Bool) (K : Post) (r : AV) (M' : Al) : Prop :=
  ∃ t', M'.get r0 = some t' ∧ okT t' = true ∧ ((xs.all fun x => noR x || isL x) || ((parts r).all plainT && plainT t')) = true ∧ ∃ st', land dst (trR m r) (plug t') = some st' ∧ K st'
section
variable {P : Program} {n : Nat} {st : St}
theorem noR_vw {g : Option Nat} {x : AV} (h3 : noR x = true) : vw g st x = x := by
  have one : ∀ c, noR1 c = true → vw1 g st c = c := by intro c hc; cases c <;> first | rfl | simp [noR1] at hc
  have onec : ∀ c, noRc c = true → vwc g st c = c := by
    intro c hc
    by_cases hx : ∃ f caps, c = .fn f caps
    · obtain ⟨f, caps, rfl⟩ := hx
      simp only [vwc]
      congr 1
      exact (List.map_congr_left fun c h => one c (List.all_eq_true.1 hc c h)).trans (List.map_id _)
    · have e : vwc g st c = vw1 g st c := by cases c <;> first | rfl | exact absurd ⟨_, _, rfl⟩ hx
      have h0 : noR1 c = true := by cases c <;> first | exact hc | exact absurd ⟨_, _, rfl⟩ hx
      rw [e, one c h0]
  by_cases hx : ∃ cs, x = .agg cs
  · obtain ⟨cs, rfl⟩ := hx
    simp only [vw]
    congr 1
    exact (List.map_congr_left fun c h => onec c (List.all_eq_true.1 h3 c h)).trans (List.map_id _)
  · have e : vw g st x = vwc g st x := by cases x <;> first | rfl | exact absurd ⟨_, rfl⟩ hx
    have h0 : noRc x = true := by cases x <;> first | exact h3 | exact absurd ⟨_, rfl⟩ hx | simp [noR] at h3
    rw [e, onec x h0]
theorem RootOk.plainF {w : World} {F F2 : Fp} {x : AV} {l : RLoc} {T : Fp} (h : RootOk w F x l T) (hp : plainT x = true) : RootOk w F2 x l T := by
  cases l with
  | mem B o =>
    obtain ⟨u, S, hb, hc, hr, hd, ho, hS, hT⟩ := h
    exact ⟨u, S, hb, hc, fun i c hi => (hr i c hi).plainF (plain_cell hp hi), hd, ho, hS, hT⟩
  | val u => exact ⟨h.1, h.2.plainF hp⟩
theorem AOp_callL {o : Oper} {f : FuncId} {fn : Func} {args : Array Operand} {ats : Array TypeId} {K : Post} {l : List Opd} {xs : List AV} (hop : o.op = .call { callee := .value (.func f), args, argTypes := ats })
    (hf : P.funcs[f]? = some fn) (hname : (fn.name == "runtime.NumGoroutine") = false) (hb : fn.body.isNone = false) (hdn : ∀ d, o.dst = some d → d < n) (hn : n ≤ 1000) (hl : l.map Opd.to = args.toList) (hargs : evs st l = some xs) (hnt : xs.all ntup = true)
    {g r0 : Nat} {t : AV} {okT : AV → Bool} {plug : AV → St} {m : Pl → Option Pl} {isL : AV → Bool} {lv : AV → AV}
    (hlend : ∀ w F env a, Rel w F E0 env n a st → ∃ l0 L, Lend w F env n a st g r0 t l0 L okT plug m isL lv)
    (hc : ACalls P f [(r0, t)] (xs.map (lvA g st isL lv)) (callLQ o.dst xs r0 okT plug m isL K)) : AOp P n o st K := by
  intro w F env a h
  have hrun := run_call (P := P) (a := a) (w := w) hop hf hname hb
  simp only [Oper.wp, hrun, Oper.upon]
  obtain ⟨hlen, hv⟩ := evs_spec h _ _ hargs
  obtain ⟨l0, L, hL⟩ := hlend w F env a h
  obtain ⟨T, ok, hoff⟩ := hL.off
  have hsv1 : ∀ (i : Nat) x, xs[i]? = some x → ∃ u, (args.map a.eval)[i]? = some u ∧ SV1 w F env st.rt x u := by
    intro i x hx
    obtain ⟨ox, h1, h2⟩ := hv i x hx
    refine ⟨_, by rw [opds_map hl, h1]; rfl, ?_⟩
    have := List.all_eq_true.1 hnt x (List.mem_of_getElem? hx)
    cases x <;> first | exact h2 | simp [ntup] at this
  have hsize : (args.map a.eval).size = (xs.map (lvA g st isL lv)).length := by
    rw [Array.size_map, List.length_map, ← hlen, ← Array.length_toList, ← hl, List.length_map]
  have hgetM : ∀ I r x, (lentTo [(r0, t)] I).get r = some x → (r = r0 ∧ x = t) ∨ (r ≠ r0 ∧ r = HID ∧ x = .ext I) := by
    intro I r x hx
    simp only [lentTo, List.cons_append, List.nil_append, Al.get] at hx
    split at hx
    · rename_i e; left; exact ⟨e.symm, (Option.some.inj hx).symm⟩
    · rename_i e
      split at hx
      · rename_i e2; right; exact ⟨fun h => e h.symm, e2.symm, (Option.some.inj hx).symm⟩
      · simp at hx
  have main : ∀ Fc : Fp, (∀ b a, Fc b a → F b a) → (∀ b a, L b a → Fc b a) → (∀ (i : Nat) x env' M, xs[i]? = some x → isL x = false → ∃ u, (args.map a.eval)[i]? = some u ∧ SV1 w Fc env' M (vw (some g) st x) u) → RootOk w Fc t l0 L → (∀ r M' t', callLQ o.dst xs r0 okT plug m isL K r M' → M'.get r0 = some t' → (∀ b a, F b a → Fc b a) ∨ ((parts r).all plainT = true ∧ plainT t' = true)) →
      Calls P f (args.map a.eval) w (fun e w'' => ∃ v, e = .returned v ∧ Good n w F env K (a.put o.dst v) w'') := by
    intro Fc hFc hLc hargs' hroot hmode
    let I := keptI w Fc (fun b a => Fc b a ∧ ¬ L b a)
    let envc : Nat → RLoc := fun r => if r = r0 then l0 else .val (.bool false)
    have hokc : OkX w Fc E0 envc (lentTo [(r0, t)] I) := by
      refine ⟨⟨fun r => if r = r0 then L else (fun b a => Fc b a ∧ ¬ L b a), ⟨?_, ?_, ?_, fun b a hh => ok.fb b a (hFc b a hh)⟩, fun _ _ _ _ _ _ h => h⟩, fun _ _ h => h.elim, ?_⟩
      · intro r x hx
        rcases hgetM I r x hx with ⟨rfl, rfl⟩ | ⟨e, rfl, rfl⟩
        · simp only [envc, if_true]; exact hroot
        · simp only [envc, e, if_false]; exact ⟨rfl, keptI_rep _ _ _⟩
      · intro r r' x x' b a hx hx' ht ht'
        rcases hgetM I r x hx with ⟨rfl, rfl⟩ | ⟨e, rfl, rfl⟩ <;> rcases hgetM I r' x' hx' with ⟨rfl, rfl⟩ | ⟨e', rfl, rfl⟩
        · rfl
        · simp only [if_true, e', if_false] at ht ht'; exact absurd ht ht'.2
        · simp only [if_true, e, if_false] at ht ht'; exact absurd ht' ht.2
        · rfl
      · intro r x b a hx hh
        rcases hgetM I r x hx with ⟨rfl, rfl⟩ | ⟨e, rfl, rfl⟩
        · simp only [if_true] at hh; exact hLc b a hh
        · simp only [e, if_false] at hh; exact hh.1
      · intro r x hx
        rcases hgetM I r x hx with ⟨rfl, rfl⟩ | ⟨e, rfl, rfl⟩
        · simp only [envc, if_true]; exact hL.kind
        · simp only [envc, e, if_false]; exact ⟨fun hh => by simp [HID, VB] at hh, fun _ => ⟨_, rfl⟩⟩
    have hg0 : (lentTo [(r0, t)] I).get r0 = some t := by simp [lentTo, Al.get]
    have hcalls := hc I w Fc envc (args.map a.eval) hokc hsize (by
      intro i x hx
      rw [List.getElem?_map, Option.map_eq_some_iff] at hx
      obtain ⟨y, hy, rfl⟩ := hx
      unfold lvA
      have sv : ∀ x u, SV1 w Fc envc (lentTo [(r0, t)] I) x u → SV w Fc envc (lentTo [(r0, t)] I) x u := by
        intro x u h; cases x <;> first | exact h | exact h.elim
      cases hi : isL y with
      | true =>
        obtain ⟨u, h1, h2⟩ := hsv1 i y hy
        refine ⟨u, h1, ?_⟩
        simp only [if_true]
        exact sv _ _ (hL.arg y u _ _ _ hi h2 hg0 (by simp [envc]))
      | false =>
        obtain ⟨u, h1, h2⟩ := hargs' i y envc (lentTo [(r0, t)] I) hy hi
        refine ⟨u, h1, ?_⟩
        simp only [Bool.false_eq_true, if_false]
        exact sv _ _ h2)
    refine (hcalls (fun e he => by simp at he)).mono ?_
    rintro e w' ⟨v, rfl, r, M', F', env', Xc, rf', hh, hq, hok', hres, htr, hrf'⟩
    obtain ⟨haft, hTL, hmode1⟩ := after_call (L := L) ok.fb hLc hFc hok' hh
    have hq' := hq
    obtain ⟨t', q1, q2, q3, st', q4, q5⟩ := hq
    have hget0 : M'.get r0 = some t' := by
      rw [Al.get_del] at q1
      split at q1
      · simp at q1
      · exact q1
    have henv0 : env' r0 = l0 := by rw [htr.env r0 hL.pin.1]; simp [envc]
    obtain ⟨M, hm1, hm2⟩ := haft.ex
    obtain ⟨⟨T', ok', hX'⟩, hXF', hkind'⟩ := id hok'
    have hroot' := ok'.root _ _ hget0
    rw [henv0] at hroot'
    have hmode' := hmode r _ t' hq' q1
    have hrootB : RootOk w' (Behind F L F') t' l0 (T' r0) := by
      rcases hmode' with hm | hm
      · rw [hmode1 hm]; exact hroot'
      · exact hroot'.plainF hm.2
    obtain ⟨hrel, href⟩ := hL.plug w' (Behind F L F') Xc M (T' r0) t' q2 hrootB hm1 (fun b a _ hm => hm2 b a hm) haft.fr (fun b a hf hl => .inr ⟨hf, hl⟩) (fun b a ht => .inl (ok'.sub _ _ b a hget0 ht)) (fun b a hx => .inl (hXF' b a hx)) haft.fb
      (fun b a ht => hTL T' ok' r0 t' hL.pin.2 hget0 b a ht) (fun b a hx => ⟨haft.x b a hx, fun ht => hX' _ _ b a hget0 ht hx⟩)
    have hres' : Res w' (Behind F L F') env (plug t').rt (trR m r) v Xc := by
      have hstep : ∀ y u S, y ∈ parts r → Comp w' F' env' M' y u S → Comp w' (Behind F L F') env (plug t').rt (trP m y) u S := by
        intro y u S hy hcomp
        have hcomp' : Comp w' (Behind F L F') env' M' y u S := by
          rcases hmode' with hm | hm
          · rw [hmode1 hm]; exact hcomp
          · exact hcomp.plainF (List.all_eq_true.1 hm.1 y hy)
        unfold Comp at hcomp' ⊢
        cases ho : owned y with
        | true =>
          rw [trP_owned m ho]
          rw [if_pos ho] at hcomp'
          rw [if_pos ho]; exact hcomp'
        | false =>
          have ho' : ¬ owned y = true := by simp [ho]
          rw [if_neg ho'] at hcomp'
          rw [if_neg (by simp [trP_owned' m ho])]
          exact trP_sv (fun x u hx => href x u M' env' hget0 henv0 hx) hcomp'
      by_cases ht : ∃ ys, r = .tup ys
      · obtain ⟨ys, rfl⟩ := ht
        obtain ⟨us, h1, h2, S, h3, h4, h5⟩ := hres
        refine ⟨us, h1, by simp [h2], S, ?_, h4, h5⟩
        intro i x u hx hu
        rw [List.getElem?_map, Option.map_eq_some_iff] at hx
        obtain ⟨y, hy, rfl⟩ := hx
        exact hstep y u _ (List.mem_of_getElem? hy) (h3 i y u hy hu)
      · have hr' : ∃ S, Comp w' F' env' M' r v S ∧ ∀ b a, S b a → Xc b a := by cases r <;> first | exact hres | exact absurd ⟨_, rfl⟩ ht
        have hp : parts r = [r] := by cases r <;> first | rfl | exact absurd ⟨_, rfl⟩ ht
        obtain ⟨S, h1, h2⟩ := hr'
        have h3 := hstep r v S (by rw [hp]; simp) h1
        have h4 := trP_tup m (y := r) (fun ys e => ht ⟨ys, e⟩)
        have e : trR m r = trP m r := by cases r <;> first | rfl | exact absurd ⟨_, rfl⟩ ht
        rw [e]
        generalize trP m r = y at h3 h4
        cases y <;> first | exact ⟨S, h3, h2⟩ | exact absurd rfl (h4 _)
    obtain ⟨F2, env2, g1, g2⟩ := land_sound hrel hdn hn hres' q4
    exact ⟨v, rfl, F2, env2, st', q5, g1, (Tr.mk (haft.kp hL.sub) fun _ _ => rfl).trans g2⟩
  suffices hh : Calls P f (args.map a.eval) w (fun e w'' => ∃ v, e = .returned v ∧ Good n w F env K (a.put o.dst v) w'') by
    refine hh.mono ?_
    rintro e w'' ⟨v, rfl, hg⟩
    exact hg
  by_cases hp : (xs.all fun x => noR x || isL x) = true
  · refine main F (fun _ _ h => h) hL.sub ?_ hL.root (fun _ _ _ _ _ => .inl fun _ _ h => h)
    intro i x env' M hx hi
    obtain ⟨u, h1, h2⟩ := hsv1 i x hx
    refine ⟨u, h1, ?_⟩
    have h3 := List.all_eq_true.1 hp x (List.mem_of_getElem? hx)
    simp only [hi, Bool.or_false] at h3
    rw [noR_vw h3]
    exact noR_sv h3 h2 (fun _ _ h => h)
  · refine main L hL.sub (fun _ _ h => h) ?_ ?_ (fun r M' t' hq hg => .inr (by
      obtain ⟨t2, q1, q2, q3, _⟩ := hq
      rw [hg] at q1
      obtain rfl := Option.some.inj q1
      rw [Bool.or_eq_true, Bool.and_eq_true] at q3
      exact q3.resolve_left hp))
    · intro i x env' M hx hi
      obtain ⟨u, h1, h2⟩ := hsv1 i x hx
      exact ⟨u, h1, vw_sound ok ⟨hL.sub, fun r x hr hx b a ht => hoff r x (fun e => hr (by rw [e])) hx b a ht⟩ h2⟩
    · exact hL.root.keep ⟨⟨E0, Agree.refl _ _, fun _ _ h => h.elim, fun _ _ _ h => h⟩, fun b a hh => .inl (hL.sub b a hh)⟩
end
end Go.Proofs.YthlehngbadianaaDoor.Ow
