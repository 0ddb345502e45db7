/- What is lent to a call: a node. -/
import Derived.Test.YthlehngbadianaaOwCall2
set_option linter.unusedVariables false
set_option linter.unusedSimpArgs false
set_option linter.unnecessarySimpa false
namespace Go.Proofs.Ythlehngbadianaa.Ow
open Go Go.RowKit

theorem ploc_append {w : World} : ∀ (p q : List Hop) (c : AV) (u : Value) (i : Nat) (z : AV) (B o : Nat), ploc w c u i p = some (B, o) → c.csub i p = some z → ploc w c u i (p ++ q) = ploc w (.obj z) (ptrTo B o) 0 q
  | [], q, c, u, i, z, B, o, h1, h2 => by
    simp only [ploc] at h1
    have h3 : c.elem i = some z := by
      cases he : c.elem i with
      | none => simp [AV.csub, he] at h2
      | some y => simp only [AV.csub, he, Option.bind_some, AV.sub, Option.some.injEq] at h2; rw [h2]
    cases q with
    | nil => simp only [List.nil_append, ploc, h1]; rfl
    | cons a q =>
      have e : hopLoc (.obj z) (ptrTo B o) 0 = some (B, o) := rfl
      have e2 : (AV.obj z).elem 0 = some z := rfl
      simp only [List.nil_append, ploc, h1, h3, e, e2, Option.bind_some]
  | (j, i') :: p, q, c, u, i, z, B, o, h1, h2 => by
    simp only [List.cons_append, ploc] at h1 ⊢
    rw [AV.csub_cons] at h2
    cases hl : hopLoc c u i with
    | none => simp [hl] at h1
    | some l =>
      simp only [hl, Option.bind_some] at h1 ⊢
      cases he : c.elem i with
      | none => simp [he] at h1
      | some y =>
        simp only [he, Option.bind_some] at h1 h2 ⊢
        cases hc : y.cells[j]? with
        | none => simp [hc] at h1
        | some c' =>
          simp only [hc, Option.bind_some] at h1 h2 ⊢
          cases hu : w.cell? ⟨l.1, l.2 + j, none⟩ with
          | none => simp [hu] at h1
          | some u' =>
            simp only [hu, Option.bind_some] at h1 ⊢
            exact ploc_append p q c' u' i' z B o h1 h2

theorem rloc_app {w : World} {env : Nat → RLoc} {rt : Al} {g : Nat} {x z : AV} {path : List Hop} {B o : Nat} (hx : rt.get g = some x) (hone : ∀ u, env g = .val u → x.one = true) (hz : x.sub path = some z) (hl : rloc w env rt g path = some (.mem B o)) (q : List Hop) :
    rloc w env rt g (path ++ q) = (ploc w (.obj z) (ptrTo B o) 0 q).map fun l => .mem l.1 l.2 := by
  simp only [rloc, hx, Option.bind_some] at hl ⊢
  cases he : env g with
  | mem B0 o0 =>
    simp only [he, Option.map_eq_some_iff] at hl ⊢
    obtain ⟨l, h1, h2⟩ := hl
    simp only [RLoc.mem.injEq] at h2
    rw [ploc_append path q (.obj x) _ 0 z B o (by rw [h1, ← h2.1, ← h2.2]) (by simpa [AV.csub, AV.elem] using hz)]
  | val u =>
    have h1 := hone u he
    simp only [he] at hl ⊢
    cases path with
    | nil => simp at hl
    | cons a p =>
      obtain ⟨j, i⟩ := a
      obtain ⟨rfl, hz'⟩ := sub_one h1 hz
      simp only [List.cons_append, if_true, Option.map_eq_some_iff] at hl ⊢
      obtain ⟨l, h2, h3⟩ := hl
      simp only [RLoc.mem.injEq] at h3
      rw [ploc_append p q x u i z B o (by rw [h2, ← h3.1, ← h3.2]) hz']

/-- References into what was lent, for the caller. -/
def trG (m : Pl → Option Pl) : AV → AV
  | .ref q => match m q with
    | some q' => .ref q'
    | none => .junk
  | .sl q es off len => match m q with
    | some q' => .sl q' es off len
    | none => .junk
  | .sa q es len cap => match m q with
    | some q' => .sa q' es len cap
    | none => .junk
  | c => c
def mapN (g : Nat) (path : List Hop) (q : Pl) : Option Pl := if q.r = 0 then some ⟨g, path ++ q.path, q.j⟩ else none
/-- What is lent, as an argument. -/
def isLN (g : Nat) (path : List Hop) : AV → Bool
  | .ref q => decide (q.r = g) && decide (q.path = path)
  | _ => false
def lvN : AV → AV
  | .ref q => .ref ⟨0, [], q.j⟩
  | c => c

structure Lend (w : World) (F : Fp) (env : Nat → RLoc) (n : Nat) (a : Act) (st : St) (g r0 : Nat) (t : AV) (l0 : RLoc) (L : Fp) (okT : AV → Bool) (plug : AV → St) (m : Pl → Option Pl) (isL : AV → Bool) (lv : AV → AV) : Prop where
  sub : ∀ b a, L b a → F b a
  root : RootOk w F t l0 L
  kind : (r0 < VB → ∃ B o, l0 = .mem B o) ∧ (VB ≤ r0 → ∃ u, l0 = .val u)
  pin : pin r0 = true ∧ r0 ≠ HID
  off : ∃ T, Ok w F env T st.rt ∧ ∀ r x, r ≠ g → st.rt.get r = some x → ∀ b a, T r b a → ¬ L b a
  arg : ∀ x u Fc envc Mc, isL x = true → SV1 w F env st.rt x u → Mc.get r0 = some t → envc r0 = l0 → SV1 w Fc envc Mc (lv x) u
  plug : ∀ (w' : World) (F' X M T'' : Fp) (t' : AV), okT t' = true → RootOk w' F' t' l0 T'' → Agree M w w' → (∀ b a, b < w.heap.size → M b a → L b a) → (∀ b a, F' b a → F b a ∨ w.heap.size ≤ b) → (∀ b a, F b a → ¬ L b a → F' b a) → (∀ b a, T'' b a → F' b a) → (∀ b a, X b a → F' b a) → (∀ b a, F' b a → b < w'.heap.size) →
    (∀ b a, T'' b a → L b a ∨ w.heap.size ≤ b) → (∀ b a, X b a → (L b a ∨ w.heap.size ≤ b) ∧ ¬ T'' b a) →
    Rel w' F' X env n a (plug t') ∧ ∀ x u Mc envc, Mc.get r0 = some t' → envc r0 = l0 → LR1 w' F' envc Mc x u → LR1 w' F' env (plug t').rt (trG m x) u

section
variable {w : World} {F X : Fp} {env : Nat → RLoc} {n : Nat} {a : Act} {st : St}
def plugN (st : St) (g : Nat) (x : AV) (path : List Hop) (len : Nat) (t' : AV) : St := st.setC g path 0 len (x.setSub path t')

theorem rt_one (ok : ∃ T, Ok w F env T st.rt) {g : Nat} {x : AV} (hx : st.rt.get g = some x) (u : Value) (he : env g = .val u) : x.one = true := by
  obtain ⟨T, ok⟩ := ok
  have := ok.root _ _ hx
  rw [he] at this
  exact this.1

theorem lend_node (h : Rel w F E0 env n a st) {g : Nat} {x z : AV} {path : List Hop} (hx : st.rt.get g = some x) (hz : x.sub path = some z) (hm : path = [] → g < VB) :
    ∃ B o L, Lend w F env n a st g 0 z (.mem B o) L (fun t' => t'.cells.length == z.cells.length) (plugN st g x path z.cells.length) (mapN g path) (isLN g path) lvN := by
  obtain ⟨B, o, Tz, h1, h2, h3, ⟨T, ok, hTg⟩, h4⟩ := h.nodeT hx hz hm
  refine ⟨B, o, Tz, fun b a hh => (h3 b a hh).1, h2, ⟨fun _ => ⟨_, _, rfl⟩, fun hh => by simp [VB] at hh⟩, ⟨rfl, by decide⟩, ⟨T, ok, ?_⟩, ?_, ?_⟩
  · intro r x' hr hx' b a ht hz
    exact hr (ok.dis _ _ _ _ _ _ hx' hx ht (hTg _ _ hz))
  · intro x' u Fc envc Mc hi hv h0 he0
    cases x' <;> simp only [isLN, Bool.false_eq_true] at hi
    rename_i q
    simp only [Bool.and_eq_true, decide_eq_true_eq] at hi
    obtain ⟨hr, hp⟩ := hi
    obtain ⟨B', o', h5, rfl⟩ := hv
    rw [hr, hp, h1] at h5
    simp only [Option.some.injEq, RLoc.mem.injEq] at h5
    obtain ⟨rfl, rfl⟩ := h5
    refine ⟨B, o, ?_, rfl⟩
    have e : hopLoc (.obj z) (ptrTo B o) 0 = some (B, o) := rfl
    simp only [rloc, h0, he0, Option.bind_some, ploc, e, Option.map_some]
  · intro w' F' X M T'' t' hok hroot k3 k4 k5 k6 k7 k8 k9 k10 k11
    have hlen : t'.cells.length = z.cells.length := by simpa using hok
    obtain ⟨g1, g2, g3⟩ := h4 w' F' X M T'' t' 0 z.cells.length hlen hroot k3 (fun b a hb hm => .inl (k4 b a hb hm)) k5 (fun b a hf _ hz => k6 b a hf hz) k7 k8 k9 (fun b a ht => (k10 b a ht).imp id .inr) (fun b a hx => ⟨(k11 b a hx).1.imp id .inr, (k11 b a hx).2⟩)
      (fun j hj => by
        have hj' : z.cells.length ≤ j := by omega
        exact ⟨by rw [List.getElem?_eq_none (by omega), List.getElem?_eq_none hj'], fun hh => by omega⟩)
    have hrel := h.move g1 g2 (keepR g path 0 z.cells.length) g3
    refine ⟨hrel, ?_⟩
    have hx' : (plugN st g x path z.cells.length t').rt.get g = some (x.setSub path t') := by simp [plugN, St.setC, Al.get_set]
    have hz' : (x.setSub path t').sub path = some t' := sub_setSub path z t' hz
    have hloc : rloc w' env (plugN st g x path z.cells.length t').rt g path = some (.mem B o) := by
      have : LR1 w' F' env (plugN st g x path z.cells.length t').rt (.ref ⟨g, path, 0⟩) (.pointer (some ⟨B, o + 0, none⟩)) := g2.ref ⟨g, path, 0⟩ _ (by simp [surv1]) ⟨B, o, h1, rfl⟩
      obtain ⟨B', o', h5, h6⟩ := this
      simp only [Value.pointer.injEq, Option.some.injEq, Addr.mk.injEq, Nat.add_zero, and_true] at h6
      rw [h5, h6.1, h6.2]
    obtain ⟨T2, ok2, _⟩ := hrel.ok
    have happ := rloc_app hx' (rt_one ⟨T2, ok2⟩ hx') hz' hloc
    intro x1 u Mc envc hM he hv
    have hl : ∀ q l, rloc w' envc Mc 0 q = some l → rloc w' env (plugN st g x path z.cells.length t').rt g (path ++ q) = some l := by
      intro q l hq
      rw [happ q]
      simpa only [rloc, hM, he, Option.bind_some] using hq
    have hc : ∀ q j c, cellAt Mc 0 q j = some c → cellAt (plugN st g x path z.cells.length t').rt g (path ++ q) j = some c := by
      intro q j c hq
      simp only [cellAt, hM, Option.bind_some, AV.cellIn] at hq
      simp only [cellAt, hx', Option.bind_some, AV.cellIn, AV.sub_append, hz']
      exact hq
    cases x1
    case ref q =>
      simp only [trG, mapN]
      by_cases hq : q.r = 0
      · obtain ⟨B', o', h5, h6⟩ := hv
        rw [hq] at h5
        rw [if_pos hq]
        exact ⟨B', o', hl _ _ h5, h6⟩
      · rw [if_neg hq]; exact Rep.junk hv.one fun _ _ h => h
    case sl q es off len =>
      simp only [trG, mapN]
      by_cases hq : q.r = 0
      · obtain ⟨l, uc, xs, h5, h6, h7⟩ := hv
        rw [hq] at h5 h6
        rw [if_pos hq]
        exact ⟨l, uc, xs, hl _ _ h5, hc _ _ _ h6, h7⟩
      · rw [if_neg hq]; exact Rep.junk hv.one fun _ _ h => h
    case sa q es len cap =>
      simp only [trG, mapN]
      by_cases hq : q.r = 0
      · obtain ⟨B', o', ao, h5, h6⟩ := hv
        rw [hq] at h5
        rw [if_pos hq]
        exact ⟨B', o', ao, hl _ _ h5, h6⟩
      · rw [if_neg hq]; exact Rep.junk hv.one fun _ _ h => h
    all_goals exact hv
end
end Go.Proofs.Ythlehngbadianaa.Ow
