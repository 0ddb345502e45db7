/- Contracts: nil for the empty list; from plain calls, and from calls that turn a map. -/
import Derived.Test.YthlehngbadianaaDoorOwEvEv3
set_option linter.unusedVariables false
set_option linter.unusedSimpArgs false
set_option linter.unnecessarySimpa false
namespace Go.Proofs.YthlehngbadianaaDoor.Ow
open Go Go.RowKit
/-- nil is an empty list. -/
def AVle1 (x y : AV) : Prop := x = y ∨ (x = .v (.slice none 0 0) ∧ ∃ es, y = .lst es [])
def AVle (x y : AV) : Prop := AVle1 x y ∨ ∃ cs ds, x = .agg cs ∧ y = .agg ds ∧ cs.length = ds.length ∧ ∀ (i : Nat) c d, cs[i]? = some c → ds[i]? = some d → AVle1 c d
def AVleL (xs ys : List AV) : Prop := xs.length = ys.length ∧ ∀ (i : Nat) c d, xs[i]? = some c → ys[i]? = some d → AVle c d
theorem AVle.refl (x : AV) : AVle x x := .inl (.inl rfl)
theorem AVleL.nil : AVleL [] [] := ⟨rfl, fun i c d h => by simp at h⟩
theorem AVleL.cons {x y : AV} {xs ys : List AV} (h : AVle x y) (k : AVleL xs ys) : AVleL (x :: xs) (y :: ys) :=
  ⟨by simp [k.1], fun i c d h1 h2 => by
    cases i with
    | zero => simp at h1 h2; subst h1 h2; exact h
    | succ i => exact k.2 i c d (by simpa using h1) (by simpa using h2)⟩
def AVle1L (xs ys : List AV) : Prop := xs.length = ys.length ∧ ∀ (i : Nat) c d, xs[i]? = some c → ys[i]? = some d → AVle1 c d
theorem AVle1L.nil : AVle1L [] [] := ⟨rfl, fun i c d h => by simp at h⟩
theorem AVle1L.cons {x y : AV} {xs ys : List AV} (h : AVle1 x y) (k : AVle1L xs ys) : AVle1L (x :: xs) (y :: ys) :=
  ⟨by simp [k.1], fun i c d h1 h2 => by
    cases i with
    | zero => simp at h1 h2; subst h1 h2; exact h
    | succ i => exact k.2 i c d (by simpa using h1) (by simpa using h2)⟩
theorem AVle.agg {cs ds : List AV} (h : AVle1L cs ds) : AVle (.agg cs) (.agg ds) := .inr ⟨cs, ds, rfl, rfl, h.1, h.2⟩
theorem AVle.one {x y : AV} (h : AVle1 x y) : AVle x y := .inl h
theorem AVle1.refl (x : AV) : AVle1 x x := .inl (Eq.refl x)
section
variable {w : World} {F : Fp} {env : Nat → RLoc} {rt : Al}
theorem AVle1.rep {x y : AV} (h : AVle1 x y) {u : Value} {S : Fp} (hr : Rep w F x u S) : Rep w F y u S := by
  rcases h with rfl | ⟨rfl, es, rfl⟩
  · exact hr
  · cases hr with
    | v h1 hT => exact .lstN hT
theorem AVle1.lr1 {x y : AV} (h : AVle1 x y) {u : Value} (hr : LR1 w F env rt x u) : LR1 w F env rt y u := by
  rcases h with rfl | ⟨rfl, es, rfl⟩
  · exact hr
  · exact AVle1.rep (.inr ⟨rfl, es, rfl⟩) (x := .v (.slice none 0 0)) hr
theorem AVle1.lr {x y : AV} (h : AVle1 x y) {u : Value} (hr : LR w F env rt x u) : LR w F env rt y u := by
  rcases h with rfl | ⟨rfl, es, rfl⟩
  · exact hr
  · exact AVle1.lr1 (rt := rt) (env := env) (.inr ⟨rfl, es, rfl⟩) (x := .v (.slice none 0 0)) hr
theorem AVle.sv1 {x y : AV} (h : AVle x y) {u : Value} (hr : SV1 w F env rt x u) : SV1 w F env rt y u := by
  rcases h with h | ⟨cs, ds, rfl, rfl, hl, hh⟩
  · rcases h with rfl | ⟨rfl, es, rfl⟩
    · exact hr
    · exact AVle1.lr (rt := rt) (env := env) (.inr ⟨rfl, es, rfl⟩) (x := .v (.slice none 0 0)) hr
  · obtain ⟨us, h1, h2, h3⟩ := hr
    refine ⟨us, h1, by omega, fun i c v hc hv => ?_⟩
    obtain ⟨c0, hc0⟩ : ∃ c0, cs[i]? = some c0 := ⟨_, List.getElem?_eq_getElem (by have := (List.getElem?_eq_some_iff.1 hc).1; omega)⟩
    exact (hh i c0 c hc0 hc).lr (h3 i c0 v hc0 hv)
theorem AVle.ntup {x y : AV} (h : AVle x y) : (∀ ys, x ≠ .tup ys) → ∀ ys, y ≠ .tup ys := by
  rcases h with h | ⟨cs, ds, rfl, rfl, hl, hh⟩
  · rcases h with rfl | ⟨rfl, es, rfl⟩
    · exact id
    · intro _ ys e; cases e
  · intro _ ys e; cases e
theorem AVle.eq_tup {xs : List AV} {y : AV} (h : AVle (.tup xs) y) : y = .tup xs := by
  rcases h with h | ⟨cs, ds, h, _⟩
  · rcases h with rfl | ⟨h, _⟩
    · rfl
    · cases h
  · cases h
theorem AVle.sv {x y : AV} (h : AVle x y) {u : Value} (hr : SV w F env rt x u) : SV w F env rt y u := by
  by_cases hx : ∃ ys, x = .tup ys
  · obtain ⟨ys, rfl⟩ := hx
    rw [h.eq_tup]; exact hr
  · have h1 : SV1 w F env rt x u := by cases x <;> first | exact hr | exact absurd ⟨_, rfl⟩ hx
    have h2 := h.sv1 h1
    have h3 := h.ntup (fun ys e => hx ⟨ys, e⟩)
    cases y <;> first | exact h2 | exact absurd rfl (h3 _)
end
section
variable {P : Program} {f : FuncId}
theorem vals_eq {w : World} {F : Fp} {env : Nat → RLoc} {rt : Al} {vs : List Value} {vals : Array Value} (hl : vals.size = (vs.map AV.v).length) (hv : ∀ (i : Nat) x, (vs.map AV.v)[i]? = some x → ∃ u, vals[i]? = some u ∧ SV w F env rt x u) : vals = vs.toArray := by
  apply Array.ext_getElem?
  intro i
  by_cases hi : i < vs.length
  · obtain ⟨u, h1, h2⟩ := hv i (.v vs[i]) (by simp [hi])
    have h3 : u = vs[i] := by
      have h2' : Rep w F (.v vs[i]) u E0 := h2
      cases h2'; rfl
    rw [h1, h3]; simp [hi]
  · rw [Array.getElem?_eq_none (by rw [hl]; simp; omega), Array.getElem?_eq_none (by simp; omega)]
/-- A call that makes of plain values a plain value, and leaves alone what is there. -/
theorem ACalls.pure {vs : List Value} {v : Value} (h1 : v.oneCell' = true) (h : ∀ w, Calls P f vs.toArray w fun e w' => e = .returned v ∧ Below w.heap.size w w') {Q : AV → Al → Prop} (hq : Q (.v v) []) : ACalls P f [] (vs.map AV.v) Q := by
  intro I w F env vals hok hl hv hrf
  obtain rfl := vals_eq hl hv
  refine (h w).mono ?_
  rintro e w' ⟨rfl, hb⟩
  obtain ⟨⟨T, ok, hX⟩, hXF, hk⟩ := hok
  have hkp : ∀ T' : Fp, Kp w F w' F T' := fun T' => ⟨⟨E0, Agree.below hb E0, fun _ _ h => h.elim, fun _ _ _ h => h⟩, fun _ _ h => .inl h⟩
  refine ⟨v, rfl, .v v, lentTo [] I, F, env, E0, [], rfl, hq, ⟨⟨T, ⟨fun r x hx => (ok.root r x hx).keep (hkp _), ok.dis, ok.sub, fun b a hh => Nat.lt_of_lt_of_le (ok.fb b a hh) hb.size⟩, hX⟩, hXF, hk⟩, ⟨E0, Rep.v h1 fun _ _ h => h, fun _ _ h => h.elim⟩, ⟨hkp _, fun _ _ => rfl⟩, fun e he => by simp at he⟩
/-- From w to w' the map at b has turned, and nothing else that was there. -/
structure MapT (w w' : World) (b : Nat) (ents : Array MapEntry) (clock : Nat) : Prop where
  os : w'.os = w.os
  tape : w'.tape = w.tape
  output : w'.output = w.output
  size : w.heap.size ≤ w'.heap.size
  block : ∀ j, j < w.heap.size → j ≠ b → w'.heap[j]? = w.heap[j]?
  at_ : w'.heap[b]? = some (.map ents clock)
/-- A call that turns a map that is lent. -/
theorem ACalls.map {b : Nat} {es es' : List (Value × Value)} {vs : List Value} {v : Value} (h1 : v.oneCell' = true)
    (h : ∀ w ents clock, w.heap[b]? = some (.map ents clock) → ents.toList.map (fun e => (e.key, e.val)) = es → MapKept.Stamped ents clock → Calls P f vs.toArray w fun e w' => e = .returned v ∧ ∃ ents' clock', MapT w w' b ents' clock' ∧ ents'.toList.map (fun e => (e.key, e.val)) = es' ∧ MapKept.Stamped ents' clock')
    {Q : AV → Al → Prop} (hq : Q (.v v) [(9000, .ext (MapB b es'))]) : ACalls P f [(9000, .ext (MapB b es))] (vs.map AV.v) Q := by
  intro I w F env vals hok hl hv hrf
  obtain rfl := vals_eq hl hv
  obtain ⟨⟨T, ok, hX⟩, hXF, hk⟩ := hok
  have hget : ∀ (x0 : AV) r x, (lentTo [(9000, x0)] I).get r = some x → (r = 9000 ∧ x = x0) ∨ (r ≠ 9000 ∧ r = HID ∧ x = .ext I) := by
    intro x0 r x hx
    simp only [lentTo, List.cons_append, List.nil_append, Al.get] at hx
    split at hx
    · rename_i e; left; exact ⟨e.symm, (Option.some.inj hx).symm⟩
    · rename_i e
      split at hx
      · rename_i e2; right; exact ⟨fun h => e h.symm, e2.symm, (Option.some.inj hx).symm⟩
      · simp at hx
  have hg0 : (lentTo [(9000, .ext (MapB b es))] I).get 9000 = some (.ext (MapB b es)) := by simp [lentTo, Al.get]
  have hgH : (lentTo [(9000, .ext (MapB b es))] I).get HID = some (.ext I) := by simp [lentTo, Al.get, HID]
  obtain ⟨u0, hu0⟩ := (hk 9000 _ hg0).2 (by decide)
  have hr0 := ok.root 9000 _ hg0
  rw [hu0] at hr0
  obtain ⟨m1, ⟨ents, clock, m2, m3, m4⟩, m5⟩ := MapB.of hr0.2
  have hlt : b < w.heap.size := by
    rcases Nat.lt_or_ge b w.heap.size with h' | h'
    · exact h'
    · simp [Array.getElem?_eq_none h'] at m2
  refine (h w ents clock m2 m3 m4).mono ?_
  rintro e w' ⟨rfl, ents', clock', ht, n3, n4⟩
  have hag : Agree (fun b' a => b' = b) w w' := by
    refine ⟨ht.os, ht.tape, ht.output, ht.size, fun b' a hb hne => ?_, fun b' arr e fz hh => ?_⟩
    · unfold at?; rw [ht.block b' hb hne]
    · have hb' : b' < w.heap.size := by
        rcases Nat.lt_or_ge b' w.heap.size with h' | h'
        · exact h'
        · simp [Array.getElem?_eq_none h'] at hh
      have hne : b' ≠ b := by rintro rfl; rw [m2] at hh; cases hh
      exact ⟨arr, fz, by rw [ht.block b' hb' hne]; exact hh, rfl, .inl rfl⟩
  have hMF : ∀ b' (a : Nat), b' = b → F b' a := fun b' a e => ok.sub 9000 _ b' a hg0 ((m5 b' a).2 e)
  have hkp : ∀ T' : Fp, (∀ b' a, T' b' a → b' ≠ b) → Kp w F w' F T' := fun T' hT' => ⟨⟨_, hag, hMF, fun b' a ht e => hT' b' a ht e⟩, fun _ _ h => .inl h⟩
  have hTH : ∀ b' a, T HID b' a → b' ≠ b := fun b' a ht e => absurd (ok.dis HID 9000 _ _ b' a hgH hg0 ht ((m5 b' a).2 e)) (by decide)
  have hm : MapB b es' w' F u0 (T 9000) := ⟨m1, ⟨ents', clock', ht.at_, n3, n4⟩, m5⟩
  refine ⟨v, rfl, .v v, lentTo [(9000, .ext (MapB b es'))] I, F, env, E0, [], by simp [lentTo, Al.get, HID], ?_, ⟨⟨T, ⟨?_, ?_, ?_, fun b a hh => Nat.lt_of_lt_of_le (ok.fb b a hh) ht.size⟩, fun _ _ _ _ _ _ h => h⟩, fun _ _ h => h.elim, ?_⟩, ⟨E0, Rep.v h1 fun _ _ h => h, fun _ _ h => h.elim⟩, ⟨hkp _ fun _ _ h => h.elim, fun _ _ => rfl⟩, fun e he => by simp at he⟩
  · simpa [lentTo, Al.del, HID] using hq
  · intro r x hx
    rcases hget _ r x hx with ⟨rfl, rfl⟩ | ⟨e, rfl, rfl⟩
    · rw [hu0]; exact ⟨rfl, hm.rep⟩
    · exact (ok.root HID _ hgH).keep (hkp _ hTH)
  · intro r r' x x' b' a hx hx' t1 t2
    rcases hget _ r x hx with ⟨rfl, rfl⟩ | ⟨e, rfl, rfl⟩ <;> rcases hget _ r' x' hx' with ⟨rfl, rfl⟩ | ⟨e', rfl, rfl⟩
    · rfl
    · exact ok.dis _ _ _ _ _ _ hg0 hgH t1 t2
    · exact ok.dis _ _ _ _ _ _ hgH hg0 t1 t2
    · rfl
  · intro r x b' a hx t1
    rcases hget _ r x hx with ⟨rfl, rfl⟩ | ⟨e, rfl, rfl⟩
    · exact ok.sub _ _ _ _ hg0 t1
    · exact ok.sub _ _ _ _ hgH t1
  · intro r x hx
    rcases hget _ r x hx with ⟨rfl, rfl⟩ | ⟨e, rfl, rfl⟩
    · exact hk _ _ hg0
    · exact hk _ _ hgH
end
end Go.Proofs.YthlehngbadianaaDoor.Ow
namespace Go.Proofs.YthlehngbadianaaDoor.Ow
open Go Go.RowKit
def NilC (c c' : AV) : Prop := c = c' ∨ (c = .v (.slice none 0 0) ∧ ∃ es, 0 < es ∧ c' = .own es [])
inductive NilL : List AV → List AV → Prop where
  | nil : NilL [] []
  | same {c : AV} {cs cs' : List AV} (h : NilL cs cs') : NilL (c :: cs) (c :: cs')
  | own {es : Nat} {cs cs' : List AV} (hes : 0 < es) (h : NilL cs cs') : NilL (.v (.slice none 0 0) :: cs) (.own es [] :: cs')
theorem NilL.len {cs cs' : List AV} (h : NilL cs cs') : cs'.length = cs.length := by
  induction h with
  | nil => rfl
  | same _ ih => simp [ih]
  | own _ _ ih => simp [ih]
theorem NilL.get {cs cs' : List AV} (h : NilL cs cs') : ∀ (i : Nat) c, cs[i]? = some c → ∃ c', cs'[i]? = some c' ∧ NilC c c' := by
  induction h with
  | nil => intro i c hc; simp at hc
  | same _ ih =>
    intro i c hc
    cases i with
    | zero => simp at hc; subst hc; exact ⟨_, rfl, .inl rfl⟩
    | succ i => exact ih i c (by simpa using hc)
  | own hes _ ih =>
    intro i c hc
    cases i with
    | zero => simp at hc; subst hc; exact ⟨_, rfl, .inr ⟨rfl, _, hes, rfl⟩⟩
    | succ i => exact ih i c (by simpa using hc)
theorem NilC.rep {w : World} {F : Fp} {c c' : AV} (h : NilC c c') {u : Value} {S : Fp} (hr : Rep w F c u S) : Rep w F c' u S := by
  rcases h with rfl | ⟨rfl, es, hes, rfl⟩
  · exact hr
  · cases hr with
    | v h1 hT => exact .ownN hes hT
theorem NilC.elem {c c' : AV} (h : NilC c c') {i : Nat} {y : AV} (hy : c.elem i = some y) : c' = c := by
  rcases h with rfl | ⟨rfl, es, hes, rfl⟩
  · rfl
  · simp [AV.elem] at hy
section
variable {w : World} {F : Fp} {env : Nat → RLoc} {rt : Al} {r : Nat} {cs cs' : List AV}
end
section
variable {P : Program} {n : Nat} {ks : List Kn} {Q : Exit → Post} {st : St}
theorem Ghost.nilS {d r es : Nat} (hes : 0 < es) (hd : st.sl.get d = some (.v (.slice none 0 0))) (hr : st.rt.get r = none) (hv : VB ≤ r) (hp : pin r = false) : Ghost st ⟨st.sl.set d (.sl ⟨r, [], 0⟩ es 0 0), st.rt.set r (.own es []), st.rf⟩ := by
  intro w F env n a h
  refine ⟨F, fun r' => if r' = r then .val (.slice none 0 0) else env r', ?_, ⟨Kp.refl _ _ _, fun r' hr' => ?_⟩⟩
  · obtain ⟨T, ok, hT⟩ := h.ok
    have hloc : ∀ r' q l, rloc w env st.rt r' q = some l → rloc w (fun r' => if r' = r then .val (.slice none 0 0) else env r') (st.rt.set r (.own es [])) r' q = some l := by
      intro r' q l hl
      have : r' ≠ r := by rintro rfl; simp [rloc, hr] at hl
      simpa only [rloc, Al.get_set, if_neg this] using hl
    have hcell : ∀ r' q j c, cellAt st.rt r' q j = some c → cellAt (st.rt.set r (.own es [])) r' q j = some c := by
      intro r' q j c hl
      have : r' ≠ r := by rintro rfl; simp [cellAt, hr] at hl
      simpa only [cellAt, Al.get_set, if_neg this] using hl
    have hl : Lives w F env st.rt w F (fun r' => if r' = r then .val (.slice none 0 0) else env r') (st.rt.set r (.own es [])) (fun _ => true) := by
      refine ⟨fun _ _ h => h, ?_, ?_, ?_⟩
      · rintro p u - ⟨B, o, h1, h2⟩
        exact ⟨B, o, hloc _ _ _ h1, h2⟩
      · rintro p es off len u - ⟨l, uc, xs, h1, h2, h3, h4, h5⟩
        exact ⟨l, uc, xs, hloc _ _ _ h1, hcell _ _ _ _ h2, h3, h4, h5⟩
      · rintro p es len cap u - ⟨B, o, ao, h1, h2⟩
        exact ⟨B, o, ao, hloc _ _ _ h1, h2⟩
    have hget : ∀ r' x', (st.rt.set r (.own es [])).get r' = some x' → (r' = r ∧ x' = .own es []) ∨ (r' ≠ r ∧ st.rt.get r' = some x') := by
      intro r' x' hx
      rw [Al.get_set] at hx
      split at hx
      · rename_i e; exact .inl ⟨e, (Option.some.inj hx).symm⟩
      · rename_i e; exact .inr ⟨e, hx⟩
    refine ⟨⟨fun r' => if r' = r then E0 else T r', ⟨?_, ?_, ?_, ok.fb⟩, ?_⟩, h.xsub, ?_, ?_, ?_, h.size, h.defers⟩
    · intro r' x' hx
      rcases hget r' x' hx with ⟨rfl, rfl⟩ | ⟨hne, hx⟩
      · simp only [if_true, RootOk]
        exact ⟨rfl, .ownN hes fun _ _ h => h⟩
      · simp only [if_neg hne]
        exact ok.root _ _ hx
    · intro r1 r2 x1 x2 b a e1 e2 t1 t2
      rcases hget _ _ e1 with ⟨rfl, rfl⟩ | ⟨n1, f1⟩
      · simp only [if_true] at t1; exact t1.elim
      · rcases hget _ _ e2 with ⟨rfl, rfl⟩ | ⟨n2, f2⟩
        · simp only [if_true] at t2; exact t2.elim
        · simp only [if_neg n1] at t1
          simp only [if_neg n2] at t2
          exact ok.dis _ _ _ _ _ _ f1 f2 t1 t2
    · intro r1 x1 b a e1 t1
      rcases hget _ _ e1 with ⟨rfl, rfl⟩ | ⟨n1, f1⟩
      · simp only [if_true] at t1; exact t1.elim
      · simp only [if_neg n1] at t1
        exact ok.sub _ _ _ _ f1 t1
    · intro r1 x1 b a e1 t1
      exact fun h => h
    · intro r1 x1 e1
      rcases hget _ _ e1 with ⟨rfl, rfl⟩ | ⟨n1, f1⟩
      · refine ⟨fun h => by omega, fun _ => ⟨.slice none 0 0, by simp⟩⟩
      · simp only [if_neg n1]
        exact h.kind _ _ f1
    · intro k x hx
      rw [Al.get_set] at hx
      split at hx
      · rename_i e
        subst e
        obtain rfl := Option.some.inj hx
        have h5 : Rep w F (.v (.slice none 0 0)) _ E0 := h.sv _ _ hd
        generalize a.tmps.getD k undef = u at h5
        cases h5
        exact ⟨.val (.slice none 0 0), .slice none 0 0, [], by simp [rloc, Al.get_set], by simp [cellAt, Al.get_set, AV.cellIn, AV.sub, AV.cells], rfl, Nat.le_refl _, .inl ⟨rfl, rfl, rfl, rfl⟩⟩
      · have := hl.cutV (h.sv k x hx)
        rw [cutV_true] at this
        exact this
    · intro e he
      obtain ⟨B, o, u, e1, ⟨x, e2, e3⟩, e4, e5⟩ := h.rf e he
      have h5 := hl.cut1 e5
      rw [cut1_true] at h5
      have hne : e.1 ≠ r := by rintro hh; rw [hh, hr] at e2; cases e2
      exact ⟨B, o, u, by simp only [if_neg hne]; exact e1, ⟨x, by rw [Al.get_set, if_neg hne]; exact e2, e3⟩, e4, h5⟩
  · have hne : r' ≠ r := by rintro rfl; rw [hp] at hr'; cases hr'
    simp only [if_neg hne]
/-- A list in a slot that is nil is owned and empty. -/
theorem W_nilS (d r es : Nat) (hes : 0 < es) (hd : st.sl.get d = some (.v (.slice none 0 0))) (hr : st.rt.get r = none) (hv : VB ≤ r) (hp : pin r = false) {x : CC} (h : W P n (.c x :: ks) Q ⟨st.sl.set d (.sl ⟨r, [], 0⟩ es 0 0), st.rt.set r (.own es []), st.rf⟩) : W P n (.c x :: ks) Q st := W_ghost (Ghost.nilS hes hd hr hv hp) h
theorem Ghost.mv {d r r' es off len : Nat} {xs : List AV} (hd : st.sl.get d = some (.sl ⟨r, [], 0⟩ es off len)) (hr : st.rt.get r = some (.own es xs)) (hr' : st.rt.get r' = none) (hv : VB ≤ r) (hv' : VB ≤ r') (hp : pin r = false) (hp' : pin r' = false) :
    Ghost st ⟨(cutSl (notR r) st.sl).set d (.sl ⟨r', [], 0⟩ es off len), (st.rt.del r).set r' (.own es xs), cutRf (notR r) (st.rf.filter fun e => e.1 != r)⟩ := by
  intro w F env n a h
  have hne : r' ≠ r := by rintro rfl; rw [hr] at hr'; cases hr'
  refine ⟨F, fun q => if q = r' then env r else env q, ?_, ⟨Kp.refl _ _ _, fun q hq => ?_⟩⟩
  · obtain ⟨T, ok, hT⟩ := h.ok
    have hg : ∀ q x, ((st.rt.del r).set r' (.own es xs)).get q = some x → (q = r' ∧ x = .own es xs) ∨ (q ≠ r' ∧ q ≠ r ∧ st.rt.get q = some x) := by
      intro q x hx
      rw [Al.get_set] at hx
      split at hx
      · rename_i e; exact .inl ⟨e, (Option.some.inj hx).symm⟩
      · rename_i e
        rw [Al.get_del] at hx
        split at hx
        · cases hx
        · rename_i e2; exact .inr ⟨e, e2, hx⟩
    have hg2 : ∀ q x, q ≠ r → st.rt.get q = some x → q ≠ r' ∧ ((st.rt.del r).set r' (.own es xs)).get q = some x := by
      intro q x hq hx
      have : q ≠ r' := by rintro rfl; rw [hr'] at hx; cases hx
      exact ⟨this, by rw [Al.get_set, if_neg this, Al.get_del, if_neg hq]; exact hx⟩
    have hloc : ∀ q p l, q ≠ r → rloc w env st.rt q p = some l → rloc w (fun q => if q = r' then env r else env q) ((st.rt.del r).set r' (.own es xs)) q p = some l := by
      intro q p l hq hl
      cases hx : st.rt.get q with
      | none => simp [rloc, hx] at hl
      | some x =>
        obtain ⟨e1, e2⟩ := hg2 q x hq hx
        simp only [rloc, hx, e2, Option.bind_some, if_neg e1] at hl ⊢
        exact hl
    have hcell : ∀ q p j c, q ≠ r → cellAt st.rt q p j = some c → cellAt ((st.rt.del r).set r' (.own es xs)) q p j = some c := by
      intro q p j c hq hl
      cases hx : st.rt.get q with
      | none => simp [cellAt, hx] at hl
      | some x =>
        obtain ⟨e1, e2⟩ := hg2 q x hq hx
        simp only [cellAt, hx, e2, Option.bind_some] at hl ⊢
        exact hl
    have hl : Lives w F env st.rt w F (fun q => if q = r' then env r else env q) ((st.rt.del r).set r' (.own es xs)) (notR r) := by
      refine ⟨fun _ _ h => h, ?_, ?_, ?_⟩
      · rintro p u hn ⟨B, o, h1, h2⟩
        exact ⟨B, o, hloc _ _ _ (by simpa [notR] using hn) h1, h2⟩
      · rintro p es' off' len' u hn ⟨l, uc, xs', h1, h2, h3, h4, h5⟩
        exact ⟨l, uc, xs', hloc _ _ _ (by simpa [notR] using hn) h1, hcell _ _ _ _ (by simpa [notR] using hn) h2, h3, h4, h5⟩
      · rintro p es' len' cap u hn ⟨B, o, ao, h1, h2⟩
        exact ⟨B, o, ao, hloc _ _ _ (by simpa [notR] using hn) h1, h2⟩
    have hokx : OkX w F E0 (fun q => if q = r' then env r else env q) ((st.rt.del r).set r' (.own es xs)) := by
      refine ⟨⟨fun q => if q = r' then T r else T q, ⟨?_, ?_, ?_, ok.fb⟩, fun _ _ _ _ _ _ h => h⟩, fun _ _ h => h.elim, ?_⟩
      · intro q x hx
        rcases hg q x hx with ⟨rfl, rfl⟩ | ⟨n1, n2, hx⟩
        · simp only [if_true]; exact ok.root _ _ hr
        · simp only [if_neg n1]; exact ok.root _ _ hx
      · intro q1 q2 x1 x2 b a e1 e2 t1 t2
        rcases hg _ _ e1 with ⟨rfl, rfl⟩ | ⟨n1, m1, f1⟩
        · simp only [if_true] at t1
          rcases hg _ _ e2 with ⟨rfl, rfl⟩ | ⟨n2, m2, f2⟩
          · rfl
          · simp only [if_neg n2] at t2
            exact absurd (ok.dis _ _ _ _ _ _ hr f2 t1 t2) (Ne.symm m2)
        · simp only [if_neg n1] at t1
          rcases hg _ _ e2 with ⟨rfl, rfl⟩ | ⟨n2, m2, f2⟩
          · simp only [if_true] at t2
            exact absurd (ok.dis _ _ _ _ _ _ f1 hr t1 t2) m1
          · simp only [if_neg n2] at t2
            exact ok.dis _ _ _ _ _ _ f1 f2 t1 t2
      · intro q x b a e1 t1
        rcases hg _ _ e1 with ⟨rfl, rfl⟩ | ⟨n1, m1, f1⟩
        · simp only [if_true] at t1; exact ok.sub _ _ _ _ hr t1
        · simp only [if_neg n1] at t1; exact ok.sub _ _ _ _ f1 t1
      · intro q x e1
        rcases hg _ _ e1 with ⟨rfl, rfl⟩ | ⟨n1, m1, f1⟩
        · simp only [if_true]
          exact ⟨fun h => by omega, fun _ => (h.kind _ _ hr).2 hv⟩
        · simp only [if_neg n1]
          exact h.kind _ _ f1
    have h2 := h.move hokx hl (fun e => e.1 != r) (by
      intro e he hk
      have hk' : e.1 ≠ r := by simpa using hk
      refine ⟨fun x h1 h2 => ⟨x, (hg2 _ _ hk' h1).2, h2⟩, ?_, fun _ _ _ _ h => h⟩
      obtain ⟨_, _, _, _, ⟨x, e2, _⟩, _⟩ := h.rf e he
      simp only [if_neg (hg2 _ _ hk' e2).1])
    refine ⟨h2.ok, h2.xsub, h2.kind, ?_, h2.rf, h2.size, h2.defers⟩
    intro k x hx
    rw [Al.get_set] at hx
    split at hx
    · rename_i e
      subst e
      obtain rfl := Option.some.inj hx
      obtain ⟨l, uc, xs', k1, k2, k3, k4, k5⟩ : LR1 w F env st.rt (.sl ⟨r, [], 0⟩ es off len) _ := h.sv _ _ hd
      obtain ⟨v, hvv⟩ := (h.kind _ _ hr).2 hv
      simp only [rloc, hr, hvv, Option.bind_some, Option.some.injEq] at k1
      simp only [cellAt, hr, Option.bind_some, AV.cellIn, AV.sub, AV.cells, List.getElem?_cons_zero, Option.some.injEq, AV.own.injEq, true_and] at k2
      subst k1 k2
      exact ⟨.val v, uc, xs, by simp [rloc, Al.get_set, hvv], by simp [cellAt, Al.get_set, AV.cellIn, AV.sub, AV.cells], k3, k4, k5⟩
    · exact h2.sv k x hx
  · have : q ≠ r' := by rintro rfl; rw [hp'] at hq; cases hq
    simp only [if_neg this]
/-- A call by a contract of the kit's: it reads what it is handed, gives a plain value, and leaves alone what is there. -/
theorem ACalls.kit {f : FuncId} {args : List AV} {v : Value} (h1 : v.oneCell' = true)
    (h : ∀ (I : World → Fp → Value → Fp → Prop) w F env vals, vals.size = args.length → (∀ (i : Nat) y, args[i]? = some y → ∃ u, vals[i]? = some u ∧ SV w F env (lentTo [] I) y u) → Calls P f vals w fun e w' => e = .returned v ∧ Below w.heap.size w w')
    {Q : AV → Al → Prop} (hq : Q (.v v) []) : ACalls P f [] args Q := by
  intro I w F env vals hok hl hv hrf
  obtain ⟨⟨T, ok, hX⟩, hXF, hk⟩ := hok
  refine (h I w F env vals hl hv).mono ?_
  rintro e w' ⟨rfl, hb⟩
  have hkp : ∀ T' : Fp, Kp w F w' F T' := fun T' => ⟨⟨E0, Agree.below hb E0, fun _ _ h => h.elim, fun _ _ _ h => h⟩, fun _ _ h => .inl h⟩
  refine ⟨v, rfl, .v v, lentTo [] I, F, env, E0, [], rfl, hq, ⟨⟨T, ⟨fun r x hx => (ok.root r x hx).keep (hkp _), ok.dis, ok.sub, fun b a hh => Nat.lt_of_lt_of_le (ok.fb b a hh) hb.size⟩, hX⟩, hXF, hk⟩, ⟨E0, Rep.v h1 fun _ _ h => h, fun _ _ h => h.elim⟩, ⟨hkp _, fun _ _ => rfl⟩, fun e he => by simp at he⟩
/-- A list of plain one-cell values, as the kit's contracts want it. -/
theorem lst_cells {α : Type} {w : World} {F : Fp} {env : Nat → RLoc} {rt : Al} {g : α → Value} {l : List α} {u : Value} (h : SV w F env rt (.lst 1 (l.map fun x => .v (g x))) u) :
    (l = [] ∧ ∃ a c, u = .slice a 0 c) ∨ ∃ B o c, u = .slice (some ⟨B, o, none⟩) l.length c ∧ l.length ≤ c ∧ B < w.heap.size ∧ ∀ (j : Nat) x, l[j]? = some x → w.cell? ⟨B, o + j, none⟩ = some (g x) := by
  have h' : Rep w F (.lst 1 (l.map fun x => .v (g x))) u E0 := h
  generalize hm : l.map (fun x => AV.v (g x)) = xs at h'
  cases h' with
  | lstN hT =>
    left
    exact ⟨by simpa using hm, _, _, rfl⟩
  | @lst _ _ B o cap _ uu hes hcap hlen hc hf hr hT =>
    subst hm
    have key : ∀ (j : Nat) x, l[j]? = some x → w.cell? ⟨B, o + j, none⟩ = some (g x) := by
      intro j x hx
      have h1 := hc j (.v (g x)) 0 (.v (g x)) (by simp [hx]) rfl
      have h2 := hr j (.v (g x)) 0 (.v (g x)) (by simp [hx]) rfl
      generalize uu j 0 = z at h1 h2
      cases h2 with
      | v h3 h4 => simpa using h1
    cases l with
    | nil => left; exact ⟨rfl, _, _, by simp only [List.map_nil, List.length_nil]; rfl⟩
    | cons x l =>
      right
      refine ⟨B, o, cap, by simp, by simpa using hcap, cell_lt (key 0 x rfl), key⟩
end
end Go.Proofs.YthlehngbadianaaDoor.Ow
