/- What is lent to a call: a list. -/
import Derived.Test.YthlehngbadianaaDoorOwLendCall3
set_option linter.unusedVariables false
set_option linter.unusedSimpArgs false
set_option linter.unnecessarySimpa false
namespace Go.Proofs.YthlehngbadianaaDoor.Ow
open Go Go.RowKit
theorem Al.del_del (l : Al) (k : Nat) : (Al.del l k).del k = Al.del l k := by
  induction l with
  | nil => rfl
  | cons e l ih =>
    obtain ⟨k', x⟩ := e
    simp only [Al.del]
    split
    · exact ih
    · rename_i h; simp only [Al.del, h, if_false, ih]
def isAt (g : Nat) (path : List Hop) (j : Nat) : AV → Bool
  | .sl q _ _ _ => decide (q.r = g) && (decide (q.path = path) && decide (q.j = j))
  | _ => false
def survB (g : Nat) (path : List Hop) (j : Nat) (c : AV) : Bool := surv1 g path.length j (j + 1) c || isAt g path j c
def plugL (st : St) (g : Nat) (x : AV) (path : List Hop) (j : Nat) (t' : AV) : St := ⟨cutSl (survB g path j) st.sl, st.rt.set g (x.setC path j t'), cutRf (survB g path j) (st.rf.filter (keepR g path j (j + 1)))⟩
def survV (g : Nat) (c : AV) : Bool := notR g c || isAt g [] 0 c
def plugV (st : St) (g : Nat) (t' : AV) : St := ⟨cutSl (survV g) st.sl, st.rt.set g t', cutRf (survV g) (st.rf.filter fun _ => true)⟩
def okL (es len : Nat) : AV → Bool
  | .own es' xs' => es' == es && xs'.length == len
  | _ => false
def mapL (g : Nat) (path : List Hop) (j : Nat) (q : Pl) : Option Pl :=
  if q.r = 9000 then match q.path with
    | [] => if q.j = 0 then some ⟨g, path, j⟩ else none
    | (j0, i) :: p => if j0 = 0 then some ⟨g, path ++ (j, i) :: p, q.j⟩ else none
  else none
def lvL : AV → AV
  | .sl q es off len => .sl ⟨9000, [], 0⟩ es off len
  | c => c
section
variable {w w' : World} {F F' X : Fp} {env env' : Nat → RLoc} {rt rt' : Al} {n : Nat} {a : Act} {st : St} {ok : AV → Bool}
theorem Lives.plus (h : Lives w F env rt w' F' env' rt' ok) (g : Nat) (path : List Hop) (j : Nat) (hs : ∀ es off len u, LR1 w F env rt (.sl ⟨g, path, j⟩ es off len) u → LR1 w' F' env' rt' (.sl ⟨g, path, j⟩ es off len) u) :
    Lives w F env rt w' F' env' rt' (fun c => ok c || isAt g path j c) := by
  refine ⟨h.rep, ?_, ?_, ?_⟩
  · intro p u hk; simp only [isAt, Bool.or_false] at hk; exact h.ref p u hk
  · intro p es off len u hk
    simp only [Bool.or_eq_true] at hk
    rcases hk with hk | hk
    · exact h.sl p es off len u hk
    · simp only [isAt, Bool.and_eq_true, decide_eq_true_eq] at hk
      obtain ⟨r, path', j'⟩ := p
      obtain ⟨rfl, rfl, rfl⟩ := hk
      exact hs es off len u
  · intro p es len cap u hk; simp only [isAt, Bool.or_false] at hk; exact h.sa p es len cap u hk
/-- References into the list, for the caller. -/
theorem mapL_sound {g : Nat} {path : List Hop} {j es : Nat} {xs' : List AV} {uc : Value} {l : RLoc} {Mc : Al} {envc : Nat → RLoc} {x1 : AV} {u : Value} (hM : Mc.get 9000 = some (.own es xs')) (he : envc 9000 = .val uc)
    (hl : rloc w env rt g path = some l) (hcell : cellAt rt g path j = some (.own es xs')) (hrc : rcell w l j = some uc)
    (hlq : ∀ i p, rloc w env rt g (path ++ (j, i) :: p) = (ploc w (.own es xs') uc i p).map fun l => .mem l.1 l.2)
    (hcq : ∀ i p k, cellAt rt g (path ++ (j, i) :: p) k = (AV.own es xs').ccell i p k)
    (hv : LR1 w F envc Mc x1 u) : LR1 w F env rt (trG (mapL g path j) x1) u := by
  have hone : (AV.own es xs').one = true := rfl
  have loc : ∀ q : Pl, q.r = 9000 → ∀ l', rloc w envc Mc q.r q.path = some l' → (q.path = [] ∧ l' = .val uc) ∨ ∃ i p, q.path = (0, i) :: p ∧ rloc w env rt g (path ++ (j, i) :: p) = some l' := by
    intro q hq l' h
    rw [hq] at h
    simp only [rloc, hM, he, Option.bind_some] at h
    cases hp : q.path with
    | nil => rw [hp] at h; left; exact ⟨rfl, (Option.some.inj h).symm⟩
    | cons a p =>
      obtain ⟨j0, i⟩ := a
      rw [hp] at h
      simp only at h
      split at h
      · rename_i e; subst e
        exact .inr ⟨i, p, rfl, by rw [hlq]; exact h⟩
      · simp at h
  have junk : LR1 w F env rt .junk u := Rep.junk hv.one fun _ _ h => h
  cases x1
  case ref q =>
    simp only [trG, mapL]
    by_cases hq : q.r = 9000
    · rw [if_pos hq]
      obtain ⟨B, o, h1, h2⟩ := hv
      rcases loc q hq _ h1 with ⟨_, h3⟩ | ⟨i, p, h3, h4⟩
      · cases h3
      · simp only [h3, if_true]
        exact ⟨B, o, h4, h2⟩
    · rw [if_neg hq]; exact junk
  case sa q es len cap =>
    simp only [trG, mapL]
    by_cases hq : q.r = 9000
    · rw [if_pos hq]
      obtain ⟨B, o, ao, h1, h2⟩ := hv
      rcases loc q hq _ h1 with ⟨_, h3⟩ | ⟨i, p, h3, h4⟩
      · cases h3
      · simp only [h3, if_true]
        exact ⟨B, o, ao, h4, h2⟩
    · rw [if_neg hq]; exact junk
  case sl q es' off len =>
    simp only [trG, mapL]
    by_cases hq : q.r = 9000
    · rw [if_pos hq]
      obtain ⟨l', uc', xs, h1, h2, h3, h4, h5⟩ := hv
      rcases loc q hq _ h1 with ⟨h6, rfl⟩ | ⟨i, p, h6, h7⟩
      · simp only [h6]
        split
        · rename_i k hk
          split at hk
          · rename_i hj
            simp only [Option.some.injEq] at hk
            subst hk
            rw [hq, h6, hj] at h2
            simp only [cellAt, hM, Option.bind_some, AV.cellIn, AV.sub, AV.cells, List.getElem?_cons_zero, Option.some.injEq, AV.own.injEq] at h2
            obtain ⟨rfl, rfl⟩ := h2
            simp only [rcell, hj, if_true, Option.some.injEq] at h3
            subst h3
            exact ⟨l, _, _, hl, hcell, hrc, h4, h5⟩
          · simp at hk
        · exact junk
      · simp only [h6, if_true]
        refine ⟨l', uc', xs, h7, ?_, h3, h4, h5⟩
        rw [hcq]
        rw [hq, h6] at h2
        simp only [cellAt, hM, Option.bind_some] at h2
        rw [cellIn_one hone] at h2
        exact h2
    · rw [if_neg hq]; exact junk
  all_goals exact hv
theorem lend_listV (h : Rel w F E0 env n a st) {g es : Nat} {xs : List AV} (hx : st.rt.get g = some (.own es xs)) (hg : VB ≤ g) :
    ∃ l0 L, Lend w F env n a st g 9000 (.own es xs) l0 L (okL es xs.length) (plugV st g) (mapL g [] 0) (isAt g [] 0) lvL := by
  obtain ⟨T, ok, _⟩ := h.ok
  obtain ⟨u0, hu⟩ := (h.kind g _ hx).2 hg
  have hroot := ok.root g _ hx
  rw [hu] at hroot
  refine ⟨.val u0, T g, fun b a ht => ok.sub _ _ _ _ hx ht, hroot, ⟨fun hh => by simp [VB] at hh, fun _ => ⟨_, rfl⟩⟩, ⟨rfl, by decide⟩, ⟨T, ok, fun r x hr hx' b a ht hg' => hr (ok.dis _ _ _ _ _ _ hx' hx ht hg')⟩, ?_, ?_⟩
  · intro x u Fc envc Mc hi hv h0 he0
    cases x <;> simp only [isAt, Bool.false_eq_true] at hi
    rename_i q es' off len
    simp only [Bool.and_eq_true, decide_eq_true_eq] at hi
    obtain ⟨h1, h2, h3⟩ := hi
    obtain ⟨l, uc, xs', k1, k2, k3, k4, k5⟩ := hv
    rw [h1, h2] at k1 k2
    rw [h3] at k2 k3
    simp only [rloc, hx, hu, Option.bind_some, Option.some.injEq] at k1
    subst k1
    simp only [cellAt, hx, Option.bind_some, AV.cellIn, AV.sub, AV.cells, List.getElem?_cons_zero, Option.some.injEq, AV.own.injEq] at k2
    obtain ⟨rfl, rfl⟩ := k2
    simp only [rcell, if_true, Option.some.injEq] at k3
    subst k3
    exact ⟨.val u0, u0, xs, by simp only [rloc, h0, he0, Option.bind_some], by simp [cellAt, h0, AV.cellIn, AV.sub, AV.cells], rfl, k4, k5⟩
  · intro w' F' X M T'' t' hok hroot' k3 k4 k5 k6 k7 k8 k9 k10 k11
    obtain ⟨xs', rfl, hlen⟩ : ∃ xs', t' = .own es xs' ∧ xs'.length = xs.length := by
      cases t' <;> simp only [okL, Bool.false_eq_true, Bool.and_eq_true, beq_iff_eq] at hok
      obtain ⟨rfl, h2⟩ := hok
      exact ⟨_, rfl, h2⟩
    have hset : (AV.own es xs).setC [] 0 (.own es xs') = .own es xs' := by simp [AV.setC, AV.sub, AV.setSub, AV.setCell]
    have hM : Agree (fun b a => b < w.heap.size ∧ M b a) w w' := k3.mono fun b a hb hm => ⟨hb, hm⟩
    have hk : ∀ r x, r ≠ g → st.rt.get r = some x → Kp w F w' F' (T r) := fun r x hr hx' => ⟨⟨_, hM, fun b a hm => ok.sub _ _ _ _ hx (k4 b a hm.1 hm.2), fun b a ht hm => hr (ok.dis _ _ _ _ _ _ hx' hx ht (k4 b a hm.1 hm.2))⟩, k5⟩
    have h0 : Kp w F w' F' E0 := ⟨⟨_, hM, fun b a hm => ok.sub _ _ _ _ hx (k4 b a hm.1 hm.2), fun _ _ h => h.elim⟩, k5⟩
    have hgs : ∀ r x, (st.rt.set g (.own es xs')).get r = some x → (r = g ∧ x = .own es xs') ∨ (r ≠ g ∧ st.rt.get r = some x) := by
      intro r x hh
      rw [Al.get_set] at hh
      split at hh
      · rename_i e; exact .inl ⟨e, (Option.some.inj hh).symm⟩
      · rename_i e; exact .inr ⟨e, hh⟩
    have hnew : ∀ r x b a, r ≠ g → st.rt.get r = some x → T r b a → ¬ T'' b a := by
      intro r x b a hr hx' ht ht2
      rcases k10 b a ht2 with h1 | h1
      · exact hr (ok.dis _ _ _ _ _ _ hx' hx ht h1)
      · have := ok.fb b a (ok.sub _ _ _ _ hx' ht); omega
    have hokx : OkX w' F' X env (st.rt.set g (.own es xs')) := by
      refine ⟨⟨fun r => if r = g then T'' else T r, ⟨?_, ?_, ?_, k9⟩, ?_⟩, k8, ?_⟩
      · intro r x hx'
        rcases hgs r x hx' with ⟨rfl, rfl⟩ | ⟨e, hx''⟩
        · simp only [if_true, hu]; exact hroot'
        · simp only [e, if_false]; exact (ok.root r x hx'').keep (hk r x e hx'')
      · intro r1 r2 x1 x2 b a h1 h2 t1 t2
        rcases hgs _ _ h1 with ⟨rfl, rfl⟩ | ⟨e1, h1'⟩ <;> rcases hgs _ _ h2 with ⟨rfl, rfl⟩ | ⟨e2, h2'⟩
        · rfl
        · simp only [if_true, e2, if_false] at t1 t2; exact absurd t1 (hnew _ _ _ _ e2 h2' t2)
        · simp only [if_true, e1, if_false] at t1 t2; exact absurd t2 (hnew _ _ _ _ e1 h1' t1)
        · simp only [e1, e2, if_false] at t1 t2; exact ok.dis _ _ _ _ _ _ h1' h2' t1 t2
      · intro r x b a hx' ht
        rcases hgs _ _ hx' with ⟨rfl, rfl⟩ | ⟨e, hx''⟩
        · simp only [if_true] at ht; exact k7 b a ht
        · simp only [e, if_false] at ht; exact k6 b a (ok.sub _ _ _ _ hx'' ht) fun hg' => e (ok.dis _ _ _ _ _ _ hx'' hx ht hg')
      · intro r x b a hx' ht hX
        rcases hgs _ _ hx' with ⟨rfl, rfl⟩ | ⟨e, hx''⟩
        · simp only [if_true] at ht; exact (k11 b a hX).2 ht
        · simp only [e, if_false] at ht
          rcases (k11 b a hX).1 with h1 | h1
          · exact e (ok.dis _ _ _ _ _ _ hx'' hx ht h1)
          · have := ok.fb b a (ok.sub _ _ _ _ hx'' ht); omega
      · intro r x hx'
        rcases hgs _ _ hx' with ⟨rfl, rfl⟩ | ⟨e, hx''⟩
        · exact h.kind r _ hx
        · exact h.kind r x hx''
    have hgd : ∀ r x, (st.rt.del g).get r = some x → r ≠ g ∧ st.rt.get r = some x := by
      intro r x hh
      rw [Al.get_del] at hh
      split at hh
      · simp at hh
      · rename_i e; exact ⟨e, hh⟩
    have hl1 : Lives w F env st.rt w' F' env (st.rt.set g (.own es xs')) (notR g) := by
      have l1 := Lives.del (w := w) (F := F) (env := env) (rt := st.rt) g
      have l2 := Lives.world (ok.del g) (w' := w') (F' := F') (fun r x hx' => hk r x (hgd r x hx').1 (hgd r x hx').2) h0
      have l3 := Lives.come (w := w') (F := F') (env := env) (rt := st.rt.del g) (r := g) (by simp [Al.get_del]) (.own es xs') (env g)
      rw [show (fun r' => if r' = g then env g else env r') = env by funext r'; split <;> simp_all] at l3
      rw [show (st.rt.del g).set g (.own es xs') = st.rt.set g (.own es xs') by simp only [Al.set, Al.del_del]] at l3
      exact ((l1.trans l2).trans l3).mono fun c hc => by simp [hc]
    have hg' : (st.rt.set g (.own es xs')).get g = some (.own es xs') := by simp [Al.get_set]
    have hlg : rloc w' env (st.rt.set g (.own es xs')) g [] = some (.val u0) := by simp only [rloc, hg', hu, Option.bind_some]
    have hcg : cellAt (st.rt.set g (.own es xs')) g [] 0 = some (.own es xs') := by simp [cellAt, hg', AV.cellIn, AV.sub, AV.cells]
    have hl2 := hl1.plus g [] 0 (by
      rintro es' off len u ⟨l, uc, xs2, m1, m2, m3, m4, m5⟩
      simp only [rloc, hx, hu, Option.bind_some, Option.some.injEq] at m1
      subst m1
      simp only [cellAt, hx, Option.bind_some, AV.cellIn, AV.sub, AV.cells, List.getElem?_cons_zero, Option.some.injEq, AV.own.injEq] at m2
      obtain ⟨rfl, rfl⟩ := m2
      simp only [rcell, if_true, Option.some.injEq] at m3
      subst m3
      exact ⟨.val u0, u0, xs', hlg, hcg, rfl, by omega, m5⟩)
    have hrel := h.move hokx hl2 (fun _ => true) (by
      intro e he _
      obtain ⟨B, o, u, e1, ⟨x1, e2, e3⟩, e4, e5⟩ := h.rf e he
      have hne : e.1 ≠ g := fun hh => by rw [hh, hu] at e1; cases e1
      refine ⟨fun x h1 h2 => ⟨x, by rw [Al.get_set, if_neg hne]; exact h1, h2⟩, rfl, ?_⟩
      intro B' o' u' h1 h2
      have hr := ok.root _ x1 e2
      rw [e1] at h1 hr
      obtain ⟨rfl, rfl⟩ : B = B' ∧ o = o' := by simpa using h1
      obtain ⟨u2, S, k1, k2, _⟩ := Nd.cell hr (List.getElem?_eq_getElem e3)
      exact (hk _ x1 hne e2).cell h2 (.inl k2))
    refine ⟨hrel, ?_⟩
    intro x1 u Mc envc hMc he hv
    refine mapL_sound (l := .val u0) (uc := u0) hMc he hlg hcg rfl ?_ ?_ hv
    · intro i p
      simp only [plugV, List.nil_append, rloc, hg', hu, Option.bind_some, if_true]
    · intro i p k
      simp only [plugV, List.nil_append, cellAt, hg', Option.bind_some]
      exact cellIn_one rfl i p k
theorem lend_listM (h : Rel w F E0 env n a st) {g j es : Nat} {x z : AV} {path : List Hop} {xs : List AV} (hx : st.rt.get g = some x) (hz : x.sub path = some z) (hc : z.cells[j]? = some (.own es xs)) (hm : path = [] → g < VB) :
    ∃ l0 L, Lend w F env n a st g 9000 (.own es xs) l0 L (okL es xs.length) (plugL st g x path j) (mapL g path j) (isAt g path j) lvL := by
  obtain ⟨B, o, Tz, h1, h2, h3, ⟨T, ok, hTg⟩, h4⟩ := h.nodeT hx hz hm
  obtain ⟨u0, S, c1, c2, c3, c4, c5, c6, c7⟩ := cell_lens h2 hc
  have hjl := (List.getElem?_eq_some_iff.1 hc).1
  have hcell : cellAt st.rt g path j = some (.own es xs) := by simp only [cellAt, hx, Option.bind_some, AV.cellIn, hz, hc]
  refine ⟨.val u0, S, fun b a hs => (h3 b a (c3 b a hs).1).1, ⟨rfl, c2⟩, ⟨fun hh => by simp [VB] at hh, fun _ => ⟨_, rfl⟩⟩, ⟨rfl, by decide⟩, ⟨T, ok, fun r x' hr hx' b a ht hs => hr (ok.dis _ _ _ _ _ _ hx' hx ht (hTg _ _ (c3 b a hs).1))⟩, ?_, ?_⟩
  · intro x' u Fc envc Mc hi hv h0 he0
    cases x' <;> simp only [isAt, Bool.false_eq_true] at hi
    rename_i q es' off len
    simp only [Bool.and_eq_true, decide_eq_true_eq] at hi
    obtain ⟨k1, k2, k3⟩ := hi
    obtain ⟨l, uc, xs', m1, m2, m3, m4, m5⟩ := hv
    rw [k1, k2, h1] at m1
    obtain rfl := Option.some.inj m1
    rw [k1, k2, k3, hcell] at m2
    simp only [Option.some.injEq, AV.own.injEq] at m2
    obtain ⟨rfl, rfl⟩ := m2
    rw [k3] at m3
    simp only [rcell] at m3
    rw [c1] at m3
    obtain rfl := Option.some.inj m3
    exact ⟨.val u0, u0, xs, by simp only [rloc, h0, he0, Option.bind_some], by simp [cellAt, h0, AV.cellIn, AV.sub, AV.cells], rfl, m4, m5⟩
  · intro w' F' X M T'' t' hok hroot' k3 k4 k5 k6 k7 k8 k9 k10 k11
    obtain ⟨xs', rfl, hlen⟩ : ∃ xs', t' = .own es xs' ∧ xs'.length = xs.length := by
      cases t' <;> simp only [okL, Bool.false_eq_true, Bool.and_eq_true, beq_iff_eq] at hok
      obtain ⟨rfl, h2⟩ := hok
      exact ⟨_, rfl, h2⟩
    have hcs : (z.setCell j (.own es xs')).cells = z.cells.set j (.own es xs') := AV.cells_setCell _ _ _ rfl
    have hfb : ∀ b a, Tz b a → b < w.heap.size := fun b a ht => ok.fb b a (h3 b a ht).1
    have hnM : ∀ jj, jj < z.cells.length → ¬ M B (o + jj) := by
      intro jj hjj hm
      have hlt : B < w.heap.size := cell_lt c1
      exact (c3 _ _ (k4 _ _ hlt hm)).2 ⟨rfl, by omega, by omega⟩
    have hM : Agree (fun b a => b < w.heap.size ∧ M b a) w w' := k3.mono fun b a hb hm => ⟨hb, hm⟩
    have hcell' : w'.cell? ⟨B, o + j, none⟩ = some u0 := k3.cell c1 (hnM j hjl)
    have hblk : Blk w' B o (o + z.cells.length) := c5.keep k3 fun _ => ⟨o + j, by omega, by omega, hnM j hjl⟩
    have hkp : Kp w F w' F' (fun b a => Tz b a ∧ ¬ S b a ∧ ¬ (b = B ∧ a = o + j)) := ⟨⟨_, hM, fun b a hm => (h3 b a (c3 b a (k4 b a hm.1 hm.2)).1).1, fun b a ht hm => ht.2.1 (k4 b a hm.1 hm.2)⟩, k5⟩
    have hnd := c7 w' F' (.own es xs') u0 T'' hroot'.2 hcell' hblk hkp (fun b a ht hz => (k10 b a ht).resolve_right (by have := hfb b a hz; omega))
    have hzl : (z.setCell j (.own es xs')).cells.length = z.cells.length := by rw [hcs, List.length_set]
    have hset : x.setC path j (.own es xs') = x.setSub path (z.setCell j (.own es xs')) := by simp only [AV.setC, hz]
    obtain ⟨g1, g2, g3⟩ := h4 w' F' X M (fun b a => (Tz b a ∧ ¬ S b a) ∨ T'' b a) (z.setCell j (.own es xs')) j (j + 1) hzl (by rw [hcs]; exact hnd) k3 (fun b a hb hm => .inl (c3 b a (k4 b a hb hm)).1) k5 (fun b a hf _ hz => k6 b a hf fun hs => hz (c3 b a hs).1)
      (fun b a ht => ht.elim (fun ht => k6 b a (h3 b a ht.1).1 ht.2) (k7 b a)) k8 k9
      (fun b a ht => ht.elim (fun ht => .inl ht.1) fun ht => (k10 b a ht).elim (fun hs => .inl (c3 b a hs).1) fun hn => .inr (.inr hn))
      (fun b a hx => ⟨(k11 b a hx).1.elim (fun hs => .inl (c3 b a hs).1) fun hn => .inr (.inr hn), fun ht => ht.elim (fun ht => (k11 b a hx).1.elim ht.2 fun hn => by have := hfb b a ht.1; omega) (k11 b a hx).2⟩)
      (fun jj hjj => by
        have hne : jj ≠ j := by omega
        refine ⟨by rw [hcs, List.getElem?_set_ne (Ne.symm hne)], fun hlt => ?_⟩
        obtain ⟨u2, S2, e1, _⟩ := h2.cell (List.getElem?_eq_getElem hlt)
        rw [e1]
        exact k3.cell e1 (hnM jj hlt))
    have hx' : (st.rt.set g (x.setSub path (z.setCell j (.own es xs')))).get g = some (x.setSub path (z.setCell j (.own es xs'))) := by simp [Al.get_set]
    have hz' : (x.setSub path (z.setCell j (.own es xs'))).sub path = some (z.setCell j (.own es xs')) := sub_setSub path z _ hz
    have hloc : rloc w' env (st.rt.set g (x.setSub path (z.setCell j (.own es xs')))) g path = some (.mem B o) := by
      have : LR1 w' F' env (st.rt.set g (x.setSub path (z.setCell j (.own es xs')))) (.ref ⟨g, path, 0⟩) (.pointer (some ⟨B, o + 0, none⟩)) := g2.ref ⟨g, path, 0⟩ _ (by simp [surv1]) ⟨B, o, h1, rfl⟩
      obtain ⟨B', o', h5, h6⟩ := this
      simp only [Value.pointer.injEq, Option.some.injEq, Addr.mk.injEq, Nat.add_zero, and_true] at h6
      rw [h5, h6.1, h6.2]
    have hc' : (z.setCell j (.own es xs')).cells[j]? = some (.own es xs') := by rw [hcs, List.getElem?_set_self hjl]
    have hcell2 : cellAt (st.rt.set g (x.setSub path (z.setCell j (.own es xs')))) g path j = some (.own es xs') := by simp only [cellAt, hx', Option.bind_some, AV.cellIn, hz', hc']
    have hl2 := g2.plus g path j (by
      rintro es' off len u ⟨l, uc, xs2, m1, m2, m3, m4, m5⟩
      rw [h1] at m1
      obtain rfl := Option.some.inj m1
      rw [hcell] at m2
      simp only [Option.some.injEq, AV.own.injEq] at m2
      obtain ⟨rfl, rfl⟩ := m2
      simp only [rcell] at m3
      rw [c1] at m3
      obtain rfl := Option.some.inj m3
      exact ⟨.mem B o, u0, xs', hloc, hcell2, hcell', by omega, m5⟩)
    have hrel := h.move g1 hl2 (keepR g path j (j + 1)) g3
    have e : plugL st g x path j (.own es xs') = ⟨cutSl (fun c => surv1 g path.length j (j + 1) c || isAt g path j c) st.sl, st.rt.set g (x.setSub path (z.setCell j (.own es xs'))), cutRf (fun c => surv1 g path.length j (j + 1) c || isAt g path j c) (st.rf.filter (keepR g path j (j + 1)))⟩ := by
      simp only [plugL, hset]; rfl
    rw [e]
    refine ⟨hrel, ?_⟩
    obtain ⟨T2, ok2, _⟩ := hrel.ok
    have happ := rloc_app hx' (fun u he => by have := ok2.root _ _ hx'; rw [he] at this; exact this.1) hz' hloc
    intro x1 u Mc envc hMc he hv
    refine mapL_sound (l := .mem B o) (uc := u0) hMc he hloc hcell2 hcell' ?_ ?_ hv
    · intro i p
      rw [happ]
      have e1 : hopLoc (.obj (z.setCell j (.own es xs'))) (ptrTo B o) 0 = some (B, o) := rfl
      have e2 : (AV.obj (z.setCell j (.own es xs'))).elem 0 = some (z.setCell j (.own es xs')) := rfl
      simp only [ploc, e1, e2, Option.bind_some, hc', hcell']
    · intro i p k
      simp only [cellAt, hx', Option.bind_some, AV.cellIn, AV.sub_append, hz', AV.sub, hc', AV.ccell, AV.csub]
end
end Go.Proofs.YthlehngbadianaaDoor.Ow
