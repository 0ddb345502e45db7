/- How a state changes: a root goes, comes, is put into another one; the world goes on. -/
import Derived.Test.YthlehngbadianaaDoorOwValS3
import Derived.Deep.AppendSrc
import Derived.Laws.MakeOwn
import Derived.Laws.AppendOwn
set_option linter.unusedVariables false
set_option linter.unusedSimpArgs false
set_option linter.unnecessarySimpa false
namespace Go.Proofs.YthlehngbadianaaDoor.Ow
open Go Go.RowKit
def cutSl (ok : AV → Bool) (l : Al) : Al := l.map fun e => (e.1, cutV ok e.2)
def cutRf (ok : AV → Bool) (l : List (Nat × Nat × AV)) : List (Nat × Nat × AV) := l.map fun e => (e.1, e.2.1, cut1 ok e.2.2)
theorem cutSl_get (ok : AV → Bool) (l : Al) (k : Nat) : (cutSl ok l).get k = (l.get k).map (cutV ok) := by
  induction l with
  | nil => rfl
  | cons a l ih =>
    obtain ⟨a, x⟩ := a
    simp only [cutSl, List.map_cons, Al.get] at ih ⊢
    split
    · rfl
    · exact ih
section
variable {w : World} {F X : Fp} {env : Nat → RLoc} {n : Nat} {a : Act} {st : St}
/-- The roots, and what is reserved. -/
def OkX (w : World) (F X : Fp) (env : Nat → RLoc) (rt : Al) : Prop :=
  (∃ T, Ok w F env T rt ∧ ∀ r x b a, rt.get r = some x → T r b a → ¬ X b a) ∧ (∀ b a, X b a → F b a) ∧ ∀ r x, rt.get r = some x → (r < VB → ∃ B o, env r = .mem B o) ∧ (VB ≤ r → ∃ u, env r = .val u)
theorem Rel.okx (h : Rel w F X env n a st) : OkX w F X env st.rt := ⟨h.ok, h.xsub, h.kind⟩
/-- The state goes on. -/
theorem Rel.move (h : Rel w F X env n a st) {w' : World} {F' X' : Fp} {env' : Nat → RLoc} {rt' : Al} {ok : AV → Bool} (hok : OkX w' F' X' env' rt') (hl : Lives w F env st.rt w' F' env' rt' ok) (keep : Nat × Nat × AV → Bool)
    (hrf : ∀ e ∈ st.rf, keep e = true → (∀ x, st.rt.get e.1 = some x → e.2.1 < x.cells.length → ∃ x', rt'.get e.1 = some x' ∧ e.2.1 < x'.cells.length) ∧ env' e.1 = env e.1 ∧ ∀ B o u, env e.1 = .mem B o → w.cell? ⟨B, o + e.2.1, none⟩ = some u → w'.cell? ⟨B, o + e.2.1, none⟩ = some u) :
    Rel w' F' X' env' n a ⟨cutSl ok st.sl, rt', cutRf ok (st.rf.filter keep)⟩ := by
  refine ⟨hok.1, hok.2.1, hok.2.2, ?_, ?_, h.size, h.defers⟩
  · intro k x hx
    rw [cutSl_get, Option.map_eq_some_iff] at hx
    obtain ⟨y, hy, rfl⟩ := hx
    exact hl.cutV (h.sv k y hy)
  · intro e he
    simp only [cutRf, List.mem_map, List.mem_filter] at he
    obtain ⟨e0, ⟨he0, hk⟩, rfl⟩ := he
    obtain ⟨B, o, u, h1, ⟨x, h2, h3⟩, h4, h5⟩ := h.rf e0 he0
    obtain ⟨g1, g2, g3⟩ := hrf e0 he0 hk
    exact ⟨B, o, u, by rw [g2]; exact h1, g1 x h2 h3, g3 B o u h1 h4, hl.cut1 h5⟩
theorem cut1_true (c : AV) : cut1 (fun _ => true) c = c := by
  unfold cut1
  cases c <;> simp [okF]
theorem cut2_true (c : AV) : cut2 (fun _ => true) c = c := by
  cases c <;> simp only [cut2, cut1_true]
  rw [show cut1 (fun _ => true) = id from funext cut1_true, List.map_id]
theorem cutV_true (c : AV) : cutV (fun _ => true) c = c := by
  cases c <;> simp only [cutV, cut2_true]
  rw [show cut2 (fun _ => true) = id from funext cut2_true, List.map_id]
theorem cutSl_true (l : Al) : cutSl (fun _ => true) l = l := by simp [cutSl, cutV_true]
theorem cutRf_true (l : List (Nat × Nat × AV)) : cutRf (fun _ => true) l = l := by simp [cutRf, cut1_true]
theorem filter_true {α : Type} (l : List α) : l.filter (fun _ => true) = l := by simp
/-- The world goes on, and leaves alone what lies in roots. -/
theorem Ok.world {T : Nat → Fp} {rt : Al} (ok : Ok w F env T rt) {w' : World} {F' : Fp} (hk : ∀ r x, rt.get r = some x → Kp w F w' F' (T r)) (hF : ∀ r x b a, rt.get r = some x → T r b a → F' b a) (hb : ∀ b a, F' b a → b < w'.heap.size) : Ok w' F' env T rt :=
  ⟨fun r x hx => (ok.root r x hx).keep (hk r x hx), ok.dis, fun r x b a hx ht => hF r x b a hx ht, hb⟩
theorem Lives.world {T : Nat → Fp} {rt : Al} (ok : Ok w F env T rt) {w' : World} {F' : Fp} (hk : ∀ r x, rt.get r = some x → Kp w F w' F' (T r)) (h0 : Kp w F w' F' E0) : Lives w F env rt w' F' env rt (fun _ => true) := by
  have hloc : ∀ r q, rloc w' env rt r q = rloc w env rt r q := by
    intro r q
    cases hx : rt.get r with
    | none => simp [rloc, hx]
    | some x => exact rloc_keep hx hx (ok.root r x hx) (hk r x hx) q
  refine ⟨fun c u hr => hr.keep h0, ?_, ?_, ?_⟩
  · rintro p u - ⟨B, o, h1, h2⟩
    exact ⟨B, o, by rw [hloc]; exact h1, h2⟩
  · rintro p es off len u - ⟨l, uc, xs, h1, h2, h3, h4, h5⟩
    refine ⟨l, uc, xs, by rw [hloc]; exact h1, h2, ?_, h4, h5⟩
    cases hx : rt.get p.r with
    | none => simp [cellAt, hx] at h2
    | some x =>
      have h2' := h2
      simp only [cellAt, hx, Option.bind_some] at h2'
      obtain ⟨l', u', S, g1, g2, g3, g4, g5⟩ := (ok.root _ x hx).at_ hx h2'
      rw [h1] at g1
      obtain rfl := Option.some.inj g1
      cases l with
      | mem B o => exact (hk _ x hx).cell h3 (.inl (g5 B o rfl))
      | val v => exact h3
  · rintro p es len cap u - ⟨B, o, ao, h1, h2⟩
    exact ⟨B, o, ao, by rw [hloc]; exact h1, h2.keep h0⟩
/-- What is reserved may turn. -/
theorem Rel.world (h : Rel w F X env n a st) {w' : World} {M F' X' : Fp} (hM : Agree M w w') (hMX : ∀ b a, b < w.heap.size → M b a → X b a) (hF : ∀ b a, F' b a → F b a ∨ w.heap.size ≤ b) (hF2 : ∀ b a, F b a → ¬ X b a → F' b a) (hX : ∀ b a, X' b a → F' b a)
    (hX2 : ∀ b a, X' b a → X b a ∨ w.heap.size ≤ b) (hb : ∀ b a, F' b a → b < w'.heap.size) : Rel w' F' X' env n a st := by
  obtain ⟨T, ok, hT⟩ := h.ok
  have hM' : Agree (fun b a => b < w.heap.size ∧ M b a) w w' := hM.mono fun b a hb hm => ⟨hb, hm⟩
  have hk : ∀ r x, st.rt.get r = some x → Kp w F w' F' (T r) := fun r x hx => ⟨⟨_, hM', fun b a hm => h.xsub b a (hMX b a hm.1 hm.2), fun b a ht hm => hT r x b a hx ht (hMX b a hm.1 hm.2)⟩, hF⟩
  have h0 : Kp w F w' F' E0 := ⟨⟨_, hM', fun b a hm => h.xsub b a (hMX b a hm.1 hm.2), fun _ _ h => h.elim⟩, hF⟩
  have ok' := ok.world hk (fun r x b a hx ht => hF2 b a (ok.sub r x b a hx ht) (hT r x b a hx ht)) hb
  have hx' : ∀ r x b a, st.rt.get r = some x → T r b a → ¬ X' b a := by
    intro r x b a hx ht hh
    rcases hX2 b a hh with h1 | h1
    · exact hT r x b a hx ht h1
    · have := ok.fb b a (ok.sub r x b a hx ht); omega
  have := h.move ⟨⟨T, ok', hx'⟩, hX, h.kind⟩ (Lives.world ok hk h0) (fun _ => true) (by
    intro e he _
    refine ⟨fun x h1 h2 => ⟨x, h1, h2⟩, rfl, ?_⟩
    intro B o u h1 h2
    obtain ⟨B', o', u', e1, ⟨x, e2, e3⟩, e4, e5⟩ := h.rf e he
    have hr := ok.root _ x e2
    rw [h1] at e1
    obtain ⟨rfl, rfl⟩ : B = B' ∧ o = o' := by simpa using e1
    simp only [RootOk, h1] at hr
    obtain ⟨u2, S, k1, k2, _⟩ := Nd.cell hr (List.getElem?_eq_getElem e3)
    exact (hk _ x e2).cell h2 (.inl k2))
  rw [cutSl_true, cutRf_true, filter_true] at this
  exact this
/-! A root goes. -/
def St.drop (st : St) (r : Nat) : St := ⟨cutSl (notR r) st.sl, st.rt.del r, cutRf (notR r) (st.rf.filter fun e => e.1 != r)⟩
theorem Ok.del {T : Nat → Fp} {rt : Al} (ok : Ok w F env T rt) (r : Nat) : Ok w F env T (rt.del r) := by
  have hg : ∀ r' x, (rt.del r).get r' = some x → r' ≠ r ∧ rt.get r' = some x := by
    intro r' x hx
    rw [Al.get_del] at hx
    split at hx
    · simp at hx
    · rename_i hne; exact ⟨hne, hx⟩
  exact ⟨fun r' x hx => ok.root r' x (hg _ _ hx).2, fun r1 r2 x1 x2 b a h1 h2 => ok.dis r1 r2 x1 x2 b a (hg _ _ h1).2 (hg _ _ h2).2, fun r' x b a hx => ok.sub r' x b a (hg _ _ hx).2, ok.fb⟩
theorem Lives.del {rt : Al} (r : Nat) : Lives w F env rt w F env (rt.del r) (notR r) := by
  have hloc : ∀ r' q, r' ≠ r → rloc w env (rt.del r) r' q = rloc w env rt r' q := by
    intro r' q hne
    simp only [rloc, Al.get_del, hne, if_false]
  refine ⟨fun c u hr => hr, ?_, ?_, ?_⟩
  · rintro p u ho ⟨B, o, h1, h2⟩
    exact ⟨B, o, by rw [hloc _ _ (by simpa [notR] using ho)]; exact h1, h2⟩
  · rintro p es off len u ho ⟨l, uc, xs, h1, h2, h3, h4, h5⟩
    have hne : p.r ≠ r := by simpa [notR] using ho
    exact ⟨l, uc, xs, by rw [hloc _ _ hne]; exact h1, by simp only [cellAt, Al.get_del, hne, if_false]; exact h2, h3, h4, h5⟩
  · rintro p es len cap u ho ⟨B, o, ao, h1, h2⟩
    exact ⟨B, o, ao, by rw [hloc _ _ (by simpa [notR] using ho)]; exact h1, h2⟩
/-- A root's cells become reserved. -/
theorem Rel.drop (h : Rel w F X env n a st) (r : Nat) : ∃ Tr, (∀ x, st.rt.get r = some x → RootOk w F x (env r) Tr) ∧ (∀ b a, Tr b a → F b a ∧ ¬ X b a) ∧ Rel w F (fun b a => X b a ∨ Tr b a) env n a (st.drop r) := by
  obtain ⟨T, ok, hT⟩ := h.ok
  have hdel : ∀ r' x, (st.rt.del r).get r' = some x → r' ≠ r ∧ st.rt.get r' = some x := by
    intro r' x hx
    rw [Al.get_del] at hx
    split at hx
    · simp at hx
    · rename_i hne; exact ⟨hne, hx⟩
  have hmain : ∀ Tr : Fp, (∀ r' x b a, (st.rt.del r).get r' = some x → T r' b a → ¬ Tr b a) → (∀ b a, Tr b a → F b a) → Rel w F (fun b a => X b a ∨ Tr b a) env n a (st.drop r) := by
    intro Tr h1 h2
    refine h.move (rt' := st.rt.del r) (ok := notR r) ⟨⟨T, ok.del r, ?_⟩, ?_, ?_⟩ (Lives.del r) (fun e => e.1 != r) ?_
    · intro r' x b a hx ht hh
      rcases hh with hh | hh
      · exact hT r' x b a (hdel _ _ hx).2 ht hh
      · exact h1 r' x b a hx ht hh
    · intro b a hh
      rcases hh with hh | hh
      · exact h.xsub b a hh
      · exact h2 b a hh
    · intro r' x hx; exact h.kind r' x (hdel _ _ hx).2
    · intro e he hk
      have hne : e.1 ≠ r := by simpa using hk
      refine ⟨fun x h1 h2 => ⟨x, by rw [Al.get_del, if_neg hne]; exact h1, h2⟩, rfl, fun _ _ _ _ h => h⟩
  cases hx : st.rt.get r with
  | none =>
    exact ⟨E0, by simp, fun _ _ h => h.elim, hmain E0 (fun _ _ _ _ _ _ h => h) (fun _ _ h => h.elim)⟩
  | some x =>
    refine ⟨T r, ?_, fun b a ht => ⟨ok.sub r x b a hx ht, hT r x b a hx ht⟩, hmain (T r) ?_ (fun b a ht => ok.sub r x b a hx ht)⟩
    · intro x' hx'
      rw [Option.some.injEq] at hx'
      subst hx'
      exact ok.root r x hx
    · intro r' x' b a hx' ht hh
      obtain ⟨hne, hx''⟩ := hdel _ _ hx'
      exact hne (ok.dis _ _ _ _ _ _ hx'' hx ht hh)
theorem Lives.come {rt : Al} {r : Nat} (hr : rt.get r = none) (x : AV) (l : RLoc) : Lives w F env rt w F (fun r' => if r' = r then l else env r') (rt.set r x) (fun _ => true) := by
  have hne : ∀ r' y, rt.get r' = some y → r' ≠ r := by
    intro r' y hy e; rw [e, hr] at hy; simp at hy
  have hloc : ∀ r' q, (∃ y, rt.get r' = some y) → rloc w (fun r' => if r' = r then l else env r') (rt.set r x) r' q = rloc w env rt r' q := by
    rintro r' q ⟨y, hy⟩
    simp only [rloc, Al.get_set, hne _ _ hy, if_false]
  have hsome : ∀ r' q l', rloc w env rt r' q = some l' → ∃ y, rt.get r' = some y := by
    intro r' q l' hh
    cases hy : rt.get r' with
    | none => simp [rloc, hy] at hh
    | some y => exact ⟨y, rfl⟩
  refine ⟨fun c u hr => hr, ?_, ?_, ?_⟩
  · rintro p u - ⟨B, o, h1, h2⟩
    exact ⟨B, o, by rw [hloc _ _ (hsome _ _ _ h1)]; exact h1, h2⟩
  · rintro p es off len u - ⟨l', uc, xs, h1, h2, h3, h4, h5⟩
    obtain ⟨y, hy⟩ := hsome _ _ _ h1
    exact ⟨l', uc, xs, by rw [hloc _ _ ⟨y, hy⟩]; exact h1, by simp only [cellAt, Al.get_set, hne _ _ hy, if_false]; exact h2, h3, h4, h5⟩
  · rintro p es len cap u - ⟨B, o, ao, h1, h2⟩
    exact ⟨B, o, ao, by rw [hloc _ _ (hsome _ _ _ h1)]; exact h1, h2⟩
/-! A root comes. -/
theorem Rel.come (h : Rel w F X env n a st) {r : Nat} (hr : st.rt.get r = none) {x : AV} {l : RLoc} {S X' : Fp} (hx : RootOk w F x l S) (hS : ∀ b a, S b a → X b a) (hX : ∀ b a, X' b a → X b a ∧ ¬ S b a) (hl : (r < VB → ∃ B o, l = .mem B o) ∧ (VB ≤ r → ∃ u, l = .val u)) :
    Rel w F X' (fun r' => if r' = r then l else env r') n a { st with rt := st.rt.set r x } := by
  obtain ⟨T, ok, hT⟩ := h.ok
  have hne : ∀ r' y, st.rt.get r' = some y → r' ≠ r := by
    intro r' y hy e; rw [e, hr] at hy; simp at hy
  have hg : ∀ r' y, (st.rt.set r x).get r' = some y → (r' = r ∧ y = x) ∨ (r' ≠ r ∧ st.rt.get r' = some y) := by
    intro r' y hy
    rw [Al.get_set] at hy
    split at hy
    · rename_i e; left; exact ⟨e, (Option.some.inj hy).symm⟩
    · rename_i e; right; exact ⟨e, hy⟩
  have hok : OkX w F X' (fun r' => if r' = r then l else env r') (st.rt.set r x) := by
    refine ⟨⟨fun r' => if r' = r then S else T r', ⟨?_, ?_, ?_, ok.fb⟩, ?_⟩, fun b a hh => h.xsub b a (hX b a hh).1, ?_⟩
    · intro r' y hy
      rcases hg r' y hy with ⟨rfl, rfl⟩ | ⟨e, hy'⟩
      · simp only [if_true]; exact hx
      · simp only [e, if_false]; exact ok.root r' y hy'
    · intro r1 r2 x1 x2 b a h1 h2 t1 t2
      rcases hg _ _ h1 with ⟨rfl, rfl⟩ | ⟨e1, h1'⟩ <;> rcases hg _ _ h2 with ⟨rfl, rfl⟩ | ⟨e2, h2'⟩
      · rfl
      · simp only [if_true, e2, if_false] at t1 t2
        exact absurd (hS b a t1) (hT _ _ _ _ h2' t2)
      · simp only [if_true, e1, if_false] at t1 t2
        exact absurd (hS b a t2) (hT _ _ _ _ h1' t1)
      · simp only [e1, e2, if_false] at t1 t2
        exact ok.dis _ _ _ _ _ _ h1' h2' t1 t2
    · intro r1 x1 b a h1 t1
      rcases hg _ _ h1 with ⟨rfl, rfl⟩ | ⟨e1, h1'⟩
      · simp only [if_true] at t1; exact h.xsub b a (hS b a t1)
      · simp only [e1, if_false] at t1; exact ok.sub _ _ _ _ h1' t1
    · intro r1 x1 b a h1 t1 hh
      rcases hg _ _ h1 with ⟨rfl, rfl⟩ | ⟨e1, h1'⟩
      · simp only [if_true] at t1; exact (hX b a hh).2 t1
      · simp only [e1, if_false] at t1; exact hT _ _ _ _ h1' t1 (hX b a hh).1
    · intro r1 x1 h1
      rcases hg _ _ h1 with ⟨rfl, rfl⟩ | ⟨e1, h1'⟩
      · simp only [if_true]; exact hl
      · simp only [e1, if_false]; exact h.kind _ _ h1'
  have hloc : ∀ r' q, (∃ y, st.rt.get r' = some y) → rloc w (fun r' => if r' = r then l else env r') (st.rt.set r x) r' q = rloc w env st.rt r' q := by
    rintro r' q ⟨y, hy⟩
    simp only [rloc, Al.get_set, hne _ _ hy, if_false]
  have hsome : ∀ r' q l', rloc w env st.rt r' q = some l' → ∃ y, st.rt.get r' = some y := by
    intro r' q l' hh
    cases hy : st.rt.get r' with
    | none => simp [rloc, hy] at hh
    | some y => exact ⟨y, rfl⟩
  have hlv : Lives w F env st.rt w F (fun r' => if r' = r then l else env r') (st.rt.set r x) (fun _ => true) := by
    refine ⟨fun c u hr => hr, ?_, ?_, ?_⟩
    · rintro p u - ⟨B, o, h1, h2⟩
      exact ⟨B, o, by rw [hloc _ _ (hsome _ _ _ h1)]; exact h1, h2⟩
    · rintro p es off len u - ⟨l', uc, xs, h1, h2, h3, h4, h5⟩
      obtain ⟨y, hy⟩ := hsome _ _ _ h1
      exact ⟨l', uc, xs, by rw [hloc _ _ ⟨y, hy⟩]; exact h1, by simp only [cellAt, Al.get_set, hne _ _ hy, if_false]; exact h2, h3, h4, h5⟩
    · rintro p es len cap u - ⟨B, o, ao, h1, h2⟩
      exact ⟨B, o, ao, by rw [hloc _ _ (hsome _ _ _ h1)]; exact h1, h2⟩
  have := h.move hok hlv (fun _ => true) (by
    intro e he _
    obtain ⟨B', o', u', e1, ⟨y, e2, e3⟩, e4, e5⟩ := h.rf e he
    exact ⟨fun y h1 h2 => ⟨y, by rw [Al.get_set, if_neg (hne _ _ h1)]; exact h1, h2⟩, by simp only [hne _ _ e2, if_false], fun _ _ _ _ h => h⟩)
  rw [cutSl_true, cutRf_true, filter_true] at this
  exact this
end
end Go.Proofs.YthlehngbadianaaDoor.Ow
namespace Go.Proofs.YthlehngbadianaaDoor.Ow
open Go Go.RowKit
section
variable {w : World} {F X : Fp} {env : Nat → RLoc} {n : Nat} {a : Act} {st : St}
theorem sub_setSub {x : AV} : ∀ (path : List Hop) (z z' : AV), x.sub path = some z → (x.setSub path z').sub path = some z'
  | [], z, z', h => rfl
  | (j, i) :: p, z, z', h => by
    cases hc : x.cells[j]? with
    | none => simp [AV.sub, hc] at h
    | some c =>
      cases hy : c.elem i with
      | none => simp [AV.sub, hc, hy] at h
      | some y =>
        simp only [AV.sub, hc, hy, Option.bind_some] at h
        have hone : (c.setElem i (y.setSub p z')).one = true := by rw [AV.one_setElem]; exact AV.elem_one hy
        have hlt := (List.getElem?_eq_some_iff.1 hc).1
        simp only [AV.setSub, hc, hy, AV.sub, AV.cells_setCell _ _ _ hone, List.getElem?_set_self hlt, Option.bind_some, AV.elem_setElem hy, if_true]
        exact sub_setSub p z z' h
def keepR (r : Nat) (path : List Hop) (lo hi : Nat) (e : Nat × Nat × AV) : Bool :=
  match path with
  | [] => e.1 != r || decide (e.2.1 < lo) || decide (hi ≤ e.2.1)
  | _ :: _ => true
/-- A node is put for another. -/
theorem Rel.nodeT (h : Rel w F X env n a st) {r : Nat} {x z : AV} {path : List Hop} (hx : st.rt.get r = some x) (hz : x.sub path = some z) (hm : path = [] → r < VB) :
    ∃ B o Tz, rloc w env st.rt r path = some (.mem B o) ∧ Nd w F z.cells B o Tz ∧ (∀ b a, Tz b a → F b a ∧ ¬ X b a) ∧ (∃ T, Ok w F env T st.rt ∧ ∀ b a, Tz b a → T r b a) ∧
      ∀ (w' : World) (F' X' M T'' : Fp) (z' : AV) (lo hi : Nat), z'.cells.length = z.cells.length → Nd w' F' z'.cells B o T'' → Agree M w w' → (∀ b a, b < w.heap.size → M b a → Tz b a ∨ X b a) →
        (∀ b a, F' b a → F b a ∨ w.heap.size ≤ b) → (∀ b a, F b a → ¬ X b a → ¬ Tz b a → F' b a) → (∀ b a, T'' b a → F' b a) → (∀ b a, X' b a → F' b a) → (∀ b a, F' b a → b < w'.heap.size) →
        (∀ b a, T'' b a → Tz b a ∨ X b a ∨ w.heap.size ≤ b) → (∀ b a, X' b a → (Tz b a ∨ X b a ∨ w.heap.size ≤ b) ∧ ¬ T'' b a) →
        (∀ j, (j < lo ∨ hi ≤ j) → z'.cells[j]? = z.cells[j]? ∧ (j < z.cells.length → w'.cell? ⟨B, o + j, none⟩ = w.cell? ⟨B, o + j, none⟩)) →
        OkX w' F' X' env (st.rt.set r (x.setSub path z')) ∧ Lives w F env st.rt w' F' env (st.rt.set r (x.setSub path z')) (surv1 r path.length lo hi) ∧
          ∀ e ∈ st.rf, keepR r path lo hi e = true → (∀ x1, st.rt.get e.1 = some x1 → e.2.1 < x1.cells.length → ∃ x', (st.rt.set r (x.setSub path z')).get e.1 = some x' ∧ e.2.1 < x'.cells.length) ∧ env e.1 = env e.1 ∧ ∀ B o u, env e.1 = .mem B o → w.cell? ⟨B, o + e.2.1, none⟩ = some u → w'.cell? ⟨B, o + e.2.1, none⟩ = some u := by
  obtain ⟨T, ok, hT⟩ := h.ok
  obtain ⟨B, o, Tz, h1, h2, h3, h4⟩ := root_lens ok hx hz (fun e => (h.kind r x hx).1 (hm e))
  have hTz : ∀ b a, Tz b a → F b a ∧ ¬ X b a := fun b a hh => ⟨ok.sub _ _ _ _ hx (h3 b a hh), hT _ _ _ _ hx (h3 b a hh)⟩
  refine ⟨B, o, Tz, h1, h2, hTz, ⟨T, ok, h3⟩, ?_⟩
  intro w' F' X' M T'' z' lo hi hl hnd hag hM hF hF2 hT'' hX' hb hnew hX2 hsame
  have hin : ∀ b a, inR T st.rt b a → F b a ∧ ¬ X b a := by
    rintro b a ⟨r', x', hx', ht⟩
    exact ⟨ok.sub _ _ _ _ hx' ht, hT _ _ _ _ hx' ht⟩
  have hag' : Agree (fun b a => b < w.heap.size ∧ M b a) w w' := hag.mono fun b a hb hm => ⟨hb, hm⟩
  have hMF : ∀ b a, (b < w.heap.size ∧ M b a) → F b a := fun b a hm => by
    rcases hM b a hm.1 hm.2 with h5 | h5
    · exact (hTz b a h5).1
    · exact h.xsub b a h5
  have hk : Kp w F w' F' (fun b a => inR T st.rt b a ∧ ¬ Tz b a) := by
    refine ⟨⟨_, hag', hMF, ?_⟩, hF⟩
    rintro b a ⟨t1, t2⟩ hm
    rcases hM b a hm.1 hm.2 with h5 | h5
    · exact t2 h5
    · exact (hin b a t1).2 h5
  have h0 : Kp w F w' F' E0 := ⟨⟨_, hag', hMF, fun _ _ h => h.elim⟩, hF⟩
  have hnin : ∀ b a, T'' b a → inR T st.rt b a → Tz b a := by
    intro b a ht hi
    rcases hnew b a ht with h5 | h5 | h5
    · exact h5
    · exact absurd h5 (hin b a hi).2
    · have := ok.fb b a (hin b a hi).1; omega
  obtain ⟨ok', hst⟩ := h4 w' F' z' T'' hl hnd hk hnin (fun b a hi ht => hF2 b a (hin b a hi).1 (hin b a hi).2 ht) hT'' hb
  -- what is reserved
  have hxd : ∀ r' x' b a, (st.rt.set r (x.setSub path z')).get r' = some x' → (if r' = r then (fun b a => (T r b a ∧ ¬ Tz b a) ∨ T'' b a) else T r') b a → ¬ X' b a := by
    intro r' x' b a hx' ht hh
    obtain ⟨k1, k2⟩ := hX2 b a hh
    have hgen : inR T st.rt b a → ¬ Tz b a → False := by
      intro hi hnz
      rcases k1 with k1 | k1 | k1
      · exact hnz k1
      · exact (hin b a hi).2 k1
      · have := ok.fb b a (hin b a hi).1; omega
    by_cases e : r' = r
    · simp only [e, if_true] at ht
      rcases ht with ht | ht
      · exact hgen ⟨r, x, hx, ht.1⟩ ht.2
      · exact k2 ht
    · simp only [e, if_false] at ht
      rw [Al.get_set, if_neg e] at hx'
      exact hgen ⟨r', x', hx', ht⟩ fun hz' => e (ok.dis _ _ _ _ _ _ hx' hx ht (h3 _ _ hz'))
  have hkind : ∀ r' x', (st.rt.set r (x.setSub path z')).get r' = some x' → (r' < VB → ∃ B o, env r' = .mem B o) ∧ (VB ≤ r' → ∃ u, env r' = .val u) := by
    intro r' x' hx'
    rw [Al.get_set] at hx'
    split at hx'
    · rename_i e; subst e; exact h.kind _ _ hx
    · exact h.kind _ _ hx'
  -- references live on
  have hcell : ∀ r' q j es xs, (r' ≠ r ∨ q.length ≤ path.length) → (r' = r → q = path → (j < lo ∨ hi ≤ j)) → cellAt st.rt r' q j = some (.own es xs) →
      ∃ l xs', rloc w env st.rt r' q = some l ∧ rcell w' l j = rcell w l j ∧ cellAt (st.rt.set r (x.setSub path z')) r' q j = some (.own es xs') ∧ xs'.length = xs.length := by
    intro r' q j es xs hq hj hc
    rcases hst.cell r' q j _ hq hc with ⟨rfl, rfl⟩ | ⟨l, cx', k1, k2, k3, k4⟩
    · obtain ⟨s1, s2⟩ := hsame j (hj rfl rfl)
      simp only [cellAt, hx, Option.bind_some, AV.cellIn, hz] at hc
      refine ⟨.mem B o, xs, h1, s2 (List.getElem?_eq_some_iff.1 hc).1, ?_, rfl⟩
      simp only [cellAt, Al.get_set, if_true, Option.bind_some, AV.cellIn, sub_setSub _ _ _ hz, s1, hc]
    · rcases k4 with rfl | ⟨i, y, y', e1, e2, rfl⟩
      · exact ⟨l, xs, k1, k2, k3, rfl⟩
      · refine ⟨l, xs.set i y', k1, k2, k3, List.length_set⟩
  have hlv : Lives w F env st.rt w' F' env (st.rt.set r (x.setSub path z')) (surv1 r path.length lo hi) := by
    refine ⟨fun c u hr => hr.keep h0, ?_, ?_, ?_⟩
    · rintro p u ho ⟨B', o', k1, k2⟩
      refine ⟨B', o', ?_, k2⟩
      rw [hst.loc _ _ (by simpa [surv1] using ho)]; exact k1
    · rintro p es off len u ho ⟨l, uc, xs, k1, k2, k3, k4, k5⟩
      have ho' : p.r ≠ r ∨ p.path.length < path.length ∨ (p.path.length = path.length ∧ (p.j < lo ∨ hi ≤ p.j)) := by
        simp only [surv1, Bool.or_eq_true, bne_iff_ne, decide_eq_true_eq, Bool.and_eq_true, beq_iff_eq] at ho
        rcases ho with (ho | ho) | ho
        · exact .inl ho
        · exact .inr (.inl ho)
        · exact .inr (.inr ho)
      have hq : p.r ≠ r ∨ p.path.length ≤ path.length := by
        rcases ho' with h5 | h5 | h5
        · exact .inl h5
        · right; omega
        · right; omega
      obtain ⟨l', xs', g1, g2, g3, g4⟩ := hcell p.r p.path p.j es xs hq (by
        intro e1 e2
        rcases ho' with h5 | h5 | h5
        · exact absurd e1 h5
        · rw [e2] at h5; omega
        · exact h5.2) k2
      rw [k1] at g1
      obtain rfl := Option.some.inj g1
      exact ⟨l, uc, xs', by rw [hst.loc _ _ hq]; exact k1, g3, by rw [g2]; exact k3, by omega, k5⟩
    · rintro p es len cap u ho ⟨B', o', ao, k1, k2⟩
      refine ⟨B', o', ao, ?_, k2.keep h0⟩
      rw [hst.loc _ _ (by simpa [surv1] using ho)]; exact k1
  refine ⟨⟨⟨_, ok', hxd⟩, hX', hkind⟩, hlv, ?_⟩
  intro e he hke
  obtain ⟨B', o', u', e1, ⟨y, e2, e3⟩, e4, e5⟩ := h.rf e he
  have hcy : cellAt st.rt e.1 [] e.2.1 = some y.cells[e.2.1] := by simp [cellAt, e2, AV.cellIn, AV.sub]
  have hr1 : rloc w env st.rt e.1 [] = some (env e.1) := by
    simp only [rloc, e2, Option.bind_some, e1, ploc, hopLoc, ptrTo, Option.map_some]
  refine ⟨?_, rfl, ?_⟩
  · intro x1 hx1 hlt
    by_cases er : e.1 = r
    · rw [er] at hx1 ⊢
      rw [hx] at hx1
      obtain rfl := Option.some.inj hx1
      refine ⟨x.setSub path z', by rw [Al.get_set, if_pos rfl], ?_⟩
      rw [AV.setSub_cells_length _ _ _ _ hz hl]; exact hlt
    · exact ⟨x1, by rw [Al.get_set, if_neg er]; exact hx1, hlt⟩
  · intro B2 o2 u2 g1 g2
    rcases hst.cell e.1 [] e.2.1 _ (.inr (Nat.zero_le _)) hcy with ⟨er, ep⟩ | ⟨l, cx', k1, k2, _, _⟩
    · rw [← ep] at h1 hke hz hm
      simp only [keepR, Bool.or_eq_true, bne_iff_ne, decide_eq_true_eq] at hke
      have hj : e.2.1 < lo ∨ hi ≤ e.2.1 := by
        rcases hke with (h5 | h5) | h5
        · exact absurd er h5
        · exact .inl h5
        · exact .inr h5
      rw [er] at e2 hr1 g1
      rw [hx] at e2
      obtain rfl := Option.some.inj e2
      simp only [AV.sub, Option.some.injEq] at hz
      subst hz
      rw [h1] at hr1
      rw [g1] at hr1
      obtain ⟨rfl, rfl⟩ : B = B2 ∧ o = o2 := by simpa using hr1
      rw [(hsame _ hj).2 e3]; exact g2
    · rw [hr1] at k1
      obtain rfl := Option.some.inj k1
      rw [g1] at k2
      simp only [rcell] at k2
      rw [k2]; exact g2
theorem Rel.nodeL (h : Rel w F X env n a st) {r : Nat} {x z : AV} {path : List Hop} (hx : st.rt.get r = some x) (hz : x.sub path = some z) (hm : path = [] → r < VB) :
    ∃ B o Tz, rloc w env st.rt r path = some (.mem B o) ∧ Nd w F z.cells B o Tz ∧ (∀ b a, Tz b a → F b a ∧ ¬ X b a) ∧
      ∀ (w' : World) (F' X' M T'' : Fp) (z' : AV) (lo hi : Nat), z'.cells.length = z.cells.length → Nd w' F' z'.cells B o T'' → Agree M w w' → (∀ b a, b < w.heap.size → M b a → Tz b a ∨ X b a) →
        (∀ b a, F' b a → F b a ∨ w.heap.size ≤ b) → (∀ b a, F b a → ¬ X b a → ¬ Tz b a → F' b a) → (∀ b a, T'' b a → F' b a) → (∀ b a, X' b a → F' b a) → (∀ b a, F' b a → b < w'.heap.size) →
        (∀ b a, T'' b a → Tz b a ∨ X b a ∨ w.heap.size ≤ b) → (∀ b a, X' b a → (Tz b a ∨ X b a ∨ w.heap.size ≤ b) ∧ ¬ T'' b a) →
        (∀ j, (j < lo ∨ hi ≤ j) → z'.cells[j]? = z.cells[j]? ∧ (j < z.cells.length → w'.cell? ⟨B, o + j, none⟩ = w.cell? ⟨B, o + j, none⟩)) →
        OkX w' F' X' env (st.rt.set r (x.setSub path z')) ∧ Lives w F env st.rt w' F' env (st.rt.set r (x.setSub path z')) (surv1 r path.length lo hi) ∧
          ∀ e ∈ st.rf, keepR r path lo hi e = true → (∀ x1, st.rt.get e.1 = some x1 → e.2.1 < x1.cells.length → ∃ x', (st.rt.set r (x.setSub path z')).get e.1 = some x' ∧ e.2.1 < x'.cells.length) ∧ env e.1 = env e.1 ∧ ∀ B o u, env e.1 = .mem B o → w.cell? ⟨B, o + e.2.1, none⟩ = some u → w'.cell? ⟨B, o + e.2.1, none⟩ = some u := by
  obtain ⟨B, o, Tz, h1, h2, h3, _, h4⟩ := h.nodeT hx hz hm
  exact ⟨B, o, Tz, h1, h2, h3, h4⟩
theorem Rel.node (h : Rel w F X env n a st) {r : Nat} {x z : AV} {path : List Hop} (hx : st.rt.get r = some x) (hz : x.sub path = some z) (hm : path = [] → r < VB) :
    ∃ B o Tz, rloc w env st.rt r path = some (.mem B o) ∧ Nd w F z.cells B o Tz ∧ (∀ b a, Tz b a → F b a ∧ ¬ X b a) ∧
      ∀ (w' : World) (F' X' M T'' : Fp) (z' : AV) (lo hi : Nat), z'.cells.length = z.cells.length → Nd w' F' z'.cells B o T'' → Agree M w w' → (∀ b a, b < w.heap.size → M b a → Tz b a ∨ X b a) →
        (∀ b a, F' b a → F b a ∨ w.heap.size ≤ b) → (∀ b a, F b a → ¬ X b a → ¬ Tz b a → F' b a) → (∀ b a, T'' b a → F' b a) → (∀ b a, X' b a → F' b a) → (∀ b a, F' b a → b < w'.heap.size) →
        (∀ b a, T'' b a → Tz b a ∨ X b a ∨ w.heap.size ≤ b) → (∀ b a, X' b a → (Tz b a ∨ X b a ∨ w.heap.size ≤ b) ∧ ¬ T'' b a) →
        (∀ j, (j < lo ∨ hi ≤ j) → z'.cells[j]? = z.cells[j]? ∧ (j < z.cells.length → w'.cell? ⟨B, o + j, none⟩ = w.cell? ⟨B, o + j, none⟩)) →
        Rel w' F' X' env n a ⟨cutSl (surv1 r path.length lo hi) st.sl, st.rt.set r (x.setSub path z'), cutRf (surv1 r path.length lo hi) (st.rf.filter (keepR r path lo hi))⟩ := by
  obtain ⟨B, o, Tz, h1, h2, h3, h4⟩ := h.nodeL hx hz hm
  refine ⟨B, o, Tz, h1, h2, h3, ?_⟩
  intro w' F' X' M T'' z' lo hi k1 k2 k3 k4 k5 k6 k7 k8 k9 k10 k11 k12
  obtain ⟨g1, g2, g3⟩ := h4 w' F' X' M T'' z' lo hi k1 k2 k3 k4 k5 k6 k7 k8 k9 k10 k11 k12
  exact h.move g1 g2 (keepR r path lo hi) g3
/-- A cell is taken out of its place. -/
def St.setC (st : St) (r : Nat) (path : List Hop) (lo hi : Nat) (x : AV) : St := ⟨cutSl (surv1 r path.length lo hi) st.sl, st.rt.set r x, cutRf (surv1 r path.length lo hi) (st.rf.filter (keepR r path lo hi))⟩
theorem Nd.blk {cs : List AV} {B o : Nat} {T : Fp} (h : Nd w F cs B o T) : Blk w B o (o + cs.length) := h.choose_spec.choose_spec.1
theorem Rel.take (h : Rel w F X env n a st) {r : Nat} {x z c : AV} {path : List Hop} {j : Nat} (hx : st.rt.get r = some x) (hz : x.sub path = some z) (hc : z.cells[j]? = some c) (hm : path = [] → r < VB) :
    ∃ B o u S, rloc w env st.rt r path = some (.mem B o) ∧ w.cell? ⟨B, o + j, none⟩ = some u ∧ Rep w F c u S ∧ (∀ b a, S b a → F b a ∧ ¬ X b a) ∧
      Rel w F (fun b a => X b a ∨ S b a) env n a (st.setC r path j (j + 1) (x.setC path j .junk)) ∧ rloc w env (st.setC r path j (j + 1) (x.setC path j .junk)).rt r path = some (.mem B o) ∧ Lives w F env st.rt w F env (st.setC r path j (j + 1) (x.setC path j .junk)).rt (surv1 r path.length j (j + 1)) := by
  obtain ⟨B, o, Tz, h1, h2, h3, h4⟩ := h.nodeL hx hz hm
  obtain ⟨u, S, g1, g2, g3, g4, g5, g6, g7⟩ := cell_lens h2 hc
  have hjl := (List.getElem?_eq_some_iff.1 hc).1
  have hcs : (z.setCell j .junk).cells = z.cells.set j .junk := AV.cells_setCell _ _ _ rfl
  refine ⟨B, o, u, S, h1, g1, g2, fun b a hs => h3 b a (g3 b a hs).1, ?_⟩
  have hnd := g7 w F .junk u E0 (.junk g2.one fun _ _ h => h) g1 g5 (Kp.refl _ _ _) (fun _ _ h => h.elim)
  obtain ⟨T, ok, _⟩ := h.ok
  have := h4 w F (fun b a => X b a ∨ S b a) E0 (fun b a => (Tz b a ∧ ¬ S b a) ∨ E0 b a) (z.setCell j .junk) j (j + 1) (by rw [hcs, List.length_set]) (by rw [hcs]; exact hnd) (Agree.refl _ _) (fun _ _ _ h => h.elim) (fun _ _ h => .inl h) (fun _ _ h _ _ => h)
    (fun b a hh => hh.elim (fun hh => (h3 b a hh.1).1) fun hh => hh.elim) (fun b a hh => hh.elim (h.xsub b a) fun hh => (h3 b a (g3 b a hh).1).1) ok.fb
    (fun b a hh => hh.elim (fun hh => .inl hh.1) fun hh => hh.elim)
    (fun b a hh => ⟨hh.elim (fun hh => .inr (.inl hh)) fun hh => .inl (g3 b a hh).1, fun ht => by
      rcases ht with ht | ht
      · rcases hh with hh | hh
        · exact (h3 b a ht.1).2 hh
        · exact ht.2 hh
      · exact ht⟩)
    (fun i hi => ⟨by rw [hcs, List.getElem?_set_ne (by omega)], fun _ => rfl⟩)
  obtain ⟨m1, m2, m3⟩ := this
  have hm := h.move m1 m2 (keepR r path j (j + 1)) m3
  refine ⟨by simpa only [St.setC, AV.setC, hz] using hm, ?_, by simpa only [St.setC, AV.setC, hz] using m2⟩
  obtain ⟨B', o', e1, e2⟩ := m2.ref ⟨r, path, 0⟩ (ptrTo B o) (by simp [surv1]) ⟨B, o, h1, rfl⟩
  simp only [ptrTo, Value.pointer.injEq, Option.some.injEq, Addr.mk.injEq, Nat.add_zero, and_true] at e2
  obtain ⟨rfl, rfl⟩ := e2
  simpa only [St.setC, AV.setC, hz] using e1
/-! Stores. -/
theorem setCell_at (B o : Nat) (v : Value) (b a : Nat) (hne : ¬ (b = B ∧ a = o)) : at? (w.setCell ⟨B, o, none⟩ v) b a = at? w b a := by
  unfold at? World.setCell
  simp only [Array.getElem?_modify]
  by_cases hb : B = b
  · subst hb
    simp only [if_true]
    cases hh : w.heap[B]? with
    | none => simp
    | some x =>
      cases x <;> simp only [Option.map_some]
      simp only [Option.isSome_none, Bool.false_eq_true, if_false]
      rw [Array.getElem?_setIfInBounds_ne (by intro e; exact hne ⟨rfl, e.symm⟩)]
  · simp only [hb, if_false]
theorem setCell_in (B o : Nat) (u v : Value) (h : w.cell? ⟨B, o, none⟩ = some u) : (w.setCell ⟨B, o, none⟩ v).cell? ⟨B, o, none⟩ = some v := by
  unfold World.cell? at h ⊢
  unfold World.setCell
  simp only [Array.getElem?_modify, if_true]
  cases hh : w.heap[B]? with
  | none => simp [hh] at h
  | some x =>
    cases x <;> simp [hh] at h
    rename_i c e fz
    simp
    rw [Array.getElem?_setIfInBounds_self, if_pos (Array.getElem?_eq_some_iff.1 h).1]
theorem Agree.setCell (B o : Nat) (v : Value) : Agree (fun b a => b = B ∧ a = o) w (w.setCell ⟨B, o, none⟩ v) := by
  refine ⟨rfl, rfl, rfl, by simp [World.setCell], fun b a _ hne => setCell_at B o v b a hne, ?_⟩
  intro b arr e fz hh
  by_cases hb : b = B
  · subst hb
    refine ⟨arr.setIfInBounds o v, fz, ?_, by simp, .inl rfl⟩
    simp only [World.setCell, Array.getElem?_modify, if_true, hh, Option.map_some]
    simp
  · exact ⟨arr, fz, by simp only [World.setCell, Array.getElem?_modify, Ne.symm hb, if_false, hh], rfl, .inl rfl⟩
structure Put where
  c : AV
  v : Value
  S : Fp
def Puts (w : World) (F : Fp) (T : Fp) : List Put → Prop
  | [] => True
  | e :: l => Rep w F e.c e.v e.S ∧ (∀ b a, e.S b a → ¬ T b a) ∧ (∀ e' ∈ l, ∀ b a, e.S b a → ¬ e'.S b a) ∧ Puts w F T l
theorem Puts.mem {T : Fp} : ∀ {l : List Put}, Puts w F T l → ∀ e ∈ l, Rep w F e.c e.v e.S ∧ ∀ b a, e.S b a → ¬ T b a
  | [], _, e, he => by simp at he
  | e0 :: l, h, e, he => by
    rcases List.mem_cons.1 he with rfl | he
    · exact ⟨h.1, h.2.1⟩
    · exact Puts.mem h.2.2.2 e he
theorem Nd.stores {B o : Nat} : ∀ (l : List Put) (j : Nat) {w : World} {cs : List AV} {T : Fp}, Nd w F cs B o T → Puts w F T l → (∀ b a, T b a → F b a) → (∀ e ∈ l, ∀ b a, e.S b a → F b a) → j + l.length ≤ cs.length →
    ∃ T'', Nd (w.setCells B (o + j) (l.map (·.v))) F (splice cs j (l.map (·.c))) B o T'' ∧ (∀ b a, T'' b a → T b a ∨ ∃ e ∈ l, e.S b a) ∧ Agree (fun b a => b = B ∧ o + j ≤ a ∧ a < o + j + l.length) w (w.setCells B (o + j) (l.map (·.v)))
  | [], j, w, cs, T, h, _, _, _, hl => ⟨T, by simpa [World.setCells, splice] using h, fun _ _ h => .inl h, Agree.refl _ _⟩
  | e :: l, j, w, cs, T, h, hp, hF, hSF, hl => by
    simp only [List.length_cons] at hl
    have hjl : j < cs.length := by omega
    have hc := List.getElem?_eq_getElem hjl
    obtain ⟨u, S, g1, g2, g3, g4, g5, g6, g7⟩ := cell_lens h hc
    have hag := Agree.setCell (w := w) B (o + j) e.v
    have hin := setCell_in B (o + j) u e.v g1
    have hkp : ∀ T' : Fp, ¬ T' B (o + j) → Kp w F (w.setCell ⟨B, o + j, none⟩ e.v) F T' := fun T' hn => ⟨⟨_, hag, fun b a ⟨h1, h2⟩ => by subst h1 h2; exact hF _ _ g4, fun b a ht ⟨h1, h2⟩ => by subst h1 h2; exact hn ht⟩, fun _ _ h => .inl h⟩
    have hBlk : Blk (w.setCell ⟨B, o + j, none⟩ e.v) B o (o + cs.length) := by
      obtain ⟨arr, el, fz, b1, b2, b3⟩ := g5
      refine ⟨arr.setIfInBounds (o + j) e.v, el, fz, ?_, by simpa using b2, b3⟩
      simp only [World.setCell, Array.getElem?_modify, if_true, b1, Option.map_some]
      simp
    obtain ⟨p1, p2, p3, p4⟩ := hp
    have hnd := g7 _ F e.c e.v e.S (p1.keep (hkp _ fun hs => p2 _ _ hs g4)) hin hBlk (hkp _ fun ⟨_, _, hh⟩ => hh ⟨rfl, rfl⟩) (fun b a hs ht => absurd ht (p2 b a hs))
    have hputs : ∀ l : List Put, Puts w F T l → (∀ e' ∈ l, ∀ b a, e.S b a → ¬ e'.S b a) → Puts (w.setCell ⟨B, o + j, none⟩ e.v) F (fun b a => (T b a ∧ ¬ S b a) ∨ e.S b a) l := by
      intro l
      induction l with
      | nil => intro _ _; trivial
      | cons e' l ih =>
        intro hq hd
        obtain ⟨q1, q2, q3, q4⟩ := hq
        refine ⟨q1.keep (hkp _ fun hs => q2 _ _ hs g4), ?_, q3, ih q4 fun e2 he2 => hd e2 (List.mem_cons_of_mem _ he2)⟩
        intro b a hs hh
        rcases hh with hh | hh
        · exact q2 b a hs hh.1
        · exact hd e' (List.mem_cons_self ..) b a hh hs
    obtain ⟨T'', r1, r2, r3⟩ := Nd.stores l (j + 1) hnd (hputs l p4 p3) (fun b a hh => hh.elim (fun hh => hF b a hh.1) fun hh => hSF e (List.mem_cons_self ..) b a hh) (fun e' he' => hSF e' (List.mem_cons_of_mem _ he')) (by rw [List.length_set]; omega)
    refine ⟨T'', ?_, ?_, ?_⟩
    · have e1 : splice (cs.set j e.c) (j + 1) (l.map (·.c)) = splice cs j ((e :: l).map (·.c)) := by
        simp only [splice, List.map_cons, List.length_cons, List.length_map]
        rw [List.take_set, List.drop_set_of_lt (by omega), List.cons_append, show j + 1 + l.length = j + (l.length + 1) by omega]
        rw [List.take_succ_eq_append_getElem hjl, List.set_append_right _ _ (by simp; omega)]
        simp [Nat.min_eq_left (Nat.le_of_lt hjl)]
      rw [← e1]
      simpa only [List.map_cons, World.setCells, Nat.add_assoc] using r1
    · intro b a hh
      rcases r2 b a hh with h1 | ⟨e', he', h1⟩
      · rcases h1 with h1 | h1
        · exact .inl h1.1
        · exact .inr ⟨e, List.mem_cons_self .., h1⟩
      · exact .inr ⟨e', List.mem_cons_of_mem _ he', h1⟩
    · simp only [List.map_cons, World.setCells, List.length_cons]
      refine Agree.trans (hag.mono fun b a _ ⟨h1, h2⟩ => ⟨h1, by omega, by omega⟩) ?_
      rw [Nat.add_assoc]
      exact r3.mono fun b a _ ⟨h1, h2, h3⟩ => ⟨h1, by omega, by omega⟩
/-- Cells are stored: what was reserved for them is theirs. -/
theorem Rel.puts (h : Rel w F X env n a st) {r : Nat} {x z : AV} {path : List Hop} {j : Nat} (hx : st.rt.get r = some x) (hz : x.sub path = some z) (hm : path = [] → r < VB) (l : List Put) (hl : j + l.length ≤ z.cells.length)
    (hp : ∀ e ∈ l, Rep w F e.c e.v e.S ∧ ∀ b a, e.S b a → X b a) (hd : l.Pairwise fun e e' => ∀ b a, e.S b a → ¬ e'.S b a) {X' : Fp} (hX' : ∀ b a, X' b a → X b a ∧ ∀ e ∈ l, ¬ e.S b a) {z' : AV} (hz' : z'.cells = splice z.cells j (l.map (·.c))) :
    ∃ B o, rloc w env st.rt r path = some (.mem B o) ∧ (∀ i, i < z.cells.length → (w.cell? ⟨B, o + i, none⟩).isSome = true ∧ w.frozen? ⟨B, o + i, none⟩ = false) ∧
      Rel (w.setCells B (o + j) (l.map (·.v))) F X' env n a (st.setC r path j (j + l.length) (x.setSub path z')) := by
  obtain ⟨B, o, Tz, h1, h2, h3, h4⟩ := h.node hx hz hm
  obtain ⟨T, ok, _⟩ := h.ok
  refine ⟨B, o, h1, ?_, ?_⟩
  · intro i hi
    obtain ⟨u, S, g1, g2, _⟩ := Nd.cell h2 (List.getElem?_eq_getElem hi)
    refine ⟨by rw [g1]; rfl, ?_⟩
    obtain ⟨arr, e, fz, b1, b2, b3⟩ := h2.blk
    unfold World.frozen?
    rw [b1]
    obtain ⟨lo, hi'⟩ := fz
    have := b3 (o + i) (by omega) (by omega)
    simp only [Bool.and_eq_false_iff, decide_eq_false_iff_not]
    simp only at this
    omega
  · have hputs : ∀ l : List Put, (∀ e ∈ l, Rep w F e.c e.v e.S ∧ ∀ b a, e.S b a → X b a) → (l.Pairwise fun e e' => ∀ b a, e.S b a → ¬ e'.S b a) → Puts w F Tz l := by
      intro l
      induction l with
      | nil => intro _ _; trivial
      | cons e l ih =>
        intro hp hd
        obtain ⟨q1, q2⟩ := hp e (List.mem_cons_self ..)
        obtain ⟨d1, d2⟩ := List.pairwise_cons.1 hd
        exact ⟨q1, fun b a hs ht => (h3 b a ht).2 (q2 b a hs), d1, ih (fun e' he' => hp e' (List.mem_cons_of_mem _ he')) d2⟩
    obtain ⟨T'', r1, r2, r3⟩ := Nd.stores l j h2 (hputs l hp hd) (fun b a ht => (h3 b a ht).1) (fun e he b a hs => h.xsub _ _ ((hp e he).2 b a hs)) hl
    have hzl : z'.cells.length = z.cells.length := by rw [hz']; simp [splice]; omega
    rw [← hz'] at r1
    have hsub : ∀ b a, T'' b a → Tz b a ∨ X b a := by
      intro b a hh
      rcases r2 b a hh with h5 | ⟨e, he, h5⟩
      · exact .inl h5
      · exact .inr ((hp e he).2 b a h5)
    refine h4 _ F X' _ T'' z' j (j + l.length) hzl r1 r3 ?_ (fun _ _ h => .inl h) (fun _ _ h _ _ => h) ?_ (fun b a hh => h.xsub _ _ (hX' b a hh).1) ?_ (fun b a hh => (hsub b a hh).imp id .inl) ?_ ?_
    · rintro b a - ⟨rfl, h5, h6⟩
      left
      obtain ⟨_, _, _, _, _, _, _, _, hT⟩ := h2
      exact (hT _ _).2 (.inl ⟨rfl, by omega, by omega⟩)
    · intro b a hh
      rcases hsub b a hh with h5 | h5
      · exact (h3 b a h5).1
      · exact h.xsub _ _ h5
    · intro b a hh
      exact Nat.lt_of_lt_of_le (ok.fb b a hh) r3.size
    · intro b a hh
      refine ⟨.inr (.inl (hX' b a hh).1), fun ht => ?_⟩
      rcases r2 b a ht with h5 | ⟨e, he, h5⟩
      · exact (h3 b a h5).2 (hX' b a hh).1
      · exact (hX' b a hh).2 e he h5
    · intro i hi
      refine ⟨?_, fun hlt => ?_⟩
      · rw [hz']
        simp only [splice, List.getElem?_append, List.length_take, List.getElem?_take, List.getElem?_drop, List.length_map]
        by_cases h5 : i < j
        · simp [h5]; intro h6; omega
        · rw [if_neg (by omega), if_neg (by omega)]
          congr 1; omega
      · have hat := r3.at_ B (o + i) h2.blk.lt (fun ⟨_, h5, h6⟩ => by omega)
        obtain ⟨u, S, g1, g2, _⟩ := Nd.cell h2 (List.getElem?_eq_getElem hlt)
        rw [g1]
        rw [at_cell] at g1 ⊢
        rw [hat, g1]
end
end Go.Proofs.YthlehngbadianaaDoor.Ow
namespace Go.Proofs.YthlehngbadianaaDoor.Ow
open Go Go.RowKit
section
variable {P : Program} {w : World} {F X : Fp} {env : Nat → RLoc} {n : Nat} {a : Act} {st : St} {rt : Al}
/-- Part of an owned list. -/
theorem own_sub {es : Nat} {xs : List AV} {uc u : Value} {S : Fp} {off len : Nat} (h : Rep w F (.own es xs) uc S) (hs : SubSl uc es off len u) (hl : off + len ≤ xs.length) : ∃ S', Rep w F (.own es ((xs.drop off).take len)) u S' ∧ ∀ b a, S' b a → S b a := by
  have hyl : ((xs.drop off).take len).length = len := by simp; omega
  have hget : ∀ (i : Nat) x, ((xs.drop off).take len)[i]? = some x → i < len ∧ xs[off + i]? = some x := by
    intro i x hx
    rw [List.getElem?_take] at hx
    split at hx
    · rename_i hi; rw [List.getElem?_drop] at hx; exact ⟨hi, hx⟩
    · simp at hx
  cases h with
  | ownN hes hT =>
    rcases hs with ⟨_, rfl, rfl, rfl⟩ | ⟨_, _, _, _, _, _, h, _⟩
    · exact ⟨E0, .ownN hes fun _ _ h => h, fun _ _ h => h.elim⟩
    · simp at h
  | own u1 S hes hcap hb hlen hc hr hd ho hS hT =>
    rename_i B o cap
    rcases hs with ⟨h, _⟩ | ⟨B', o', m, cap2, ao, cap', h, rfl, h6, h7, h8⟩
    · simp at h
    · simp only [Value.slice.injEq, Option.some.injEq, Addr.mk.injEq, and_true] at h
      obtain ⟨⟨rfl, rfl⟩, _, rfl⟩ := h
      by_cases h0 : cap' = 0
      · subst h0
        have hl0 : len = 0 := by omega
        subst hl0
        simp only [List.take_zero]
        refine ⟨E0, ?_, fun _ _ h => h.elim⟩
        exact .own (xs := []) (fun _ _ => undef) (fun _ _ _ _ => False) hes (Nat.zero_le _) (fun h => by omega) (by simp) (by simp) (by simp) (fun _ _ _ _ _ _ h => h.elim) (fun _ _ _ h => h.elim) (fun _ _ _ _ h => h.elim) (by simp; try (intro a b h1 h2; omega))
      · have hao := h8.resolve_left h0
        subst hao
        have hes2 : off * es + cap' * es ≤ cap * es := by rw [← Nat.add_mul]; exact Nat.mul_le_mul_right _ h7
        refine ⟨fun b a => (b = B ∧ o + off * es ≤ a ∧ a < o + off * es + cap' * es) ∨ ∃ i j, i < len ∧ S (off + i) j b a, ?_, ?_⟩
        · have key := Rep.own (w := w) (F := F) (es := es) (xs := (xs.drop off).take len) (B := B) (o := o + off * es) (cap := cap') (T := fun b a => (b = B ∧ o + off * es ≤ a ∧ a < o + off * es + cap' * es) ∨ ∃ i j, i < len ∧ S (off + i) j b a)
            (fun i j => u1 (off + i) j) (fun i j b a => i < len ∧ S (off + i) j b a) hes (by rw [hyl]; exact h6) (fun _ => (hb (by omega)).sub (by omega) (by omega)) (fun i x hx => hlen _ x (hget i x hx).2)
            (fun i x j c hx hj => by
              rw [← hc _ x j c (hget i x hx).2 hj]
              congr 2
              rw [Nat.add_mul]; omega)
            (fun i x j c hx hj => (hr _ x j c (hget i x hx).2 hj).congr fun b a => by simp [(hget i x hx).1])
            (fun i j i' j' b a ⟨_, h1⟩ ⟨_, h2⟩ => by have := hd _ _ _ _ _ _ h1 h2; omega)
            (fun i j a ⟨_, h1⟩ h2 => ho _ _ a h1 (by omega))
            (fun i j b a ⟨h0, h1⟩ => ⟨by rw [hyl]; exact h0, (hS _ _ _ _ h1).2⟩)
            (fun b a => Iff.rfl)
          rw [hyl] at key
          exact key
        · intro b a hh
          rcases hh with ⟨rfl, h1, h2⟩ | ⟨i, j, _, h1⟩
          · exact (hT _ _).2 (.inl ⟨rfl, by omega, by omega⟩)
          · exact (hT _ _).2 (.inr ⟨_, _, h1⟩)
end
end Go.Proofs.YthlehngbadianaaDoor.Ow
