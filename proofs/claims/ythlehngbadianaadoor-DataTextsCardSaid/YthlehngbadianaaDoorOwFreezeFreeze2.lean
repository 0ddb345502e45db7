/- What is owned may be frozen: it may be copied from then on. -/
import Derived.Test.YthlehngbadianaaDoorOwOps6
set_option linter.unusedVariables false
set_option linter.unusedSimpArgs false
set_option linter.unnecessarySimpa false
namespace Go.Proofs.YthlehngbadianaaDoor.Ow
open Go Go.RowKit
mutual
def frz : AV → AV
  | .own es xs => .lst es (frzL xs)
  | .obj x => .fptr (frz x) 0
  | .agg cs => .agg (frzL cs)
  | .tup cs => .tup (frzL cs)
  | .ext _ => .junk
  | .v x => .v x
  | .junk => .junk
  | .lst es xs => .lst es xs
  | .fptr x j => .fptr x j
  | .ref p => .ref p
  | .sl p es off len => .sl p es off len
  | .sa p es len cap => .sa p es len cap
  | .fn f caps => .fn f caps
def frzL : List AV → List AV
  | [] => []
  | x :: xs => frz x :: frzL xs
end
theorem frzL_map : ∀ xs : List AV, frzL xs = xs.map frz
  | [] => rfl
  | x :: xs => by simp only [frzL, List.map_cons, frzL_map xs]
theorem frz_one {x : AV} (h : x.one = true) : (frz x).one = true := by cases x <;> simp_all [frz, AV.one]
theorem frz_cells (x : AV) : (frz x).cells = x.cells.map frz := by
  cases h : x.one with
  | true => rw [AV.cells_one h, AV.cells_one (frz_one h)]; rfl
  | false => cases x <;> simp [AV.one] at h <;> simp [frz, AV.cells, frzL_map]
theorem Rep.frz {w : World} {F F' : Fp} {c : AV} {u : Value} {S : Fp} (h : Rep w F c u S) (hS : ∀ b a, S b a → ¬ F' b a) (hF : ∀ b a, F' b a → F b a) : Rep w F' (Ow.frz c) u E0 := by
  have hk : ∀ T : Fp, Kp w F w F' T := fun T => ⟨⟨E0, Agree.refl _ _, fun _ _ h => h.elim, fun _ _ _ h => h⟩, fun b a hh => .inl (hF b a hh)⟩
  induction h with
  | v h1 hT => exact .v h1 fun _ _ h => h
  | junk h1 hT => exact .junk h1 fun _ _ h => h
  | lstN hT => exact .lstN fun _ _ h => h
  | lst u hes hcap hlen hc hf hr hT ih => exact (Rep.lst u hes hcap hlen hc hf hr (T := E0) fun _ _ h => h).keep (hk _)
  | fptr u hc hf hr hT ih => exact (Rep.fptr u hc hf hr (T := E0) fun _ _ h => h).keep (hk _)
  | ownN hes hT => exact .lstN fun _ _ h => h
  | @own es xs B o cap T u S hes hcap hb hlen hc hr hd ho hSr hT ih =>
    simp only [Ow.frz, frzL_map]
    have hl : (xs.map Ow.frz).length = xs.length := List.length_map ..
    rw [← hl]
    have hget : ∀ (i : Nat) x, (xs.map Ow.frz)[i]? = some x → ∃ x0, xs[i]? = some x0 ∧ x = Ow.frz x0 := by
      intro i x hx
      rw [List.getElem?_map, Option.map_eq_some_iff] at hx
      obtain ⟨x0, h1, h2⟩ := hx
      exact ⟨x0, h1, h2.symm⟩
    have hcell : ∀ (x0 : AV) (j : Nat) c, (Ow.frz x0).cells[j]? = some c → ∃ c0, x0.cells[j]? = some c0 ∧ c = Ow.frz c0 := by
      intro x0 j c hc
      rw [frz_cells, List.getElem?_map, Option.map_eq_some_iff] at hc
      obtain ⟨c0, h1, h2⟩ := hc
      exact ⟨c0, h1, h2.symm⟩
    refine .lst u hes (by rw [hl]; exact hcap) ?_ ?_ ?_ ?_ (fun _ _ h => h)
    · intro i x hx
      obtain ⟨x0, h1, rfl⟩ := hget i x hx
      rw [frz_cells, List.length_map]; exact hlen i x0 h1
    · intro i x j c hx hj
      obtain ⟨x0, h1, rfl⟩ := hget i x hx
      obtain ⟨c0, h2, rfl⟩ := hcell x0 j c hj
      exact hc i x0 j c0 h1 h2
    · intro i j hi hj
      rw [hl] at hi
      refine hS _ _ ((hT _ _).2 (.inl ⟨rfl, by omega, ?_⟩))
      have := mul_es (Nat.lt_of_lt_of_le hi hcap) hj
      omega
    · intro i x j c hx hj
      obtain ⟨x0, h1, rfl⟩ := hget i x hx
      obtain ⟨c0, h2, rfl⟩ := hcell x0 j c hj
      exact ih i x0 j c0 h1 h2 fun b a hs => hS b a ((hT _ _).2 (.inr ⟨_, _, hs⟩))
  | @obj x B o T u S hb hc hr hd ho hSr hT ih =>
    simp only [Ow.frz]
    have hcell : ∀ (j : Nat) c, (Ow.frz x).cells[j]? = some c → ∃ c0, x.cells[j]? = some c0 ∧ c = Ow.frz c0 := by
      intro j c hc
      rw [frz_cells, List.getElem?_map, Option.map_eq_some_iff] at hc
      obtain ⟨c0, h1, h2⟩ := hc
      exact ⟨c0, h1, h2.symm⟩
    have := Rep.fptr (w := w) (F := F') (x := Ow.frz x) (j := 0) (B := B) (o := o) (T := E0) u ?_ ?_ ?_ (fun _ _ h => h)
    · exact this
    · intro j c hj
      obtain ⟨c0, h2, rfl⟩ := hcell j c hj
      exact hc j c0 h2
    · intro j hj
      rw [frz_cells, List.length_map] at hj
      exact hS _ _ ((hT _ _).2 (.inl ⟨rfl, by omega, by omega⟩))
    · intro j c hj
      obtain ⟨c0, h2, rfl⟩ := hcell j c hj
      exact ih j c0 h2 fun b a hs => hS b a ((hT _ _).2 (.inr ⟨_, hs⟩))
  | fn hl hr hT ih =>
    exact (Rep.fn hl hr (T := E0) fun _ _ h => h).keep (hk _)
  | ext h1 hI => exact .junk h1 fun _ _ h => h
/-! The slots' values are told otherwise, cell by cell. -/
def mapC (g : AV → AV) : AV → AV
  | .fn f caps => .fn f (caps.map g)
  | c => g c
def mapS (g : AV → AV) : AV → AV
  | .agg cs => .agg (cs.map (mapC g))
  | c => mapC g c
def mapV (g : AV → AV) : AV → AV
  | .tup xs => .tup (xs.map (mapS g))
  | c => mapS g c
def mapSl (g : AV → AV) (l : Al) : Al := l.map fun e => (e.1, mapV g e.2)
def mapRf (g : AV → AV) (l : List (Nat × Nat × AV)) : List (Nat × Nat × AV) := l.map fun e => (e.1, e.2.1, mapC g e.2.2)
theorem mapSl_get (g : AV → AV) (l : Al) (k : Nat) : (mapSl g l).get k = (l.get k).map (mapV g) := by
  induction l with
  | nil => rfl
  | cons a l ih =>
    obtain ⟨a, x⟩ := a
    simp only [mapSl, List.map_cons, Al.get] at ih ⊢
    split
    · rfl
    · exact ih
section
variable {w : World} {F X : Fp} {env : Nat → RLoc} {n : Nat} {a : Act} {st : St} {rt : Al} {w' : World} {F' : Fp} {env' : Nat → RLoc} {rt' : Al} {g : AV → AV}
def Maps (w : World) (F : Fp) (env : Nat → RLoc) (rt : Al) (w' : World) (F' : Fp) (env' : Nat → RLoc) (rt' : Al) (g : AV → AV) : Prop := ∀ c u, LR1 w F env rt c u → LR1 w' F' env' rt' (g c) u
theorem LR.of_lr1 {c : AV} {u : Value} (h : LR1 w F env rt c u) : LR w F env rt c u := by
  cases c <;> simp only [LR] <;> first | exact h | skip
  exact LR.of_rep (show Rep w F _ u E0 from h)
theorem Maps.lr (h : Maps w F env rt w' F' env' rt' g) {c : AV} {u : Value} (hr : LR w F env rt c u) : LR w' F' env' rt' (mapC g c) u := by
  cases c <;> simp only [LR] at hr <;> simp only [mapC]
  case fn f caps =>
    obtain ⟨us, h1, h2, h3⟩ := hr
    refine ⟨us, h1, by simpa using h2, fun i c v hc hv => ?_⟩
    rw [List.getElem?_map, Option.map_eq_some_iff] at hc
    obtain ⟨c0, hc0, rfl⟩ := hc
    exact h _ _ (h3 i c0 v hc0 hv)
  all_goals exact LR.of_lr1 (h _ _ hr)
theorem SV1.of_lr {c : AV} {u : Value} (h : LR w F env rt c u) : SV1 w F env rt c u := (SV1_one h.avone).2 h
theorem Maps.s (h : Maps w F env rt w' F' env' rt' g) {c : AV} {u : Value} (hr : SV1 w F env rt c u) : SV1 w' F' env' rt' (mapS g c) u := by
  by_cases hc : ∃ cs, c = .agg cs
  · obtain ⟨cs, rfl⟩ := hc
    simp only [mapS, SV1] at hr ⊢
    obtain ⟨us, h1, h2, h3⟩ := hr
    refine ⟨us, h1, by simp [h2], fun i c v hc hv => ?_⟩
    rw [List.getElem?_map, Option.map_eq_some_iff] at hc
    obtain ⟨c0, hc0, rfl⟩ := hc
    exact h.lr (h3 i c0 v hc0 hv)
  · have hone : c.one = true := by cases c <;> simp_all [SV1, AV.one]
    have e : mapS g c = mapC g c := by cases c <;> first | rfl | simp_all
    rw [e]
    exact SV1.of_lr (h.lr ((SV1_one hone).1 hr))
theorem Maps.v (h : Maps w F env rt w' F' env' rt' g) {c : AV} {u : Value} (hr : SV w F env rt c u) : SV w' F' env' rt' (mapV g c) u := by
  by_cases hc : ∃ cs, c = .tup cs
  · obtain ⟨cs, rfl⟩ := hc
    simp only [mapV, SV] at hr ⊢
    obtain ⟨us, h1, h2, h3⟩ := hr
    refine ⟨us, h1, by simp [h2], fun i c v hc hv => ?_⟩
    rw [List.getElem?_map, Option.map_eq_some_iff] at hc
    obtain ⟨c0, hc0, rfl⟩ := hc
    exact h.s (h3 i c0 v hc0 hv)
  · have e : mapV g c = mapS g c := by cases c <;> first | rfl | simp_all
    have hs : SV1 w F env rt c u := by cases c <;> first | exact hr | simp_all
    rw [e]
    exact SV.of1 (h.s hs)
theorem Rel.moveG (h : Rel w F X env n a st) {X' : Fp} (hok : OkX w' F' X' env' rt') (hl : Maps w F env st.rt w' F' env' rt' g) (keep : Nat × Nat × AV → Bool)
    (hrf : ∀ e ∈ st.rf, keep e = true → (∀ x, st.rt.get e.1 = some x → e.2.1 < x.cells.length → ∃ x', rt'.get e.1 = some x' ∧ e.2.1 < x'.cells.length) ∧ env' e.1 = env e.1 ∧ ∀ B o u, env e.1 = .mem B o → w.cell? ⟨B, o + e.2.1, none⟩ = some u → w'.cell? ⟨B, o + e.2.1, none⟩ = some u) :
    Rel w' F' X' env' n a ⟨mapSl g st.sl, rt', mapRf g (st.rf.filter keep)⟩ := by
  refine ⟨hok.1, hok.2.1, hok.2.2, ?_, ?_, h.size, h.defers⟩
  · intro k x hx
    rw [mapSl_get, Option.map_eq_some_iff] at hx
    obtain ⟨y, hy, rfl⟩ := hx
    exact hl.v (h.sv k y hy)
  · intro e he
    simp only [mapRf, List.mem_map, List.mem_filter] at he
    obtain ⟨e0, ⟨he0, hk⟩, rfl⟩ := he
    obtain ⟨B, o, u, h1, ⟨x, h2, h3⟩, h4, h5⟩ := h.rf e0 he0
    obtain ⟨g1, g2, g3⟩ := hrf e0 he0 hk
    exact ⟨B, o, u, by rw [g2]; exact h1, g1 x h2 h3, g3 B o u h1 h4, hl.lr h5⟩
end
end Go.Proofs.YthlehngbadianaaDoor.Ow
namespace Go.Proofs.YthlehngbadianaaDoor.Ow
open Go Go.RowKit
def frzG (p : Pl) (es : Nat) (xs : List AV) (ok : AV → Bool) (c : AV) : AV :=
  match c with
  | .sl q es' off len => if q = p then .lst es (((xs.drop off).take len).map frz) else if ok c then c else .junk
  | c => if ok c then c else .junk
def St.freeze (st : St) (p : Pl) : St :=
  match cellAt st.rt p.r p.path p.j, st.rt.get p.r with
  | some (.own es xs), some x =>
    if VB ≤ p.r ∧ p.path = [] then ⟨mapSl (frzG p es xs (notR p.r)) st.sl, st.rt.del p.r, mapRf (frzG p es xs (notR p.r)) (st.rf.filter fun e => e.1 != p.r)⟩
    else ⟨mapSl (frzG p es xs (surv1 p.r p.path.length p.j (p.j + 1))) st.sl, st.rt.set p.r (x.setC p.path p.j (.lst es (xs.map frz))), mapRf (frzG p es xs (surv1 p.r p.path.length p.j (p.j + 1))) (st.rf.filter (keepR p.r p.path p.j (p.j + 1)))⟩
  | _, _ => st
section
variable {w : World} {F X : Fp} {env : Nat → RLoc} {n : Nat} {a : Act} {st : St}
theorem frz_sub {es off len : Nat} {xs : List AV} {uc u : Value} {S F' : Fp} (h : Rep w F (.own es xs) uc S) (hs : SubSl uc es off len u) (hl : off + len ≤ xs.length) (hS : ∀ b a, S b a → ¬ F' b a) (hF : ∀ b a, F' b a → F b a) :
    Rep w F' (.lst es (((xs.drop off).take len).map frz)) u E0 := by
  obtain ⟨S', g1, g2⟩ := own_sub h hs hl
  have := g1.frz (F' := F') (fun b a hh => hS b a (g2 b a hh)) hF
  simpa only [frz, frzL_map] using this
theorem frzG_maps {rt rt' : Al} {F' : Fp} {env' : Nat → RLoc} {p : Pl} {es : Nat} {xs : List AV} {ok : AV → Bool} (hl : Lives w F env rt w F' env' rt' ok) (hok : ∀ c, isR c = false → ok c = true)
    (hp : ∀ es' off len u, LR1 w F env rt (.sl p es' off len) u → Rep w F' (.lst es (((xs.drop off).take len).map frz)) u E0) : Maps w F env rt w F' env' rt' (frzG p es xs ok) := by
  have hcut : ∀ c u, LR1 w F env rt c u → LR1 w F' env' rt' (if ok c then c else .junk) u := by
    intro c u hr
    split
    · rename_i h; exact hl.lr1 h hr
    · exact Rep.junk hr.one fun _ _ h => h
  intro c u hr
  cases c
  case sl q es' off len =>
    simp only [frzG]
    by_cases hq : q = p
    · subst hq
      rw [if_pos rfl]
      exact hp es' off len u hr
    · rw [if_neg hq]
      exact hcut _ u hr
  all_goals exact hcut _ u hr
theorem surv1_ok {r d lo hi : Nat} (c : AV) (h : isR c = false) : surv1 r d lo hi c = true := by cases c <;> first | rfl | simp [isR] at h
theorem notR_ok {r : Nat} (c : AV) (h : isR c = false) : notR r c = true := by cases c <;> first | rfl | simp [isR] at h
theorem Ghost.freeze (p : Pl) : Ghost st (st.freeze p) := by
  intro w F env n a h
  unfold St.freeze
  cases hc : cellAt st.rt p.r p.path p.j with
  | none => exact ⟨F, env, h, Tr.refl _ _ _⟩
  | some c =>
    cases hx : st.rt.get p.r with
    | none => simp only [cellAt, hx] at hc; simp at hc
    | some x =>
      by_cases hown : ∃ es xs, c = .own es xs
      · obtain ⟨es, xs, rfl⟩ := hown
        simp only
        split
        · rename_i hvb
          obtain ⟨hvb, hp⟩ := hvb
          obtain ⟨T, ok, hT⟩ := h.ok
          have hr := ok.root _ x hx
          obtain ⟨v, hv⟩ := (h.kind _ x hx).2 hvb
          rw [hv] at hr
          have hc' := hc
          rw [hp] at hc'
          simp only [cellAt, hx, Option.bind_some, AV.cellIn, AV.sub, AV.cells_one hr.1] at hc'
          have hj : p.j = 0 := by
            cases hj : p.j with
            | zero => rfl
            | succ j => rw [hj] at hc'; simp at hc'
          rw [hj] at hc'
          simp at hc'
          subst hc'
          have hrep : Rep w F (.own es xs) v (T p.r) := hr.2
          let F' : Fp := fun b a => F b a ∧ ¬ T p.r b a
          have hF : ∀ b a, F' b a → F b a := fun b a hh => hh.1
          have hkp : ∀ T' : Fp, Kp w F w F' T' := fun T' => ⟨⟨E0, Agree.refl _ _, fun _ _ h => h.elim, fun _ _ _ h => h⟩, fun b a hh => .inl (hF b a hh)⟩
          have hdel : ∀ r' x, (st.rt.del p.r).get r' = some x → r' ≠ p.r ∧ st.rt.get r' = some x := by
            intro r' x hx
            rw [Al.get_del] at hx
            split at hx
            · simp at hx
            · rename_i hne; exact ⟨hne, hx⟩
          have hsub : ∀ r' x b a, (st.rt.del p.r).get r' = some x → T r' b a → F' b a := by
            intro r' x' b a hx' ht
            obtain ⟨hne, hx''⟩ := hdel _ _ hx'
            exact ⟨ok.sub _ _ _ _ hx'' ht, fun hh => hne (ok.dis _ _ _ _ _ _ hx'' hx ht hh)⟩
          have ok' : Ok w F' env T (st.rt.del p.r) := (ok.del p.r).world (fun r' x _ => hkp _) hsub (fun b a hh => ok.fb b a hh.1)
          have hlv : Lives w F env st.rt w F' env (st.rt.del p.r) (notR p.r) := by
            have h0 := Lives.del (w := w) (F := F) (env := env) (rt := st.rt) p.r
            exact ⟨fun c u hr => hr.keep (hkp _), fun q u ho hh => h0.ref q u ho hh, fun q es off len u ho hh => h0.sl q es off len u ho hh, fun q es len cap u ho hh => h0.sa q es len cap u ho hh⟩
          have hmap := frzG_maps (p := p) (es := es) (xs := xs) hlv notR_ok (by
            rintro es' off len u ⟨l, uc, xs', k1, k2, k3, k4, k5⟩
            rw [hc] at k2
            simp only [Option.some.injEq, AV.own.injEq] at k2
            obtain ⟨rfl, rfl⟩ := k2
            rw [hp] at k1
            simp only [rloc, hx, hv, Option.bind_some, Option.some.injEq] at k1
            subst k1
            rw [hj] at k3
            simp only [rcell, if_true, Option.some.injEq] at k3
            subst k3
            exact frz_sub hrep k5 k4 (fun b a hs hh => hh.2 hs) hF)
          refine ⟨F', env, h.moveG (X' := E0) ⟨⟨T, ok', fun _ _ _ _ _ _ h => h⟩, fun _ _ h => h.elim, fun r' x hx => h.kind r' x (hdel _ _ hx).2⟩ hmap (fun e => e.1 != p.r) ?_, ⟨hkp _, fun _ _ => rfl⟩⟩
          intro e he hk
          have hne : e.1 ≠ p.r := by simpa using hk
          exact ⟨fun x h1 h2 => ⟨x, by rw [Al.get_del, if_neg hne]; exact h1, h2⟩, rfl, fun _ _ _ _ h => h⟩
        · rename_i hvb
          have hc' := hc
          simp only [cellAt, hx, Option.bind_some, AV.cellIn] at hc'
          cases hz : x.sub p.path with
          | none => simp [hz] at hc'
          | some z =>
            rw [hz, Option.bind_some] at hc'
            obtain ⟨T, ok, hT⟩ := h.ok
            obtain ⟨B, o, Tz, h1, h2, h3, h4⟩ := h.nodeL hx hz (fun e => by
              rcases Nat.lt_or_ge p.r VB with h6 | h6
              · exact h6
              · exact absurd ⟨h6, e⟩ hvb)
            obtain ⟨u0, S, g1, g2, g3, g4, g5, g6, g7⟩ := cell_lens h2 hc'
            let F' : Fp := fun b a => F b a ∧ ¬ S b a
            have hF : ∀ b a, F' b a → F b a := fun b a hh => hh.1
            have hfr := g2.frz (F' := F') (fun b a hs hh => hh.2 hs) hF
            simp only [frz, frzL_map] at hfr
            have hnd := g7 w F' (.lst es (xs.map frz)) u0 E0 hfr g1 g5 ⟨⟨E0, Agree.refl _ _, fun _ _ h => h.elim, fun _ _ _ h => h⟩, fun b a hh => .inl (hF b a hh)⟩ (fun _ _ h => h.elim)
            have hcs : (z.setCell p.j (.lst es (xs.map frz))).cells = z.cells.set p.j (.lst es (xs.map frz)) := AV.cells_setCell _ _ _ rfl
            obtain ⟨m1, m2, m3⟩ := h4 w F' E0 E0 (fun b a => (Tz b a ∧ ¬ S b a) ∨ E0 b a) (z.setCell p.j (.lst es (xs.map frz))) p.j (p.j + 1) (by rw [hcs, List.length_set]) (by rw [hcs]; exact hnd) (Agree.refl _ _) (fun _ _ _ h => h.elim)
              (fun b a hh => .inl hh.1) (fun b a hh _ hz' => ⟨hh, fun hs => hz' (g3 b a hs).1⟩) (fun b a hh => hh.elim (fun hh => ⟨(h3 b a hh.1).1, hh.2⟩) fun hh => False.elim hh) (fun _ _ h => h.elim) (fun b a hh => ok.fb b a hh.1)
              (fun b a hh => hh.elim (fun hh => .inl hh.1) fun hh => False.elim hh) (fun _ _ h => h.elim) (fun i hi => ⟨by rw [hcs, List.getElem?_set_ne (by omega)], fun _ => rfl⟩)
            have hsetC : x.setC p.path p.j (.lst es (xs.map frz)) = x.setSub p.path (z.setCell p.j (.lst es (xs.map frz))) := by simp only [AV.setC, hz]
            have hmap := frzG_maps (p := p) (es := es) (xs := xs) m2 surv1_ok (by
              rintro es' off len u ⟨l, uc, xs', k1, k2, k3, k4, k5⟩
              rw [hc] at k2
              simp only [Option.some.injEq, AV.own.injEq] at k2
              obtain ⟨rfl, rfl⟩ := k2
              rw [h1] at k1
              obtain rfl := Option.some.inj k1
              simp only [rcell, g1, Option.some.injEq] at k3
              subst k3
              exact frz_sub g2 k5 k4 (fun b a hs hh => hh.2 hs) hF)
            refine ⟨F', env, ?_, ⟨⟨⟨E0, Agree.refl _ _, fun _ _ h => h.elim, fun _ _ _ h => h⟩, fun b a hh => .inl (hF b a hh)⟩, fun _ _ => rfl⟩⟩
            rw [hsetC]
            exact h.moveG m1 hmap (keepR p.r p.path p.j (p.j + 1)) m3
      · cases c
        case own es xs => exact absurd ⟨es, xs, rfl⟩ hown
        all_goals exact ⟨F, env, h, Tr.refl _ _ _⟩
end
end Go.Proofs.YthlehngbadianaaDoor.Ow
