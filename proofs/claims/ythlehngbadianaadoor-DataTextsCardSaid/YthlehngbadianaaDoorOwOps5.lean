/- append, in memory. -/
import Derived.Test.YthlehngbadianaaDoorOwOps4
set_option linter.unusedVariables false
set_option linter.unusedSimpArgs false
set_option linter.unnecessarySimpa false
namespace Go.Proofs.YthlehngbadianaaDoor.Ow
open Go Go.RowKit
section
variable {P : Program} {w : World} {F X : Fp} {env : Nat → RLoc} {n : Nat} {a : Act} {st : St} {rt : Al}
/-- Elements, and what their cells hold and own. -/
structure Els (w : World) (F : Fp) (es : Nat) (ys : List AV) (vss : List (List Value)) (S : Nat → Nat → Fp) : Prop where
  len : vss.length = ys.length
  cells : ∀ (i : Nat) y, ys[i]? = some y → y.cells.length = es
  vlen : ∀ vs ∈ vss, vs.length = es
  rep : ∀ (i : Nat) y (j : Nat) c v, ys[i]? = some y → y.cells[j]? = some c → (vss[i]?).bind (·[j]?) = some v → Rep w F c v (S i j)
  dis : ∀ (i j i' j' b a : Nat), S i j b a → S i' j' b a → i = i' ∧ j = j'
  rng : ∀ (i j b a : Nat), S i j b a → i < ys.length ∧ j < es
theorem Els.get {es : Nat} {ys : List AV} {vss : List (List Value)} {S : Nat → Nat → Fp} (h : Els w F es ys vss S) {i j : Nat} (hi : i < ys.length) (hj : j < es) : ∃ v, (vss[i]?).bind (·[j]?) = some v := by
  have h1 : vss[i]? = some (vss[i]'(by rw [h.len]; exact hi)) := List.getElem?_eq_getElem _
  have h2 := h.vlen _ (List.getElem_mem (by rw [h.len]; exact hi))
  exact ⟨_, by rw [h1, Option.bind_some]; exact List.getElem?_eq_getElem (by rw [h2]; exact hj)⟩
theorem Els.one {es : Nat} {ys : List AV} {vss : List (List Value)} {S : Nat → Nat → Fp} (h : Els w F es ys vss S) : ∀ v ∈ vss.flatten, v.oneCell' = true := by
  intro v hv
  obtain ⟨vs, hvs, hv⟩ := List.mem_flatten.1 hv
  obtain ⟨i, hi⟩ := List.getElem?_of_mem hvs
  obtain ⟨j, hj⟩ := List.getElem?_of_mem hv
  have hil : i < ys.length := by rw [← h.len]; exact (List.getElem?_eq_some_iff.1 hi).1
  have hy := List.getElem?_eq_getElem hil
  have hjl : j < es := by rw [← h.vlen vs hvs]; exact (List.getElem?_eq_some_iff.1 hj).1
  have hcl := h.cells i _ hy
  exact (h.rep i _ j _ v hy (List.getElem?_eq_getElem (by rw [hcl]; exact hjl)) (by rw [hi]; exact hj)).one
theorem Els.flat {es : Nat} {ys : List AV} {vss : List (List Value)} {S : Nat → Nat → Fp} (h : Els w F es ys vss S) (hpos : 0 < es) {i j : Nat} (hj : j < es) : vss.flatten[i * es + j]? = (vss[i]?).bind (·[j]?) := flatMap_get hpos vss i j h.vlen hj
theorem Els.flen {es : Nat} {ys : List AV} {vss : List (List Value)} {S : Nat → Nat → Fp} (h : Els w F es ys vss S) : vss.flatten.length = ys.length * es := by rw [flatten_len vss h.vlen, h.len]
theorem Els.keep {es : Nat} {ys : List AV} {vss : List (List Value)} {S : Nat → Nat → Fp} (h : Els w F es ys vss S) {w' : World} {F' : Fp} (hk : ∀ i j, Kp w F w' F' (S i j)) : Els w' F' es ys vss S :=
  ⟨h.len, h.cells, h.vlen, fun i y j c v h1 h2 h3 => (h.rep i y j c v h1 h2 h3).keep (hk i j), h.dis, h.rng⟩
theorem Agree.setCells (B : Nat) : ∀ (vs : List Value) (o : Nat) (w : World), Agree (fun b a => b = B ∧ o ≤ a ∧ a < o + vs.length) w (w.setCells B o vs)
  | [], _, w => Agree.refl _ w
  | v :: vs, o, w => by
    simp only [World.setCells, List.length_cons]
    refine Agree.trans ((Agree.setCell B o v).mono fun b a _ ⟨h1, h2⟩ => ⟨h1, by omega, by omega⟩) ?_
    exact (Agree.setCells B vs (o + 1) _).mono fun b a _ ⟨h1, h2, h3⟩ => ⟨h1, by omega, by omega⟩
theorem setCells_in (B : Nat) : ∀ (vs : List Value) (o : Nat) (w : World) (k : Nat) (v : Value), (∀ j, j < vs.length → (w.cell? ⟨B, o + j, none⟩).isSome = true) → vs[k]? = some v → (w.setCells B o vs).cell? ⟨B, o + k, none⟩ = some v
  | [], _, _, _, _, _, h => by simp at h
  | x :: vs, o, w, k, v, hc, h => by
    simp only [World.setCells]
    have h0 := hc 0 (by simp)
    rw [Nat.add_zero] at h0
    obtain ⟨u, hu⟩ := Option.isSome_iff_exists.1 h0
    have hin := setCell_in B o u x hu
    cases k with
    | zero =>
      simp at h; subst h
      rw [Nat.add_zero]
      exact (Agree.setCells B vs (o + 1) _).cell hin (fun ⟨_, h2, _⟩ => by omega)
    | succ k =>
      have := setCells_in B vs (o + 1) (w.setCell ⟨B, o, none⟩ x) k v (fun j hj => by
        have h1 := hc (j + 1) (by simp; omega)
        obtain ⟨u', hu'⟩ := Option.isSome_iff_exists.1 h1
        have e : o + (j + 1) = o + 1 + j := by omega
        rw [e] at hu'
        rw [(Agree.setCell B o x).cell hu' (fun ⟨_, h2⟩ => by omega)]
        rfl) (by simpa using h)
      rw [show o + (k + 1) = o + 1 + k by omega]
      exact this
theorem Blk.setCells {B lo hi : Nat} (h : Blk w B lo hi) (vs : List Value) (B' o : Nat) : Blk (w.setCells B' o vs) B lo hi := by
  induction vs generalizing w o with
  | nil => exact h
  | cons v vs ih =>
    simp only [World.setCells]
    refine ih ?_ (o + 1)
    obtain ⟨arr, e, fz, b1, b2, b3⟩ := h
    by_cases hb : B' = B
    · subst hb
      refine ⟨arr.setIfInBounds o v, e, fz, ?_, by simpa using b2, b3⟩
      simp only [World.setCell, Array.getElem?_modify, if_true, b1, Option.map_some]
      simp
    · exact ⟨arr, e, fz, by simp only [World.setCell, Array.getElem?_modify, hb, if_false, b1], b2, b3⟩
theorem append_idx {xs ys : List AV} {i : Nat} {x : AV} (h : (xs ++ ys)[i]? = some x) : (i < xs.length ∧ xs[i]? = some x) ∨ (xs.length ≤ i ∧ ys[i - xs.length]? = some x) := by
  rw [List.getElem?_append] at h
  split at h
  · rename_i hi; exact .inl ⟨hi, h⟩
  · rename_i hi; exact .inr ⟨by omega, h⟩
theorem sub_mul' {i m es : Nat} (h : m ≤ i) : (i - m) * es = i * es - m * es := by rw [Nat.sub_mul]
/-- What append gives. -/
structure AppOut (w : World) (F Sb : Fp) (Sn : Nat → Nat → Fp) (es : Nat) (xs : List AV) (u' : Value) (w' : World) : Prop where
  ex : ∃ S' : Fp, (∃ M : Fp, Agree M w w' ∧ (∀ b a, b < w.heap.size → M b a → Sb b a)) ∧ (∀ b a, S' b a → Sb b a ∨ (∃ i j, Sn i j b a) ∨ (w.heap.size ≤ b ∧ b < w'.heap.size)) ∧
    (∀ F' : Fp, (∀ b a, F' b a → F b a ∨ w.heap.size ≤ b) → Rep w' F' (.own es xs) u' S')
theorem append_own {t ty e rty : TypeId} {i : TypeInfo} {z : Value} {es bytes : Nat} (hu : P.underlying t = some (.slice e)) (hi : P.info? e = some i) (hz : i.zero = some z) (hsz : i.size = es) (hzc : z.cells.size = es) (hby : i.bytes = bytes) (hpos : 0 < es)
    {xs ys : List AV} {ub ux : Value} {Sb : Fp} {Sn : Nat → Nat → Fp} {vss : List (List Value)} (hb : Rep w F (.own es xs) ub Sb) (hSb : ∀ b a, Sb b a → F b a) (hn : Els w F es ys vss Sn) (hSn : ∀ (i j b a : Nat), Sn i j b a → ¬ Sb b a)
    (hsrc : Src P es ty ux ys.length vss.flatten w) (hlim : (xs.length + ys.length) * bytes ≤ 140737488355328) (h63 : xs.length + ys.length ≤ 9223372036854775807) (hne : ys ≠ []) (hSnl : ∀ (i j b a : Nat), Sn i j b a → b < w.heap.size) (hSbl : ∀ b a, Sb b a → b < w.heap.size) :
    ∃ u' w', (Builtin.append_ #[t, ty] rty #[ub, ux]).run P w = .ok u' w' ∧ AppOut w F Sb Sn es (xs ++ ys) u' w' := by
  have hylen : 0 < ys.length := List.length_pos_iff.2 hne
  have hsrc' : Src P i.size ty ux ys.length vss.flatten w := by rw [hsz]; exact hsrc
  have hflen := hn.flen
  -- a new block
  have grow : ∀ (ad : Option Addr) (cap : Nat) (olds : List Value) (u1 : Nat → Nat → Value) (S : Nat → Nat → Fp), ub = .slice ad xs.length cap → olds.length = xs.length * es → (∀ j v, olds[j]? = some v → ∃ A, ad = some A ∧ w.cell? (A.add j) = some v) → cap < xs.length + ys.length →
      (∀ (i : Nat) x, xs[i]? = some x → x.cells.length = es) → (∀ (i : Nat) x (j : Nat) c, xs[i]? = some x → x.cells[j]? = some c → olds[i * es + j]? = some (u1 i j) ∧ Rep w F c (u1 i j) (S i j)) →
      (∀ (i j i' j' b a : Nat), S i j b a → S i' j' b a → i = i' ∧ j = j') → (∀ (i j b a : Nat), S i j b a → Sb b a) → (∀ (i j b a : Nat), S i j b a → i < xs.length ∧ j < es) →
      ∃ u' w', (Builtin.append_ #[t, ty] rty #[ub, ux]).run P w = .ok u' w' ∧ AppOut w F Sb Sn es (xs ++ ys) u' w' := by
    intro ad cap olds u1 S hub hol holds hroom hlen hold hd hS hSr
    have hfirst : (Builtin.firstCells i.size xs.length (.slice ad xs.length cap)).run P w.drew = .ok olds.toArray w.drew := by
      cases ad with
      | none =>
        have : olds = [] := by
          cases olds with
          | nil => rfl
          | cons v l => obtain ⟨A, h1, _⟩ := holds 0 v rfl; cases h1
        subst this
        have := run_firstCells_none (P := P) w.drew i.size xs.length xs.length cap
        simpa using this
      | some A =>
        refine run_firstCells_some (P := P) w.drew i.size xs.length A xs.length cap olds (by rw [hol, hsz]) ?_
        intro j v hj
        obtain ⟨A', h1, h2⟩ := holds j v hj
        rw [Option.some.injEq] at h1
        subst h1
        exact h2
    have hrun := run_append_grow_src w t ty rty e i z hu hi hz ad xs.length cap olds hfirst ux ys.length vss.flatten hsrc' hroom (by omega) (by rw [hby]; exact growslice_fits hroom hlim)
    rw [← hub] at hrun
    have hge := grownCap_ge w (xs.length + ys.length) cap e
    generalize hCg : grownCap w (xs.length + ys.length) cap e = C at hrun hge
    generalize hZ : Builtin.zeroCells z.cells (C - (xs.length + ys.length)) = Z at hrun
    have hzz : Z.size = (C - (xs.length + ys.length)) * es := by rw [← hZ]; simp [Builtin.zeroCells, hzc]
    obtain ⟨N, hN⟩ : ∃ N, N = xs.length + ys.length := ⟨_, rfl⟩
    rw [← hN] at hrun hge hzz
    refine ⟨_, _, hrun, ⟨?_⟩⟩
    have hbel : Below w.heap.size w (w.drew.alloc (.cells ((olds ++ vss.flatten).toArray ++ Z) e)) :=
      ((Below.refl _ _).drew).alloc (by simp) _
    have hcell : ∀ k v, (olds ++ vss.flatten)[k]? = some v → (w.drew.alloc (.cells ((olds ++ vss.flatten).toArray ++ Z) e)).cell? ⟨w.heap.size, k, none⟩ = some v := by
      intro k v hv
      have := cell_alloc_new w.drew ((olds ++ vss.flatten).toArray ++ Z) e k
      rw [show w.heap.size = w.drew.heap.size from rfl, this, Array.getElem?_append_left (by simpa using (List.getElem?_eq_some_iff.1 hv).1)]
      simpa using hv
    refine ⟨fun b a => (b = w.heap.size ∧ a < C * es) ∨ ∃ i j, (if i < xs.length then S i j b a else Sn (i - xs.length) j b a), ⟨E0, Agree.below hbel _, fun _ _ _ h => h.elim⟩, ?_, ?_⟩
    · rintro b a (⟨rfl, _⟩ | ⟨i, j, hh⟩)
      · right; right; simp
      · split at hh
        · exact .inl (hS _ _ _ _ hh)
        · exact .inr (.inl ⟨_, _, hh⟩)
    · intro F' hF'
      have hkp : ∀ T : Fp, Kp w F (w.drew.alloc (.cells ((olds ++ vss.flatten).toArray ++ Z) e)) F' T :=
        fun T => ⟨⟨E0, Agree.below hbel _, fun _ _ h => h.elim, fun _ _ _ h => h⟩, hF'⟩
      rw [show N = (xs ++ ys).length by rw [hN, List.length_append]]
      have hlt : ∀ b a i j, (if i < xs.length then S i j b a else Sn (i - xs.length) j b a) → b < w.heap.size := by
        intro b a i j hh
        split at hh
        · exact hSbl _ _ (hS _ _ _ _ hh)
        · exact hSnl _ _ _ _ hh
      refine .own (fun i j => if i < xs.length then u1 i j else ((vss[i - xs.length]?).bind (·[j]?)).getD undef) (fun i j b a => if i < xs.length then S i j b a else Sn (i - xs.length) j b a) hpos (by rw [List.length_append, ← hN]; exact hge) ?_ ?_ ?_ ?_ ?_ ?_ ?_ ?_
      · intro _
        rw [Nat.zero_add]
        refine Blk_alloc ?_
        have hCN : N * es + (C - N) * es = C * es := by rw [← Nat.add_mul]; congr 1; omega
        have hNe : N * es = xs.length * es + ys.length * es := by rw [hN, Nat.add_mul]
        simp only [Array.size_append, List.size_toArray, List.length_append, hol, hflen, hzz]
        omega
      · intro i x hx
        rcases append_idx hx with ⟨_, h1⟩ | ⟨_, h1⟩
        · exact hlen i x h1
        · exact hn.cells _ x h1
      · intro i x j c hx hj
        rw [Nat.zero_add]
        rcases append_idx hx with ⟨hi, h1⟩ | ⟨hi, h1⟩
        · simp only [hi, if_true]
          refine hcell _ _ ?_
          have := (hold i x j c h1 hj).1
          rw [List.getElem?_append_left (List.getElem?_eq_some_iff.1 this).1, this]
        · simp only [show ¬ i < xs.length by omega, if_false]
          have hjl : j < es := by rw [← hn.cells _ x h1]; exact (List.getElem?_eq_some_iff.1 hj).1
          obtain ⟨v, hv⟩ := hn.get (List.getElem?_eq_some_iff.1 h1).1 hjl
          rw [hv, Option.getD_some]
          refine hcell _ _ ?_
          have h2 : xs.length * es ≤ i * es := Nat.mul_le_mul_right _ hi
          rw [List.getElem?_append_right (by rw [hol]; omega), hol, show i * es + j - xs.length * es = (i - xs.length) * es + j by rw [sub_mul' hi]; omega, hn.flat hpos hjl, hv]
      · intro i x j c hx hj
        rcases append_idx hx with ⟨hi, h1⟩ | ⟨hi, h1⟩
        · simp only [hi, if_true]
          exact (hold i x j c h1 hj).2.keep (hkp _)
        · simp only [show ¬ i < xs.length by omega, if_false]
          have hjl : j < es := by rw [← hn.cells _ x h1]; exact (List.getElem?_eq_some_iff.1 hj).1
          obtain ⟨v, hv⟩ := hn.get (List.getElem?_eq_some_iff.1 h1).1 hjl
          rw [hv, Option.getD_some]
          exact (hn.rep _ x j c v h1 hj hv).keep (hkp _)
      · intro i1 j1 i2 j2 b a h1 h2
        by_cases e1 : i1 < xs.length <;> by_cases e2 : i2 < xs.length <;> simp only [e1, e2, if_true, if_false] at h1 h2
        · exact hd _ _ _ _ _ _ h1 h2
        · exact absurd (hS _ _ _ _ h1) (hSn _ _ _ _ h2)
        · exact absurd (hS _ _ _ _ h2) (hSn _ _ _ _ h1)
        · have := hn.dis _ _ _ _ _ _ h1 h2; omega
      · intro i1 j1 a h1 _
        have := hlt _ _ _ _ h1
        omega
      · intro i1 j1 b a h1
        rw [List.length_append]
        split at h1
        · have := hSr _ _ _ _ h1; omega
        · have := hn.rng _ _ _ _ h1; omega
      · intro b a
        simp
  cases hb with
  | ownN hes hT =>
    refine grow none 0 [] (fun _ _ => undef) (fun _ _ => E0) rfl (by simp) (by simp) (by simp; omega) (by simp) (by simp) (fun _ _ _ _ _ _ h => h.elim) (fun _ _ _ _ h => h.elim) (fun _ _ _ _ h => h.elim)
  | own u1 S hes hcap hbk hlen hc hr hd ho hS hT =>
    rename_i B o cap
    by_cases hroom : xs.length + ys.length ≤ cap
    · -- there is room
      have hcap0 : 0 < cap := by omega
      obtain ⟨arr, el, fz, b1, b2, b3⟩ := hbk hcap0
      have hle : xs.length * es + ys.length * es ≤ cap * es := by rw [← Nat.add_mul]; exact Nat.mul_le_mul_right _ hroom
      have hcs : ∀ j, j < vss.flatten.length → (w.cell? ⟨B, o + xs.length * es + j, none⟩).isSome = true := by
        intro j hj
        unfold World.cell?
        rw [b1]
        simp only [Option.isSome_none, Bool.false_eq_true, if_false]
        rw [Array.getElem?_eq_getElem (by omega)]; rfl
      have hfr : ∀ j, j < vss.flatten.length → w.frozen? ⟨B, o + xs.length * es + j, none⟩ = false := by
        intro j hj
        have := b3 (o + xs.length * es + j) (by omega) (by omega)
        unfold World.frozen?
        rw [b1]
        obtain ⟨lo, hi'⟩ := fz
        simp only [Bool.and_eq_false_iff, decide_eq_false_iff_not]
        simp only at this
        omega
      have hrun := run_append_room_src w t ty rty e i hu hi B o xs.length cap ux ys.length vss.flatten hsrc' hroom (by rw [hsz]; exact hcs) (by rw [hsz]; exact hfr)
      rw [hsz] at hrun
      refine ⟨_, _, hrun, ⟨?_⟩⟩
      have hag := Agree.setCells B vss.flatten (o + xs.length * es) w
      rw [hflen] at hag
      have hMS : ∀ b a, (b = B ∧ o + xs.length * es ≤ a ∧ a < o + xs.length * es + ys.length * es) → Sb b a := by
        rintro b a ⟨rfl, h1, h2⟩
        exact (hT _ _).2 (.inl ⟨rfl, by omega, by omega⟩)
      refine ⟨fun b a => (b = B ∧ o ≤ a ∧ a < o + cap * es) ∨ ∃ i j, (if i < xs.length then S i j b a else Sn (i - xs.length) j b a), ⟨_, hag, fun b a _ hm => hMS b a hm⟩, ?_, ?_⟩
      · rintro b a (hh | ⟨i, j, hh⟩)
        · exact .inl ((hT _ _).2 (.inl hh))
        · split at hh
          · exact .inl ((hT _ _).2 (.inr ⟨_, _, hh⟩))
          · exact .inr (.inl ⟨_, _, hh⟩)
      · intro F' hF'
        have hkp : ∀ T : Fp, (∀ b a, T b a → ¬ (b = B ∧ o ≤ a ∧ a < o + cap * es)) → Kp w F (w.setCells B (o + xs.length * es) vss.flatten) F' T := fun T hT' => ⟨⟨_, hag, fun b a hm => hSb _ _ (hMS b a hm), fun b a ht ⟨h1, h2, h3⟩ => hT' b a ht ⟨h1, by omega, by omega⟩⟩, hF'⟩
        rw [← List.length_append]
        have hSnB : ∀ (i j a : Nat), Sn i j B a → ¬ (o ≤ a ∧ a < o + cap * es) := fun i j a h1 h2 => hSn i j B a h1 ((hT _ _).2 (.inl ⟨rfl, h2⟩))
        refine .own (fun i j => if i < xs.length then u1 i j else ((vss[i - xs.length]?).bind (·[j]?)).getD undef) (fun i j b a => if i < xs.length then S i j b a else Sn (i - xs.length) j b a) hpos (by rw [List.length_append]; exact hroom) ?_ ?_ ?_ ?_ ?_ ?_ ?_ ?_
        · intro _; exact (hbk hcap0).setCells _ _ _
        · intro i x hx
          rcases append_idx hx with ⟨_, h1⟩ | ⟨_, h1⟩
          · exact hlen i x h1
          · exact hn.cells _ x h1
        · intro i x j c hx hj
          rcases append_idx hx with ⟨hi, h1⟩ | ⟨hi, h1⟩
          · simp only [hi, if_true]
            have hjl : j < es := by rw [← hlen _ x h1]; exact (List.getElem?_eq_some_iff.1 hj).1
            refine hag.cell (hc i x j c h1 hj) ?_
            rintro ⟨_, h2, _⟩
            have := mul_es hi hjl
            omega
          · simp only [show ¬ i < xs.length by omega, if_false]
            have hjl : j < es := by rw [← hn.cells _ x h1]; exact (List.getElem?_eq_some_iff.1 hj).1
            obtain ⟨v, hv⟩ := hn.get (List.getElem?_eq_some_iff.1 h1).1 hjl
            rw [hv, Option.getD_some]
            have h2 : xs.length * es ≤ i * es := Nat.mul_le_mul_right _ hi
            have := setCells_in B vss.flatten (o + xs.length * es) w ((i - xs.length) * es + j) v hcs (by rw [hn.flat hpos hjl, hv])
            rw [sub_mul' hi] at this
            rw [← this]
            congr 2
            omega
        · intro i x j c hx hj
          rcases append_idx hx with ⟨hi, h1⟩ | ⟨hi, h1⟩
          · simp only [hi, if_true]
            refine (hr i x j c h1 hj).keep (hkp _ ?_)
            rintro b a hs ⟨rfl, h2⟩
            exact ho _ _ _ hs h2
          · simp only [show ¬ i < xs.length by omega, if_false]
            have hjl : j < es := by rw [← hn.cells _ x h1]; exact (List.getElem?_eq_some_iff.1 hj).1
            obtain ⟨v, hv⟩ := hn.get (List.getElem?_eq_some_iff.1 h1).1 hjl
            rw [hv, Option.getD_some]
            refine (hn.rep _ x j c v h1 hj hv).keep (hkp _ ?_)
            rintro b a hs ⟨rfl, h2⟩
            exact hSnB _ _ _ hs h2
        · intro i1 j1 i2 j2 b a h1 h2
          by_cases e1 : i1 < xs.length <;> by_cases e2 : i2 < xs.length <;> simp only [e1, e2, if_true, if_false] at h1 h2
          · exact hd _ _ _ _ _ _ h1 h2
          · exact absurd ((hT _ _).2 (.inr ⟨_, _, h1⟩)) (hSn _ _ _ _ h2)
          · exact absurd ((hT _ _).2 (.inr ⟨_, _, h2⟩)) (hSn _ _ _ _ h1)
          · have := hn.dis _ _ _ _ _ _ h1 h2; omega
        · intro i1 j1 a h1 h2
          split at h1
          · exact ho _ _ _ h1 h2
          · exact hSnB _ _ _ h1 h2
        · intro i1 j1 b a h1
          rw [List.length_append]
          split at h1
          · have := hS _ _ _ _ h1; omega
          · have := hn.rng _ _ _ _ h1; omega
        · intro b a; exact Iff.rfl
    · -- none
      refine grow (some ⟨B, o, none⟩) cap ((List.range (xs.length * es)).map fun j => (w.cell? ⟨B, o + j, none⟩).getD undef) u1 S rfl (by simp) ?_ (by omega) hlen ?_ hd (fun i j b a h => (hT _ _).2 (.inr ⟨_, _, h⟩)) hS
      · intro j v hj
        rw [List.getElem?_map, Option.map_eq_some_iff] at hj
        obtain ⟨j', hj', rfl⟩ := hj
        have hjl : j < xs.length * es := by simpa using (List.getElem?_eq_some_iff.1 hj').1
        have : j' = j := by rw [List.getElem?_range hjl] at hj'; simpa using hj'.symm
        subst this
        refine ⟨_, rfl, ?_⟩
        rw [add_plain']
        have hcap0 : 0 < cap := by
          rcases Nat.eq_zero_or_pos xs.length with h0 | h0
          · rw [h0] at hjl; simp at hjl
          · omega
        obtain ⟨arr, el, fz, b1, b2, b3⟩ := hbk hcap0
        have hle : xs.length * es ≤ cap * es := Nat.mul_le_mul_right _ hcap
        have : w.cell? ⟨B, o + j', none⟩ = some arr[o + j'] := by
          unfold World.cell?
          rw [b1]
          simp only [Option.isSome_none, Bool.false_eq_true, if_false]
          rw [Array.getElem?_eq_getElem (by omega)]
        rw [this]; rfl
      · intro i x j c hx hj
        have hjl : j < es := by rw [← hlen _ x hx]; exact (List.getElem?_eq_some_iff.1 hj).1
        have := mul_es (List.getElem?_eq_some_iff.1 hx).1 hjl
        refine ⟨?_, hr i x j c hx hj⟩
        rw [List.getElem?_map, List.getElem?_range this, Option.map_some, ← Nat.add_assoc, hc i x j c hx hj]
        rfl
end
end Go.Proofs.YthlehngbadianaaDoor.Ow
