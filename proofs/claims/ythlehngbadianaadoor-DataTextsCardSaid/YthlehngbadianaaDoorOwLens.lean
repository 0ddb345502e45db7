/- Nodes in memory: the cell, the element, the path; and how one is put for another. -/
import Derived.Test.YthlehngbadianaaDoorOwCoreRep
set_option linter.unusedVariables false
set_option linter.unusedSimpArgs false
set_option linter.unnecessarySimpa false
namespace Go.Proofs.YthlehngbadianaaDoor.Ow
open Go Go.RowKit
/-- Cells that lie side by side in memory. -/
def Nd (w : World) (F : Fp) (cs : List AV) (B o : Nat) (T : Fp) : Prop :=
  ∃ (u : Nat → Value) (S : Nat → Fp), Blk w B o (o + cs.length) ∧ (∀ (i : Nat) c, cs[i]? = some c → w.cell? ⟨B, o + i, none⟩ = some (u i)) ∧
    (∀ (i : Nat) c, cs[i]? = some c → Rep w F c (u i) (S i)) ∧ (∀ (i i' b a : Nat), S i b a → S i' b a → i = i') ∧ (∀ (i a : Nat), S i B a → ¬ (o ≤ a ∧ a < o + cs.length)) ∧
    (∀ (i b a : Nat), S i b a → i < cs.length) ∧ (∀ b a, T b a ↔ (b = B ∧ o ≤ a ∧ a < o + cs.length) ∨ ∃ i, S i b a)
theorem Nd.congr {w : World} {F : Fp} {cs : List AV} {B o : Nat} {T T' : Fp} (h : Nd w F cs B o T) (e : ∀ b a, T b a ↔ T' b a) : Nd w F cs B o T' := by
  have : T = T' := by funext b a; exact propext (e b a)
  exact this ▸ h
theorem Nd.keep {w : World} {F : Fp} {cs : List AV} {B o : Nat} {T : Fp} (h : Nd w F cs B o T) {w' : World} {F' : Fp} (k : Kp w F w' F' T) : Nd w' F' cs B o T := by
  obtain ⟨u, S, hb, hc, hr, hd, ho, hS, hT⟩ := h
  refine ⟨u, S, k.blk hb ?_, ?_, ?_, hd, ho, hS, hT⟩
  · intro hlt; exact ⟨_, Nat.le_refl _, hlt, (hT _ _).2 (.inl ⟨rfl, Nat.le_refl _, hlt⟩)⟩
  · intro i c h1
    have hi := (List.getElem?_eq_some_iff.1 h1).1
    exact k.cell (hc i c h1) (.inl ((hT _ _).2 (.inl ⟨rfl, by omega, by omega⟩)))
  · intro i c h1
    exact (hr i c h1).keep (k.mono fun b a hs => (hT b a).2 (.inr ⟨i, hs⟩))
/-- One cell of a node. -/
theorem cell_lens {w : World} {F : Fp} {cs : List AV} {B o : Nat} {T : Fp} (h : Nd w F cs B o T) {j : Nat} {c : AV} (hj : cs[j]? = some c) :
    ∃ u S, w.cell? ⟨B, o + j, none⟩ = some u ∧ Rep w F c u S ∧ (∀ b a, S b a → T b a ∧ ¬ (b = B ∧ o ≤ a ∧ a < o + cs.length)) ∧ T B (o + j) ∧ Blk w B o (o + cs.length) ∧
      (∀ j' c', j' ≠ j → cs[j']? = some c' → ∃ u' S', w.cell? ⟨B, o + j', none⟩ = some u' ∧ Rep w F c' u' S' ∧ (∀ b a, S' b a → T b a ∧ ¬ S b a ∧ ¬ (b = B ∧ a = o + j)) ∧ T B (o + j') ∧ ¬ S B (o + j')) ∧
      ∀ w' F' c' u' S'', Rep w' F' c' u' S'' → w'.cell? ⟨B, o + j, none⟩ = some u' → Blk w' B o (o + cs.length) → Kp w F w' F' (fun b a => T b a ∧ ¬ S b a ∧ ¬ (b = B ∧ a = o + j)) → (∀ b a, S'' b a → T b a → S b a) →
        Nd w' F' (cs.set j c') B o (fun b a => (T b a ∧ ¬ S b a) ∨ S'' b a) := by
  obtain ⟨u, S, hb, hc, hr, hd, ho, hS, hT⟩ := h
  have hlt := (List.getElem?_eq_some_iff.1 hj).1
  have hTr : ∀ i, i < cs.length → T B (o + i) := fun i hi => (hT _ _).2 (.inl ⟨rfl, by omega, by omega⟩)
  refine ⟨u j, S j, hc j c hj, hr j c hj, ?_, hTr j hlt, hb, ?_, ?_⟩
  · intro b a hs
    refine ⟨(hT b a).2 (.inr ⟨j, hs⟩), ?_⟩
    rintro ⟨rfl, h1⟩
    exact ho j a hs h1
  · intro j' c' hne hj'
    have hlt' := (List.getElem?_eq_some_iff.1 hj').1
    refine ⟨u j', S j', hc j' c' hj', hr j' c' hj', ?_, hTr j' hlt', fun hs => ho j _ hs (by omega)⟩
    intro b a hs
    refine ⟨(hT b a).2 (.inr ⟨j', hs⟩), fun hs2 => hne (hd _ _ _ _ hs hs2), ?_⟩
    rintro ⟨rfl, rfl⟩
    exact ho j' _ hs (by omega)
  · intro w' F' c' u' S'' hr' hc' hb' k hn
    refine ⟨fun i => if i = j then u' else u i, fun i => if i = j then S'' else S i, by rw [List.length_set]; exact hb', ?_, ?_, ?_, ?_, ?_, ?_⟩
    · intro i x hx
      by_cases hi : i = j
      · subst hi; simp only [if_true]; exact hc'
      · rw [List.getElem?_set_ne (Ne.symm hi)] at hx
        simp only [hi, if_false]
        have hil := (List.getElem?_eq_some_iff.1 hx).1
        refine k.cell (hc i x hx) (.inl ⟨hTr i hil, fun hs => ho j _ hs (by omega), by omega⟩)
    · intro i x hx
      by_cases hi : i = j
      · subst hi
        rw [List.getElem?_set_self hlt] at hx
        simp only [Option.some.injEq] at hx
        subst hx
        simp only [if_true]; exact hr'
      · rw [List.getElem?_set_ne (Ne.symm hi)] at hx
        simp only [hi, if_false]
        refine (hr i x hx).keep (k.mono fun b a hs => ⟨(hT b a).2 (.inr ⟨i, hs⟩), fun hs2 => hi (hd _ _ _ _ hs hs2), ?_⟩)
        rintro ⟨rfl, rfl⟩
        exact ho i _ hs (by omega)
    · intro i i' b a h1 h2
      by_cases hi : i = j <;> by_cases hi' : i' = j <;> simp only [hi, hi', if_true, if_false] at h1 h2
      · rw [hi, hi']
      · exact absurd (hd _ _ _ _ h2 (hn b a h1 ((hT b a).2 (.inr ⟨i', h2⟩)))) hi'
      · exact absurd (hd _ _ _ _ h1 (hn b a h2 ((hT b a).2 (.inr ⟨i, h1⟩)))) hi
      · exact hd _ _ _ _ h1 h2
    · intro i a hs hr
      rw [List.length_set] at hr
      by_cases hi : i = j <;> simp only [hi, if_true, if_false] at hs
      · exact ho j a (hn B a hs ((hT B a).2 (.inl ⟨rfl, hr⟩))) hr
      · exact ho i a hs hr
    · intro i b a hs
      rw [List.length_set]
      by_cases hi : i = j <;> simp only [hi, if_true, if_false] at hs
      · rw [hi]; exact hlt
      · exact hS i b a hs
    · intro b a
      rw [List.length_set]
      constructor
      · rintro (⟨h1, h2⟩ | h1)
        · rcases (hT b a).1 h1 with h3 | ⟨i, h3⟩
          · exact .inl h3
          · refine .inr ⟨i, ?_⟩
            have : i ≠ j := fun e => h2 (e ▸ h3)
            simp only [this, if_false]; exact h3
        · exact .inr ⟨j, by simp only [if_true]; exact h1⟩
      · rintro (h1 | ⟨i, h1⟩)
        · refine .inl ⟨(hT b a).2 (.inl h1), fun hs => ?_⟩
          obtain ⟨rfl, h2⟩ := h1
          exact ho j a hs h2
        · by_cases hi : i = j <;> simp only [hi, if_true, if_false] at h1
          · exact .inr h1
          · exact .inl ⟨(hT b a).2 (.inr ⟨i, h1⟩), fun hs => hi (hd _ _ _ _ h1 hs)⟩
/-- Where a hop leads to. -/
def hopLoc (c : AV) (u : Value) (i : Nat) : Option (Nat × Nat) :=
  match c, u with
  | .own es _, .slice (some ⟨B, o, none⟩) _ _ => some (B, o + i * es)
  | .obj _, .pointer (some ⟨B, o, none⟩) => some (B, o)
  | _, _ => none
theorem hopLoc_setElem (c : AV) (u : Value) (i i' : Nat) (y : AV) : hopLoc (c.setElem i y) u i' = hopLoc c u i' := by
  have key1 : ∀ es (xs xs' : List AV), hopLoc (.own es xs) u i' = hopLoc (.own es xs') u i' := by
    intro es xs xs'
    unfold hopLoc
    split <;> first | (split <;> simp_all; done) | (simp_all; done)
  have key2 : ∀ x x' : AV, hopLoc (.obj x) u i' = hopLoc (.obj x') u i' := by
    intro x x'
    unfold hopLoc
    split <;> first | (split <;> simp_all; done) | (simp_all; done)
  cases c <;> simp only [AV.setElem]
  case own es xs => exact key1 _ _ _
  case obj x => split <;> exact key2 _ _
theorem off_eq {i i' j j' es : Nat} (hj : j < es) (hj' : j' < es) (h : i * es + j = i' * es + j') : i = i' := by
  rcases Nat.lt_trichotomy i i' with h1 | h1 | h1
  · have := mul_es (n := i') h1 hj; omega
  · exact h1
  · have := mul_es (n := i) h1 hj'; omega
/-- One element of a list, or what a pointer points to. -/
theorem elem_lens {w : World} {F : Fp} {c y : AV} {u : Value} {T : Fp} {i : Nat} (h : Rep w F c u T) (hy : c.elem i = some y) :
    ∃ B o Tz, hopLoc c u i = some (B, o) ∧ Nd w F y.cells B o Tz ∧ (∀ b a, Tz b a → T b a) ∧
      (∀ i2 y2, i2 ≠ i → c.elem i2 = some y2 → ∃ B2 o2 T2, hopLoc c u i2 = some (B2, o2) ∧ Nd w F y2.cells B2 o2 T2 ∧ ∀ b a, T2 b a → T b a ∧ ¬ Tz b a) ∧
      ∀ w' F' y' T'', y'.cells.length = y.cells.length → Nd w' F' y'.cells B o T'' → Kp w F w' F' (fun b a => T b a ∧ ¬ Tz b a) → (∀ b a, T'' b a → T b a → Tz b a) →
        Rep w' F' (c.setElem i y') u (fun b a => (T b a ∧ ¬ Tz b a) ∨ T'' b a) := by
  cases h <;> simp only [AV.elem] at hy
  case ownN => simp at hy
  case obj x B o u S hb hc hr hd ho hS hT =>
    split at hy
    · rename_i hi
      subst hi
      simp only [Option.some.injEq] at hy
      subst hy
      refine ⟨B, o, T, rfl, ⟨u, S, hb, hc, hr, hd, ho, hS, hT⟩, fun _ _ h => h, ?_, ?_⟩
      · intro i2 y2 hne hy2
        simp [AV.elem, hne] at hy2
      · intro w' F' y' T'' hl hn k hx
        simp only [AV.setElem, if_true]
        obtain ⟨u', S', k1, k2, k3, k4, k5, k6, k7⟩ := hn
        refine .obj u' S' k1 k2 k3 k4 k5 k6 ?_
        intro b a
        rw [← k7]
        constructor
        · rintro (⟨h1, h2⟩ | h1)
          · exact absurd h1 h2
          · exact h1
        · exact .inr
    · simp at hy
  case own es xs B o cap u S hes hcap hb hlen hc hr hd ho hS hT =>
    have hi := (List.getElem?_eq_some_iff.1 hy).1
    have hyl := hlen i y hy
    let Tf : Nat → Fp := fun i b a => (b = B ∧ o + i * es ≤ a ∧ a < o + i * es + es) ∨ ∃ j, S i j b a
    have hrange : ∀ i, i < xs.length → o + i * es + es ≤ o + cap * es := by
      intro i hi
      have := Nat.mul_le_mul_right es (show i + 1 ≤ cap by omega)
      rw [Nat.add_mul] at this
      omega
    have hTf : ∀ i, i < xs.length → ∀ b a, Tf i b a → T b a := by
      intro i hi b a hh
      rcases hh with ⟨rfl, h1, h2⟩ | ⟨j, h1⟩
      · have := hrange i hi
        exact (hT _ _).2 (.inl ⟨rfl, by omega, by omega⟩)
      · exact (hT _ _).2 (.inr ⟨i, j, h1⟩)
    have hNd : ∀ i y, xs[i]? = some y → Nd w F y.cells B (o + i * es) (Tf i) := by
      intro i y hy
      have hi := (List.getElem?_eq_some_iff.1 hy).1
      have hyl := hlen i y hy
      have hr2 := hrange i hi
      refine ⟨u i, S i, (hb (by omega)).sub (by omega) (by omega), fun j c hj => hc i y j c hy hj, fun j c hj => hr i y j c hy hj, fun j j' b a h1 h2 => (hd _ _ _ _ _ _ h1 h2).2, ?_, ?_, ?_⟩
      · intro j a hs hh
        exact ho i j a hs (by omega)
      · intro j b a hs
        rw [hyl]; exact (hS i j b a hs).2
      · intro b a; rw [hyl]
    have hdis : ∀ i i2, i2 ≠ i → i2 < xs.length → i < xs.length → ∀ b a, Tf i2 b a → ¬ Tf i b a := by
      rintro i i2 hne hi2 hi b a (⟨rfl, h1, h2⟩ | ⟨j, h1⟩) (⟨h5, h3, h4⟩ | ⟨j', h3⟩)
      · apply hne
        exact off_eq (i := i2) (i' := i) (j := a - (o + i2 * es)) (j' := a - (o + i * es)) (es := es) (by omega) (by omega) (by omega)
      · have := hrange i2 hi2
        exact ho i j' a h3 (by omega)
      · subst h5
        have := hrange i hi
        exact ho i2 j a h1 (by omega)
      · exact hne (hd _ _ _ _ _ _ h1 h3).1
    refine ⟨B, o + i * es, Tf i, rfl, hNd i y hy, hTf i hi, ?_, ?_⟩
    · intro i2 y2 hne hy2
      simp only [AV.elem] at hy2
      have hi2 := (List.getElem?_eq_some_iff.1 hy2).1
      exact ⟨B, o + i2 * es, Tf i2, rfl, hNd i2 y2 hy2, fun b a hh => ⟨hTf i2 hi2 b a hh, hdis i i2 hne hi2 hi b a hh⟩⟩
    · intro w' F' y' T'' hl hn k hx
      simp only [AV.setElem]
      obtain ⟨u', S', k1, k2, k3, k4, k5, k6, k7⟩ := hn
      rw [hl, hyl] at k1 k5 k6 k7
      have hTr : ∀ i' j, i' ≠ i → i' < xs.length → j < es → T B (o + i' * es + j) ∧ ¬ Tf i B (o + i' * es + j) := by
        intro i' j hne hi' hj
        have h1 : Tf i' B (o + i' * es + j) := .inl ⟨rfl, by omega, by omega⟩
        exact ⟨hTf i' hi' _ _ h1, hdis i i' hne hi' hi _ _ h1⟩
      have hS2 : ∀ i' j b a, i' ≠ i → S i' j b a → T b a ∧ ¬ Tf i b a := by
        intro i' j b a hne hs
        exact ⟨(hT b a).2 (.inr ⟨i', j, hs⟩), hdis i i' hne (hS _ _ _ _ hs).1 hi b a (.inr ⟨j, hs⟩)⟩
      have hlenset : (xs.set i y').length = xs.length := List.length_set
      rw [← hlenset]
      refine .own (fun i' j => if i' = i then u' j else u i' j) (fun i' j => if i' = i then S' j else S i' j) hes (by rw [hlenset]; exact hcap) ?_ ?_ ?_ ?_ ?_ ?_ ?_ ?_
      · -- the block
        intro hc0
        by_cases hcap1 : cap = 1
        · subst hcap1
          have : i = 0 := by omega
          subst this
          rw [Nat.one_mul]
          simpa using k1
        · refine k.blk (hb hc0) fun _ => ?_
          by_cases hi0 : i = 0
          · subst hi0
            refine ⟨o + es, by omega, ?_, (hT _ _).2 (.inl ⟨rfl, by omega, ?_⟩), ?_⟩
            · have := Nat.mul_le_mul_right es (show 2 ≤ cap by omega); omega
            · have := Nat.mul_le_mul_right es (show 2 ≤ cap by omega); omega
            · rintro (⟨_, h1, h2⟩ | ⟨j, h1⟩)
              · omega
              · refine ho 0 j _ h1 ?_
                have := Nat.mul_le_mul_right es (show 2 ≤ cap by omega); omega
          · have := hrange i hi
            have h2 := Nat.mul_le_mul_right es (show 1 ≤ i by omega)
            refine ⟨o, Nat.le_refl _, by omega, (hT _ _).2 (.inl ⟨rfl, by omega, by omega⟩), ?_⟩
            rintro (⟨_, h1, _⟩ | ⟨j, h1⟩)
            · omega
            · exact ho i j _ h1 (by omega)
      · intro i' x hx'
        by_cases hi' : i' = i
        · subst hi'
          rw [List.getElem?_set_self hi] at hx'
          simp only [Option.some.injEq] at hx'
          subst hx'
          rw [hl, hyl]
        · rw [List.getElem?_set_ne (Ne.symm hi')] at hx'
          exact hlen i' x hx'
      · intro i' x j c' hx' hj
        by_cases hi' : i' = i
        · subst hi'
          rw [List.getElem?_set_self hi] at hx'
          simp only [Option.some.injEq] at hx'
          subst hx'
          simp only [if_true]
          exact k2 j c' hj
        · rw [List.getElem?_set_ne (Ne.symm hi')] at hx'
          simp only [hi', if_false]
          have hjl := (List.getElem?_eq_some_iff.1 hj).1
          rw [hlen i' x hx'] at hjl
          exact k.cell (hc i' x j c' hx' hj) (.inl (hTr i' j hi' (List.getElem?_eq_some_iff.1 hx').1 hjl))
      · intro i' x j c' hx' hj
        by_cases hi' : i' = i
        · subst hi'
          rw [List.getElem?_set_self hi] at hx'
          simp only [Option.some.injEq] at hx'
          subst hx'
          simp only [if_true]
          exact k3 j c' hj
        · rw [List.getElem?_set_ne (Ne.symm hi')] at hx'
          simp only [hi', if_false]
          exact (hr i' x j c' hx' hj).keep (k.mono fun b a hs => hS2 i' j b a hi' hs)
      · intro i1 j1 i2 j2 b a h1 h2
        by_cases e1 : i1 = i <;> by_cases e2 : i2 = i <;> simp only [e1, e2, if_true, if_false] at h1 h2
        · exact ⟨by rw [e1, e2], k4 _ _ _ _ h1 h2⟩
        · exact absurd (hx b a ((k7 b a).2 (.inr ⟨j1, h1⟩)) (hS2 _ _ _ _ e2 h2).1) (hS2 _ _ _ _ e2 h2).2
        · exact absurd (hx b a ((k7 b a).2 (.inr ⟨j2, h2⟩)) (hS2 _ _ _ _ e1 h1).1) (hS2 _ _ _ _ e1 h1).2
        · exact hd _ _ _ _ _ _ h1 h2
      · intro i' j a hs hh
        by_cases e1 : i' = i <;> simp only [e1, if_true, if_false] at hs
        · have h1 := hx B a ((k7 B a).2 (.inr ⟨j, hs⟩)) ((hT B a).2 (.inl ⟨rfl, hh⟩))
          rcases h1 with ⟨_, h2⟩ | ⟨j', h2⟩
          · exact k5 j a hs h2
          · exact ho i j' a h2 hh
        · exact ho i' j a hs hh
      · intro i' j b a hs
        rw [hlenset]
        by_cases e1 : i' = i <;> simp only [e1, if_true, if_false] at hs
        · exact ⟨by rw [e1]; exact hi, k6 j b a hs⟩
        · exact hS _ _ _ _ hs
      · intro b a
        constructor
        · rintro (⟨h1, h2⟩ | h1)
          · rcases (hT b a).1 h1 with h3 | ⟨i', j, h3⟩
            · exact .inl h3
            · refine .inr ⟨i', j, ?_⟩
              have : i' ≠ i := fun e => h2 (.inr ⟨j, e ▸ h3⟩)
              simp only [this, if_false]; exact h3
          · rcases (k7 b a).1 h1 with ⟨rfl, h2, h3⟩ | ⟨j, h2⟩
            · have := hrange i hi
              exact .inl ⟨rfl, by omega, by omega⟩
            · exact .inr ⟨i, j, by simp only [if_true]; exact h2⟩
        · rintro (h1 | ⟨i', j, h1⟩)
          · by_cases h2 : Tf i b a
            · rcases h2 with h2 | ⟨j, h2⟩
              · exact .inr ((k7 b a).2 (.inl h2))
              · obtain ⟨rfl, h3⟩ := h1
                exact absurd h3 (ho i j a h2)
            · exact .inl ⟨(hT b a).2 (.inl h1), h2⟩
          · by_cases e1 : i' = i <;> simp only [e1, if_true, if_false] at h1
            · exact .inr ((k7 b a).2 (.inr ⟨j, h1⟩))
            · exact .inl (hS2 _ _ _ _ e1 h1)
  all_goals simp at hy
/-- Where a path leads to, from a cell on. -/
def ploc (w : World) (c : AV) (u : Value) (i : Nat) : List Hop → Option (Nat × Nat)
  | [] => hopLoc c u i
  | (j, i') :: p => (hopLoc c u i).bind fun l => (c.elem i).bind fun y => (y.cells[j]?).bind fun c' => (w.cell? ⟨l.1, l.2 + j, none⟩).bind fun u' => ploc w c' u' i' p
theorem ploc_keep {w : World} {F : Fp} {w' : World} {F' : Fp} : ∀ (q : List Hop) (c : AV) (u : Value) (T : Fp) (i : Nat), Rep w F c u T → Kp w F w' F' T → ploc w' c u i q = ploc w c u i q
  | [], _, _, _, _, _, _ => rfl
  | (j, i') :: p, c, u, T, i, h, k => by
    simp only [ploc]
    cases hy : c.elem i with
    | none => simp
    | some y =>
      obtain ⟨B, o, Tz, h1, h2, h3, _, _⟩ := elem_lens h hy
      rw [h1]
      simp only [Option.bind_some]
      cases hc : y.cells[j]? with
      | none => rfl
      | some c' =>
        obtain ⟨u', S, k1, k2, k3, k4, _, _, _⟩ := cell_lens h2 hc
        simp only [Option.bind_some]
        rw [k1, k.cell k1 (.inl (h3 _ _ k4))]
        exact ploc_keep p c' u' S i' k2 (k.mono fun b a hs => h3 _ _ (k3 _ _ hs).1)
def AV.csub (c : AV) (i : Nat) (path : List Hop) : Option AV := (c.elem i).bind fun y => y.sub path
def AV.cset (c : AV) (i : Nat) (path : List Hop) (z : AV) : AV :=
  match c.elem i with
  | some y => c.setElem i (y.setSub path z)
  | none => c
theorem AV.csub_cons (c : AV) (i j i' : Nat) (p : List Hop) : c.csub i ((j, i') :: p) = (c.elem i).bind fun y => (y.cells[j]?).bind fun c' => c'.csub i' p := rfl
/-- A cell that is what it was, or has another element. -/
def Sk (c c' : AV) : Prop := c' = c ∨ ∃ i y y', c.elem i = some y ∧ y'.cells.length = y.cells.length ∧ c' = c.setElem i y'
def AV.ccell (c : AV) (i : Nat) (q : List Hop) (j : Nat) : Option AV := (c.csub i q).bind fun y => y.cells[j]?
theorem ccell_loc {w : World} {F : Fp} : ∀ (q : List Hop) (c : AV) (u : Value) (T : Fp) (i j : Nat) (cx : AV), Rep w F c u T → c.ccell i q j = some cx →
    ∃ B o u' S, ploc w c u i q = some (B, o) ∧ w.cell? ⟨B, o + j, none⟩ = some u' ∧ T B (o + j) ∧ Rep w F cx u' S ∧ ∀ b a, S b a → T b a
  | [], c, u, T, i, j, cx, h, hc => by
    cases hy : c.elem i with
    | none => simp [AV.ccell, AV.csub, hy] at hc
    | some y =>
      simp only [AV.ccell, AV.csub, hy, Option.bind_some, AV.sub] at hc
      obtain ⟨B, o, Tz, h1, h2, h3, _, _⟩ := elem_lens h hy
      obtain ⟨u1, S1, g1, g2, g3, g4, _⟩ := cell_lens h2 hc
      exact ⟨B, o, u1, S1, h1, g1, h3 _ _ g4, g2, fun b a hs => h3 _ _ (g3 _ _ hs).1⟩
  | (j', i') :: p, c, u, T, i, j, cx, h, hc => by
    cases hy : c.elem i with
    | none => simp [AV.ccell, AV.csub, hy] at hc
    | some y =>
      rw [AV.ccell, AV.csub_cons, hy, Option.bind_some] at hc
      cases hc1 : y.cells[j']? with
      | none => simp [hc1] at hc
      | some c1 =>
        rw [hc1, Option.bind_some] at hc
        obtain ⟨B, o, Tz, h1, h2, h3, _, _⟩ := elem_lens h hy
        obtain ⟨u1, S1, g1, g2, g3, g4, _⟩ := cell_lens h2 hc1
        obtain ⟨B', o', u', S, k1, k2, k3, k4, k5⟩ := ccell_loc p c1 u1 S1 i' j cx g2 hc
        refine ⟨B', o', u', S, ?_, k2, h3 _ _ (g3 _ _ k3).1, k4, fun b a hs => h3 _ _ (g3 _ _ (k5 _ _ hs)).1⟩
        simp only [ploc, h1, hy, hc1, g1, Option.bind_some, k1]
theorem path_lens {w : World} {F : Fp} : ∀ (path : List Hop) (c : AV) (u : Value) (T : Fp) (i : Nat) (z : AV), Rep w F c u T → c.csub i path = some z →
    ∃ B o Tz, ploc w c u i path = some (B, o) ∧ Nd w F z.cells B o Tz ∧ (∀ b a, Tz b a → T b a) ∧
      ∀ w' F' z' T'', z'.cells.length = z.cells.length → Nd w' F' z'.cells B o T'' → Kp w F w' F' (fun b a => T b a ∧ ¬ Tz b a) → (∀ b a, T'' b a → T b a → Tz b a) →
        Rep w' F' (c.cset i path z') u (fun b a => (T b a ∧ ¬ Tz b a) ∨ T'' b a) ∧ (∀ i2 (q : List Hop), q.length ≤ path.length → ploc w' (c.cset i path z') u i2 q = ploc w c u i2 q) ∧
          ∀ i2 (q : List Hop) j cx, q.length ≤ path.length → c.ccell i2 q j = some cx → (i2 = i ∧ q = path) ∨ ∃ B' o' cx', ploc w c u i2 q = some (B', o') ∧ w'.cell? ⟨B', o' + j, none⟩ = w.cell? ⟨B', o' + j, none⟩ ∧ (c.cset i path z').ccell i2 q j = some cx' ∧ Sk cx cx'
  | [], c, u, T, i, z, h, hz => by
    cases hy : c.elem i with
    | none => simp [AV.csub, hy] at hz
    | some y =>
      simp only [AV.csub, hy, Option.bind_some, AV.sub, Option.some.injEq] at hz
      subst hz
      obtain ⟨B, o, Tz, h1, h2, h3, h4, h5⟩ := elem_lens h hy
      refine ⟨B, o, Tz, h1, h2, h3, ?_⟩
      intro w' F' z' T'' hl hn k hx
      simp only [AV.cset, hy, AV.setSub]
      refine ⟨h5 w' F' z' T'' hl hn k hx, ?_, ?_⟩
      · intro i2 q hq
        have : q = [] := List.eq_nil_of_length_eq_zero (by simpa using hq)
        subst this
        exact hopLoc_setElem _ _ _ _ _
      · intro i2 q j cx hq hcx
        have : q = [] := List.eq_nil_of_length_eq_zero (by simpa using hq)
        subst this
        by_cases hi : i2 = i
        · exact .inl ⟨hi, rfl⟩
        · right
          cases hy2 : c.elem i2 with
          | none => simp [AV.ccell, AV.csub, hy2] at hcx
          | some y2 =>
            obtain ⟨B2, o2, T2, e1, e2, e3⟩ := h4 i2 y2 hi hy2
            simp only [AV.ccell, AV.csub, hy2, Option.bind_some, AV.sub] at hcx
            obtain ⟨uq, Sq, v1, v2, v3, v4, _⟩ := cell_lens e2 hcx
            refine ⟨B2, o2, cx, e1, ?_, ?_, .inl rfl⟩
            · rw [v1, k.cell v1 (.inl (e3 _ _ v4))]
            · simp only [AV.ccell, AV.csub, AV.elem_setElem hy, hi, if_false, hy2, Option.bind_some, AV.sub, hcx]
  | (j, i') :: p, c, u, T, i, z, h, hz => by
    cases hy : c.elem i with
    | none => simp [AV.csub, hy] at hz
    | some y =>
      rw [AV.csub_cons, hy, Option.bind_some] at hz
      cases hc : y.cells[j]? with
      | none => simp [hc] at hz
      | some c1 =>
        rw [hc, Option.bind_some] at hz
        obtain ⟨B1, o1, T1, h1, h2, h3, h4, h5⟩ := elem_lens h hy
        obtain ⟨u1, S1, g1, g2, g3, g4, g5, g6, g7⟩ := cell_lens h2 hc
        obtain ⟨B, o, Tz, k1, k2, k3, k4⟩ := path_lens p c1 u1 S1 i' z g2 hz
        refine ⟨B, o, Tz, ?_, k2, fun b a hh => h3 _ _ (g3 _ _ (k3 _ _ hh)).1, ?_⟩
        · simp only [ploc, h1, hy, hc, Option.bind_some, g1, k1]
        intro w' F' z' T'' hl hn k hx
        have kS1 : ∀ b a, S1 b a → T b a := fun b a hs => h3 _ _ (g3 _ _ hs).1
        obtain ⟨r1, r2, r2b⟩ := k4 w' F' z' T'' hl hn (k.mono fun b a ⟨x1, x2⟩ => ⟨kS1 _ _ x1, x2⟩) (fun b a x1 x2 => hx b a x1 (kS1 _ _ x2))
        have hne : ¬ Tz B1 (o1 + j) := fun hh => (g3 _ _ (k3 _ _ hh)).2 ⟨rfl, by omega, by have := (List.getElem?_eq_some_iff.1 hc).1; omega⟩
        have hcell : w'.cell? ⟨B1, o1 + j, none⟩ = some u1 := k.cell g1 (.inl ⟨h3 _ _ g4, hne⟩)
        have hlt := (List.getElem?_eq_some_iff.1 hc).1
        have hB : Blk w' B1 o1 (o1 + y.cells.length) := k.blk g5 fun _ => ⟨o1 + j, by omega, by omega, h3 _ _ g4, hne⟩
        have hone : (c1.cset i' p z').one = true := r1.avone
        have r3 := g7 w' F' (c1.cset i' p z') u1 _ r1 hcell hB (k.mono fun b a ⟨x1, x2, x3⟩ => ⟨h3 _ _ x1, fun hh => x2 (k3 _ _ hh)⟩)
          (fun b a x1 x2 => by
            rcases x1 with x1 | x1
            · exact x1.1
            · exact k3 _ _ (hx b a x1 (h3 _ _ x2)))
        have hset : c.cset i ((j, i') :: p) z' = c.setElem i (y.setCell j (c1.cset i' p z')) := by
          have hcz : ∃ y1, c1.elem i' = some y1 := by
            cases he : c1.elem i' with
            | none => simp [AV.csub, he] at hz
            | some y1 => exact ⟨y1, rfl⟩
          obtain ⟨y1, hy1⟩ := hcz
          simp only [AV.cset, hy, AV.setSub, hc, hy1]
        rw [hset]
        have hcs : (y.setCell j (c1.cset i' p z')).cells = y.cells.set j (c1.cset i' p z') := AV.cells_setCell _ _ _ hone
        refine ⟨?_, ?_⟩
        · refine (h5 w' F' (y.setCell j (c1.cset i' p z')) _ (by rw [hcs, List.length_set]) (by rw [hcs]; exact r3) (k.mono fun b a ⟨x1, x2⟩ => ⟨x1, fun hh => x2 (g3 _ _ (k3 _ _ hh)).1⟩) ?_).congr ?_
          · intro b a x1 x2
            rcases x1 with x1 | x1 | x1
            · exact x1.1
            · exact (g3 _ _ x1.1).1
            · exact (g3 _ _ (k3 _ _ (hx b a x1 x2))).1
          · intro b a
            constructor
            · rintro (⟨x1, x2⟩ | ⟨x1, x2⟩ | ⟨x1, x2⟩ | x1)
              · exact .inl ⟨x1, fun hh => x2 (g3 _ _ (k3 _ _ hh)).1⟩
              · exact .inl ⟨h3 _ _ x1, fun hh => x2 (k3 _ _ hh)⟩
              · exact .inl ⟨kS1 _ _ x1, x2⟩
              · exact .inr x1
            · rintro (⟨x1, x2⟩ | x1)
              · by_cases y1 : T1 b a
                · by_cases y2 : S1 b a
                  · exact .inr (.inr (.inl ⟨y2, x2⟩))
                  · exact .inr (.inl ⟨y1, y2⟩)
                · exact .inl ⟨x1, y1⟩
              · exact .inr (.inr (.inr x1))
        · refine ⟨?_, ?_⟩
          rotate_left
          · intro i2 q jx cx hq hcx
            by_cases hi : i2 = i
            · subst hi
              cases q with
              | nil =>
                right
                simp only [AV.ccell, AV.csub, hy, Option.bind_some, AV.sub] at hcx
                by_cases hjx : jx = j
                · subst hjx
                  obtain rfl : c1 = cx := by rw [hc] at hcx; exact Option.some.inj hcx
                  refine ⟨B1, o1, c1.cset i' p z', h1, by rw [hcell, g1], ?_, ?_⟩
                  · simp only [AV.ccell, AV.csub, AV.elem_setElem hy, if_true, Option.bind_some, AV.sub, hcs, List.getElem?_set_self hlt]
                  · obtain ⟨y1, hy1⟩ : ∃ y1, c1.elem i' = some y1 := by
                      cases he : c1.elem i' with
                      | none => simp [AV.csub, he] at hz
                      | some y1 => exact ⟨y1, rfl⟩
                    simp only [AV.csub, hy1, Option.bind_some] at hz
                    exact .inr ⟨i', y1, y1.setSub p z', hy1, AV.setSub_cells_length _ _ _ _ hz hl, by simp only [AV.cset, hy1]⟩
                · obtain ⟨uq, Sq, v1, v2, v3, v4, v5⟩ := g6 jx cx hjx hcx
                  refine ⟨B1, o1, cx, h1, ?_, ?_, .inl rfl⟩
                  · rw [v1, k.cell v1 (.inl ⟨h3 _ _ v4, fun hh => v5 (k3 _ _ hh)⟩)]
                  · simp only [AV.ccell, AV.csub, AV.elem_setElem hy, if_true, Option.bind_some, AV.sub, hcs, List.getElem?_set_ne (Ne.symm hjx), hcx]
              | cons a q =>
                obtain ⟨jq, iq⟩ := a
                rw [AV.ccell, AV.csub_cons, hy, Option.bind_some] at hcx
                by_cases hjq : jq = j
                · subst hjq
                  rw [hc, Option.bind_some] at hcx
                  rcases r2b iq q jx cx (by simpa using hq) hcx with ⟨rfl, rfl⟩ | ⟨B', o', cx', e1, e2, e3, e4⟩
                  · exact .inl ⟨rfl, rfl⟩
                  · refine .inr ⟨B', o', cx', ?_, e2, ?_, e4⟩
                    · simp only [ploc, h1, hy, hc, g1, Option.bind_some, e1]
                    · rw [AV.ccell, AV.csub_cons, AV.elem_setElem hy]
                      simp only [if_true, Option.bind_some, hcs, List.getElem?_set_self hlt]
                      exact e3
                · right
                  cases hcq : y.cells[jq]? with
                  | none => simp [hcq] at hcx
                  | some cq =>
                    rw [hcq, Option.bind_some] at hcx
                    obtain ⟨uq, Sq, v1, v2, v3, v4, v5⟩ := g6 jq cq hjq hcq
                    obtain ⟨B', o', ux, Sx, d1, d2, d3, _, _⟩ := ccell_loc q cq uq Sq iq jx cx v2 hcx
                    refine ⟨B', o', cx, ?_, ?_, ?_, .inl rfl⟩
                    · simp only [ploc, h1, hy, hcq, v1, Option.bind_some, d1]
                    · rw [d2, k.cell d2 (.inl ⟨h3 _ _ (v3 _ _ d3).1, fun hh => (v3 _ _ d3).2.1 (k3 _ _ hh)⟩)]
                    · rw [AV.ccell, AV.csub_cons, AV.elem_setElem hy]
                      simp only [if_true, Option.bind_some, hcs, List.getElem?_set_ne (Ne.symm hjq), hcq]
                      exact hcx
            · right
              cases hy2 : c.elem i2 with
              | none => simp [AV.ccell, AV.csub, hy2] at hcx
              | some y2 =>
                obtain ⟨B2, o2, T2, e1, e2, e3⟩ := h4 i2 y2 hi hy2
                have e4 : ∀ b a, T2 b a → T b a ∧ ¬ Tz b a := fun b a hh => ⟨(e3 _ _ hh).1, fun hh2 => (e3 _ _ hh).2 (g3 _ _ (k3 _ _ hh2)).1⟩
                have hsame : (c.setElem i (y.setCell j (c1.cset i' p z'))).ccell i2 q jx = c.ccell i2 q jx := by
                  simp only [AV.ccell, AV.csub, AV.elem_setElem hy, hi, if_false, hy2]
                cases q with
                | nil =>
                  have hcx' := hcx
                  simp only [AV.ccell, AV.csub, hy2, Option.bind_some, AV.sub] at hcx'
                  obtain ⟨uq, Sq, v1, v2, v3, v4, _⟩ := cell_lens e2 hcx'
                  refine ⟨B2, o2, cx, e1, ?_, by rw [hsame]; exact hcx, .inl rfl⟩
                  rw [v1, k.cell v1 (.inl (e4 _ _ v4))]
                | cons a q =>
                  obtain ⟨jq, iq⟩ := a
                  have hcx' := hcx
                  rw [AV.ccell, AV.csub_cons, hy2, Option.bind_some] at hcx'
                  cases hcq : y2.cells[jq]? with
                  | none => simp [hcq] at hcx'
                  | some cq =>
                    rw [hcq, Option.bind_some] at hcx'
                    obtain ⟨uq, Sq, v1, v2, v3, v4, _, _⟩ := cell_lens e2 hcq
                    obtain ⟨B', o', ux, Sx, d1, d2, d3, _, _⟩ := ccell_loc q cq uq Sq iq jx cx v2 hcx'
                    refine ⟨B', o', cx, ?_, ?_, by rw [hsame]; exact hcx, .inl rfl⟩
                    · simp only [ploc, e1, hy2, hcq, v1, Option.bind_some, d1]
                    · rw [d2, k.cell d2 (.inl (e4 _ _ (v3 _ _ d3).1))]
          intro i2 q hq
          cases q with
          | nil => exact hopLoc_setElem _ _ _ _ _
          | cons a q =>
            obtain ⟨jq, iq⟩ := a
            simp only [ploc, hopLoc_setElem, AV.elem_setElem hy]
            by_cases hi : i2 = i
            · subst hi
              simp only [if_true, hy, h1, Option.bind_some, hcs]
              by_cases hjq : jq = j
              · subst hjq
                rw [List.getElem?_set_self hlt, hc]
                simp only [Option.bind_some, hcell, g1]
                exact r2 iq q (by simpa using hq)
              · rw [List.getElem?_set_ne (Ne.symm hjq)]
                cases hcq : y.cells[jq]? with
                | none => rfl
                | some cq =>
                  obtain ⟨uq, Sq, v1, v2, v3, v4, v5⟩ := g6 jq cq hjq hcq
                  simp only [Option.bind_some]
                  rw [v1, k.cell v1 (.inl ⟨h3 _ _ v4, fun hh => v5 (k3 _ _ hh)⟩)]
                  exact ploc_keep q cq uq Sq iq v2 (k.mono fun b a hs => ⟨h3 _ _ (v3 _ _ hs).1, fun hh => (v3 _ _ hs).2.1 (k3 _ _ hh)⟩)
            · simp only [hi, if_false]
              cases hy2 : c.elem i2 with
              | none => simp
              | some y2 =>
                obtain ⟨B2, o2, T2, e1, e2, e3⟩ := h4 i2 y2 hi hy2
                simp only [e1, Option.bind_some]
                cases hcq : y2.cells[jq]? with
                | none => rfl
                | some cq =>
                  obtain ⟨uq, Sq, v1, v2, v3, v4, _, _⟩ := cell_lens e2 hcq
                  simp only [Option.bind_some]
                  have e4 : ∀ b a, T2 b a → T b a ∧ ¬ Tz b a := fun b a hh => ⟨(e3 _ _ hh).1, fun hh2 => (e3 _ _ hh).2 (g3 _ _ (k3 _ _ hh2)).1⟩
                  rw [v1, k.cell v1 (.inl (e4 _ _ v4))]
                  exact ploc_keep q cq uq Sq iq v2 (k.mono fun b a hs => e4 _ _ (v3 _ _ hs).1)
end Go.Proofs.YthlehngbadianaaDoor.Ow
