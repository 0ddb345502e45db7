/- The entry: what comes in is read; it is frozen. -/
import Derived.Test.YthlehngbadianaaDoorOwEvEv3
import Derived.ChangeArms
import Derived.WideShapes
set_option linter.unusedVariables false
set_option linter.unusedSimpArgs false
set_option linter.unnecessarySimpa false
namespace Go.Proofs.YthlehngbadianaaDoor.Ow
open Go Go.RowKit
theorem mapM_range_get {α : Type} {g : Nat → Option α} {n : Nat} {l : List α} (h : (List.range n).mapM g = some l) : l.length = n ∧ ∀ i, i < n → g i = l[i]? := by
  have h1 := mapM_some_length h
  refine ⟨by simpa using h1, fun i hi => ?_⟩
  exact mapM_some_get h i i (by simp [hi])
/-- A slice that comes in: nil, or elements in memory. -/
theorem slice_in {H : Type} {enc : TypeId × Value → H} {P : Program} {w : World} {base : Nat} {t e : TypeId} {es m : Nat} {v : Value} {x : DataW H × List MemPlace} (ht : P.underlying t = some (.slice e)) (hc : P.cellsOf e = es)
    (hv : Cell.okWide P w .any base t v) (hf : DataW.trod enc P w 0 (fun _ => true) true m t [v] = some x) (T : List Value → Prop) (hT : ∀ n cs y, DataW.trod enc P w 0 (fun _ => true) true n e cs = some y → T cs) :
    v = .slice none 0 0 ∨ ∃ (B o cap : Nat) (css : List (List Value)), v = .slice (some ⟨B, o, none⟩) css.length cap ∧ css.length ≤ cap ∧ cap ≤ maxLen ∧ (∀ cs ∈ css, cs.length = es ∧ T cs) ∧
      (∀ (i : Nat) (cs : List Value), css[i]? = some cs → ∀ (j : Nat) (u : Value), cs[j]? = some u → w.cell? ⟨B, o + i * es + j, none⟩ = some u) := by
  rcases DataW.trod_slice ht hf with ⟨h0, _⟩ | ⟨ad, len, cap, elems, rest, n, _, hcs, _, hb, hl, hm, hlen, hel, hsp, _⟩
  · left
    simpa using h0
  right
  simp only [List.cons.injEq, and_true] at hcs
  subst hcs
  simp only [Cell.okWide, ht, Cell.ok] at hv
  obtain ⟨_, _, _, hspot, row, cells, hshape, hlies⟩ := hv
  obtain ⟨B, o, sp⟩ := ad
  simp only at hspot
  subst hspot
  have each : ∀ i, i < len → ∃ cs y, w.cells? 0 (Addr.add ⟨B, o, none⟩ (i * es)) es = some cs ∧ DataW.trod enc P w 0 (fun _ => true) true n e cs = some y := by
    intro i hi
    rw [hc] at hel
    have h1 := hel i hi
    rw [List.getElem?_eq_getElem (by omega)] at h1
    obtain ⟨cs, h2, h3⟩ := Option.bind_eq_some_iff.1 h1
    exact ⟨cs, _, h2, h3⟩
  have cellsAt : ∀ i cs, w.cells? 0 (Addr.add ⟨B, o, none⟩ (i * es)) es = some cs → cs.length = es ∧ ∀ (j : Nat) (u : Value), cs[j]? = some u → w.cell? ⟨B, o + i * es + j, none⟩ = some u := by
    intro i cs h
    unfold World.cells? at h
    rw [if_pos (Nat.zero_le _)] at h
    obtain ⟨h1, h2⟩ := mapM_range_get h
    refine ⟨h1, fun j u hj => ?_⟩
    have := h2 j (by rw [← h1]; exact (List.getElem?_eq_some_iff.1 hj).1)
    rw [hj] at this
    rw [add_plain', add_plain'] at this
    exact this
  have hcss : ∃ css : List (List Value), css.length = len ∧ ∀ i cs, css[i]? = some cs → cs.length = es ∧ T cs ∧ ∀ (j : Nat) (u : Value), cs[j]? = some u → w.cell? ⟨B, o + i * es + j, none⟩ = some u := by
    have key : ∀ m, m ≤ len → ∃ css : List (List Value), css.length = m ∧ ∀ i cs, css[i]? = some cs → cs.length = es ∧ T cs ∧ ∀ (j : Nat) (u : Value), cs[j]? = some u → w.cell? ⟨B, o + i * es + j, none⟩ = some u := by
      intro m
      induction m with
      | zero => intro _; exact ⟨[], rfl, by simp⟩
      | succ m ih =>
        intro hm
        obtain ⟨css, h1, h2⟩ := ih (by omega)
        obtain ⟨cs, y, h3, h4⟩ := each m (by omega)
        obtain ⟨h5, h6⟩ := cellsAt m cs h3
        refine ⟨css ++ [cs], by simp [h1], ?_⟩
        intro i cs' hi
        by_cases hlt : i < css.length
        · rw [List.getElem?_append_left hlt] at hi; exact h2 i cs' hi
        · rw [List.getElem?_append_right (by omega)] at hi
          have : i = m := by
            have := (List.getElem?_eq_some_iff.1 hi).1
            simp at this; omega
          subst this
          simp [h1] at hi
          subst hi
          exact ⟨h5, hT _ _ _ h4, h6⟩
    exact key len (Nat.le_refl _)
  obtain ⟨css, hcl, hce⟩ := hcss
  subst hcl
  refine ⟨B, o, cap, css, rfl, hl, hm, ?_, ?_⟩
  · intro cs hcs
    obtain ⟨i, hi⟩ := List.getElem?_of_mem hcs
    exact ⟨(hce i cs hi).1, (hce i cs hi).2.1⟩
  · intro i cs hi j u hj
    exact (hce i cs hi).2.2 j u hj
/-- Elements of plain cells, frozen. -/
theorem lst_in {w : World} {F : Fp} {es B o cap : Nat} {css : List (List Value)} {xs : List AV} (hes : 0 < es) (hF : ∀ b a, ¬ F b a) (hl : xs.length = css.length) (hcap : css.length ≤ cap)
    (hx : ∀ (i : Nat) x cs, xs[i]? = some x → css[i]? = some cs → x.cells = cs.map .v ∧ cs.length = es ∧ ∀ v ∈ cs, v.oneCell' = true)
    (hc : ∀ (i : Nat) (cs : List Value), css[i]? = some cs → ∀ (j : Nat) (u : Value), cs[j]? = some u → w.cell? ⟨B, o + i * es + j, none⟩ = some u) :
    Rep w F (.lst es xs) (.slice (some ⟨B, o, none⟩) css.length cap) E0 := by
  rw [← hl]
  have hget : ∀ (i : Nat) x, xs[i]? = some x → ∃ cs, css[i]? = some cs := by
    intro i x hi
    have : i < css.length := by rw [← hl]; exact (List.getElem?_eq_some_iff.1 hi).1
    exact ⟨_, List.getElem?_eq_getElem this⟩
  have hcell : ∀ (i : Nat) x (j : Nat) c, xs[i]? = some x → x.cells[j]? = some c → ∃ u, c = .v u ∧ u.oneCell' = true ∧ w.cell? ⟨B, o + i * es + j, none⟩ = some u := by
    intro i x j c hi hj
    obtain ⟨cs, hcs⟩ := hget i x hi
    obtain ⟨h1, h2, h3⟩ := hx i x cs hi hcs
    rw [h1, List.getElem?_map, Option.map_eq_some_iff] at hj
    obtain ⟨u, hu, rfl⟩ := hj
    exact ⟨u, rfl, h3 u (List.mem_of_getElem? hu), hc i cs hcs j u hu⟩
  refine .lst (fun i j => (w.cell? ⟨B, o + i * es + j, none⟩).getD undef) hes (by omega) ?_ ?_ (fun _ _ _ _ => hF _ _) ?_ (fun _ _ h => h)
  · intro i x hi
    obtain ⟨cs, hcs⟩ := hget i x hi
    obtain ⟨h1, h2, _⟩ := hx i x cs hi hcs
    rw [h1, List.length_map, h2]
  · intro i x j c hi hj
    obtain ⟨u, _, _, h3⟩ := hcell i x j c hi hj
    simp only [h3, Option.getD_some]
  · intro i x j c hi hj
    obtain ⟨u, rfl, h2, h3⟩ := hcell i x j c hi hj
    simp only [h3, Option.getD_some]
    exact .v h2 fun _ _ h => h
/-- A call from nothing: nothing is owned. -/
theorem entry_below {P : Program} {f : FuncId} {args : List AV} {vals : Array Value} {W : World} {x : Value} (hl : vals.size = args.length) (hv : ∀ (i : Nat) y, args[i]? = some y → ∃ u, vals[i]? = some u ∧ ∀ env rt, SV W E0 env rt y u)
    (h : ∀ {Q : AV → Al → Prop}, Q (.v x) [] → ACalls P f [] args Q) : Calls P f vals W fun e W' => e = .returned x ∧ Below W.heap.size W W' := by
  have hc := h (Q := fun r _ => r = .v x) rfl
  let I : World → Fp → Value → Fp → Prop := fun _ _ _ _ => True
  have hget : ∀ r y, (lentTo [] I).get r = some y → r = HID ∧ y = .ext I := by
    intro r y hy
    simp only [lentTo, List.nil_append, Al.get] at hy
    split at hy
    · rename_i e; exact ⟨e.symm, (Option.some.inj hy).symm⟩
    · simp at hy
  have hok : OkX W E0 E0 (fun _ => .val (.bool false)) (lentTo [] I) := by
    refine ⟨⟨fun _ => E0, ⟨?_, ?_, fun _ _ _ _ _ h => h, fun _ _ h => h.elim⟩, fun _ _ _ _ _ h _ => h⟩, fun _ _ h => h, ?_⟩
    · intro r y hy
      obtain ⟨rfl, rfl⟩ := hget r y hy
      exact ⟨rfl, .ext rfl fun _ _ _ => trivial⟩
    · intro r r' y y' b a _ _ h1
      exact h1.elim
    · intro r y hy
      obtain ⟨rfl, rfl⟩ := hget r y hy
      exact ⟨fun h => by simp [HID, VB] at h, fun _ => ⟨_, rfl⟩⟩
  refine (hc I W E0 (fun _ => .val (.bool false)) vals hok hl ?_ (fun e he => by simp at he)).mono ?_
  · intro i y hy
    obtain ⟨u, h1, h2⟩ := hv i y hy
    exact ⟨u, h1, h2 _ _⟩
  · rintro e W' ⟨v, rfl, r, M', F', env', X, rf', h1, rfl, h3, h4, h5, h6⟩
    obtain ⟨S, h7, _⟩ := h4
    unfold Comp at h7
    rw [if_neg (by simp [owned])] at h7
    have h8 : Rep W' F' (.v x) v E0 := h7
    cases h8
    obtain ⟨⟨M, a1, a2, a3⟩, _⟩ := h5.kp
    exact ⟨rfl, a1.to_below fun b a _ hm => a2 b a hm⟩
end Go.Proofs.YthlehngbadianaaDoor.Ow
