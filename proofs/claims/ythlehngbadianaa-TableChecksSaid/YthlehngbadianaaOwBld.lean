/- A strings.Builder: its row of bytes, in a cell of what is lent. -/
import Derived.Test.YthlehngbadianaaOwMpCall4
import Derived.Lib.AppendStr
import Derived.Lib.UnsafeStr
set_option linter.unusedVariables false
set_option linter.unusedSimpArgs false
set_option linter.unnecessarySimpa false
namespace Go.Proofs.Ythlehngbadianaa.Ow
open Go Go.RowKit
/-- A row of bytes, that is all of its block. -/
def RowV (w : World) (e : TypeId) (bs : List UInt8) (v : Value) : Prop :=
  (v = .slice none 0 0 ∧ bs = []) ∨
  ∃ g cap cur, v = .slice (some ⟨g, 0, none⟩) bs.length cap ∧ w.heap[g]? = some (.cells cur e (0, 0)) ∧ 0 < bs.length ∧ bs.length ≤ cap ∧ cap ≤ maxLen ∧ cur.size = cap ∧ cur.toList.take bs.length = Lib.byteCells bs
def RowS (v : Value) : Fp := fun b a => ∃ g l cap, v = .slice (some ⟨g, 0, none⟩) l cap ∧ b = g ∧ a < cap
def RowB (e : TypeId) (bs : List UInt8) : World → Fp → Value → Fp → Prop := fun w F u S => RowV w e bs u ∧ ∀ b a, S b a ↔ RowS u b a
theorem RowV.one {w : World} {e : TypeId} {bs : List UInt8} {v : Value} (h : RowV w e bs v) : v.oneCell' = true := by
  rcases h with ⟨rfl, _⟩ | ⟨g, cap, cur, rfl, _⟩ <;> rfl
theorem RowV.fb {w : World} {e : TypeId} {bs : List UInt8} {v : Value} (h : RowV w e bs v) {b a : Nat} (hs : RowS v b a) : b < w.heap.size := by
  obtain ⟨g, l, cap, e1, rfl, _⟩ := hs
  rcases h with ⟨rfl, _⟩ | ⟨g', cap', cur, rfl, h1, _⟩
  · cases e1
  · simp only [Value.slice.injEq, Option.some.injEq, Addr.mk.injEq, and_true] at e1
    rw [← e1.1]
    rcases Nat.lt_or_ge g' w.heap.size with h' | h'
    · exact h'
    · simp [Array.getElem?_eq_none h'] at h1
theorem RowV.keep {w w' : World} {F F' T : Fp} {e : TypeId} {bs : List UInt8} {v : Value} (h : RowV w e bs v) (k : Kp w F w' F' T) (hT : ∀ b a, RowS v b a → T b a) : RowV w' e bs v := by
  rcases h with ⟨rfl, rfl⟩ | ⟨g, cap, cur, rfl, h1, h2, h3, h4, h5, h6⟩
  · exact .inl ⟨rfl, rfl⟩
  · obtain ⟨⟨M, a1, a2, a3⟩, a4⟩ := k
    obtain ⟨arr', fz', k1, k2, k3⟩ := a1.blk g cur e (0, 0) h1
    have hn : ∀ a, a < cap → ¬ M g a := fun a ha => a3 g a (hT g a ⟨g, _, cap, rfl, rfl, ha⟩)
    have hlt : g < w.heap.size := by
      rcases Nat.lt_or_ge g w.heap.size with h' | h'
      · exact h'
      · simp [Array.getElem?_eq_none h'] at h1
    have hfz : fz' = (0, 0) := by
      rcases k3 with h | ⟨_, h⟩
      · exact h
      · exact absurd (h 0 (by omega)) (hn 0 (by omega))
    have harr : arr' = cur := by
      apply Array.ext_getElem?
      intro a
      by_cases ha : a < cap
      · have h7 := a1.at_ g a hlt (hn a ha)
        unfold at? at h7
        rw [k1, h1] at h7
        simp only at h7
        cases e1 : arr'[a]? <;> cases e2 : cur[a]? <;> simp_all
      · rw [Array.getElem?_eq_none (by omega), Array.getElem?_eq_none (by omega)]
    exact .inr ⟨g, cap, cur, rfl, by rw [k1, harr, hfz], h2, h3, h4, h5, h6⟩
theorem RowB.rep {w : World} {F : Fp} {e : TypeId} {bs : List UInt8} {v : Value} (h : RowV w e bs v) : Rep w F (.ext (RowB e bs)) v (RowS v) :=
  .ext h.one fun w' F' k => ⟨h.keep k fun _ _ h => h, fun _ _ => Iff.rfl⟩
theorem RowB.of {w : World} {F S : Fp} {e : TypeId} {bs : List UInt8} {v : Value} (h : Rep w F (.ext (RowB e bs)) v S) : RowV w e bs v ∧ ∀ b a, S b a ↔ RowS v b a := by
  cases h with
  | ext h1 hI => exact hI w F (Kp.refl _ _ _)
theorem lent_get {t : AV} {I : World → Fp → Value → Fp → Prop} {r : Nat} {x : AV} (hx : (lentTo [(0, t)] I).get r = some x) : (r = 0 ∧ x = t) ∨ (r ≠ 0 ∧ r = HID ∧ x = .ext I) := by
  simp only [lentTo, List.cons_append, List.nil_append, Al.get] at hx
  split at hx
  · rename_i e; left; exact ⟨e.symm, (Option.some.inj hx).symm⟩
  · rename_i e
    split at hx
    · rename_i e2; right; exact ⟨fun h => e h.symm, e2.symm, (Option.some.inj hx).symm⟩
    · simp at hx
/-- A builder that is lent: where it lies, what it holds. -/
structure BldO (w : World) (F : Fp) (env : Nat → RLoc) (I : World → Fp → Value → Fp → Prop) (e : TypeId) (bs : List UInt8) (c0 c1 : AV) (T : Nat → Fp) (B o : Nat) (p v : Value) : Prop where
  ok : Ok w F env T (lentTo [(0, .agg [c0, c1])] I)
  env0 : env 0 = .mem B o
  kind : ∀ r x, (lentTo [(0, .agg [c0, c1])] I).get r = some x → (r < VB → ∃ B o, env r = .mem B o) ∧ (VB ≤ r → ∃ u, env r = .val u)
  blk : Blk w B o (o + 2)
  cell0 : w.cell? ⟨B, o, none⟩ = some p
  cell1 : w.cell? ⟨B, o + 1, none⟩ = some v
  rep0 : Rep w F c0 p E0
  row : RowV w e bs v
  ne : v.ownBlock ≠ some B
  fp : ∀ b a, T 0 b a ↔ (b = B ∧ o ≤ a ∧ a < o + 2) ∨ RowS v b a
theorem bld_open {w : World} {F : Fp} {env : Nat → RLoc} {I : World → Fp → Value → Fp → Prop} {e : TypeId} {bs : List UInt8} {c0 c1 : AV} (hok : OkX w F E0 env (lentTo [(0, .agg [c0, c1])] I)) (hc0 : stor c0 = true) (hc1 : (c1 = .v (.slice none 0 0) ∧ bs = []) ∨ c1 = .ext (RowB e bs)) :
    ∃ T B o p v, BldO w F env I e bs c0 c1 T B o p v := by
  obtain ⟨⟨T, ok, _⟩, _, kind⟩ := hok
  have hg : (lentTo [(0, .agg [c0, c1])] I).get 0 = some (.agg [c0, c1]) := by simp [lentTo, Al.get]
  obtain ⟨B, o, he⟩ := (kind 0 _ hg).1 (by decide)
  have hr := ok.root 0 _ hg
  rw [he] at hr
  obtain ⟨u, S, hb, hc, hrp, hd, ho, hS, hT⟩ := hr
  have r0 := hrp 0 c0 rfl
  have r1 := hrp 1 c1 rfl
  have s0 : ∀ b a, ¬ S 0 b a := by
    have key : ∀ {c : AV} {u : Value} {S : Fp}, Rep w F c u S → stor c = true → ∀ b a, ¬ S b a := by
      intro c u S h hs
      cases h <;> first | assumption | simp [stor, stor1] at hs
    exact key r0 hc0
  have hrow : RowV w e bs (u 1) ∧ ∀ b a, S 1 b a ↔ RowS (u 1) b a := by
    rcases hc1 with ⟨rfl, rfl⟩ | rfl
    · have hu : u 1 = .slice none 0 0 ∧ ∀ b a, ¬ S 1 b a := by
        generalize u 1 = u1 at r1
        generalize S 1 = S1 at r1
        cases r1 with
        | v h1 hT => exact ⟨rfl, hT⟩
      refine ⟨.inl ⟨hu.1, rfl⟩, fun b a => ⟨fun h => absurd h (hu.2 b a), ?_⟩⟩
      rintro ⟨g, l, cap, e1, _⟩
      rw [hu.1] at e1; cases e1
    · exact RowB.of r1
  refine ⟨T, B, o, u 0, u 1, ok, he, kind, hb, hc 0 c0 rfl, hc 1 c1 rfl, r0.stor hc0, hrow.1, ?_, ?_⟩
  · intro hown
    rcases hrow.1 with ⟨h1, _⟩ | ⟨g, cap, cur, h1, h2, h3, h4, h5, h6, h7⟩
    · rw [h1] at hown; cases hown
    · rw [h1] at hown
      simp only [Value.ownBlock, Option.some.injEq] at hown
      subst hown
      obtain ⟨arr, e', fz, g1, g2, g3⟩ := hb
      rw [h2] at g1
      simp only [Option.some.injEq, Obj.cells.injEq] at g1
      obtain ⟨rfl, _⟩ := g1
      have g2' : o + 2 ≤ cur.size := g2
      exact ho 1 o ((hrow.2 _ _).2 ⟨g, _, cap, h1, rfl, by omega⟩) ⟨Nat.le_refl _, by simp [AV.cells]⟩
  · intro b a
    rw [hT b a]
    simp only [AV.cells, List.length_cons, List.length_nil, Nat.zero_add, Nat.reduceAdd]
    constructor
    · rintro (h | ⟨i, hi⟩)
      · exact .inl h
      · have := hS i b a hi
        match i, hi, this with
        | 0, hi, _ => exact absurd hi (s0 b a)
        | 1, hi, _ => exact .inr ((hrow.2 b a).1 hi)
        | i + 2, _, h => simp [AV.cells] at h; omega
    · rintro (h | h)
      · exact .inl h
      · exact .inr ⟨1, (hrow.2 b a).2 h⟩
/-- What a call has turned, and what is there behind it. -/
structure BldC (w w' : World) (e : TypeId) (B o : Nat) (v p' v' : Value) : Prop where
  os : w'.os = w.os
  tape : w'.tape = w.tape
  output : w'.output = w.output
  size : w.heap.size ≤ w'.heap.size
  blk : ∀ k, k < w.heap.size → k ≠ B → v.ownBlock ≠ some k → w'.heap[k]? = w.heap[k]?
  blkB : ∀ arr ty fz, w.heap[B]? = some (.cells arr ty fz) → ∃ arr', w'.heap[B]? = some (.cells arr' ty fz) ∧ arr'.size = arr.size ∧ ∀ a, a ≠ o → a ≠ o + 1 → arr'[a]? = arr[a]?
  blkG : ∀ g l cap cur ty fz, v = .slice (some ⟨g, 0, none⟩) l cap → w.heap[g]? = some (.cells cur ty fz) → ∃ cur' fz', w'.heap[g]? = some (.cells cur' ty fz') ∧ cur'.size = cur.size
  cell0 : w'.cell? ⟨B, o, none⟩ = some p'
  cell1 : w'.cell? ⟨B, o + 1, none⟩ = some v'
  one0 : p'.oneCell' = true
  old : ∀ g l cap, v' = .slice (some ⟨g, 0, none⟩) l cap → (∃ l0, v = .slice (some ⟨g, 0, none⟩) l0 cap) ∨ w.heap.size ≤ g
theorem bld_close {w w' : World} {F : Fp} {env : Nat → RLoc} {I : World → Fp → Value → Fp → Prop} {e : TypeId} {bs : List UInt8} {c0 c1 : AV} {T : Nat → Fp} {B o : Nat} {p v p' v' : Value} (h : BldO w F env I e bs c0 c1 T B o p v) (k : BldC w w' e B o v p' v')
    {x : AV} {S' : Fp} (hrep : Rep w' (fun b a => F b a ∨ S' b a) x v' S') (hS' : ∀ b a, S' b a → RowS v' b a) (hfb : ∀ b a, S' b a → b < w'.heap.size) :
    OkX w' (fun b a => F b a ∨ S' b a) E0 env (lentTo [(0, .agg [.junk, x])] I) ∧ Tr w F env w' (fun b a => F b a ∨ S' b a) env := by
  have hg : (lentTo [(0, .agg [c0, c1])] I).get 0 = some (.agg [c0, c1]) := by simp [lentTo, Al.get]
  have hgH : (lentTo [(0, .agg [c0, c1])] I).get HID = some (.ext I) := by simp [lentTo, Al.get, HID]
  have hBlt : B < w.heap.size := cell_lt h.cell0
  have hag : Agree (T 0) w w' := by
    refine ⟨k.os, k.tape, k.output, k.size, ?_, ?_⟩
    · intro b a hb hn
      rw [h.fp] at hn
      by_cases e1 : b = B
      · subst e1
        obtain ⟨arr, ty, fz, g1, g2, g3⟩ := h.blk
        obtain ⟨arr', k1, k2, k3⟩ := k.blkB arr ty fz g1
        unfold at?
        rw [k1, g1]
        simp only
        rw [k3 a (fun e2 => hn (.inl ⟨rfl, by omega, by omega⟩)) (fun e2 => hn (.inl ⟨rfl, by omega, by omega⟩))]
      · by_cases e2 : v.ownBlock = some b
        · rcases h.row with ⟨h1, _⟩ | ⟨g, cap, cur, h1, h2, h3, h4, h5, h6, h7⟩
          · rw [h1] at e2; cases e2
          · rw [h1] at e2
            simp only [Value.ownBlock, Option.some.injEq] at e2
            subst e2
            obtain ⟨cur', fz', k1, k2⟩ := k.blkG g _ cap cur e (0, 0) h1 h2
            have ha : ¬ a < cap := fun ha => hn (.inr ⟨g, _, cap, h1, rfl, ha⟩)
            unfold at?
            rw [k1, h2]
            simp only
            rw [Array.getElem?_eq_none (by omega), Array.getElem?_eq_none (by omega)]
        · unfold at?
          rw [k.blk b hb e1 e2]
    · intro b arr ty fz hh
      by_cases e1 : b = B
      · subst e1
        obtain ⟨arr', k1, k2, k3⟩ := k.blkB arr ty fz hh
        exact ⟨arr', fz, k1, k2, .inl rfl⟩
      · by_cases e2 : v.ownBlock = some b
        · rcases h.row with ⟨h1, _⟩ | ⟨g, cap, cur, h1, h2, h3, h4, h5, h6, h7⟩
          · rw [h1] at e2; cases e2
          · rw [h1] at e2
            simp only [Value.ownBlock, Option.some.injEq] at e2
            subst e2
            obtain ⟨cur', fz', k1, k2⟩ := k.blkG g _ cap arr ty fz h1 hh
            rw [h2] at hh
            simp only [Option.some.injEq, Obj.cells.injEq] at hh
            obtain ⟨rfl, rfl, rfl⟩ := hh
            refine ⟨cur', fz', k1, k2, .inr ⟨⟨0, (h.fp _ _).2 (.inr ⟨_, _, cap, h1, rfl, by omega⟩)⟩, fun a ha => (h.fp _ _).2 (.inr ⟨_, _, cap, h1, rfl, by omega⟩)⟩⟩
        · have hb : b < w.heap.size := by
            rcases Nat.lt_or_ge b w.heap.size with h' | h'
            · exact h'
            · simp [Array.getElem?_eq_none h'] at hh
          exact ⟨arr, fz, by rw [k.blk b hb e1 e2]; exact hh, rfl, .inl rfl⟩
  have hrow : ∀ b a, S' b a → (RowS v b a ∨ w.heap.size ≤ b) := by
    intro b a hs
    obtain ⟨g, l, cap, e1, rfl, ha⟩ := hS' b a hs
    rcases k.old _ l cap e1 with ⟨l0, h1⟩ | h1
    · exact .inl ⟨b, l0, cap, h1, rfl, ha⟩
    · exact .inr h1
  have hkp : ∀ U : Fp, (∀ b a, U b a → ¬ T 0 b a) → Kp w F w' (fun b a => F b a ∨ S' b a) U := by
    intro U hU
    refine ⟨⟨T 0, hag, fun b a ht => h.ok.sub _ _ b a hg ht, hU⟩, ?_⟩
    rintro b a (hf | hs)
    · exact .inl hf
    · rcases hrow b a hs with h1 | h1
      · exact .inl (h.ok.sub _ _ b a hg ((h.fp b a).2 (.inr h1)))
      · exact .inr h1
  have hT0 : ∀ b a, ((b = B ∧ o ≤ a ∧ a < o + 2) ∨ S' b a) → (T 0 b a ∨ w.heap.size ≤ b) := by
    rintro b a (h1 | h1)
    · exact .inl ((h.fp b a).2 (.inl h1))
    · exact (hrow b a h1).imp (fun h2 => (h.fp b a).2 (.inr h2)) id
  have hdis : ∀ b a, T HID b a → ¬ ((b = B ∧ o ≤ a ∧ a < o + 2) ∨ S' b a) := by
    intro b a ht hh
    rcases hT0 b a hh with h1 | h1
    · exact absurd (h.ok.dis _ _ _ _ b a hgH hg ht h1) (by decide)
    · have := h.ok.fb b a (h.ok.sub _ _ b a hgH ht); omega
  refine ⟨⟨⟨fun r => if r = 0 then (fun b a => (b = B ∧ o ≤ a ∧ a < o + 2) ∨ S' b a) else T r, ⟨?_, ?_, ?_, ?_⟩, fun _ _ _ _ _ _ h => h⟩, fun _ _ h => h.elim, ?_⟩, ?_, fun _ _ => rfl⟩
  · intro r y hy
    rcases lent_get hy with ⟨rfl, rfl⟩ | ⟨hne, rfl, rfl⟩
    · simp only [if_true, h.env0]
      obtain ⟨arr, ty, fz, g1, g2, g3⟩ := h.blk
      obtain ⟨arr', k1, k2, k3⟩ := k.blkB arr ty fz g1
      refine ⟨fun i => if i = 0 then p' else v', fun i => if i = 1 then S' else E0, ⟨arr', ty, fz, k1, by simp [AV.cells]; omega, g3⟩, ?_, ?_, ?_, ?_, ?_, ?_⟩
      · intro i c hc
        match i, hc with
        | 0, _ => simpa using k.cell0
        | 1, _ => simpa using k.cell1
        | i + 2, hc => simp [AV.cells] at hc
      · intro i c hc
        match i, hc with
        | 0, hc => simp [AV.cells] at hc; subst hc; simpa using Rep.junk k.one0 (fun _ _ h => h)
        | 1, hc => simp [AV.cells] at hc; subst hc; simpa using hrep
        | i + 2, hc => simp [AV.cells] at hc
      · intro i i' b a h1 h2
        by_cases e1 : i = 1 <;> by_cases e2 : i' = 1 <;> simp only [e1, e2, if_true, if_false] at h1 h2 ⊢ <;> first | exact h1.elim | exact h2.elim
      · intro i a h1 h2
        by_cases e1 : i = 1
        · simp only [e1, if_true] at h1
          have h2' : o ≤ a ∧ a < o + 2 := by simpa [AV.cells] using h2
          rcases hrow B a h1 with h3 | h3
          · obtain ⟨g, l, cap, e3, e4, _⟩ := h3
            exact h.ne (by rw [e3, e4]; rfl)
          · omega
        · simp only [e1, if_false] at h1
          exact h1.elim
      · intro i b a h1
        by_cases e1 : i = 1
        · subst e1; simp [AV.cells]
        · simp only [e1, if_false] at h1
          exact h1.elim
      · intro b a
        simp only [AV.cells, List.length_cons, List.length_nil, Nat.zero_add, Nat.reduceAdd]
        constructor
        · rintro (h1 | h1)
          · exact .inl h1
          · exact .inr ⟨1, by simpa using h1⟩
        · rintro (h1 | ⟨i, h1⟩)
          · exact .inl h1
          · by_cases e1 : i = 1
            · simp only [e1, if_true] at h1; exact .inr h1
            · simp only [e1, if_false] at h1; exact h1.elim
    · simp only [show HID ≠ 0 by decide, if_false]
      exact (h.ok.root _ _ hgH).keep (hkp _ fun b a ht h0 => absurd (h.ok.dis _ _ _ _ b a hgH hg ht h0) (by decide))
  · intro r r' y y' b a h1 h2 t1 t2
    rcases lent_get h1 with ⟨rfl, rfl⟩ | ⟨hne, rfl, rfl⟩ <;> rcases lent_get h2 with ⟨rfl, rfl⟩ | ⟨hne', rfl, rfl⟩
    · rfl
    · simp only [if_true, show HID ≠ 0 by decide, if_false] at t1 t2; exact absurd t1 (hdis _ _ t2)
    · simp only [if_true, show HID ≠ 0 by decide, if_false] at t1 t2; exact absurd t2 (hdis _ _ t1)
    · rfl
  · intro r y b a h1 t1
    rcases lent_get h1 with ⟨rfl, rfl⟩ | ⟨hne, rfl, rfl⟩
    · simp only [if_true] at t1
      rcases t1 with t1 | t1
      · exact .inl (h.ok.sub _ _ b a hg ((h.fp b a).2 (.inl t1)))
      · exact .inr t1
    · simp only [show HID ≠ 0 by decide, if_false] at t1
      exact .inl (h.ok.sub _ _ b a hgH t1)
  · rintro b a (h1 | h1)
    · exact Nat.lt_of_lt_of_le (h.ok.fb b a h1) k.size
    · exact hfb b a h1
  · intro r y hy
    rcases lent_get hy with ⟨rfl, rfl⟩ | ⟨hne, rfl, rfl⟩
    · exact h.kind 0 _ hg
    · exact h.kind HID _ hgH
  · exact hkp E0 fun _ _ h => h.elim
/-- What an append to a row of bytes leaves. -/
structure AppS (w w' : World) (e : TypeId) (bs' : List UInt8) (v v' : Value) : Prop where
  row : RowV w' e bs' v'
  os : w'.os = w.os
  tape : w'.tape = w.tape
  output : w'.output = w.output
  size : w.heap.size ≤ w'.heap.size
  blk : ∀ k, k < w.heap.size → v.ownBlock ≠ some k → w'.heap[k]? = w.heap[k]?
  blkG : ∀ g l cap cur ty fz, v = .slice (some ⟨g, 0, none⟩) l cap → w.heap[g]? = some (.cells cur ty fz) → ∃ cur' fz', w'.heap[g]? = some (.cells cur' ty fz') ∧ cur'.size = cur.size
  old : ∀ g l cap, v' = .slice (some ⟨g, 0, none⟩) l cap → (∃ l0, v = .slice (some ⟨g, 0, none⟩) l0 cap) ∨ w.heap.size ≤ g
theorem byteCells_strCells (s : ByteArray) : Lib.byteCells s.data.toList = Lib.strCells s := (Lib.strCells_eq s).symm
theorem run_append_row {P : Program} (w : World) (t u ty e : TypeId) (i : TypeInfo) (ht : P.underlying t = some (.slice e)) (hu : P.underlying u = some .string) (hi : P.info? e = some i) (hz : i.zero = some (.int .u8 0)) (hsize : i.size = 1) (hby : i.bytes = 1)
    {bs : List UInt8} {v : Value} (hrow : RowV w e bs v) (s : ByteArray) (hlen : bs.length + s.size ≤ 140737488355328) :
    ∃ v' w', (Builtin.append_ #[t, u] ty #[v, .string s]).run P w = .ok v' w' ∧ AppS w w' e (bs ++ s.data.toList) v v' := by
  have hsl : s.data.toList.length = s.size := by rw [Array.length_toList]; rfl
  have hbl : (bs ++ s.data.toList).length = bs.length + s.size := by rw [List.length_append, hsl]
  have hm : bs.length + s.size ≤ maxLen := by unfold maxLen; omega
  have hcells : Lib.byteCells (bs ++ s.data.toList) = Lib.byteCells bs ++ Lib.strCells s := by rw [Lib.byteCells_append, byteCells_strCells]
  have fresh : ∀ (old : Nat), old < bs.length + s.size → AppS w (w.drew.alloc (.cells ((Lib.byteCells bs).toArray ++ (Lib.strCells s).toArray ++ Builtin.zeroCells (Value.int .u8 0).cells (grownCap w (bs.length + s.size) old e - (bs.length + s.size))) e)) e (bs ++ s.data.toList) v
      (.slice (some ⟨w.heap.size, 0, none⟩) (bs.length + s.size) (grownCap w (bs.length + s.size) old e)) := by
    intro old ho
    have hge := grownCap_ge w (bs.length + s.size) old e
    have hcm : grownCap w (bs.length + s.size) old e ≤ maxLen := grownCap_le_maxLen w (bs.length + s.size) old e hm
    refine ⟨.inr ⟨w.heap.size, _, _, by rw [hbl], heap_alloc_new w.drew _, by omega, by omega, hcm, ?_, ?_⟩, rfl, rfl, rfl, by simp, fun k hk _ => heap_alloc_old w.drew _ k hk, ?_, ?_⟩
    · have hz1 : (Value.int IntKind.u8 0).cells.size = 1 := rfl
      simp only [Array.size_append, List.size_toArray, size_zeroCells, hz1, Lib.byteCells_length, Lib.strCells_length]
      omega
    · simp only [Array.toList_append, List.append_assoc]
      rw [← List.append_assoc, hcells]
      have hl : (Lib.byteCells bs ++ Lib.strCells s).length = (bs ++ s.data.toList).length := by rw [hbl, List.length_append, Lib.byteCells_length, Lib.strCells_length]
      rw [← hl]
      exact List.take_left
    · intro g l cap cur ty fz hv hg
      have hlt : g < w.heap.size := by
        rcases Nat.lt_or_ge g w.heap.size with h' | h'
        · exact h'
        · simp [Array.getElem?_eq_none h'] at hg
      exact ⟨cur, fz, (heap_alloc_old w.drew _ g hlt).trans hg, rfl⟩
    · intro g l cap hv
      simp only [Value.slice.injEq, Option.some.injEq, Addr.mk.injEq, and_true] at hv
      exact .inr (by omega)
  rcases hrow with ⟨rfl, rfl⟩ | ⟨g, cap, cur, rfl, hg, h0, hnc, hcm, hcs, htake⟩
  · by_cases hm0 : s.size = 0
    · have hn : s.data.toList = [] := List.eq_nil_of_length_eq_zero (by rw [hsl]; exact hm0)
      refine ⟨.slice none 0 0, w, ?_, ⟨.inl ⟨rfl, by rw [hn]; rfl⟩, rfl, rfl, rfl, Nat.le_refl _, fun _ _ _ => rfl, fun _ _ _ _ _ _ hv => by simp at hv, fun _ _ _ hv => by simp at hv⟩⟩
      have hf := Lib.run_firstCells_string (P := P) w 1 s
      rw [hm0] at hf
      simp [Builtin.append_, run_underlying ht, run_underlying hu, sizeOf, typeInfo, hi, hsize, Builtin.lenOf, hm0, hf]
    · have hr := run_append_nil_string (P := P) w t u ty e i (.int .u8 0) ht hu hi hz s (by omega) (by omega) (by rw [hby]; omega)
      have hgr := fresh 0 (by simp; omega)
      simp only [List.length_nil, Nat.zero_add, List.nil_append, Lib.byteCells, List.map_nil] at hgr
      have e1 : (s.data.map fun b => Value.int .u8 b.toNat) = (Lib.strCells s).toArray := by
        apply Array.ext'
        simp [Lib.strCells]
      rw [e1] at hr
      refine ⟨_, _, hr, ?_⟩
      simpa using hgr
  · by_cases hroom : bs.length + s.size ≤ cap
    · have hr := Lib.run_append_room_string (P := P) w t u ty e i ht hu hi hsize g bs.length cap cur hg s hroom (by omega)
      refine ⟨_, _, hr, ⟨.inr ⟨g, cap, _, by rw [hbl], setRow_heap w g cur _ e _ hg, by omega, by omega, hcm, ?_, ?_⟩, rfl, rfl, rfl, by simp, fun k _ hk => setRow_other w g k _ (fun e => hk (by simp [Value.ownBlock, e])), ?_, ?_⟩⟩
      · simp only [List.size_toArray, List.length_append, List.length_take, List.length_drop, Array.length_toList, Lib.strCells_length]
        omega
      · rw [htake, hcells]
        have hl : (Lib.byteCells bs ++ Lib.strCells s).length = (bs ++ s.data.toList).length := by rw [hbl, List.length_append, Lib.byteCells_length, Lib.strCells_length]
        rw [← hl]
        exact List.take_left
      · intro g' l cap' cur' ty fz hv hg'
        simp only [Value.slice.injEq, Option.some.injEq, Addr.mk.injEq, and_true] at hv
        obtain ⟨rfl, _, _⟩ := hv
        rw [hg] at hg'
        simp only [Option.some.injEq, Obj.cells.injEq] at hg'
        obtain ⟨rfl, rfl, rfl⟩ := hg'
        refine ⟨_, _, setRow_heap w g cur _ e _ hg, ?_⟩
        simp only [List.size_toArray, List.length_append, List.length_take, List.length_drop, Array.length_toList, Lib.strCells_length]
        omega
      · intro g' l cap' hv
        simp only [Value.slice.injEq, Option.some.injEq, Addr.mk.injEq, and_true] at hv
        obtain ⟨rfl, _, rfl⟩ := hv
        exact .inl ⟨_, rfl⟩
    · have holds : ∀ (j : Nat) u, (Lib.byteCells bs)[j]? = some u → w.cell? ((⟨g, 0, none⟩ : Addr).add j) = some u := by
        intro j u hj
        have h2 : (Lib.byteCells bs)[j]? = cur[j]? := by
          rw [← htake, List.getElem?_take]
          split
          · simp
          · rename_i hlt
            rw [← htake, List.getElem?_take, if_neg hlt] at hj
            simp at hj
        rw [add_plain', Nat.zero_add]
        simp only [World.cell?, hg]
        rw [← h2]; exact hj
      have hr := Lib.run_append_grow_string (P := P) w t u ty e i (.int .u8 0) ht hu hi hz ⟨g, 0, none⟩ bs.length cap (Lib.byteCells bs) (by rw [hsize, Lib.byteCells_length]; omega) holds s (by omega) (by omega) (by rw [hby]; exact growslice_fits (by omega) (by omega))
      exact ⟨_, _, hr, fresh cap (by omega)⟩
theorem wpList_append_row {P : Program} {w : World} {ops : Array Oper} {rest : List Oper} {o : Oper} {a : Act} {Q : Exit → Act → World → Prop} (hgd : o.guard = none) (sl x : Operand) (t u : TypeId)
    (ho : o.op = .call { callee := .builtin .append, args := #[sl, x], argTypes := #[t, u] })
    (e : TypeId) (i : TypeInfo) (ht : P.underlying t = some (.slice e)) (hu : P.underlying u = some .string) (hi : P.info? e = some i) (hz : i.zero = some (.int .u8 0))
    (hsize : i.size = 1) (hby : i.bytes = 1)
    (v : Value) (bs : List UInt8) (hs : a.eval sl = v) (hrow : RowV w e bs v) (s : ByteArray) (hx : a.eval x = .string s) (hlen : bs.length + s.size ≤ 140737488355328)
    (h : ∀ v' w', AppS w w' e (bs ++ s.data.toList) v v' → wpList P ops Q rest (a.put o.dst v') w') : wpList P ops Q (o :: rest) a w := by
  refine wpList_plain hgd fun K hK => ?_
  obtain ⟨v', w', hr, h2⟩ := run_append_row (P := P) w t u o.type e i ht hu hi hz hsize hby hrow s hlen
  unfold Oper.wp execOp
  simp only [ho, resolve, invoke, builtin, Sem.run_bind, Sem.run_pure, Result.andThen_ok, List.map_toArray, List.map_cons, List.map_nil, hs, hx, hr]
  exact hK _ _ (h v' w' h2)
theorem heap_setCell (w : World) (b j : Nat) (u : Value) {arr : Array Value} {ty : TypeId} {fz : Nat × Nat} (h : w.heap[b]? = some (.cells arr ty fz)) : (w.setCell ⟨b, j, none⟩ u).heap[b]? = some (.cells (arr.setIfInBounds j u) ty fz) := by
  simp [World.setCell, Array.getElem?_modify, h]
theorem heap_setCell_ne (w : World) (b j k : Nat) (u : Value) (h : k ≠ b) : (w.setCell ⟨b, j, none⟩ u).heap[k]? = w.heap[k]? := by
  simp [World.setCell, Array.getElem?_modify, Ne.symm h]
theorem RowV.other {w w' : World} {e : TypeId} {bs : List UInt8} {v : Value} (h : RowV w e bs v) (hk : ∀ g, v.ownBlock = some g → w'.heap[g]? = w.heap[g]?) : RowV w' e bs v := by
  rcases h with h | ⟨g, cap, cur, rfl, h1, h2⟩
  · exact .inl h
  · exact .inr ⟨g, cap, cur, rfl, by rw [hk g rfl]; exact h1, h2⟩
/-- What (*strings.Builder).WriteString does to the world. -/
def WrSpec (P : Program) (f : FuncId) (Tb e : TypeId) : Prop :=
  ∀ (b : Nat) (bs : List UInt8) (s : ByteArray) (w : World) (p v : Value) (fz : Nat × Nat), w.heap[b]? = some (.cells #[p, v] Tb fz) → (p = .pointer none ∨ p = .pointer (some ⟨b, 0, none⟩)) → (∀ i, i < 2 → ¬ (fz.1 ≤ i ∧ i < fz.2)) →
    RowV w e bs v → v.ownBlock ≠ some b → bs.length + s.size ≤ 140737488355328 →
    Calls P f #[.pointer (some ⟨b, 0, none⟩), .string s] w fun e' w' => e' = .returned (.tuple #[.int .i64 s.size, .nilIface]) ∧
      ∃ w1 w2 v', (w1 = w ∧ p = .pointer (some ⟨b, 0, none⟩) ∨ w1 = w.setCell ⟨b, 0, none⟩ (.pointer (some ⟨b, 0, none⟩))) ∧ AppS w1 w2 e (bs ++ s.data.toList) v v' ∧ w' = w2.setCell ⟨b, 1, none⟩ v'
def StrSpec (P : Program) (f : FuncId) (Tb e : TypeId) : Prop :=
  ∀ (b : Nat) (l : List UInt8) (w : World) (p v : Value) (fz : Nat × Nat), w.heap[b]? = some (.cells #[p, v] Tb fz) → RowV w e l v →
    Calls P f #[.pointer (some ⟨b, 0, none⟩)] w fun e' w' => e' = .returned (.string ⟨l.toArray⟩) ∧ ((v = .slice none 0 0 ∧ w' = w.drew) ∨ ∃ g cap, v = .slice (some ⟨g, 0, none⟩) l.length cap ∧ w' = w.drew.freeze ⟨g, 0, none⟩ l.length)
def bldRf (Tb : TypeId) : Rfs := [(0, 0, .ref ⟨0, [], 0⟩), (0, 1, .sa ⟨0, [], 0⟩ 0 Tb 2)]
theorem bld_block {w : World} {F : Fp} {env : Nat → RLoc} {I : World → Fp → Value → Fp → Prop} {e Tb : TypeId} {bs : List UInt8} {c0 c1 : AV} {T : Nat → Fp} {B o : Nat} {p v : Value} (h : BldO w F env I e bs c0 c1 T B o p v) (hsa : RfOk w F env (lentTo [(0, .agg [c0, c1])] I) (0, 1, .sa ⟨0, [], 0⟩ 0 Tb 2)) :
    o = 0 ∧ ∃ fz, w.heap[B]? = some (.cells #[p, v] Tb fz) ∧ ∀ i, i < 2 → ¬ (fz.1 ≤ i ∧ i < fz.2) := by
  have hg : (lentTo [(0, .agg [c0, c1])] I).get 0 = some (.agg [c0, c1]) := by simp [lentTo, Al.get]
  obtain ⟨B1, o1, u, k1, _, k3, B2, o2, ao, k4, k5⟩ := hsa
  simp only at k1 k3 k4 k5
  rw [rloc_nil hg h.env0] at k4
  simp only [Option.some.injEq, RLoc.mem.injEq] at k4
  obtain ⟨rfl, rfl⟩ := k4
  unfold SaOk at k5
  rw [if_pos rfl] at k5
  obtain ⟨rfl, k6, _⟩ := k5
  obtain ⟨arr, ty, fz, g1, g2, g3⟩ := h.blk
  simp only [World.shape?, g1, Option.some.injEq, Prod.mk.injEq] at k6
  obtain ⟨rfl, k7⟩ := k6
  have h0 := h.cell0
  have h1 := h.cell1
  simp only [World.cell?, g1, Nat.zero_add, Option.isSome_none, Bool.false_eq_true, if_false] at h0 h1
  refine ⟨rfl, fz, ?_, fun i hi => g3 i (by omega) (by omega)⟩
  rw [g1]
  congr 2
  apply Array.ext_getElem?
  intro i
  match i with
  | 0 => rw [h0]; rfl
  | 1 => rw [h1]; rfl
  | i + 2 => rw [Array.getElem?_eq_none (by omega), Array.getElem?_eq_none (by simp)]
theorem bld_args {w : World} {F : Fp} {env : Nat → RLoc} {I : World → Fp → Value → Fp → Prop} {t : AV} {B o : Nat} {u : Value} (he : env 0 = .mem B o) (h : SV w F env (lentTo [(0, t)] I) (.ref ⟨0, [], 0⟩) u) : u = .pointer (some ⟨B, o, none⟩) := by
  have hg : (lentTo [(0, t)] I).get 0 = some t := by simp [lentTo, Al.get]
  obtain ⟨B2, o2, k4, k5⟩ := h
  rw [rloc_nil hg he] at k4
  simp only [Option.some.injEq, RLoc.mem.injEq] at k4
  obtain ⟨rfl, rfl⟩ := k4
  exact k5
theorem bld_write {P : Program} {f : FuncId} {Tb e : TypeId} (hW : WrSpec P f Tb e) {c0 c1 : AV} {rf : Rfs} {bs : List UInt8} {s : ByteArray} (hc0 : c0 = .v (.pointer none) ∨ (c0 = .junk ∧ (0, 0, .ref ⟨0, [], 0⟩) ∈ rf)) (hc1 : (c1 = .v (.slice none 0 0) ∧ bs = []) ∨ c1 = .ext (RowB e bs)) (hsa : (0, 1, .sa ⟨0, [], 0⟩ 0 Tb 2) ∈ rf) (hlen : bs.length + s.size ≤ 140737488355328)
    {Q : AV → Al → Rfs → Prop} (h : Q (.tup [.v (.int .i64 s.size), .v .nilIface]) [(0, .agg [.junk, .ext (RowB e (bs ++ s.data.toList))])] (bldRf Tb)) : ACallsR P f [(0, .agg [c0, c1])] rf [.ref ⟨0, [], 0⟩, .v (.string s)] Q := by
  intro I w F env vals hok hl hv hrf
  obtain ⟨T, B, o, p, v, hO⟩ := bld_open hok (by rcases hc0 with rfl | ⟨rfl, _⟩ <;> rfl) hc1
  obtain ⟨rfl, fz, hb, hfz⟩ := bld_block hO (hrf _ hsa)
  have hg : (lentTo [(0, .agg [c0, c1])] I).get 0 = some (.agg [c0, c1]) := by simp [lentTo, Al.get]
  obtain ⟨u0, hu0, hs0⟩ := hv 0 _ rfl
  obtain ⟨u1, hu1, hs1⟩ := hv 1 _ rfl
  have e0 := bld_args hO.env0 hs0
  have e1 : u1 = .string s := (SV_val hs1).1
  have hvals : vals = #[.pointer (some ⟨B, 0, none⟩), .string s] := by
    apply Array.ext_getElem?
    intro i
    match i with
    | 0 => rw [hu0, e0]; rfl
    | 1 => rw [hu1, e1]; rfl
    | i + 2 => rw [Array.getElem?_eq_none (by rw [hl]; simp), Array.getElem?_eq_none (by simp)]
  subst hvals
  have hp : p = .pointer none ∨ p = .pointer (some ⟨B, 0, none⟩) := by
    rcases hc0 with rfl | ⟨rfl, hm⟩
    · have := hO.rep0
      generalize p = q at this
      cases this
      exact .inl rfl
    · obtain ⟨B1, o1, u, k1, _, k3, B2, o2, k4, k5⟩ := hrf _ hm
      simp only at k1 k3 k4 k5
      rw [hO.env0] at k1
      simp only [RLoc.mem.injEq] at k1
      obtain ⟨rfl, rfl⟩ := k1
      rw [rloc_nil hg hO.env0] at k4
      simp only [Option.some.injEq, RLoc.mem.injEq] at k4
      obtain ⟨rfl, rfl⟩ := k4
      rw [show 0 + 0 = 0 from rfl, hO.cell0] at k3
      obtain rfl := Option.some.inj k3
      exact .inr k5
  refine (hW B bs s w p v fz hb hp hfz hO.row hO.ne hlen).mono ?_
  rintro e' w' ⟨rfl, w1, w2, v', h1, hap, rfl⟩
  have hBlt : B < w.heap.size := cell_lt hO.cell0
  have hb1 : w1.heap[B]? = some (.cells #[.pointer (some ⟨B, 0, none⟩), v] Tb fz) := by
    rcases h1 with ⟨rfl, rfl⟩ | rfl
    · exact hb
    · rw [heap_setCell w B 0 _ hb]; rfl
  have hne1 : ∀ k, k ≠ B → w1.heap[k]? = w.heap[k]? := by
    intro k hk
    rcases h1 with ⟨rfl, _⟩ | rfl
    · rfl
    · exact heap_setCell_ne _ _ _ _ _ hk
  have hsz1 : w1.heap.size = w.heap.size := by
    rcases h1 with ⟨rfl, _⟩ | rfl
    · rfl
    · simp [World.setCell]
  have hb2 : w2.heap[B]? = some (.cells #[.pointer (some ⟨B, 0, none⟩), v] Tb fz) := by rw [hap.blk B (by omega) hO.ne]; exact hb1
  have hb3 : (w2.setCell ⟨B, 1, none⟩ v').heap[B]? = some (.cells #[.pointer (some ⟨B, 0, none⟩), v'] Tb fz) := by rw [heap_setCell w2 B 1 _ hb2]; rfl
  have hsz2 : (w2.setCell ⟨B, 1, none⟩ v').heap.size = w2.heap.size := by simp [World.setCell]
  have hv'B : v'.ownBlock ≠ some B := by
    intro hh
    rcases hap.row with ⟨h2, _⟩ | ⟨g, cap, cur, h2, _⟩
    · rw [h2] at hh; cases hh
    · rw [h2] at hh
      simp only [Value.ownBlock, Option.some.injEq] at hh
      subst hh
      rcases hap.old g _ cap h2 with ⟨l0, h3⟩ | h3
      · exact hO.ne (by rw [h3]; rfl)
      · omega
  have hrow' : RowV (w2.setCell ⟨B, 1, none⟩ v') e (bs ++ s.data.toList) v' := hap.row.other fun g hg' => heap_setCell_ne _ _ _ _ _ (fun e => hv'B (by rw [hg', e]))
  have hC : BldC w (w2.setCell ⟨B, 1, none⟩ v') e B 0 v (.pointer (some ⟨B, 0, none⟩)) v' := by
    refine ⟨?_, ?_, ?_, ?_, ?_, ?_, ?_, ?_, ?_, rfl, ?_⟩
    · have : w1.os = w.os := by rcases h1 with ⟨rfl, _⟩ | rfl <;> rfl
      exact hap.os.trans this
    · have : w1.tape = w.tape := by rcases h1 with ⟨rfl, _⟩ | rfl <;> rfl
      exact hap.tape.trans this
    · have : w1.output = w.output := by rcases h1 with ⟨rfl, _⟩ | rfl <;> rfl
      exact hap.output.trans this
    · have := hap.size; omega
    · intro k hk hkB hkv
      rw [heap_setCell_ne _ _ _ _ _ hkB, hap.blk k (by omega) hkv, hne1 k hkB]
    · intro arr ty fz' hh
      rw [hb] at hh
      simp only [Option.some.injEq, Obj.cells.injEq] at hh
      obtain ⟨rfl, rfl, rfl⟩ := hh
      refine ⟨_, hb3, rfl, ?_⟩
      intro a h0 h1
      match a with
      | 0 => exact absurd rfl h0
      | 1 => exact absurd rfl h1
      | a + 2 => rw [Array.getElem?_eq_none (by simp), Array.getElem?_eq_none (by simp)]
    · intro g l cap cur ty fz' hv' hg'
      have hgB : g ≠ B := fun e => hO.ne (by rw [hv', e]; rfl)
      obtain ⟨cur', fz2, k1, k2⟩ := hap.blkG g l cap cur ty fz' hv' (by rw [hne1 g hgB]; exact hg')
      exact ⟨cur', fz2, by rw [heap_setCell_ne _ _ _ _ _ hgB]; exact k1, k2⟩
    · simp [World.cell?, hb3]
    · simp [World.cell?, hb3]
    · intro g l cap hv'
      rw [← hsz1]
      exact hap.old g l cap hv'
  obtain ⟨k1, k2⟩ := bld_close hO hC (x := .ext (RowB e (bs ++ s.data.toList))) (S' := RowS v') (RowB.rep hrow') (fun _ _ h => h) (fun b a hs => hrow'.fb hs)
  have hg' : (lentTo [(0, .agg [.junk, .ext (RowB e (bs ++ s.data.toList))])] I).get 0 = some (.agg [.junk, .ext (RowB e (bs ++ s.data.toList))]) := by simp [lentTo, Al.get]
  refine ⟨_, rfl, .tup [.v (.int .i64 s.size), .v .nilIface], lentTo [(0, .agg [.junk, .ext (RowB e (bs ++ s.data.toList))])] I, _, env, E0, bldRf Tb, by simp [lentTo, Al.get, HID], ?_, k1, ?_, k2, ?_⟩
  · rw [show (lentTo [(0, AV.agg [.junk, .ext (RowB e (bs ++ s.data.toList))])] I).del HID = [(0, .agg [.junk, .ext (RowB e (bs ++ s.data.toList))])] by simp [lentTo, Al.del, HID]]
    exact h
  · refine ⟨_, rfl, rfl, fun _ => E0, ?_, fun _ _ _ _ h => h.elim, fun _ _ _ h => h.elim⟩
    intro i x u hx hu
    match i, hx, hu with
    | 0, hx, hu => simp at hx hu; subst hx hu; exact Rep.v rfl fun _ _ h => h
    | 1, hx, hu => simp at hx hu; subst hx hu; exact Rep.v rfl fun _ _ h => h
    | i + 2, hx, _ => simp at hx
  · intro e2 he2
    simp only [bldRf, List.mem_cons, List.not_mem_nil, or_false] at he2
    rcases he2 with rfl | rfl
    · exact ⟨B, 0, _, hO.env0, ⟨_, hg', by simp [AV.cells]⟩, hC.cell0, B, 0, rloc_nil hg' hO.env0, rfl⟩
    · refine ⟨B, 0, v', hO.env0, ⟨_, hg', by simp [AV.cells]⟩, hC.cell1, B, 0, 0, rloc_nil hg' hO.env0, ?_⟩
      unfold SaOk
      rw [if_pos rfl]
      exact ⟨rfl, by simp [World.shape?, hb3], hrow'.one⟩
theorem bld_string {P : Program} {f : FuncId} {Tb e : TypeId} (hW : StrSpec P f Tb e) {c0 c1 : AV} {rf : Rfs} {bs : List UInt8} (hc0 : c0 = .v (.pointer none) ∨ c0 = .junk) (hc1 : (c1 = .v (.slice none 0 0) ∧ bs = []) ∨ c1 = .ext (RowB e bs)) (hsa : (0, 1, .sa ⟨0, [], 0⟩ 0 Tb 2) ∈ rf)
    {Q : AV → Al → Rfs → Prop} (h : Q (.v (.string ⟨bs.toArray⟩)) [(0, .agg [.junk, .junk])] []) : ACallsR P f [(0, .agg [c0, c1])] rf [.ref ⟨0, [], 0⟩] Q := by
  intro I w F env vals hok hl hv hrf
  obtain ⟨T, B, o, p, v, hO⟩ := bld_open hok (by rcases hc0 with rfl | rfl <;> rfl) hc1
  obtain ⟨rfl, fz, hb, hfz⟩ := bld_block hO (hrf _ hsa)
  obtain ⟨u0, hu0, hs0⟩ := hv 0 _ rfl
  have e0 := bld_args hO.env0 hs0
  have hvals : vals = #[.pointer (some ⟨B, 0, none⟩)] := by
    apply Array.ext_getElem?
    intro i
    match i with
    | 0 => rw [hu0, e0]; rfl
    | i + 1 => rw [Array.getElem?_eq_none (by rw [hl]; simp), Array.getElem?_eq_none (by simp)]
  subst hvals
  refine (hW B bs w p v fz hb hO.row).mono ?_
  rintro e' w' ⟨rfl, hw'⟩
  have hBlt : B < w.heap.size := cell_lt hO.cell0
  have hoth : ∀ k, v.ownBlock ≠ some k → w'.heap[k]? = w.heap[k]? := by
    intro k hk
    rcases hw' with ⟨_, rfl⟩ | ⟨g, cap, h1, rfl⟩
    · rfl
    · have hgk : g ≠ k := fun e => hk (by rw [h1, e]; rfl)
      unfold World.freeze
      split
      · rfl
      · simp only [Array.getElem?_modify, if_neg hgk]; rfl
  have hb3 : w'.heap[B]? = some (.cells #[p, v] Tb fz) := by rw [hoth B hO.ne]; exact hb
  have hfr : w'.os = w.os ∧ w'.tape = w.tape ∧ w'.output = w.output ∧ w.heap.size ≤ w'.heap.size := by
    rcases hw' with ⟨_, rfl⟩ | ⟨g, cap, h1, rfl⟩
    · exact ⟨rfl, rfl, rfl, Nat.le_refl _⟩
    · unfold World.freeze
      split
      · exact ⟨rfl, rfl, rfl, Nat.le_refl _⟩
      · refine ⟨rfl, rfl, rfl, ?_⟩
        simp only [Array.size_modify]
        exact Nat.le_refl _
  have hC : BldC w w' e B 0 v p v := by
    refine ⟨hfr.1, hfr.2.1, hfr.2.2.1, hfr.2.2.2, fun k _ _ hk => hoth k hk, ?_, ?_, ?_, ?_, ?_, ?_⟩
    · intro arr ty fz' hh
      rw [hb] at hh
      simp only [Option.some.injEq, Obj.cells.injEq] at hh
      obtain ⟨rfl, rfl, rfl⟩ := hh
      exact ⟨_, hb3, rfl, fun _ _ _ => rfl⟩
    · intro g l cap cur ty fz' hv' hg'
      rcases hw' with ⟨h1, rfl⟩ | ⟨g2, cap2, h1, rfl⟩
      · rw [h1] at hv'; cases hv'
      · rw [h1] at hv'
        simp only [Value.slice.injEq, Option.some.injEq, Addr.mk.injEq, and_true] at hv'
        obtain ⟨rfl, _, _⟩ := hv'
        unfold World.freeze
        split
        · exact ⟨cur, fz', hg', rfl⟩
        · have hg2 : w.drew.heap[g2]? = some (.cells cur ty fz') := hg'
          refine ⟨cur, (if fz'.1 == fz'.2 then (0, 0 + bs.length) else (min fz'.1 0, max fz'.2 (0 + bs.length))), ?_, rfl⟩
          simp only [Array.getElem?_modify, if_true, hg2, Option.map_some]
    · simp [World.cell?, hb3]
    · simp [World.cell?, hb3]
    · have := hO.rep0; exact this.one
    · intro g l cap hv'
      exact .inl ⟨l, hv'⟩
  obtain ⟨k1, k2⟩ := bld_close hO hC (x := .junk) (S' := E0) (Rep.junk hO.row.one fun _ _ h => h) (fun _ _ h => h.elim) (fun _ _ h => h.elim)
  refine ⟨_, rfl, .v (.string ⟨bs.toArray⟩), lentTo [(0, .agg [.junk, .junk])] I, _, env, E0, [], by simp [lentTo, Al.get, HID], ?_, k1, ?_, k2, fun e he => by simp at he⟩
  · rw [show (lentTo [(0, AV.agg [.junk, .junk])] I).del HID = [(0, .agg [.junk, .junk])] by simp [lentTo, Al.del, HID]]
    exact h
  · exact ⟨E0, Rep.v rfl fun _ _ h => h, fun _ _ h => h.elim⟩
end Go.Proofs.Ythlehngbadianaa.Ow
