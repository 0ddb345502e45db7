/- Trees of data, places in them, footprints. -/
import GoSem.Core.World
import Derived.RowKit3
import Derived.Below
set_option linter.unusedVariables false
set_option linter.unusedSimpArgs false
set_option linter.unnecessarySimpa false
namespace Go.Proofs.YthlehngbadianaaDoor.Ow
open Go
abbrev Hop := Nat × Nat
/-- A cell: of root r, along a path (the outermost hop first), number j. -/
structure Pl where
  r : Nat
  path : List Hop
  j : Nat
  deriving DecidableEq, Repr, Inhabited
/-- A set of cells: block, offset. -/
abbrev Fp := Nat → Nat → Prop
inductive AV where
  | v (x : Value)
  | junk
  | agg (cs : List AV)
  | tup (xs : List AV)
  | lst (es : Nat) (xs : List AV)
  | fptr (x : AV) (j : Nat)
  | own (es : Nat) (xs : List AV)
  | obj (x : AV)
  | ref (p : Pl)
  | sl (p : Pl) (es off len : Nat)
  | sa (p : Pl) (es len cap : Nat)
  | fn (f : FuncId) (caps : List AV)
  | ext (I : World → Fp → Value → Fp → Prop)
  deriving Inhabited
/-- The flat cells of a value. -/
def AV.cells : AV → List AV
  | .agg cs => cs
  | .tup xs => xs
  | x => [x]
/-- One cell: no struct, no tuple. -/
def AV.one : AV → Bool
  | .agg _ => false
  | .tup _ => false
  | _ => true
theorem AV.cells_one {x : AV} (h : x.one = true) : x.cells = [x] := by cases x <;> simp_all [AV.one, AV.cells]
def AV.setCell (x : AV) (j : Nat) (c : AV) : AV :=
  match x with
  | .agg cs => .agg (cs.set j c)
  | .tup cs => .tup (cs.set j c)
  | x => if j = 0 then c else x
theorem AV.cells_setCell (x : AV) (j : Nat) (c : AV) (hc : c.one = true) : (x.setCell j c).cells = x.cells.set j c := by
  cases hx : x.one with
  | false => cases x <;> simp [AV.one] at hx <;> rfl
  | true =>
    have h : x.setCell j c = if j = 0 then c else x := by cases x <;> first | rfl | simp [AV.one] at hx
    rw [h, AV.cells_one hx]
    cases j with
    | zero => simp [AV.cells_one hc]
    | succ j => simp [AV.cells_one hx]
theorem AV.cells_setCell_length (x : AV) (j : Nat) (c : AV) (hc : c.one = true) : (x.setCell j c).cells.length = x.cells.length := by
  rw [AV.cells_setCell x j c hc, List.length_set]
/-- A hop within a cell: the element i of an owned list, or what an owned pointer points to. -/
def AV.elem (c : AV) (i : Nat) : Option AV :=
  match c with
  | .own _ xs => xs[i]?
  | .obj x => if i = 0 then some x else none
  | _ => none
def AV.setElem (c : AV) (i : Nat) (x : AV) : AV :=
  match c with
  | .own es xs => .own es (xs.set i x)
  | .obj y => if i = 0 then .obj x else .obj y
  | c => c
theorem AV.one_setElem (c : AV) (i : Nat) (x : AV) : (c.setElem i x).one = c.one := by
  cases c
  case own es xs => simp [AV.setElem, AV.one]
  case obj y => by_cases hi : i = 0 <;> simp [AV.setElem, hi, AV.one]
  all_goals rfl
theorem AV.elem_one {c y : AV} {i : Nat} (h : c.elem i = some y) : c.one = true := by cases c <;> simp_all [AV.elem, AV.one]
theorem AV.elem_setElem {c y : AV} {i : Nat} (h : c.elem i = some y) (x : AV) (i' : Nat) : (c.setElem i x).elem i' = if i' = i then some x else c.elem i' := by
  cases c
  case own es xs =>
    simp only [AV.elem, AV.setElem] at h ⊢
    rw [List.getElem?_set]
    by_cases hh : i' = i
    · subst hh; simp [(List.getElem?_eq_some_iff.1 h).1]
    · simp [hh, Ne.symm hh]
  case obj y =>
    simp only [AV.elem] at h
    by_cases hi : i = 0
    · subst hi
      by_cases hh : i' = 0 <;> simp [AV.setElem, hh, AV.elem]
    · simp [hi] at h
  all_goals simp [AV.elem] at h
/-- The node that a path leads to. -/
def AV.sub (x : AV) : List Hop → Option AV
  | [] => some x
  | (j, i) :: p => (x.cells[j]?).bind fun c => (c.elem i).bind fun y => y.sub p
/-- Puts a node into the place of another one. -/
def AV.setSub (x : AV) : List Hop → AV → AV
  | [], y => y
  | (j, i) :: p, y =>
    match x.cells[j]? with
    | none => x
    | some c => match c.elem i with
      | none => x
      | some z => x.setCell j (c.setElem i (z.setSub p y))
def AV.cellIn (x : AV) (path : List Hop) (j : Nat) : Option AV := (x.sub path).bind fun y => y.cells[j]?
/-- Puts a cell into a place. -/
def AV.setC (x : AV) (path : List Hop) (j : Nat) (c : AV) : AV :=
  match x.sub path with
  | none => x
  | some y => x.setSub path (y.setCell j c)
theorem AV.sub_cons (x : AV) (j i : Nat) (p : List Hop) : x.sub ((j, i) :: p) = (x.cells[j]?).bind fun c => (c.elem i).bind fun y => y.sub p := rfl
theorem AV.sub_append (x : AV) : ∀ (p q : List Hop), x.sub (p ++ q) = (x.sub p).bind fun y => y.sub q := by
  intro p
  induction p generalizing x with
  | nil => intro q; rfl
  | cons a p ih =>
    intro q
    obtain ⟨j, i⟩ := a
    simp only [List.cons_append, AV.sub]
    cases x.cells[j]? with
    | none => rfl
    | some c =>
      simp only [Option.bind_some]
      cases c.elem i with
      | none => rfl
      | some y => simp only [Option.bind_some, ih]
theorem AV.setSub_cells_length (x : AV) : ∀ (p : List Hop) (y z : AV), x.sub p = some z → y.cells.length = z.cells.length → (x.setSub p y).cells.length = x.cells.length
  | [], y, z, h, hl => by simp only [AV.sub, Option.some.injEq] at h; subst h; exact hl
  | (j, i) :: p, y, z, h, hl => by
    simp only [AV.setSub]
    split
    · rfl
    · rename_i c hc
      split
      · rfl
      · rename_i z' hz
        refine AV.cells_setCell_length _ _ _ ?_
        rw [AV.one_setElem]
        exact AV.elem_one hz
end Go.Proofs.YthlehngbadianaaDoor.Ow
namespace Go.Proofs.YthlehngbadianaaDoor.Ow
open Go Go.RowKit
inductive At where
  | c (v : Value)
  | o (x : Obj)
/-- What stands at a place: a cell, or a thing of another kind. -/
def at? (w : World) (b a : Nat) : Option At :=
  match w.heap[b]? with
  | some (.cells c _ _) => (c[a]?).map At.c
  | some x => some (.o x)
  | none => none
theorem at_cell {w : World} {b a : Nat} {u : Value} : w.cell? ⟨b, a, none⟩ = some u ↔ at? w b a = some (.c u) := by
  unfold World.cell? at?
  cases hh : w.heap[b]? with
  | none => simp [hh]
  | some x => cases x <;> simp [hh]
theorem at_lt {w : World} {b a : Nat} {x : At} (h : at? w b a = some x) : b < w.heap.size := by
  unfold at? at h
  rcases Nat.lt_or_ge b w.heap.size with h' | h'
  · exact h'
  · simp [Array.getElem?_eq_none h'] at h
theorem cell_lt {w : World} {b a : Nat} {u : Value} (h : w.cell? ⟨b, a, none⟩ = some u) : b < w.heap.size := at_lt (at_cell.1 h)
/-- From w to w' nothing but M has turned. -/
structure Agree (M : Fp) (w w' : World) : Prop where
  os : w'.os = w.os
  tape : w'.tape = w.tape
  output : w'.output = w.output
  size : w.heap.size ≤ w'.heap.size
  at_ : ∀ b a, b < w.heap.size → ¬ M b a → at? w' b a = at? w b a
  blk : ∀ b arr e fz, w.heap[b]? = some (.cells arr e fz) → ∃ arr' fz', w'.heap[b]? = some (.cells arr' e fz') ∧ arr'.size = arr.size ∧ (fz' = fz ∨ (∃ a, M b a) ∧ ∀ a, a < arr.size → M b a)
theorem Agree.refl (M : Fp) (w : World) : Agree M w w := ⟨rfl, rfl, rfl, Nat.le_refl _, fun _ _ _ _ => rfl, fun b arr e fz h => ⟨arr, fz, h, rfl, .inl rfl⟩⟩
theorem Agree.mono {M M' : Fp} {w w' : World} (h : Agree M w w') (hm : ∀ b a, b < w.heap.size → M b a → M' b a) : Agree M' w w' :=
  ⟨h.os, h.tape, h.output, h.size, fun b a hb hn => h.at_ b a hb (fun hh => hn (hm b a hb hh)), fun b arr e fz hh => by
    obtain ⟨arr', fz', h1, h2, h3⟩ := h.blk b arr e fz hh
    have hb : b < w.heap.size := by
      rcases Nat.lt_or_ge b w.heap.size with h' | h'
      · exact h'
      · simp [Array.getElem?_eq_none h'] at hh
    exact ⟨arr', fz', h1, h2, h3.imp id fun ⟨⟨a, ha⟩, hx⟩ => ⟨⟨a, hm b a hb ha⟩, fun a ha => hm b a hb (hx a ha)⟩⟩⟩
theorem Agree.trans {M : Fp} {w w1 w2 : World} (h : Agree M w w1) (k : Agree M w1 w2) : Agree M w w2 :=
  ⟨k.os.trans h.os, k.tape.trans h.tape, k.output.trans h.output, Nat.le_trans h.size k.size, fun b a hb hn => (k.at_ b a (Nat.lt_of_lt_of_le hb h.size) hn).trans (h.at_ b a hb hn), fun b arr e fz hh => by
    obtain ⟨arr1, fz1, h1, h2, h3⟩ := h.blk b arr e fz hh
    obtain ⟨arr2, fz2, k1, k2, k3⟩ := k.blk b arr1 e fz1 h1
    refine ⟨arr2, fz2, k1, k2.trans h2, ?_⟩
    rcases k3 with rfl | k3
    · exact h3
    · exact .inr ⟨k3.1, fun a ha => k3.2 a (by omega)⟩⟩
theorem Agree.cell {M : Fp} {w w' : World} (h : Agree M w w') {b a : Nat} {u : Value} (hu : w.cell? ⟨b, a, none⟩ = some u) (hn : ¬ M b a) : w'.cell? ⟨b, a, none⟩ = some u := by
  rw [at_cell] at hu ⊢
  rw [h.at_ b a (at_lt hu) hn, hu]
/-- A change of nothing that was there. -/
theorem Agree.below {w w' : World} (h : Below w.heap.size w w') (M : Fp) : Agree M w w' := by
  refine ⟨h.os, h.tape, h.output, h.size, fun b a hb _ => ?_, fun b arr e fz hh => ?_⟩
  · unfold at?; rw [h.block b hb]
  · have hb : b < w.heap.size := by
      rcases Nat.lt_or_ge b w.heap.size with h' | h'
      · exact h'
      · simp [Array.getElem?_eq_none h'] at hh
    exact ⟨arr, fz, by rw [h.block b hb]; exact hh, rfl, .inl rfl⟩
theorem Agree.to_below {w w' : World} {M : Fp} (h : Agree M w w') (hm : ∀ b a, b < w.heap.size → ¬ M b a) : Below w.heap.size w w' := by
  refine ⟨h.os, h.tape, h.output, h.size, fun b hb => ?_⟩
  cases hh : w.heap[b]? with
  | none => simp [Array.getElem?_eq_getElem hb] at hh
  | some x =>
    by_cases hc : ∃ arr e fz, x = .cells arr e fz
    · obtain ⟨arr, e, fz, rfl⟩ := hc
      obtain ⟨arr', fz', h1, h2, h3⟩ := h.blk b arr e fz hh
      rcases h3 with rfl | ⟨⟨a, ha⟩, _⟩
      · rw [h1]
        have : arr' = arr := by
          apply Array.ext_getElem?
          intro a
          have h4 := h.at_ b a hb (hm b a hb)
          unfold at? at h4
          rw [h1, hh] at h4
          simp only at h4
          cases e1 : arr'[a]? <;> cases e2 : arr[a]? <;> simp_all
        rw [this]
      · exact absurd ha (hm b a hb)
    · have h4 := h.at_ b 0 hb (hm b 0 hb)
      have e2 : at? w b 0 = some (.o x) := by
        unfold at?; rw [hh]
        cases x <;> simp_all
      rw [e2] at h4
      unfold at? at h4
      split at h4
      · rename_i c e fz hx
        cases hc2 : c[0]? with
        | none => simp [hc2] at h4
        | some y => simp [hc2] at h4
      · rename_i y hx hy
        simp only [Option.some.injEq, At.o.injEq] at h4
        rw [hy, h4]
      · simp at h4
/-- A block's cells, that may be written. -/
def Blk (w : World) (B lo hi : Nat) : Prop := ∃ arr e fz, w.heap[B]? = some (.cells arr e fz) ∧ hi ≤ arr.size ∧ ∀ i, lo ≤ i → i < hi → ¬ (fz.1 ≤ i ∧ i < fz.2)
theorem Blk.sub {w : World} {B lo hi lo' hi' : Nat} (h : Blk w B lo hi) (h1 : lo ≤ lo') (h2 : hi' ≤ hi) : Blk w B lo' hi' := by
  obtain ⟨arr, e, fz, a, b, c⟩ := h
  exact ⟨arr, e, fz, a, by omega, fun i hi hj => c i (by omega) (by omega)⟩
theorem Blk.lt {w : World} {B lo hi : Nat} (h : Blk w B lo hi) : B < w.heap.size := by
  obtain ⟨arr, e, fz, a, b, c⟩ := h
  rcases Nat.lt_or_ge B w.heap.size with h' | h'
  · exact h'
  · simp [Array.getElem?_eq_none h'] at a
theorem Blk.keep {M : Fp} {w w' : World} (h : Agree M w w') {B lo hi : Nat} (hb : Blk w B lo hi) (hn : lo < hi → ∃ a, lo ≤ a ∧ a < hi ∧ ¬ M B a) : Blk w' B lo hi := by
  obtain ⟨arr, e, fz, a, b, c⟩ := hb
  obtain ⟨arr', fz', h1, h2, h3⟩ := h.blk B arr e fz a
  refine ⟨arr', e, fz', h1, by omega, fun i hi hj => ?_⟩
  rcases h3 with rfl | ⟨_, h3⟩
  · exact c i hi hj
  · obtain ⟨x, x1, x2, x3⟩ := hn (by omega)
    exact absurd (h3 x (by omega)) x3
/-- What may be given away: from (w, F) to (w', F'), with T left alone. -/
structure Kp (w : World) (F : Fp) (w' : World) (F' : Fp) (T : Fp) : Prop where
  ex : ∃ M, Agree M w w' ∧ (∀ b a, M b a → F b a) ∧ (∀ b a, T b a → ¬ M b a)
  fr : ∀ b a, F' b a → F b a ∨ w.heap.size ≤ b
theorem Kp.refl (w : World) (F T : Fp) : Kp w F w F T := ⟨⟨fun _ _ => False, Agree.refl _ _, fun _ _ h => h.elim, fun _ _ _ h => h⟩, fun _ _ h => .inl h⟩
theorem Agree.trans2 {M N : Fp} {w w1 w2 : World} (h : Agree M w w1) (k : Agree N w1 w2) : Agree (fun b a => M b a ∨ (b < w.heap.size ∧ N b a)) w w2 := by
  have h' := h.mono (M' := fun b a => M b a ∨ N b a) fun b a _ h => .inl h
  have k' := k.mono (M' := fun b a => M b a ∨ N b a) fun b a _ h => .inr h
  exact (h'.trans k').mono fun b a hb hh => hh.imp id fun h => ⟨hb, h⟩
theorem Kp.trans {w w1 w2 : World} {F F1 F2 T : Fp} (h : Kp w F w1 F1 T) (k : Kp w1 F1 w2 F2 T) : Kp w F w2 F2 T := by
  obtain ⟨⟨M, a1, a2, a3⟩, a4⟩ := h
  obtain ⟨⟨N, b1, b2, b3⟩, b4⟩ := k
  refine ⟨⟨_, a1.trans2 b1, ?_, ?_⟩, ?_⟩
  · intro b a hh
    rcases hh with hh | ⟨h1, h2⟩
    · exact a2 _ _ hh
    · rcases a4 _ _ (b2 _ _ h2) with h3 | h3
      · exact h3
      · omega
  · intro b a ht hh
    rcases hh with hh | ⟨h1, h2⟩
    · exact a3 _ _ ht hh
    · exact b3 _ _ ht h2
  · intro b a hh
    rcases b4 _ _ hh with h1 | h1
    · exact a4 _ _ h1
    · exact .inr (Nat.le_trans a1.size h1)
theorem Kp.mono {w w' : World} {F F' T T' : Fp} (h : Kp w F w' F' T) (hs : ∀ b a, T' b a → T b a) : Kp w F w' F' T' := by
  obtain ⟨⟨M, a1, a2, a3⟩, a4⟩ := h
  exact ⟨⟨M, a1, a2, fun b a ht => a3 b a (hs b a ht)⟩, a4⟩
theorem Kp.cell {w w' : World} {F F' T : Fp} (h : Kp w F w' F' T) {b a : Nat} {u : Value} (hu : w.cell? ⟨b, a, none⟩ = some u) (ht : T b a ∨ ¬ F b a) : w'.cell? ⟨b, a, none⟩ = some u := by
  obtain ⟨⟨M, a1, a2, a3⟩, a4⟩ := h
  exact a1.cell hu fun hm => ht.elim (fun ht => a3 _ _ ht hm) fun hf => hf (a2 _ _ hm)
theorem Kp.nf {w w' : World} {F F' T : Fp} (h : Kp w F w' F' T) {b a : Nat} {u : Value} (hu : w.cell? ⟨b, a, none⟩ = some u) (hf : ¬ F b a) : ¬ F' b a := by
  intro hh
  have := cell_lt hu
  rcases h.fr _ _ hh with h1 | h1
  · exact hf h1
  · omega
theorem Kp.blk {w w' : World} {F F' T : Fp} (h : Kp w F w' F' T) {B lo hi : Nat} (hb : Blk w B lo hi) (ht : lo < hi → ∃ a, lo ≤ a ∧ a < hi ∧ T B a) : Blk w' B lo hi := by
  obtain ⟨⟨M, a1, a2, a3⟩, a4⟩ := h
  exact hb.keep a1 fun hlt => by
    obtain ⟨a, x1, x2, x3⟩ := ht hlt
    exact ⟨a, x1, x2, a3 _ _ x3⟩
abbrev E0 : Fp := fun _ _ => False
/-- A cell's value, what it is worth, and the cells that it owns. -/
inductive Rep (w : World) (F : Fp) : AV → Value → Fp → Prop where
  | v {x : Value} {T : Fp} (h1 : x.oneCell' = true) (hT : ∀ b a, ¬ T b a) : Rep w F (.v x) x T
  | junk {u : Value} {T : Fp} (h1 : u.oneCell' = true) (hT : ∀ b a, ¬ T b a) : Rep w F .junk u T
  | lstN {es : Nat} {ad : Option Addr} {T : Fp} (hT : ∀ b a, ¬ T b a) : Rep w F (.lst es []) (.slice ad 0 0) T
  | lst {es : Nat} {xs : List AV} {B o cap : Nat} {T : Fp} (u : Nat → Nat → Value) (hes : 0 < es) (hcap : xs.length ≤ cap) (hlen : ∀ (i : Nat) x, xs[i]? = some x → x.cells.length = es)
      (hc : ∀ (i : Nat) x (j : Nat) c, xs[i]? = some x → x.cells[j]? = some c → w.cell? ⟨B, o + i * es + j, none⟩ = some (u i j))
      (hf : ∀ (i j : Nat), i < xs.length → j < es → ¬ F B (o + i * es + j))
      (hr : ∀ (i : Nat) x (j : Nat) c, xs[i]? = some x → x.cells[j]? = some c → Rep w F c (u i j) E0) (hT : ∀ b a, ¬ T b a) :
      Rep w F (.lst es xs) (.slice (some ⟨B, o, none⟩) xs.length cap) T
  | fptr {x : AV} {j B o : Nat} {T : Fp} (u : Nat → Value)
      (hc : ∀ (i : Nat) c, x.cells[i]? = some c → w.cell? ⟨B, o + i, none⟩ = some (u i)) (hf : ∀ (i : Nat), i < x.cells.length → ¬ F B (o + i))
      (hr : ∀ (i : Nat) c, x.cells[i]? = some c → Rep w F c (u i) E0) (hT : ∀ b a, ¬ T b a) :
      Rep w F (.fptr x j) (.pointer (some ⟨B, o + j, none⟩)) T
  | ownN {es : Nat} {T : Fp} (hes : 0 < es) (hT : ∀ b a, ¬ T b a) : Rep w F (.own es []) (.slice none 0 0) T
  | own {es : Nat} {xs : List AV} {B o cap : Nat} {T : Fp} (u : Nat → Nat → Value) (S : Nat → Nat → Fp) (hes : 0 < es) (hcap : xs.length ≤ cap) (hb : 0 < cap → Blk w B o (o + cap * es))
      (hlen : ∀ (i : Nat) x, xs[i]? = some x → x.cells.length = es)
      (hc : ∀ (i : Nat) x (j : Nat) c, xs[i]? = some x → x.cells[j]? = some c → w.cell? ⟨B, o + i * es + j, none⟩ = some (u i j))
      (hr : ∀ (i : Nat) x (j : Nat) c, xs[i]? = some x → x.cells[j]? = some c → Rep w F c (u i j) (S i j))
      (hd : ∀ (i j i' j' b a : Nat), S i j b a → S i' j' b a → i = i' ∧ j = j') (ho : ∀ (i j a : Nat), S i j B a → ¬ (o ≤ a ∧ a < o + cap * es))
      (hS : ∀ (i j b a : Nat), S i j b a → i < xs.length ∧ j < es)
      (hT : ∀ b a, T b a ↔ (b = B ∧ o ≤ a ∧ a < o + cap * es) ∨ ∃ i j, S i j b a) :
      Rep w F (.own es xs) (.slice (some ⟨B, o, none⟩) xs.length cap) T
  | obj {x : AV} {B o : Nat} {T : Fp} (u : Nat → Value) (S : Nat → Fp) (hb : Blk w B o (o + x.cells.length))
      (hc : ∀ (i : Nat) c, x.cells[i]? = some c → w.cell? ⟨B, o + i, none⟩ = some (u i))
      (hr : ∀ (i : Nat) c, x.cells[i]? = some c → Rep w F c (u i) (S i))
      (hd : ∀ (i i' b a : Nat), S i b a → S i' b a → i = i') (ho : ∀ (i a : Nat), S i B a → ¬ (o ≤ a ∧ a < o + x.cells.length))
      (hS : ∀ (i b a : Nat), S i b a → i < x.cells.length)
      (hT : ∀ b a, T b a ↔ (b = B ∧ o ≤ a ∧ a < o + x.cells.length) ∨ ∃ i, S i b a) :
      Rep w F (.obj x) (.pointer (some ⟨B, o, none⟩)) T
  | fn {f : FuncId} {caps : List AV} {us : Array Value} {T : Fp} (hl : us.size = caps.length) (hr : ∀ (i : Nat) c u, caps[i]? = some c → us[i]? = some u → Rep w F c u E0) (hT : ∀ b a, ¬ T b a) :
      Rep w F (.fn f caps) (.func (.func f) #[] us) T
  | ext {I : World → Fp → Value → Fp → Prop} {u : Value} {T : Fp} (h1 : u.oneCell' = true) (hI : ∀ w' F', Kp w F w' F' T → I w' F' u T) : Rep w F (.ext I) u T
theorem Rep.one {w : World} {F : Fp} {x : AV} {u : Value} {T : Fp} (h : Rep w F x u T) : u.oneCell' = true := by
  cases h <;> first | assumption | rfl
theorem Rep.avone {w : World} {F : Fp} {x : AV} {u : Value} {T : Fp} (h : Rep w F x u T) : x.one = true := by
  cases h <;> rfl
theorem mul_es {i n es j : Nat} (hi : i < n) (hj : j < es) : i * es + j < n * es := by
  have : (i + 1) * es ≤ n * es := Nat.mul_le_mul_right _ hi
  rw [Nat.add_mul] at this
  omega
/-- What is left alone is worth what it was. -/
theorem Rep.keep {w : World} {F : Fp} {x : AV} {u : Value} {T : Fp} (h : Rep w F x u T) {w' : World} {F' : Fp} (k : Kp w F w' F' T) : Rep w' F' x u T := by
  induction h with
  | v h1 hT => exact .v h1 hT
  | junk h1 hT => exact .junk h1 hT
  | lstN hT => exact .lstN hT
  | lst u hes hcap hlen hc hf hr hT ih =>
    have hk : Kp w F w' F' E0 := k.mono fun _ _ h => h.elim
    refine .lst u hes hcap hlen ?_ ?_ (fun i x j c h1 h2 => ih i x j c h1 h2 hk) hT
    · intro i x j c h1 h2
      have hi := (List.getElem?_eq_some_iff.1 h1).1
      have hj := (List.getElem?_eq_some_iff.1 h2).1
      rw [hlen i x h1] at hj
      exact k.cell (hc i x j c h1 h2) (.inr (hf i j hi hj))
    · intro i j hi hj
      have h1 := List.getElem?_eq_getElem hi
      have hl := hlen i _ h1
      have h2 := List.getElem?_eq_getElem (l := (_ : AV).cells) (i := j) (by rw [hl]; exact hj)
      exact k.nf (hc i _ j _ h1 h2) (hf i j hi hj)
  | fptr u hc hf hr hT ih =>
    have hk : Kp w F w' F' E0 := k.mono fun _ _ h => h.elim
    refine .fptr u ?_ ?_ (fun i c h1 => ih i c h1 hk) hT
    · intro i c h1
      exact k.cell (hc i c h1) (.inr (hf i (List.getElem?_eq_some_iff.1 h1).1))
    · intro i hi
      exact k.nf (hc i _ (List.getElem?_eq_getElem hi)) (hf i hi)
  | ownN hes hT => exact .ownN hes hT
  | own u S hes hcap hb hlen hc hr hd ho hS hT ih =>
    refine .own u S hes hcap (fun hc0 => k.blk (hb hc0) ?_) hlen ?_ ?_ hd ho hS hT
    · intro hlt
      exact ⟨_, Nat.le_refl _, hlt, (hT _ _).2 (.inl ⟨rfl, Nat.le_refl _, hlt⟩)⟩
    · intro i x j c h1 h2
      have hi := (List.getElem?_eq_some_iff.1 h1).1
      have hj := (List.getElem?_eq_some_iff.1 h2).1
      rw [hlen i x h1] at hj
      refine k.cell (hc i x j c h1 h2) (.inl ((hT _ _).2 (.inl ⟨rfl, by omega, ?_⟩)))
      have := mul_es (Nat.lt_of_lt_of_le hi hcap) hj
      omega
    · intro i x j c h1 h2
      exact ih i x j c h1 h2 (k.mono fun b a hs => (hT b a).2 (.inr ⟨i, j, hs⟩))
  | obj u S hb hc hr hd ho hS hT ih =>
    refine .obj u S (k.blk hb ?_) ?_ ?_ hd ho hS hT
    · intro hlt
      exact ⟨_, Nat.le_refl _, hlt, (hT _ _).2 (.inl ⟨rfl, Nat.le_refl _, hlt⟩)⟩
    · intro i c h1
      have hi := (List.getElem?_eq_some_iff.1 h1).1
      exact k.cell (hc i c h1) (.inl ((hT _ _).2 (.inl ⟨rfl, by omega, by omega⟩)))
    · intro i c h1
      exact ih i c h1 (k.mono fun b a hs => (hT b a).2 (.inr ⟨i, hs⟩))
  | fn hl hr hT ih =>
    have hk : Kp w F w' F' E0 := k.mono fun _ _ h => h.elim
    exact .fn hl (fun i c u h1 h2 => ih i c u h1 h2 hk) hT
  | ext h1 hI => exact .ext h1 fun w2 F2 k2 => hI w2 F2 (k.trans k2)
/-- An owner of no cell is a value that may be copied. -/
theorem Rep.congr {w : World} {F : Fp} {x : AV} {u : Value} {T T' : Fp} (h : Rep w F x u T) (e : ∀ b a, T b a ↔ T' b a) : Rep w F x u T' := by
  have : T = T' := by funext b a; exact propext (e b a)
  exact this ▸ h
end Go.Proofs.YthlehngbadianaaDoor.Ow
